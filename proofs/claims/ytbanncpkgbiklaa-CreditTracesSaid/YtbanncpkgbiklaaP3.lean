/- CreditKeeps, as a law of what the functions compute. -/
import Derived.Test.YtbanncpkgbiklaaP1
namespace Go.Proofs.Ytbanncpkgbiklaa
open Go.Gb
set_option linter.unusedVariables false
set_option linter.unusedSimpArgs false

/-- What Run computes, from a move on. -/
def runGo (ms : List Move) : Nat → List Account → Nat → List Account × Int × Int
  | 0, now, i => (now, (i : Int), 0)
  | n + 1, now, i =>
    match ms[i]? with
    | none => (now, (i : Int), 0)
    | some m =>
      let d := doS now m
      if d.2 ≠ 0 then (now, (i : Int), d.2) else runGo ms n d.1 (i + 1)
def runS (l : List Account) (ms : List Move) : List Account × Int × Int := if RightP l then runGo ms ms.length l 0 else ([], 0, 1)

theorem doS_fail {l r : List Account} {m : Move} {e : Int} (h : doS l m = (r, e)) (he : e ≠ 0) : r = [] := by
  unfold doS at h
  repeat' split at h
  all_goals simp_all
theorem doS_len {l : List Account} {m : Move} : (doS l m).1.length ≤ l.length + 1 := by
  generalize h : doS l m = d
  obtain ⟨r, e⟩ := d
  by_cases he : e = 0
  · subst he; exact (doS_ok h).len
  · rw [doS_fail h he]; simp

theorem runGo_L {ms : List Move} : ∀ (n i : Nat) (now : List Account) (fuel : Nat), i + n = ms.length → now.length + n ≤ 536870912 → ms.length ≤ 1073741824 → n < fuel →
    ∃ f, iterL (cRun_L0 ms) fuel (now, (i : Int)) = some f ∧ ((∃ j s, f = .ex j s ∧ runGo ms n now i = (s.1, (ms.length : Int), 0)) ∨ ∃ r, f = .ret r ∧ runGo ms n now i = r)
  | 0, i, now, fuel + 1, hi, hl, hm, hf => by
    refine ⟨.ex 0 (now, (i : Int)), ?_, .inl ⟨0, _, rfl, ?_⟩⟩
    · simp only [iterL]
      unfold cRun_L0
      rw [if_neg (by simp; omega)]
    · simp only [runGo]
      rw [show i = ms.length by omega]
  | n + 1, i, now, fuel + 1, hi, hl, hm, hf => by
    have hlt : i < ms.length := by omega
    simp only [iterL]
    unfold cRun_L0
    rw [if_pos (by simpa using hlt)]
    dsimp only
    rw [getI_nat hlt, Option.bind_some, cDo_spec ms[i] (show now.length ≤ 536870912 by omega), Option.bind_some]
    simp only [runGo, List.getElem?_eq_getElem hlt]
    have hlen := doS_len (l := now) (m := ms[i])
    generalize doS now ms[i] = d at hlen
    obtain ⟨r, e⟩ := d
    by_cases he : e = 0
    · subst he
      rw [if_neg (by simp)]
      rw [addI_one (show i < 4611686018427387904 by omega), Option.bind_some]
      obtain ⟨f, h1, h2⟩ := runGo_L n (i + 1) r fuel (by omega) (by simp only at hlen; omega) hm (by omega)
      refine ⟨f, h1, ?_⟩
      simp only [ne_eq, not_true_eq_false, if_false]
      exact h2
    · rw [if_pos (by simpa using he)]
      refine ⟨.ret (now, (i : Int), e), rfl, .inr ⟨_, rfl, ?_⟩⟩
      simp [he]
  | 0, _, _, 0, _, _, _, hf => absurd hf (Nat.lt_irrefl _)
  | _ + 1, _, _, 0, _, _, _, hf => absurd hf (Nat.not_lt_zero _)

theorem clone_spec {l : List Account} (hl : l.length ≤ 1073741824) : clone l = some l := by unfold clone; rw [appI_some (by simp; omega)]; rfl

theorem cRun_spec {l : List Account} {ms : List Move} (hl : l.length + ms.length ≤ 536870912) : cRun l ms = some (runS l ms) := by
  unfold cRun runS
  rw [cRight_spec (by omega), Option.bind_some]
  by_cases hR : RightP l
  · rw [if_neg (by simp [hR]), clone_spec (by omega), Option.bind_some]
    obtain ⟨f, h1, h2⟩ := runGo_L (ms := ms) ms.length 0 l (ms.length + 1) (by omega) hl (by omega) (by omega)
    have h1' : iterL (cRun_L0 ms) (ms.length + 1) (l, 0) = some f := h1
    rw [h1', Option.bind_some, if_pos hR]
    rcases h2 with ⟨j, s, rfl, h2⟩ | ⟨r, rfl, h2⟩
    · dsimp only; rw [h2]
    · dsimp only; rw [h2]
  · rw [if_pos (by simp [hR]), if_neg hR]

/-- The sum of all units. -/
def sumU (l : List Account) : Int := (l.map (·.Units)).sum
theorem sumU_take {l : List Account} {i : Nat} (hi : i < l.length) : sumU (l.take (i + 1)) = sumU (l.take i) + l[i].Units := by
  unfold sumU
  rw [List.take_succ_eq_append_getElem hi, List.map_append, List.sum_append]
  simp
theorem cTotal_spec {l : List Account} (hR : RightP l) : cTotal l = some (sumU l) := by
  unfold cTotal
  have hlen := hR.2.2
  rw [cRight_spec (by omega), Option.bind_some, if_neg (by simp [hR])]
  have hb : ∀ i, i ≤ l.length → 0 ≤ sumU (l.take i) ∧ sumU (l.take i) ≤ (i : Int) * 1073741824 := by
    intro i
    induction i with
    | zero => intro _; simp [sumU]
    | succ i ih =>
      intro hi
      have h1 := ih (by omega)
      have h2 := hR.1 _ (List.getElem_mem (show i < l.length by omega))
      unfold okA at h2
      rw [sumU_take (show i < l.length by omega)]
      constructor
      · omega
      · have : ((i + 1 : Nat) : Int) * 1073741824 = (i : Int) * 1073741824 + 1073741824 := by push_cast; omega
        omega
  refine Exists.elim (loop_up (body := cTotal_L0 l) (fun i s => s = (sumU (l.take i), (i : Int))) l.length (fun f => ∃ j, f = .ex 0 (sumU l, j)) ?_ ?_ (0, 0) (by simp [sumU]) (l.length + 1) (by omega)) ?_
  · rintro i s hi rfl
    left
    refine ⟨_, ?_, rfl⟩
    have h1 := hb (i + 1) (by omega)
    have e := sumU_take hi
    unfold cTotal_L0
    rw [if_pos (by simpa using hi)]
    dsimp only
    rw [getI_nat hi, Option.bind_some, addI_some (by rw [← e]; unfold inI; have : (((i + 1 : Nat) : Int)) ≤ 20000 := by omega
                                                     omega), Option.bind_some, addI_one (show i < 4611686018427387904 by omega), Option.bind_some, e]
  · rintro s rfl
    refine ⟨.ex 0 (sumU l, (l.length : Int)), ?_, trivial, _, rfl⟩
    unfold cTotal_L0
    rw [if_neg (by simp)]
    simp
  · rintro f ⟨hf, he, j, rfl⟩
    rw [hf]
    rfl

theorem rSame_spec {a b : List Account} (hl : a.length ≤ 1073741824) : rSame a b = some (decide (a = b)) := by
  unfold rSame
  by_cases hlen : a.length = b.length
  · rw [if_neg (by simp; omega)]
    refine Exists.elim (loop_up (body := rSame_L0 a b) (fun i s => s = (i : Int) ∧ ∀ j (hj : j < a.length), j < i → a[j] = b[j]'(by omega)) a.length
      (fun f => match f with | .go _ => False | .ex _ _ => a = b | .ret r => r = false ∧ a ≠ b) ?_ ?_ 0 ⟨rfl, fun j _ h => absurd h (Nat.not_lt_zero j)⟩ (a.length + b.length + 1) (by omega)) ?_
    · rintro i s hi ⟨rfl, hG⟩
      unfold rSame_L0
      rw [if_pos (by simpa using hi), getI_nat hi, Option.bind_some, getI_nat (show i < b.length by omega), Option.bind_some]
      by_cases hok : a[i] = b[i]'(by omega)
      · left
        refine ⟨((i + 1 : Nat) : Int), ?_, rfl, fun j hj hji => ?_⟩
        · rw [if_neg (by simp [hok]), addI_one (show i < 4611686018427387904 by omega), Option.bind_some]
        · rcases Nat.lt_or_ge j i with h | h
          · exact hG j hj h
          · obtain rfl : j = i := by omega
            exact hok
      · right
        refine ⟨.ret false, by rw [if_pos (by simp [hok])], trivial, rfl, fun h => hok ?_⟩
        subst h; rfl
    · rintro s ⟨rfl, hG⟩
      refine ⟨.ex 0 (a.length : Int), ?_, trivial, List.ext_getElem hlen fun j h1 h2 => hG j h1 h1⟩
      unfold rSame_L0
      rw [if_neg (by simp)]
    · rintro f ⟨hf, he, hp⟩
      rw [hf, Option.bind_some]
      cases f with
      | go s => exact he.elim
      | ex id s => simp only at hp; simp [hp]
      | ret r => obtain ⟨rfl, hp⟩ := hp; simp [hp]
  · rw [if_pos (by simp; omega)]
    have : a ≠ b := fun h => hlen (by rw [h])
    simp [this]

theorem cUnits_spec {l : List Account} (lot : Int) (hl : l.length ≤ 1073741824) : cUnits l lot = some (((idx l lot).bind fun i => l[i]?).map (·.Units) |>.getD 0) := by
  unfold cUnits
  rw [cFind_spec lot hl, Option.bind_some]
  cases h : idx l lot with
  | none => rfl
  | some i =>
    obtain ⟨h1, _⟩ := idx_some h
    simp [atI_idx h1, List.getElem?_eq_getElem h1]

theorem sumU_cons (a : Account) (l : List Account) : sumU (a :: l) = a.Units + sumU l := by simp [sumU]
theorem sumU_insS (x : Account) : ∀ l : List Account, sumU (insS l x) = sumU l + x.Units
  | [] => by simp [insS, sumU]
  | a :: l => by
    simp only [insS]
    split
    · rw [sumU_cons, sumU_cons, sumU_insS x l]; omega
    · rw [sumU_cons, sumU_cons]; omega
theorem sumU_modify (f : Account → Account) : ∀ (l : List Account) (i : Nat) (h : i < l.length), sumU (l.modify i f) = sumU l + ((f l[i]).Units - l[i].Units)
  | a :: l, 0, h => by simp only [List.modify_zero_cons, sumU_cons, List.getElem_cons_zero]; omega
  | a :: l, i + 1, h => by
    simp only [List.modify_succ_cons, sumU_cons, List.getElem_cons_succ]
    rw [sumU_modify f l i (by simpa using h)]; omega
theorem units_of {l : List Account} (hR : RightP l) {a : Account} (ha : a ∈ l) : ((((idx l a.Lot).bind fun i => l[i]?).map (·.Units)).getD 0) = a.Units := by
  obtain ⟨k, hk, rfl⟩ := List.getElem_of_mem ha
  have : idx l l[k].Lot = some k := idx_unique hk rfl fun j hj hjk => by
    have := (List.pairwise_iff_getElem.1 hR.2.1) j k hj hk hjk
    omega
  rw [this]
  simp [List.getElem?_eq_getElem hk]
theorem mem_modify {l : List Account} {i : Nat} {f : Account → Account} {a : Account} (ha : a ∈ l) (h : ∀ hi : i < l.length, l[i] ≠ a) : a ∈ l.modify i f := by
  obtain ⟨k, hk, rfl⟩ := List.getElem_of_mem ha
  have hik : i ≠ k := fun e => by subst e; exact h hk rfl
  have : (l.modify i f)[k]'(by simpa using hk) = l[k] := by simp [List.getElem_modify, hik]
  rw [← this]
  exact List.getElem_mem _

/-- How much a move adds to the total. -/
def addsTo (m : Move) : Int := if m.Kind = 0 then m.N else if m.Kind = 2 ∨ m.Kind = 3 then - m.N else 0
theorem doS_keeps {l r : List Account} {m : Move} (h : doS l m = (r, 0)) : sumU r = sumU l + addsTo m ∧ ∀ a ∈ l, a.Lot ≠ m.From → a.Lot ≠ m.To → a ∈ r := by
  have hst := doS_ok h
  unfold doS at h
  have hR := hst.right
  have hV := hst.valid
  simp only [hR, hV, and_self, not_true_eq_false, if_false] at h
  by_cases h0 : m.Kind = 0
  · simp only [h0, if_true] at h
    split at h
    · simp at h
    · split at h
      · simp at h
      · simp only [Prod.mk.injEq, and_true] at h
        subst h
        refine ⟨by rw [sumU_insS]; simp [addsTo, h0], fun a ha _ _ => insS_mem.2 (.inr ha)⟩
  · simp only [h0, if_false] at h
    cases hi : idx l m.From with
    | none => simp [hi] at h
    | some i =>
      obtain ⟨hi1, hi2, _⟩ := idx_some hi
      simp only [hi, List.getElem?_eq_getElem hi1, Option.getD_some] at h
      by_cases h1 : m.Kind = 1
      · simp only [h1, if_true] at h
        cases hj : idx l m.To with
        | none => simp [hj] at h
        | some j =>
          obtain ⟨hj1, hj2, _⟩ := idx_some hj
          simp only [hj, List.getElem?_eq_getElem hj1, Option.getD_some] at h
          split at h
          · simp at h
          · split at h
            · simp at h
            · split at h
              · simp at h
              · simp only [Prod.mk.injEq, and_true] at h
                subst h
                have hij : i ≠ j := fun e => by
                  subst e
                  rcases hV with h | h | h
                  · omega
                  · exact h.2.1 (hi2.symm.trans hj2)
                  · omega
                refine ⟨?_, fun a ha hf ht => mem_modify (mem_modify ha fun _ e => hf (by rw [← e]; exact hi2)) fun hj' e => ?_⟩
                · rw [sumU_modify _ _ j (by simpa using hj1), sumU_modify _ _ i hi1]
                  have : (l.modify i fun a => { a with Units := a.Units - m.N })[j]'(by simpa using hj1) = l[j] := by simp [List.getElem_modify, hij]
                  rw [this]
                  simp [addsTo, h1]
                  omega
                · have : (l.modify i fun a => { a with Units := a.Units - m.N })[j]'hj' = l[j] := by simp [List.getElem_modify, hij]
                  rw [this] at e
                  exact ht (by rw [← e]; exact hj2)
      · simp only [h1, if_false] at h
        split at h
        · simp at h
        · simp only [Prod.mk.injEq, and_true] at h
          subst h
          refine ⟨?_, fun a ha hf ht => mem_modify ha fun _ e => hf (by rw [← e]; exact hi2)⟩
          rw [sumU_modify _ _ i hi1]
          have : m.Kind = 2 ∨ m.Kind = 3 := by rcases hV with h | h | h <;> omega
          simp [addsTo, h0, this]
          omega

theorem runGo_take {ms : List Move} {k : Nat} : ∀ (n i : Nat) (now : List Account), i + n ≤ k → runGo (ms.take k) n now i = runGo ms n now i
  | 0, _, _, _ => rfl
  | n + 1, i, now, h => by
    simp only [runGo]
    rw [List.getElem?_take, if_pos (by omega)]
    cases ms[i]? with
    | none => rfl
    | some m => simp only; rw [runGo_take n (i + 1) _ (by omega)]
/-- One move more. -/
theorem runGo_next {ms : List Move} : ∀ (n i : Nat) (l now : List Account), (h : i + n < ms.length) → runGo ms n l i = (now, ((i + n : Nat) : Int), 0) →
    runGo ms (n + 1) l i = if (doS now ms[i + n]).2 ≠ 0 then (now, ((i + n : Nat) : Int), (doS now ms[i + n]).2) else ((doS now ms[i + n]).1, ((i + n + 1 : Nat) : Int), 0)
  | 0, i, l, now, h, hr => by
    simp only [runGo, Prod.mk.injEq] at hr
    obtain ⟨rfl, _⟩ := hr
    have h' : i < ms.length := h
    simp only [runGo, Nat.add_zero]
    rw [List.getElem?_eq_getElem h']
  | n + 1, i, l, now, h, hr => by
    have hi : i < ms.length := by omega
    rw [runGo]
    rw [runGo] at hr
    simp only [List.getElem?_eq_getElem hi] at hr ⊢
    by_cases he : (doS l ms[i]).2 ≠ 0
    · rw [if_pos he] at hr
      simp only [Prod.mk.injEq] at hr
      omega
    · rw [if_neg he] at hr ⊢
      have e : i + 1 + n = i + (n + 1) := by omega
      have := runGo_next (ms := ms) n (i + 1) (doS l ms[i]).1 now (by omega) (by rw [hr, e])
      rw [this]
      simp only [e]
end Go.Proofs.Ytbanncpkgbiklaa
