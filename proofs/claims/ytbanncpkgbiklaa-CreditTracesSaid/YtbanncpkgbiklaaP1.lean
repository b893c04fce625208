/- The plain laws of credit: what Right, Do and Run compute. -/
import Derived.Test.YtbanncpkgbiklaaT4
namespace Go.Proofs.Ytbanncpkgbiklaa
open Go.Gb
set_option linter.unusedVariables false
set_option linter.unusedSimpArgs false

def okA (a : Account) : Prop := 1 ≤ a.Lot ∧ a.Lot ≤ 1073741824 ∧ 0 ≤ a.Units ∧ a.Units ≤ 1073741824
instance (a : Account) : Decidable (okA a) := inferInstanceAs (Decidable (_ ∧ _))
def RightP (l : List Account) : Prop := (∀ a ∈ l, okA a) ∧ l.Pairwise (fun a b => a.Lot < b.Lot) ∧ l.length ≤ 20000
instance (l : List Account) : Decidable (RightP l) := inferInstanceAs (Decidable (_ ∧ _))
def ValidP (m : Move) : Prop :=
  (m.Kind = 0 ∧ 1 ≤ m.To ∧ m.To ≤ 1073741824 ∧ 0 ≤ m.From ∧ m.From ≤ 1 ∧ 0 ≤ m.N ∧ m.N ≤ 1073741824) ∨ (m.Kind = 1 ∧ m.From ≠ m.To ∧ 1 ≤ m.N ∧ m.N ≤ 1073741824) ∨ ((m.Kind = 2 ∨ m.Kind = 3) ∧ m.To = 0 ∧ 1 ≤ m.N ∧ m.N ≤ 1073741824)
instance (m : Move) : Decidable (ValidP m) := inferInstanceAs (Decidable (_ ∨ _))

theorem pairwise_of_steps {l : List Account} (h : ∀ j (hj : j < l.length), 0 < j → (l[j - 1]'(by omega)).Lot < l[j].Lot) : l.Pairwise (fun a b => a.Lot < b.Lot) := by
  rw [List.pairwise_iff_getElem]
  intro i j hi hj hij
  have key : ∀ d, ∀ (h : i + d + 1 < l.length), l[i].Lot < l[i + d + 1].Lot := by
    intro d
    induction d with
    | zero => intro h'; have := h (i + 1) h' (by omega); simpa using this
    | succ d ih => intro h'; have h1 := ih (by omega); have h2 := h (i + (d + 1) + 1) h' (by omega); exact Int.lt_trans h1 (by simpa [Nat.add_assoc] using h2)
  have := key (j - i - 1) (by omega)
  simpa [show i + (j - i - 1) + 1 = j by omega] using this
theorem steps_of_pairwise {l : List Account} (h : l.Pairwise (fun a b => a.Lot < b.Lot)) : ∀ j (hj : j < l.length), 0 < j → (l[j - 1]'(by omega)).Lot < l[j].Lot := by
  rw [List.pairwise_iff_getElem] at h
  intro j hj h0
  exact h (j - 1) j (by omega) hj (by omega)

theorem cRight_spec {l : List Account} (hl : l.length ≤ 1073741824) : cRight l = some (decide (RightP l)) := by
  let G : Nat → Prop := fun i => ∀ j (hj : j < l.length), j < i → okA l[j] ∧ (0 < j → (l[j - 1]'(by omega)).Lot < l[j].Lot)
  refine Exists.elim (loop_up (body := cRight_L0 l) (fun i s => s = (i : Int) ∧ G i) l.length
    (fun f => match f with | .go _ => False | .ex _ _ => G l.length | .ret r => r = false ∧ ¬ G l.length) ?_ ?_ 0 ⟨rfl, fun j _ h => absurd h (Nat.not_lt_zero j)⟩ (l.length + 1) (by omega)) ?_
  · rintro i s hi ⟨rfl, hG⟩
    unfold cRight_L0
    rw [if_pos (by simpa using hi), getI_nat hi]
    simp only [Option.bind_some, within]
    by_cases hok : okA l[i] ∧ (0 < i → (l[i - 1]'(by omega)).Lot < l[i].Lot)
    · left
      refine ⟨((i + 1 : Nat) : Int), ?_, rfl, fun j hj hji => ?_⟩
      · obtain ⟨⟨h1, h2, h3, h4⟩, h5⟩ := hok
        have c1 : (decide (1 ≤ l[i].Lot) && decide (l[i].Lot ≤ 1073741824)) = true := by simp; exact ⟨h1, h2⟩
        have c2 : (decide (0 ≤ l[i].Units) && decide (l[i].Units ≤ 1073741824)) = true := by simp; exact ⟨h3, h4⟩
        simp only [c1, c2, Bool.not_true, Bool.false_eq_true, if_false, Option.bind_some]
        rcases Nat.eq_zero_or_pos i with rfl | h0
        · simp [addI, inI]
        · have e1 : (i : Int) - 1 = ((i - 1 : Nat) : Int) := by omega
          have h6 := h5 h0
          rw [if_pos (by simpa using h0), subI_some (by unfold inI; omega), e1]
          simp only [Option.bind_some, getI_nat (show i - 1 < l.length by omega)]
          have : decide (l[i].Lot ≤ (l[i - 1]'(by omega)).Lot) = false := by simp; omega
          rw [this]
          simp [addI_one (show i < 4611686018427387904 by omega)]
      · rcases Nat.lt_or_ge j i with h | h
        · exact hG j hj h
        · obtain rfl : j = i := by omega
          exact hok
    · right
      refine ⟨.ret false, ?_, trivial, rfl, fun h => hok (h i hi hi)⟩
      by_cases c1 : (decide (1 ≤ l[i].Lot) && decide (l[i].Lot ≤ 1073741824)) = true
      · by_cases c2 : (decide (0 ≤ l[i].Units) && decide (l[i].Units ≤ 1073741824)) = true
        · simp only [c1, c2, Bool.not_true, Bool.false_eq_true, if_false, Option.bind_some]
          have hk : okA l[i] := by simp at c1 c2; exact ⟨c1.1, c1.2, c2.1, c2.2⟩
          have h0 : 0 < i := by
            rcases Nat.eq_zero_or_pos i with h | h
            · exact absurd ⟨hk, fun h' => by omega⟩ hok
            · exact h
          have h7 : ¬ (l[i - 1]'(by omega)).Lot < l[i].Lot := fun h => hok ⟨hk, fun _ => h⟩
          have e1 : (i : Int) - 1 = ((i - 1 : Nat) : Int) := by omega
          rw [if_pos (by simpa using h0), subI_some (by unfold inI; omega), e1]
          simp only [Option.bind_some, getI_nat (show i - 1 < l.length by omega)]
          have : decide (l[i].Lot ≤ (l[i - 1]'(by omega)).Lot) = true := by simp; omega
          rw [this]
          simp
        · simp [c1, c2]
      · simp [c1]
  · rintro s ⟨rfl, hG⟩
    refine ⟨.ex 0 (l.length : Int), ?_, trivial, hG⟩
    unfold cRight_L0
    rw [if_neg (by simp)]
  · rintro f ⟨hf, he, hp⟩
    unfold cRight
    rw [hf]
    cases f with
    | go s => exact he.elim
    | ex id s =>
      simp only at hp
      simp only [Option.bind_some, Option.some.injEq]
      rw [decide_eq_decide]
      constructor
      · intro h
        refine ⟨fun a ha => ?_, pairwise_of_steps fun j hj h0 => (hp j hj hj).2 h0, by omega⟩
        obtain ⟨j, hj, rfl⟩ := List.getElem_of_mem ha
        exact (hp j hj hj).1
      · intro h; have := h.2.2; omega
    | ret r =>
      obtain ⟨rfl, hp⟩ := hp
      simp only [Option.bind_some, Option.some.injEq]
      symm
      rw [decide_eq_false_iff_not]
      intro h
      exact hp fun j hj _ => ⟨h.1 _ (List.getElem_mem hj), steps_of_pairwise h.2.1 j hj⟩

theorem cValid_spec (m : Move) : cValid m = some (decide (ValidP m)) := by
  have w : ∀ n lo hi, within n lo hi = some (decide (lo ≤ n ∧ n ≤ hi)) := fun n lo hi => by unfold within; rw [Bool.decide_and]
  unfold cValid ValidP
  simp only [w]
  by_cases h0 : m.Kind = 0
  · simp only [h0, beq_self_eq_true, if_true, Option.bind_some]
    by_cases h1 : 1 ≤ m.To ∧ m.To ≤ 1073741824
    · by_cases h2 : 0 ≤ m.From ∧ m.From ≤ 1
      · simp [h1, h2]
      · simp [h1, h2]; intros; omega
    · simp [h1]; intros; omega
  · by_cases h1 : m.Kind = 1
    · by_cases h2 : m.From = m.To <;> simp [h1, h2]
    · by_cases h2 : m.Kind = 2
      · by_cases h3 : m.To = 0 <;> simp [h2, h3]
      · by_cases h4 : m.Kind = 3
        · by_cases h3 : m.To = 0 <;> simp [h4, h3]
        · simp [h0, h1, h2, h4]

/-- The place of the account of a lot. -/
def idx : List Account → Int → Option Nat
  | [], _ => none
  | a :: l, lot => if a.Lot = lot then some 0 else (idx l lot).map (· + 1)
theorem idx_none {lot : Int} : ∀ {l : List Account}, idx l lot = none ↔ ∀ a ∈ l, a.Lot ≠ lot
  | [] => by simp [idx]
  | a :: l => by
    simp only [idx]
    split
    · rename_i h; simp [h]
    · rename_i h; simp [h, idx_none]
theorem idx_some {lot : Int} : ∀ {l : List Account} {i : Nat}, idx l lot = some i → ∃ h : i < l.length, l[i].Lot = lot ∧ ∀ j (hj : j < l.length), j < i → l[j].Lot ≠ lot
  | [], _, h => by simp [idx] at h
  | a :: l, i, h => by
    simp only [idx] at h
    split at h
    · rename_i he
      simp at h; subst h
      exact ⟨by simp, by simpa using he, fun j hj h => absurd h (Nat.not_lt_zero j)⟩
    · rename_i he
      simp only [Option.map_eq_some_iff] at h
      obtain ⟨k, hk, rfl⟩ := h
      obtain ⟨hk1, hk2, hk3⟩ := idx_some hk
      refine ⟨by simp; omega, by simpa using hk2, fun j hj hji => ?_⟩
      cases j with
      | zero => simpa using he
      | succ j => simpa using hk3 j (by simpa using hj) (by omega)
theorem idx_unique {lot : Int} {l : List Account} {i : Nat} (h : i < l.length) (h1 : l[i].Lot = lot) (h2 : ∀ j (hj : j < l.length), j < i → l[j].Lot ≠ lot) : idx l lot = some i := by
  cases hx : idx l lot with
  | none => exact absurd h1 (idx_none.1 hx _ (List.getElem_mem h))
  | some k =>
    obtain ⟨hk, hk1, hk2⟩ := idx_some hx
    rcases Nat.lt_trichotomy i k with hik | hik | hik
    · exact absurd h1 (hk2 i h hik)
    · rw [hik]
    · exact absurd hk1 (h2 k hk hik)

theorem cFind_spec {l : List Account} (lot : Int) (hl : l.length ≤ 1073741824) : cFind l lot = some (Option.map (fun i : Nat => (i : Int)) (idx l lot)) := by
  refine Exists.elim (loop_up (body := cFind_L0 l lot) (fun i s => s = (i : Int) ∧ ∀ j (hj : j < l.length), j < i → l[j].Lot ≠ lot) l.length
    (fun f => match f with | .go _ => False | .ex _ _ => idx l lot = none | .ret r => r = Option.map (fun i : Nat => (i : Int)) (idx l lot)) ?_ ?_ 0 ⟨rfl, fun j _ h => absurd h (Nat.not_lt_zero j)⟩ (l.length + 1) (by omega)) ?_
  · rintro i s hi ⟨rfl, hG⟩
    unfold cFind_L0
    rw [if_pos (by simpa using hi), getI_nat hi]
    simp only [Option.bind_some]
    by_cases hok : l[i].Lot = lot
    · right
      refine ⟨.ret (some (i : Int)), by simp [hok], trivial, ?_⟩
      simp only
      rw [idx_unique hi hok hG]
      rfl
    · left
      refine ⟨((i + 1 : Nat) : Int), by simp [hok, addI_one (show i < 4611686018427387904 by omega)], rfl, fun j hj hji => ?_⟩
      rcases Nat.lt_or_ge j i with h | h
      · exact hG j hj h
      · obtain rfl : j = i := by omega
        exact hok
  · rintro s ⟨rfl, hG⟩
    refine ⟨.ex 0 (l.length : Int), ?_, trivial, ?_⟩
    · unfold cFind_L0
      rw [if_neg (by simp)]
    · refine idx_none.2 fun a ha => ?_
      obtain ⟨j, hj, rfl⟩ := List.getElem_of_mem ha
      exact hG j hj hj
  · rintro f ⟨hf, he, hp⟩
    unfold cFind
    rw [hf]
    cases f with
    | go s => exact he.elim
    | ex id s => simp only at hp; simp [hp]
    | ret r => simp only at hp; simp [hp]

/-- The account is put at its place. -/
def insS : List Account → Account → List Account
  | [], x => [x]
  | a :: l, x => if a.Lot < x.Lot then a :: insS l x else x :: a :: l
theorem insS_eq (x : Account) : ∀ (l : List Account) (i : Nat), i ≤ l.length → (∀ j (hj : j < l.length), j < i → l[j].Lot < x.Lot) → (∀ (h : i < l.length), ¬ l[i].Lot < x.Lot) → l.take i ++ [x] ++ l.drop i = insS l x
  | [], i, h, _, _ => by simp [insS]
  | a :: l, 0, _, _, h => by
    have h' : ¬ a.Lot < x.Lot := h (by simp)
    simp only [insS, if_neg h']
    simp
  | a :: l, i + 1, h, h1, h2 => by
    have ha := h1 0 (by simp) (by omega)
    simp only [List.getElem_cons_zero] at ha
    simp only [List.take_succ_cons, List.drop_succ_cons, List.cons_append, insS, if_pos ha]
    rw [insS_eq x l i (by simpa using h) (fun j hj hji => h1 (j + 1) (by simpa using hj) (by omega)) (fun h => h2 (by simpa using h))]

theorem cOpen_spec {l : List Account} (m : Move) (hl : l.length ≤ 536870912) : cOpen l m = some
    (if (idx l m.To).isSome then ([], 5) else if 20000 ≤ l.length then ([], 6) else (insS l ⟨m.To, m.N, m.From == 1⟩, 0)) := by
  unfold cOpen
  rw [cFind_spec _ (by omega)]
  cases hi : idx l m.To with
  | some i => simp
  | none =>
    simp only [Option.map_none, Option.bind_some, Option.isSome_none, Bool.false_eq_true, if_false]
    by_cases hn : 20000 ≤ l.length
    · have : (20000 : Int) ≤ l.length := by omega
      simp [hn, this]
    · have hn' : ¬ (20000 : Int) ≤ l.length := by omega
      simp only [hn, hn', decide_false, Bool.false_eq_true, if_false]
      refine Exists.elim (loop_up (body := cOpen_L0 l m) (fun i s => s = (i : Int) ∧ ∀ j (hj : j < l.length), j < i → l[j].Lot < m.To) l.length
        (fun f => match f with | .go _ => False | .ex _ s => ∃ i : Nat, s = (i : Int) ∧ i ≤ l.length ∧ (∀ j (hj : j < l.length), j < i → l[j].Lot < m.To) ∧ ∀ h : i < l.length, ¬ l[i].Lot < m.To | .ret _ => False) ?_ ?_ 0 ⟨rfl, fun j _ h => absurd h (Nat.not_lt_zero j)⟩ (l.length + 1) (by omega)) ?_
      · rintro i s hi ⟨rfl, hG⟩
        unfold cOpen_L0
        rw [if_pos (by simpa using hi), getI_nat hi]
        simp only [Option.bind_some]
        by_cases hok : l[i].Lot < m.To
        · left
          refine ⟨((i + 1 : Nat) : Int), by simp [hok, addI_one (show i < 4611686018427387904 by omega)], rfl, fun j hj hji => ?_⟩
          rcases Nat.lt_or_ge j i with h | h
          · exact hG j hj h
          · obtain rfl : j = i := by omega
            exact hok
        · right
          exact ⟨.ex 0 (i : Int), by simp [hok], trivial, i, rfl, by omega, hG, fun _ => hok⟩
      · rintro s ⟨rfl, hG⟩
        refine ⟨.ex 0 (l.length : Int), ?_, trivial, l.length, rfl, Nat.le_refl _, hG, fun h => absurd h (Nat.lt_irrefl _)⟩
        unfold cOpen_L0
        rw [if_neg (by simp)]
        rfl
      · rintro f ⟨hf, he, hp⟩
        rw [hf]
        cases f with
        | go s => exact he.elim
        | ret r => exact hp.elim
        | ex id s =>
          obtain ⟨i, rfl, h1, h2, h3⟩ := hp
          simp only [Option.bind_some]
          rw [show insertA l (i : Int) [⟨m.To, m.N, m.From == 1⟩] = some (l.take i ++ [⟨m.To, m.N, m.From == 1⟩] ++ l.drop i) from if_pos ⟨by omega, by omega, by simp, by simp; omega⟩]
          simp only [Option.bind_some]
          rw [insS_eq _ l i h1 h2 h3]

/-- What Do computes. -/
def doS (l : List Account) (m : Move) : List Account × Int :=
  if ¬ (RightP l ∧ ValidP m) then ([], 1)
  else if m.Kind = 0 then
    if (idx l m.To).isSome then ([], 5) else if 20000 ≤ l.length then ([], 6) else (insS l ⟨m.To, m.N, m.From == 1⟩, 0)
  else match idx l m.From with
    | none => ([], 4)
    | some i =>
      if m.Kind = 1 then
        match idx l m.To with
        | none => ([], 4)
        | some j =>
          if ! (l[j]?.getD default).Receives then ([], 24)
          else if (l[i]?.getD default).Units < m.N then ([], 23)
          else if 1073741824 < (l[j]?.getD default).Units + m.N then ([], 6)
          else ((l.modify i fun a => { a with Units := a.Units - m.N }).modify j fun a => { a with Units := a.Units + m.N }, 0)
      else if (l[i]?.getD default).Units < m.N then ([], 23)
      else (l.modify i fun a => { a with Units := a.Units - m.N }, 0)

theorem atI_idx {l : List Account} {i : Nat} (h : i < l.length) : atI l (some (i : Int)) = some l[i] := by
  unfold atI
  simp [getI_nat h]
theorem set_modify {l : List Account} {i : Nat} (h : i < l.length) (f : Account → Account) : l.set i (f l[i]) = l.modify i f := by
  refine List.ext_getElem? fun j => ?_
  rw [List.getElem?_set, List.getElem?_modify]
  by_cases hj : i = j
  · subst hj; simp [h]
  · simp [hj]

theorem cDo_spec {l : List Account} (m : Move) (hl : l.length ≤ 536870912) : cDo l m = some (doS l m) := by
  unfold cDo doS
  rw [cRight_spec (by omega)]
  simp only [Option.bind_some]
  by_cases hR : RightP l
  · rw [cValid_spec]
    by_cases hV : ValidP m
    · have hc : clone l = some l := by unfold clone; rw [appI_some (by simp; omega)]; rfl
      simp only [hR, hV, decide_true, Bool.not_true, Bool.false_eq_true, if_false, Option.bind_some, and_self, not_true_eq_false, hc]
      by_cases h0 : m.Kind = 0
      · simp only [h0, beq_self_eq_true, if_true, cOpen_spec m hl]
        split
        · rfl
        · split <;> rfl
      · have hb : (m.Kind == 0) = false := by simpa using h0
        simp only [hb, h0, Bool.false_eq_true, if_false, cFind_spec _ (show l.length ≤ 1073741824 by omega), Option.bind_some]
        cases hi : idx l m.From with
        | none => simp
        | some i =>
          obtain ⟨hi1, hi2, _⟩ := idx_some hi
          have hui := (hR.1 _ (List.getElem_mem hi1))
          have hNb : 1 ≤ m.N ∧ m.N ≤ 1073741824 := by rcases hV with h | h | h <;> omega
          unfold okA at hui
          by_cases h1 : m.Kind = 1
          · cases hj : idx l m.To with
            | none => simp [h1]
            | some j =>
              obtain ⟨hj1, hj2, _⟩ := idx_some hj
              have huj := (hR.1 _ (List.getElem_mem hj1))
              unfold okA at huj
              simp only [h1, Option.map_some, Option.isNone_some, Bool.false_eq_true, if_false, Bool.and_false, Option.bind_some, beq_self_eq_true, if_true, atI_idx hj1, atI_idx hi1, List.getElem?_eq_getElem hj1, List.getElem?_eq_getElem hi1, Option.getD_some, Int.toNat_natCast]
              cases hr : l[j].Receives
              · simp
              · simp only [Bool.not_true, Bool.false_eq_true, if_false]
                by_cases hc : l[i].Units < m.N
                · simp [hc]
                · simp only [hc, decide_false, Bool.false_eq_true, if_false]
                  rw [addI_some (show inI (l[j].Units + m.N) by unfold inI; omega)]
                  simp only [Option.bind_some]
                  by_cases hf : 1073741824 < l[j].Units + m.N
                  · simp [hf]
                  · simp only [hf, decide_false, Bool.false_eq_true, if_false]
                    rw [subI_some (show inI (l[i].Units - m.N) by unfold inI; omega)]
                    simp only [Option.bind_some]
                    have hij : i ≠ j := fun e => by
                      subst e
                      rcases hV with h | h | h
                      · omega
                      · exact h.2.1 (hi2.symm.trans hj2)
                      · omega
                    have e1 := set_modify hi1 (fun a => { a with Units := a.Units - m.N })
                    have hj1' : j < (l.modify i fun a => { a with Units := a.Units - m.N }).length := by simpa using hj1
                    have e2 : (l.modify i fun a => { a with Units := a.Units - m.N })[j] = l[j] := by simp [List.getElem_modify, hij]
                    rw [e1, atI_idx hj1', e2, ]
                    simp only [Option.bind_some]
                    rw [addI_some (show inI (l[j].Units + m.N) by unfold inI; omega)]
                    simp only [Option.bind_some]
                    have e3 := set_modify hj1' (fun a => { a with Units := a.Units + m.N })
                    rw [e2] at e3
                    rw [e3]
          · have hb1 : (m.Kind == 1) = false := by simpa using h1
            simp only [h1, hb1, Option.map_some, Option.isNone_some, Bool.false_eq_true, if_false, Bool.false_and, Option.bind_some, atI_idx hi1, List.getElem?_eq_getElem hi1, Option.getD_some, Int.toNat_natCast]
            by_cases hc : l[i].Units < m.N
            · simp [hc]
            · simp only [hc, decide_false, Bool.false_eq_true, if_false]
              rw [subI_some (show inI (l[i].Units - m.N) by unfold inI; omega)]
              simp only [Option.bind_some]
              rw [set_modify hi1 (fun a => { a with Units := a.Units - m.N })]
    · simp [hR, hV]
  · simp [hR]

/-- The account a is still there as b. -/
def kept (a b : Account) : Prop := b.Lot = a.Lot ∧ b.Receives = a.Receives ∧ (a.Receives = true ∨ b.Units ≤ a.Units)
instance (a b : Account) : Decidable (kept a b) := inferInstanceAs (Decidable (_ ∧ _))
theorem kept_refl (a : Account) : kept a a := ⟨rfl, rfl, .inr (Int.le_refl _)⟩

theorem insS_mem {x y : Account} : ∀ {l : List Account}, y ∈ insS l x ↔ y = x ∨ y ∈ l
  | [] => by simp [insS]
  | a :: l => by
    simp only [insS]
    split
    · simp only [List.mem_cons, insS_mem]
      constructor
      · rintro (h | h | h) <;> simp [h]
      · rintro (h | h | h) <;> simp [h]
    · simp
theorem insS_len (x : Account) : ∀ l : List Account, (insS l x).length = l.length + 1
  | [] => by simp [insS]
  | a :: l => by
    simp only [insS]
    split <;> simp [insS_len x l]
theorem insS_sorted {x : Account} : ∀ {l : List Account}, l.Pairwise (fun a b => a.Lot < b.Lot) → (∀ a ∈ l, a.Lot ≠ x.Lot) → (insS l x).Pairwise (fun a b => a.Lot < b.Lot)
  | [], _, _ => by simp [insS]
  | a :: l, h, hx => by
    rw [List.pairwise_cons] at h
    simp only [insS]
    split
    · rename_i hlt
      rw [List.pairwise_cons]
      refine ⟨fun y hy => ?_, insS_sorted h.2 fun b hb => hx b (by simp [hb])⟩
      rcases insS_mem.1 hy with rfl | hy
      · exact hlt
      · exact h.1 y hy
    · rename_i hnl
      have := hx a (by simp)
      rw [List.pairwise_cons, List.pairwise_cons]
      refine ⟨fun y hy => ?_, h⟩
      rcases List.mem_cons.1 hy with rfl | hy
      · omega
      · have := h.1 y hy; omega

theorem modify_sorted {l : List Account} {i : Nat} {f : Account → Account} (hf : ∀ a, (f a).Lot = a.Lot) (h : l.Pairwise (fun a b => a.Lot < b.Lot)) : (l.modify i f).Pairwise (fun a b => a.Lot < b.Lot) := by
  rw [List.pairwise_iff_getElem] at h ⊢
  intro a b ha hb hab
  simp only [List.length_modify] at ha hb
  have := h a b ha hb hab
  have e : ∀ c (hc : c < l.length), ((l.modify i f)[c]'(by simpa using hc)).Lot = l[c].Lot := by
    intro c hc
    rw [List.getElem_modify]
    split
    · exact hf _
    · rfl
  rw [e a ha, e b hb]
  exact this
theorem modify_all {l : List Account} {i : Nat} {f : Account → Account} {Q : Account → Prop} (h : ∀ a ∈ l, Q a) (hf : ∀ h : i < l.length, Q (f l[i])) : ∀ a ∈ l.modify i f, Q a := by
  intro a ha
  obtain ⟨j, hj, rfl⟩ := List.getElem_of_mem ha
  simp only [List.length_modify] at hj
  rw [List.getElem_modify]
  split
  · rename_i e; subst e; exact hf hj
  · exact h _ (List.getElem_mem hj)

/-- What is so behind a move that succeeds. -/
structure Stepped (l : List Account) (m : Move) (r : List Account) : Prop where
  right : RightP l
  valid : ValidP m
  right' : RightP r
  len : r.length ≤ l.length + 1
  keeps : ∀ a ∈ l, ∃ b ∈ r, kept a b

theorem doS_ok {l r : List Account} {m : Move} (h : doS l m = (r, 0)) : Stepped l m r := by
  unfold doS at h
  by_cases hRV : RightP l ∧ ValidP m
  · obtain ⟨hR, hV⟩ := hRV
    simp only [hR, hV, and_self, not_true_eq_false, if_false] at h
    by_cases h0 : m.Kind = 0
    · simp only [h0, if_true] at h
      cases hi : idx l m.To with
      | some i => simp [hi] at h
      | none =>
        simp only [hi, Option.isSome_none, Bool.false_eq_true, if_false] at h
        by_cases hn : 20000 ≤ l.length
        · simp [hn] at h
        · simp only [hn, if_false, Prod.mk.injEq, and_true] at h
          subst h
          have hne := idx_none.1 hi
          refine ⟨hR, hV, ⟨fun a ha => ?_, insS_sorted hR.2.1 hne, by rw [insS_len]; omega⟩, by rw [insS_len]; exact Nat.le_refl _, fun a ha => ⟨a, insS_mem.2 (.inr ha), kept_refl a⟩⟩
          rcases insS_mem.1 ha with rfl | ha
          · rcases hV with h | h | h
            · exact ⟨h.2.1, h.2.2.1, h.2.2.2.2.2.1, h.2.2.2.2.2.2⟩
            · omega
            · omega
          · exact hR.1 a ha
    · simp only [h0, if_false] at h
      have hNb : 1 ≤ m.N ∧ m.N ≤ 1073741824 := by rcases hV with h | h | h <;> omega
      cases hi : idx l m.From with
      | none => simp [hi] at h
      | some i =>
        obtain ⟨hi1, hi2, _⟩ := idx_some hi
        have hui := (hR.1 _ (List.getElem_mem hi1))
        unfold okA at hui
        simp only [hi, List.getElem?_eq_getElem hi1, Option.getD_some] at h
        -- taking away
        have take : ¬ l[i].Units < m.N → RightP (l.modify i fun a => { a with Units := a.Units - m.N }) ∧ ∀ a ∈ l, ∃ b ∈ (l.modify i fun a => { a with Units := a.Units - m.N }), kept a b := by
          intro hc
          refine ⟨⟨modify_all hR.1 fun _ => ?_, modify_sorted (fun _ => rfl) hR.2.1, by simpa using hR.2.2⟩, fun a ha => ?_⟩
          · unfold okA; simp only; omega
          · obtain ⟨j, hj, rfl⟩ := List.getElem_of_mem ha
            refine ⟨(l.modify i fun a => { a with Units := a.Units - m.N })[j]'(by simpa using hj), List.getElem_mem _, ?_⟩
            rw [List.getElem_modify]
            split
            · exact ⟨rfl, rfl, .inr (by simp only; omega)⟩
            · exact kept_refl _
        by_cases h1 : m.Kind = 1
        · simp only [h1, if_true] at h
          cases hj : idx l m.To with
          | none => simp [hj] at h
          | some j =>
            obtain ⟨hj1, hj2, _⟩ := idx_some hj
            simp only [hj, List.getElem?_eq_getElem hj1, Option.getD_some] at h
            cases hr : l[j].Receives with
            | false => simp [hr] at h
            | true =>
              simp only [hr, Bool.not_true, Bool.false_eq_true, if_false] at h
              by_cases hc : l[i].Units < m.N
              · simp [hc] at h
              · simp only [hc, if_false] at h
                by_cases hf : 1073741824 < l[j].Units + m.N
                · simp [hf] at h
                · simp only [hf, if_false, Prod.mk.injEq, and_true] at h
                  subst h
                  have hij : i ≠ j := fun e => by
                    subst e
                    rcases hV with h | h | h
                    · omega
                    · exact h.2.1 (hi2.symm.trans hj2)
                    · omega
                  have huj := (hR.1 _ (List.getElem_mem hj1))
                  unfold okA at huj
                  obtain ⟨t1, t2⟩ := take hc
                  have e2 : ∀ hj', (l.modify i fun a => { a with Units := a.Units - m.N })[j]'hj' = l[j] := fun _ => by simp [List.getElem_modify, hij]
                  refine ⟨hR, hV, ⟨modify_all t1.1 fun hj' => ?_, modify_sorted (fun _ => rfl) t1.2.1, by simpa using hR.2.2⟩, by simp, fun a ha => ?_⟩
                  · rw [e2]; unfold okA; simp only; omega
                  · obtain ⟨k, hk, rfl⟩ := List.getElem_of_mem ha
                    refine ⟨((l.modify i fun a => { a with Units := a.Units - m.N }).modify j fun a => { a with Units := a.Units + m.N })[k]'(by simpa using hk), List.getElem_mem _, ?_⟩
                    rw [List.getElem_modify]
                    split
                    · rename_i e; subst e
                      rw [e2]
                      exact ⟨rfl, rfl, .inl hr⟩
                    · rw [List.getElem_modify]
                      split
                      · exact ⟨rfl, rfl, .inr (by simp only; omega)⟩
                      · exact kept_refl _
        · simp only [h1, if_false] at h
          by_cases hc : l[i].Units < m.N
          · simp [hc] at h
          · simp only [hc, if_false, Prod.mk.injEq, and_true] at h
            subst h
            obtain ⟨t1, t2⟩ := take hc
            exact ⟨hR, hV, t1, by simp, t2⟩
  · simp [hRV] at h

theorem small_true : small = some true := by decide +kernel
end Go.Proofs.Ytbanncpkgbiklaa
