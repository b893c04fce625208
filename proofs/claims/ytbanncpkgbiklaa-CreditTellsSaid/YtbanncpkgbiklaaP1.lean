/- The plain part of the proof (no program in sight), part 1 -/
import Derived.Test.YtbanncpkgbiklaaT4
namespace Go.Proofs.Ytbanncpkgbiklaa
open Go.Gb
set_option linter.unusedVariables false
set_option linter.unusedSimpArgs false

def okA (a : Account) : Prop := 1 ≤ a.Lot ∧ a.Lot ≤ 1073741824 ∧ 0 ≤ a.Units ∧ a.Units ≤ 1073741824
instance (a : Account) : Decidable (okA a) := inferInstanceAs (Decidable (_ ∧ _))
def RightP (l : List Account) : Prop := (∀ a ∈ l, okA a) ∧ l.Pairwise (fun a b => a.Lot < b.Lot) ∧ l.length ≤ 20000
instance (l : List Account) : Decidable (RightP l) := inferInstanceAs (Decidable (_ ∧ _))
def ValidP (m : Move) : Prop :=
  (m.Kind = 0 ∧ 1 ≤ m.To ∧ m.To ≤ 1073741824 ∧ 0 ≤ m.From ∧ m.From ≤ 1 ∧ 0 ≤ m.N ∧ m.N ≤ 1073741824) ∨ (m.Kind = 1 ∧ m.From ≠ m.To ∧ 1 ≤ m.N ∧ m.N ≤ 1073741824) ∨ ((m.Kind = 2 ∨ m.Kind = 3) ∧ m.To = 0 ∧ 1 ≤ m.N ∧ m.N ≤ 1073741824)
instance (m : Move) : Decidable (ValidP m) := inferInstanceAs (Decidable (_ ∨ _))

theorem pairwise_of_steps {l : List Account} (h : ∀ j (hj : j < l.length), 0 < j → (l[j - 1]'(by omega)).Lot < l[j].Lot) : l.Pairwise (fun a b => a.Lot < b.Lot) := by
  rw [List.pairwise_iff_getElem]
  intro i j hi hj hij
  have key : ∀ d, ∀ (h : i + d + 1 < l.length), l[i].Lot < l[i + d + 1].Lot := by
    intro d
    induction d with
    | zero => intro h'; have := h (i + 1) h' (by omega); simpa using this
    | succ d ih => intro h'; have h1 := ih (by omega); have h2 := h (i + (d + 1) + 1) h' (by omega); exact Int.lt_trans h1 (by simpa [Nat.add_assoc] using h2)
  have := key (j - i - 1) (by omega)
  simpa [show i + (j - i - 1) + 1 = j by omega] using this
theorem steps_of_pairwise {l : List Account} (h : l.Pairwise (fun a b => a.Lot < b.Lot)) : ∀ j (hj : j < l.length), 0 < j → (l[j - 1]'(by omega)).Lot < l[j].Lot := by
  rw [List.pairwise_iff_getElem] at h
  intro j hj h0
  exact h (j - 1) j (by omega) hj (by omega)

theorem cRight_spec {l : List Account} (hl : l.length ≤ 1073741824) : cRight l = some (decide (RightP l)) := by
  let G : Nat → Prop := fun i => ∀ j (hj : j < l.length), j < i → okA l[j] ∧ (0 < j → (l[j - 1]'(by omega)).Lot < l[j].Lot)
  refine Exists.elim (loop_up (body := cRight_L0 l) (fun i s => s = (i : Int) ∧ G i) l.length
    (fun f => match f with | .go _ => False | .ex _ _ => G l.length | .ret r => r = false ∧ ¬ G l.length) ?_ ?_ 0 ⟨rfl, fun j _ h => absurd h (Nat.not_lt_zero j)⟩ (l.length + 1) (by omega)) ?_
  · rintro i s hi ⟨rfl, hG⟩
    unfold cRight_L0
    rw [if_pos (by simpa using hi), getI_nat hi]
    simp only [Option.bind_some, within]
    by_cases hok : okA l[i] ∧ (0 < i → (l[i - 1]'(by omega)).Lot < l[i].Lot)
    · left
      refine ⟨((i + 1 : Nat) : Int), ?_, rfl, fun j hj hji => ?_⟩
      · obtain ⟨⟨h1, h2, h3, h4⟩, h5⟩ := hok
        have c1 : (decide (1 ≤ l[i].Lot) && decide (l[i].Lot ≤ 1073741824)) = true := by simp; exact ⟨h1, h2⟩
        have c2 : (decide (0 ≤ l[i].Units) && decide (l[i].Units ≤ 1073741824)) = true := by simp; exact ⟨h3, h4⟩
        simp only [c1, c2, Bool.not_true, Bool.false_eq_true, if_false, Option.bind_some]
        rcases Nat.eq_zero_or_pos i with rfl | h0
        · simp [addI, inI]
        · have e1 : (i : Int) - 1 = ((i - 1 : Nat) : Int) := by omega
          have h6 := h5 h0
          rw [if_pos (by simpa using h0), subI_some (by unfold inI; omega), e1]
          simp only [Option.bind_some, getI_nat (show i - 1 < l.length by omega)]
          have : decide (l[i].Lot ≤ (l[i - 1]'(by omega)).Lot) = false := by simp; omega
          rw [this]
          simp [addI_one (show i < 4611686018427387904 by omega)]
      · rcases Nat.lt_or_ge j i with h | h
        · exact hG j hj h
        · obtain rfl : j = i := by omega
          exact hok
    · right
      refine ⟨.ret false, ?_, trivial, rfl, fun h => hok (h i hi hi)⟩
      by_cases c1 : (decide (1 ≤ l[i].Lot) && decide (l[i].Lot ≤ 1073741824)) = true
      · by_cases c2 : (decide (0 ≤ l[i].Units) && decide (l[i].Units ≤ 1073741824)) = true
        · simp only [c1, c2, Bool.not_true, Bool.false_eq_true, if_false, Option.bind_some]
          have hk : okA l[i] := by simp at c1 c2; exact ⟨c1.1, c1.2, c2.1, c2.2⟩
          have h0 : 0 < i := by
            rcases Nat.eq_zero_or_pos i with h | h
            · exact absurd ⟨hk, fun h' => by omega⟩ hok
            · exact h
          have h7 : ¬ (l[i - 1]'(by omega)).Lot < l[i].Lot := fun h => hok ⟨hk, fun _ => h⟩
          have e1 : (i : Int) - 1 = ((i - 1 : Nat) : Int) := by omega
          rw [if_pos (by simpa using h0), subI_some (by unfold inI; omega), e1]
          simp only [Option.bind_some, getI_nat (show i - 1 < l.length by omega)]
          have : decide (l[i].Lot ≤ (l[i - 1]'(by omega)).Lot) = true := by simp; omega
          rw [this]
          simp
        · simp [c1, c2]
      · simp [c1]
  · rintro s ⟨rfl, hG⟩
    refine ⟨.ex 0 (l.length : Int), ?_, trivial, hG⟩
    unfold cRight_L0
    rw [if_neg (by simp)]
  · rintro f ⟨hf, he, hp⟩
    unfold cRight
    rw [hf]
    cases f with
    | go s => exact he.elim
    | ex id s =>
      simp only at hp
      simp only [Option.bind_some, Option.some.injEq]
      rw [decide_eq_decide]
      constructor
      · intro h
        refine ⟨fun a ha => ?_, pairwise_of_steps fun j hj h0 => (hp j hj hj).2 h0, by omega⟩
        obtain ⟨j, hj, rfl⟩ := List.getElem_of_mem ha
        exact (hp j hj hj).1
      · intro h; have := h.2.2; omega
    | ret r =>
      obtain ⟨rfl, hp⟩ := hp
      simp only [Option.bind_some, Option.some.injEq]
      symm
      rw [decide_eq_false_iff_not]
      intro h
      exact hp fun j hj _ => ⟨h.1 _ (List.getElem_mem hj), steps_of_pairwise h.2.1 j hj⟩

theorem cValid_spec (m : Move) : cValid m = some (decide (ValidP m)) := by
  have w : ∀ n lo hi, within n lo hi = some (decide (lo ≤ n ∧ n ≤ hi)) := fun n lo hi => by unfold within; rw [Bool.decide_and]
  unfold cValid ValidP
  simp only [w]
  by_cases h0 : m.Kind = 0
  · simp only [h0, beq_self_eq_true, if_true, Option.bind_some]
    by_cases h1 : 1 ≤ m.To ∧ m.To ≤ 1073741824
    · by_cases h2 : 0 ≤ m.From ∧ m.From ≤ 1
      · simp [h1, h2]
      · simp [h1, h2]; intros; omega
    · simp [h1]; intros; omega
  · by_cases h1 : m.Kind = 1
    · by_cases h2 : m.From = m.To <;> simp [h1, h2]
    · by_cases h2 : m.Kind = 2
      · by_cases h3 : m.To = 0 <;> simp [h2, h3]
      · by_cases h4 : m.Kind = 3
        · by_cases h3 : m.To = 0 <;> simp [h4, h3]
        · simp [h0, h1, h2, h4]

/-- The place of the account of a lot. -/
def idx : List Account → Int → Option Nat
  | [], _ => none
  | a :: l, lot => if a.Lot = lot then some 0 else (idx l lot).map (· + 1)
theorem idx_none {lot : Int} : ∀ {l : List Account}, idx l lot = none ↔ ∀ a ∈ l, a.Lot ≠ lot
  | [] => by simp [idx]
  | a :: l => by
    simp only [idx]
    split
    · rename_i h; simp [h]
    · rename_i h; simp [h, idx_none]
theorem idx_some {lot : Int} : ∀ {l : List Account} {i : Nat}, idx l lot = some i → ∃ h : i < l.length, l[i].Lot = lot ∧ ∀ j (hj : j < l.length), j < i → l[j].Lot ≠ lot
  | [], _, h => by simp [idx] at h
  | a :: l, i, h => by
    simp only [idx] at h
    split at h
    · rename_i he
      simp at h; subst h
      exact ⟨by simp, by simpa using he, fun j hj h => absurd h (Nat.not_lt_zero j)⟩
    · rename_i he
      simp only [Option.map_eq_some_iff] at h
      obtain ⟨k, hk, rfl⟩ := h
      obtain ⟨hk1, hk2, hk3⟩ := idx_some hk
      refine ⟨by simp; omega, by simpa using hk2, fun j hj hji => ?_⟩
      cases j with
      | zero => simpa using he
      | succ j => simpa using hk3 j (by simpa using hj) (by omega)
theorem idx_unique {lot : Int} {l : List Account} {i : Nat} (h : i < l.length) (h1 : l[i].Lot = lot) (h2 : ∀ j (hj : j < l.length), j < i → l[j].Lot ≠ lot) : idx l lot = some i := by
  cases hx : idx l lot with
  | none => exact absurd h1 (idx_none.1 hx _ (List.getElem_mem h))
  | some k =>
    obtain ⟨hk, hk1, hk2⟩ := idx_some hx
    rcases Nat.lt_trichotomy i k with hik | hik | hik
    · exact absurd h1 (hk2 i h hik)
    · rw [hik]
    · exact absurd hk1 (h2 k hk hik)

theorem cFind_spec {l : List Account} (lot : Int) (hl : l.length ≤ 1073741824) : cFind l lot = some (Option.map (fun i : Nat => (i : Int)) (idx l lot)) := by
  refine Exists.elim (loop_up (body := cFind_L0 l lot) (fun i s => s = (i : Int) ∧ ∀ j (hj : j < l.length), j < i → l[j].Lot ≠ lot) l.length
    (fun f => match f with | .go _ => False | .ex _ _ => idx l lot = none | .ret r => r = Option.map (fun i : Nat => (i : Int)) (idx l lot)) ?_ ?_ 0 ⟨rfl, fun j _ h => absurd h (Nat.not_lt_zero j)⟩ (l.length + 1) (by omega)) ?_
  · rintro i s hi ⟨rfl, hG⟩
    unfold cFind_L0
    rw [if_pos (by simpa using hi), getI_nat hi]
    simp only [Option.bind_some]
    by_cases hok : l[i].Lot = lot
    · right
      refine ⟨.ret (some (i : Int)), by simp [hok], trivial, ?_⟩
      simp only
      rw [idx_unique hi hok hG]
      rfl
    · left
      refine ⟨((i + 1 : Nat) : Int), by simp [hok, addI_one (show i < 4611686018427387904 by omega)], rfl, fun j hj hji => ?_⟩
      rcases Nat.lt_or_ge j i with h | h
      · exact hG j hj h
      · obtain rfl : j = i := by omega
        exact hok
  · rintro s ⟨rfl, hG⟩
    refine ⟨.ex 0 (l.length : Int), ?_, trivial, ?_⟩
    · unfold cFind_L0
      rw [if_neg (by simp)]
    · refine idx_none.2 fun a ha => ?_
      obtain ⟨j, hj, rfl⟩ := List.getElem_of_mem ha
      exact hG j hj hj
  · rintro f ⟨hf, he, hp⟩
    unfold cFind
    rw [hf]
    cases f with
    | go s => exact he.elim
    | ex id s => simp only at hp; simp [hp]
    | ret r => simp only at hp; simp [hp]

/-- The account is put at its place. -/
def insS : List Account → Account → List Account
  | [], x => [x]
  | a :: l, x => if a.Lot < x.Lot then a :: insS l x else x :: a :: l
theorem insS_eq (x : Account) : ∀ (l : List Account) (i : Nat), i ≤ l.length → (∀ j (hj : j < l.length), j < i → l[j].Lot < x.Lot) → (∀ (h : i < l.length), ¬ l[i].Lot < x.Lot) → l.take i ++ [x] ++ l.drop i = insS l x
  | [], i, h, _, _ => by simp [insS]
  | a :: l, 0, _, _, h => by
    have h' : ¬ a.Lot < x.Lot := h (by simp)
    simp only [insS, if_neg h']
    simp
  | a :: l, i + 1, h, h1, h2 => by
    have ha := h1 0 (by simp) (by omega)
    simp only [List.getElem_cons_zero] at ha
    simp only [List.take_succ_cons, List.drop_succ_cons, List.cons_append, insS, if_pos ha]
    rw [insS_eq x l i (by simpa using h) (fun j hj hji => h1 (j + 1) (by simpa using hj) (by omega)) (fun h => h2 (by simpa using h))]

theorem cOpen_spec {l : List Account} (m : Move) (hl : l.length ≤ 536870912) : cOpen l m = some
    (if (idx l m.To).isSome then ([], 5) else if 20000 ≤ l.length then ([], 6) else (insS l ⟨m.To, m.N, m.From == 1⟩, 0)) := by
  unfold cOpen
  rw [cFind_spec _ (by omega)]
  cases hi : idx l m.To with
  | some i => simp
  | none =>
    simp only [Option.map_none, Option.bind_some, Option.isSome_none, Bool.false_eq_true, if_false]
    by_cases hn : 20000 ≤ l.length
    · have : (20000 : Int) ≤ l.length := by omega
      simp [hn, this]
    · have hn' : ¬ (20000 : Int) ≤ l.length := by omega
      simp only [hn, hn', decide_false, Bool.false_eq_true, if_false]
      refine Exists.elim (loop_up (body := cOpen_L0 l m) (fun i s => s = (i : Int) ∧ ∀ j (hj : j < l.length), j < i → l[j].Lot < m.To) l.length
        (fun f => match f with | .go _ => False | .ex _ s => ∃ i : Nat, s = (i : Int) ∧ i ≤ l.length ∧ (∀ j (hj : j < l.length), j < i → l[j].Lot < m.To) ∧ ∀ h : i < l.length, ¬ l[i].Lot < m.To | .ret _ => False) ?_ ?_ 0 ⟨rfl, fun j _ h => absurd h (Nat.not_lt_zero j)⟩ (l.length + 1) (by omega)) ?_
      · rintro i s hi ⟨rfl, hG⟩
        unfold cOpen_L0
        rw [if_pos (by simpa using hi), getI_nat hi]
        simp only [Option.bind_some]
        by_cases hok : l[i].Lot < m.To
        · left
          refine ⟨((i + 1 : Nat) : Int), by simp [hok, addI_one (show i < 4611686018427387904 by omega)], rfl, fun j hj hji => ?_⟩
          rcases Nat.lt_or_ge j i with h | h
          · exact hG j hj h
          · obtain rfl : j = i := by omega
            exact hok
        · right
          exact ⟨.ex 0 (i : Int), by simp [hok], trivial, i, rfl, by omega, hG, fun _ => hok⟩
      · rintro s ⟨rfl, hG⟩
        refine ⟨.ex 0 (l.length : Int), ?_, trivial, l.length, rfl, Nat.le_refl _, hG, fun h => absurd h (Nat.lt_irrefl _)⟩
        unfold cOpen_L0
        rw [if_neg (by simp)]
        rfl
      · rintro f ⟨hf, he, hp⟩
        rw [hf]
        cases f with
        | go s => exact he.elim
        | ret r => exact hp.elim
        | ex id s =>
          obtain ⟨i, rfl, h1, h2, h3⟩ := hp
          simp only [Option.bind_some]
          rw [show insertA l (i : Int) [⟨m.To, m.N, m.From == 1⟩] = some (l.take i ++ [⟨m.To, m.N, m.From == 1⟩] ++ l.drop i) from if_pos ⟨by omega, by omega, by simp, by simp; omega⟩]
          simp only [Option.bind_some]
          rw [insS_eq _ l i h1 h2 h3]

/-- What Do computes. -/
def doS (l : List Account) (m : Move) : List Account × Int :=
  if ¬ (RightP l ∧ ValidP m) then ([], 1)
  else if m.Kind = 0 then
    if (idx l m.To).isSome then ([], 5) else if 20000 ≤ l.length then ([], 6) else (insS l ⟨m.To, m.N, m.From == 1⟩, 0)
  else match idx l m.From with
    | none => ([], 4)
    | some i =>
      if m.Kind = 1 then
        match idx l m.To with
        | none => ([], 4)
        | some j =>
          if ! (l[j]?.getD default).Receives then ([], 24)
          else if (l[i]?.getD default).Units < m.N then ([], 23)
          else if 1073741824 < (l[j]?.getD default).Units + m.N then ([], 6)
          else ((l.modify i fun a => { a with Units := a.Units - m.N }).modify j fun a => { a with Units := a.Units + m.N }, 0)
      else if (l[i]?.getD default).Units < m.N then ([], 23)
      else (l.modify i fun a => { a with Units := a.Units - m.N }, 0)

theorem atI_idx {l : List Account} {i : Nat} (h : i < l.length) : atI l (some (i : Int)) = some l[i] := by
  unfold atI
  simp [getI_nat h]
theorem set_modify {l : List Account} {i : Nat} (h : i < l.length) (f : Account → Account) : l.set i (f l[i]) = l.modify i f := by
  refine List.ext_getElem? fun j => ?_
  rw [List.getElem?_set, List.getElem?_modify]
  by_cases hj : i = j
  · subst hj; simp [h]
  · simp [hj]

theorem cDo_spec {l : List Account} (m : Move) (hl : l.length ≤ 536870912) : cDo l m = some (doS l m) := by
  unfold cDo doS
  rw [cRight_spec (by omega)]
  simp only [Option.bind_some]
  by_cases hR : RightP l
  · rw [cValid_spec]
    by_cases hV : ValidP m
    · have hc : clone l = some l := by unfold clone; rw [appI_some (by simp; omega)]; rfl
      simp only [hR, hV, decide_true, Bool.not_true, Bool.false_eq_true, if_false, Option.bind_some, and_self, not_true_eq_false, hc]
      by_cases h0 : m.Kind = 0
      · simp only [h0, beq_self_eq_true, if_true, cOpen_spec m hl]
        split
        · rfl
        · split <;> rfl
      · have hb : (m.Kind == 0) = false := by simpa using h0
        simp only [hb, h0, Bool.false_eq_true, if_false, cFind_spec _ (show l.length ≤ 1073741824 by omega), Option.bind_some]
        cases hi : idx l m.From with
        | none => simp
        | some i =>
          obtain ⟨hi1, hi2, _⟩ := idx_some hi
          have hui := (hR.1 _ (List.getElem_mem hi1))
          have hNb : 1 ≤ m.N ∧ m.N ≤ 1073741824 := by rcases hV with h | h | h <;> omega
          unfold okA at hui
          by_cases h1 : m.Kind = 1
          · cases hj : idx l m.To with
            | none => simp [h1]
            | some j =>
              obtain ⟨hj1, hj2, _⟩ := idx_some hj
              have huj := (hR.1 _ (List.getElem_mem hj1))
              unfold okA at huj
              simp only [h1, Option.map_some, Option.isNone_some, Bool.false_eq_true, if_false, Bool.and_false, Option.bind_some, beq_self_eq_true, if_true, atI_idx hj1, atI_idx hi1, List.getElem?_eq_getElem hj1, List.getElem?_eq_getElem hi1, Option.getD_some, Int.toNat_natCast]
              cases hr : l[j].Receives
              · simp
              · simp only [Bool.not_true, Bool.false_eq_true, if_false]
                by_cases hc : l[i].Units < m.N
                · simp [hc]
                · simp only [hc, decide_false, Bool.false_eq_true, if_false]
                  rw [addI_some (show inI (l[j].Units + m.N) by unfold inI; omega)]
                  simp only [Option.bind_some]
                  by_cases hf : 1073741824 < l[j].Units + m.N
                  · simp [hf]
                  · simp only [hf, decide_false, Bool.false_eq_true, if_false]
                    rw [subI_some (show inI (l[i].Units - m.N) by unfold inI; omega)]
                    simp only [Option.bind_some]
                    have hij : i ≠ j := fun e => by
                      subst e
                      rcases hV with h | h | h
                      · omega
                      · exact h.2.1 (hi2.symm.trans hj2)
                      · omega
                    have e1 := set_modify hi1 (fun a => { a with Units := a.Units - m.N })
                    have hj1' : j < (l.modify i fun a => { a with Units := a.Units - m.N }).length := by simpa using hj1
                    have e2 : (l.modify i fun a => { a with Units := a.Units - m.N })[j] = l[j] := by simp [List.getElem_modify, hij]
                    rw [e1, atI_idx hj1', e2, ]
                    simp only [Option.bind_some]
                    rw [addI_some (show inI (l[j].Units + m.N) by unfold inI; omega)]
                    simp only [Option.bind_some]
                    have e3 := set_modify hj1' (fun a => { a with Units := a.Units + m.N })
                    rw [e2] at e3
                    rw [e3]
          · have hb1 : (m.Kind == 1) = false := by simpa using h1
            simp only [h1, hb1, Option.map_some, Option.isNone_some, Bool.false_eq_true, if_false, Bool.false_and, Option.bind_some, atI_idx hi1, List.getElem?_eq_getElem hi1, Option.getD_some, Int.toNat_natCast]
            by_cases hc : l[i].Units < m.N
            · simp [hc]
            · simp only [hc, decide_false, Bool.false_eq_true, if_false]
              rw [subI_some (show inI (l[i].Units - m.N) by unfold inI; omega)]
              simp only [Option.bind_some]
              rw [set_modify hi1 (fun a => { a with Units := a.Units - m.N })]
    · simp [hR, hV]
  · simp [hR]

/-- The account a is still there as b. -/
def kept (a b : Account) : Prop := b.Lot = a.Lot ∧ b.Receives = a.Receives ∧ (a.Receives = true ∨ b.Units ≤ a.Units)
instance (a b : Account) : Decidable (kept a b) := inferInstanceAs (Decidable (_ ∧ _))
theorem kept_refl (a : Account) : kept a a := ⟨rfl, rfl, .inr (Int.le_refl _)⟩

theorem insS_mem {x y : Account} : ∀ {l : List Account}, y ∈ insS l x ↔ y = x ∨ y ∈ l
  | [] => by simp [insS]
  | a :: l => by
    simp only [insS]
    split
    · simp only [List.mem_cons, insS_mem]
      constructor
      · rintro (h | h | h) <;> simp [h]
      · rintro (h | h | h) <;> simp [h]
    · simp
theorem insS_len (x : Account) : ∀ l : List Account, (insS l x).length = l.length + 1
  | [] => by simp [insS]
  | a :: l => by
    simp only [insS]
    split <;> simp [insS_len x l]
theorem insS_sorted {x : Account} : ∀ {l : List Account}, l.Pairwise (fun a b => a.Lot < b.Lot) → (∀ a ∈ l, a.Lot ≠ x.Lot) → (insS l x).Pairwise (fun a b => a.Lot < b.Lot)
  | [], _, _ => by simp [insS]
  | a :: l, h, hx => by
    rw [List.pairwise_cons] at h
    simp only [insS]
    split
    · rename_i hlt
      rw [List.pairwise_cons]
      refine ⟨fun y hy => ?_, insS_sorted h.2 fun b hb => hx b (by simp [hb])⟩
      rcases insS_mem.1 hy with rfl | hy
      · exact hlt
      · exact h.1 y hy
    · rename_i hnl
      have := hx a (by simp)
      rw [List.pairwise_cons, List.pairwise_cons]
      refine ⟨fun y hy => ?_, h⟩
      rcases List.mem_cons.1 hy with rfl | hy
      · omega
      · have := h.1 y hy; omega

theorem modify_sorted {l : List Account} {i : Nat} {f : Account → Account} (hf : ∀ a, (f a).Lot = a.Lot) (h : l.Pairwise (fun a b => a.Lot < b.Lot)) : (l.modify i f).Pairwise (fun a b => a.Lot < b.Lot) := by
  rw [List.pairwise_iff_getElem] at h ⊢
  intro a b ha hb hab
  simp only [List.length_modify] at ha hb
  have := h a b ha hb hab
  have e : ∀ c (hc : c < l.length), ((l.modify i f)[c]'(by simpa using hc)).Lot = l[c].Lot := by
    intro c hc
    rw [List.getElem_modify]
    split
    · exact hf _
    · rfl
  rw [e a ha, e b hb]
  exact this
theorem modify_all {l : List Account} {i : Nat} {f : Account → Account} {Q : Account → Prop} (h : ∀ a ∈ l, Q a) (hf : ∀ h : i < l.length, Q (f l[i])) : ∀ a ∈ l.modify i f, Q a := by
  intro a ha
  obtain ⟨j, hj, rfl⟩ := List.getElem_of_mem ha
  simp only [List.length_modify] at hj
  rw [List.getElem_modify]
  split
  · rename_i e; subst e; exact hf hj
  · exact h _ (List.getElem_mem hj)

/-- What is so behind a move that succeeds. -/
structure Stepped (l : List Account) (m : Move) (r : List Account) : Prop where
  right : RightP l
  valid : ValidP m
  right' : RightP r
  len : r.length ≤ l.length + 1
  keeps : ∀ a ∈ l, ∃ b ∈ r, kept a b

theorem doS_ok {l r : List Account} {m : Move} (h : doS l m = (r, 0)) : Stepped l m r := by
  unfold doS at h
  by_cases hRV : RightP l ∧ ValidP m
  · obtain ⟨hR, hV⟩ := hRV
    simp only [hR, hV, and_self, not_true_eq_false, if_false] at h
    by_cases h0 : m.Kind = 0
    · simp only [h0, if_true] at h
      cases hi : idx l m.To with
      | some i => simp [hi] at h
      | none =>
        simp only [hi, Option.isSome_none, Bool.false_eq_true, if_false] at h
        by_cases hn : 20000 ≤ l.length
        · simp [hn] at h
        · simp only [hn, if_false, Prod.mk.injEq, and_true] at h
          subst h
          have hne := idx_none.1 hi
          refine ⟨hR, hV, ⟨fun a ha => ?_, insS_sorted hR.2.1 hne, by rw [insS_len]; omega⟩, by rw [insS_len]; exact Nat.le_refl _, fun a ha => ⟨a, insS_mem.2 (.inr ha), kept_refl a⟩⟩
          rcases insS_mem.1 ha with rfl | ha
          · rcases hV with h | h | h
            · exact ⟨h.2.1, h.2.2.1, h.2.2.2.2.2.1, h.2.2.2.2.2.2⟩
            · omega
            · omega
          · exact hR.1 a ha
    · simp only [h0, if_false] at h
      have hNb : 1 ≤ m.N ∧ m.N ≤ 1073741824 := by rcases hV with h | h | h <;> omega
      cases hi : idx l m.From with
      | none => simp [hi] at h
      | some i =>
        obtain ⟨hi1, hi2, _⟩ := idx_some hi
        have hui := (hR.1 _ (List.getElem_mem hi1))
        unfold okA at hui
        simp only [hi, List.getElem?_eq_getElem hi1, Option.getD_some] at h
        -- taking away
        have take : ¬ l[i].Units < m.N → RightP (l.modify i fun a => { a with Units := a.Units - m.N }) ∧ ∀ a ∈ l, ∃ b ∈ (l.modify i fun a => { a with Units := a.Units - m.N }), kept a b := by
          intro hc
          refine ⟨⟨modify_all hR.1 fun _ => ?_, modify_sorted (fun _ => rfl) hR.2.1, by simpa using hR.2.2⟩, fun a ha => ?_⟩
          · unfold okA; simp only; omega
          · obtain ⟨j, hj, rfl⟩ := List.getElem_of_mem ha
            refine ⟨(l.modify i fun a => { a with Units := a.Units - m.N })[j]'(by simpa using hj), List.getElem_mem _, ?_⟩
            rw [List.getElem_modify]
            split
            · exact ⟨rfl, rfl, .inr (by simp only; omega)⟩
            · exact kept_refl _
        by_cases h1 : m.Kind = 1
        · simp only [h1, if_true] at h
          cases hj : idx l m.To with
          | none => simp [hj] at h
          | some j =>
            obtain ⟨hj1, hj2, _⟩ := idx_some hj
            simp only [hj, List.getElem?_eq_getElem hj1, Option.getD_some] at h
            cases hr : l[j].Receives with
            | false => simp [hr] at h
            | true =>
              simp only [hr, Bool.not_true, Bool.false_eq_true, if_false] at h
              by_cases hc : l[i].Units < m.N
              · simp [hc] at h
              · simp only [hc, if_false] at h
                by_cases hf : 1073741824 < l[j].Units + m.N
                · simp [hf] at h
                · simp only [hf, if_false, Prod.mk.injEq, and_true] at h
                  subst h
                  have hij : i ≠ j := fun e => by
                    subst e
                    rcases hV with h | h | h
                    · omega
                    · exact h.2.1 (hi2.symm.trans hj2)
                    · omega
                  have huj := (hR.1 _ (List.getElem_mem hj1))
                  unfold okA at huj
                  obtain ⟨t1, t2⟩ := take hc
                  have e2 : ∀ hj', (l.modify i fun a => { a with Units := a.Units - m.N })[j]'hj' = l[j] := fun _ => by simp [List.getElem_modify, hij]
                  refine ⟨hR, hV, ⟨modify_all t1.1 fun hj' => ?_, modify_sorted (fun _ => rfl) t1.2.1, by simpa using hR.2.2⟩, by simp, fun a ha => ?_⟩
                  · rw [e2]; unfold okA; simp only; omega
                  · obtain ⟨k, hk, rfl⟩ := List.getElem_of_mem ha
                    refine ⟨((l.modify i fun a => { a with Units := a.Units - m.N }).modify j fun a => { a with Units := a.Units + m.N })[k]'(by simpa using hk), List.getElem_mem _, ?_⟩
                    rw [List.getElem_modify]
                    split
                    · rename_i e; subst e
                      rw [e2]
                      exact ⟨rfl, rfl, .inl hr⟩
                    · rw [List.getElem_modify]
                      split
                      · exact ⟨rfl, rfl, .inr (by simp only; omega)⟩
                      · exact kept_refl _
        · simp only [h1, if_false] at h
          by_cases hc : l[i].Units < m.N
          · simp [hc] at h
          · simp only [hc, if_false, Prod.mk.injEq, and_true] at h
            subst h
            obtain ⟨t1, t2⟩ := take hc
            exact ⟨hR, hV, t1, by simp, t2⟩
  · simp [hRV] at h

theorem small_true : small = some true := by decide +kernel
end Go.Proofs.Ytbanncpkgbiklaa

namespace Go.Proofs.Ytbanncpkgbiklaa
open Go.Gb
set_option linter.unusedVariables false
set_option linter.unusedSimpArgs false

/-- What Run computes, from a move on. -/
def runGo (ms : List Move) : Nat → List Account → Nat → List Account × Int × Int
  | 0, now, i => (now, (i : Int), 0)
  | n + 1, now, i =>
    match ms[i]? with
    | none => (now, (i : Int), 0)
    | some m =>
      let d := doS now m
      if d.2 ≠ 0 then (now, (i : Int), d.2) else runGo ms n d.1 (i + 1)
def runS (l : List Account) (ms : List Move) : List Account × Int × Int := if RightP l then runGo ms ms.length l 0 else ([], 0, 1)

theorem doS_fail {l r : List Account} {m : Move} {e : Int} (h : doS l m = (r, e)) (he : e ≠ 0) : r = [] := by
  unfold doS at h
  repeat' split at h
  all_goals simp_all
theorem doS_len {l : List Account} {m : Move} : (doS l m).1.length ≤ l.length + 1 := by
  generalize h : doS l m = d
  obtain ⟨r, e⟩ := d
  by_cases he : e = 0
  · subst he; exact (doS_ok h).len
  · rw [doS_fail h he]; simp

theorem runGo_L {ms : List Move} : ∀ (n i : Nat) (now : List Account) (fuel : Nat), i + n = ms.length → now.length + n ≤ 536870912 → ms.length ≤ 1073741824 → n < fuel →
    ∃ f, iterL (cRun_L0 ms) fuel (now, (i : Int)) = some f ∧ ((∃ j s, f = .ex j s ∧ runGo ms n now i = (s.1, (ms.length : Int), 0)) ∨ ∃ r, f = .ret r ∧ runGo ms n now i = r)
  | 0, i, now, fuel + 1, hi, hl, hm, hf => by
    refine ⟨.ex 0 (now, (i : Int)), ?_, .inl ⟨0, _, rfl, ?_⟩⟩
    · simp only [iterL]
      unfold cRun_L0
      rw [if_neg (by simp; omega)]
    · simp only [runGo]
      rw [show i = ms.length by omega]
  | n + 1, i, now, fuel + 1, hi, hl, hm, hf => by
    have hlt : i < ms.length := by omega
    simp only [iterL]
    unfold cRun_L0
    rw [if_pos (by simpa using hlt)]
    dsimp only
    rw [getI_nat hlt, Option.bind_some, cDo_spec ms[i] (show now.length ≤ 536870912 by omega), Option.bind_some]
    simp only [runGo, List.getElem?_eq_getElem hlt]
    have hlen := doS_len (l := now) (m := ms[i])
    generalize doS now ms[i] = d at hlen
    obtain ⟨r, e⟩ := d
    by_cases he : e = 0
    · subst he
      rw [if_neg (by simp)]
      rw [addI_one (show i < 4611686018427387904 by omega), Option.bind_some]
      obtain ⟨f, h1, h2⟩ := runGo_L n (i + 1) r fuel (by omega) (by simp only at hlen; omega) hm (by omega)
      refine ⟨f, h1, ?_⟩
      simp only [ne_eq, not_true_eq_false, if_false]
      exact h2
    · rw [if_pos (by simpa using he)]
      refine ⟨.ret (now, (i : Int), e), rfl, .inr ⟨_, rfl, ?_⟩⟩
      simp [he]
  | 0, _, _, 0, _, _, _, hf => absurd hf (Nat.lt_irrefl _)
  | _ + 1, _, _, 0, _, _, _, hf => absurd hf (Nat.not_lt_zero _)

theorem clone_spec {l : List Account} (hl : l.length ≤ 1073741824) : clone l = some l := by unfold clone; rw [appI_some (by simp; omega)]; rfl

theorem cRun_spec {l : List Account} {ms : List Move} (hl : l.length + ms.length ≤ 536870912) : cRun l ms = some (runS l ms) := by
  unfold cRun runS
  rw [cRight_spec (by omega), Option.bind_some]
  by_cases hR : RightP l
  · rw [if_neg (by simp [hR]), clone_spec (by omega), Option.bind_some]
    obtain ⟨f, h1, h2⟩ := runGo_L (ms := ms) ms.length 0 l (ms.length + 1) (by omega) hl (by omega) (by omega)
    have h1' : iterL (cRun_L0 ms) (ms.length + 1) (l, 0) = some f := h1
    rw [h1', Option.bind_some, if_pos hR]
    rcases h2 with ⟨j, s, rfl, h2⟩ | ⟨r, rfl, h2⟩
    · dsimp only; rw [h2]
    · dsimp only; rw [h2]
  · rw [if_pos (by simp [hR]), if_neg hR]

/-- The sum of all units. -/
def sumU (l : List Account) : Int := (l.map (·.Units)).sum
theorem sumU_take {l : List Account} {i : Nat} (hi : i < l.length) : sumU (l.take (i + 1)) = sumU (l.take i) + l[i].Units := by
  unfold sumU
  rw [List.take_succ_eq_append_getElem hi, List.map_append, List.sum_append]
  simp
theorem cTotal_spec {l : List Account} (hR : RightP l) : cTotal l = some (sumU l) := by
  unfold cTotal
  have hlen := hR.2.2
  rw [cRight_spec (by omega), Option.bind_some, if_neg (by simp [hR])]
  have hb : ∀ i, i ≤ l.length → 0 ≤ sumU (l.take i) ∧ sumU (l.take i) ≤ (i : Int) * 1073741824 := by
    intro i
    induction i with
    | zero => intro _; simp [sumU]
    | succ i ih =>
      intro hi
      have h1 := ih (by omega)
      have h2 := hR.1 _ (List.getElem_mem (show i < l.length by omega))
      unfold okA at h2
      rw [sumU_take (show i < l.length by omega)]
      constructor
      · omega
      · have : ((i + 1 : Nat) : Int) * 1073741824 = (i : Int) * 1073741824 + 1073741824 := by push_cast; omega
        omega
  refine Exists.elim (loop_up (body := cTotal_L0 l) (fun i s => s = (sumU (l.take i), (i : Int))) l.length (fun f => ∃ j, f = .ex 0 (sumU l, j)) ?_ ?_ (0, 0) (by simp [sumU]) (l.length + 1) (by omega)) ?_
  · rintro i s hi rfl
    left
    refine ⟨_, ?_, rfl⟩
    have h1 := hb (i + 1) (by omega)
    have e := sumU_take hi
    unfold cTotal_L0
    rw [if_pos (by simpa using hi)]
    dsimp only
    rw [getI_nat hi, Option.bind_some, addI_some (by rw [← e]; unfold inI; have : (((i + 1 : Nat) : Int)) ≤ 20000 := by omega
                                                     omega), Option.bind_some, addI_one (show i < 4611686018427387904 by omega), Option.bind_some, e]
  · rintro s rfl
    refine ⟨.ex 0 (sumU l, (l.length : Int)), ?_, trivial, _, rfl⟩
    unfold cTotal_L0
    rw [if_neg (by simp)]
    simp
  · rintro f ⟨hf, he, j, rfl⟩
    rw [hf]
    rfl

theorem rSame_spec {a b : List Account} (hl : a.length ≤ 1073741824) : rSame a b = some (decide (a = b)) := by
  unfold rSame
  by_cases hlen : a.length = b.length
  · rw [if_neg (by simp; omega)]
    refine Exists.elim (loop_up (body := rSame_L0 a b) (fun i s => s = (i : Int) ∧ ∀ j (hj : j < a.length), j < i → a[j] = b[j]'(by omega)) a.length
      (fun f => match f with | .go _ => False | .ex _ _ => a = b | .ret r => r = false ∧ a ≠ b) ?_ ?_ 0 ⟨rfl, fun j _ h => absurd h (Nat.not_lt_zero j)⟩ (a.length + b.length + 1) (by omega)) ?_
    · rintro i s hi ⟨rfl, hG⟩
      unfold rSame_L0
      rw [if_pos (by simpa using hi), getI_nat hi, Option.bind_some, getI_nat (show i < b.length by omega), Option.bind_some]
      by_cases hok : a[i] = b[i]'(by omega)
      · left
        refine ⟨((i + 1 : Nat) : Int), ?_, rfl, fun j hj hji => ?_⟩
        · rw [if_neg (by simp [hok]), addI_one (show i < 4611686018427387904 by omega), Option.bind_some]
        · rcases Nat.lt_or_ge j i with h | h
          · exact hG j hj h
          · obtain rfl : j = i := by omega
            exact hok
      · right
        refine ⟨.ret false, by rw [if_pos (by simp [hok])], trivial, rfl, fun h => hok ?_⟩
        subst h; rfl
    · rintro s ⟨rfl, hG⟩
      refine ⟨.ex 0 (a.length : Int), ?_, trivial, List.ext_getElem hlen fun j h1 h2 => hG j h1 h1⟩
      unfold rSame_L0
      rw [if_neg (by simp)]
    · rintro f ⟨hf, he, hp⟩
      rw [hf, Option.bind_some]
      cases f with
      | go s => exact he.elim
      | ex id s => simp only at hp; simp [hp]
      | ret r => obtain ⟨rfl, hp⟩ := hp; simp [hp]
  · rw [if_pos (by simp; omega)]
    have : a ≠ b := fun h => hlen (by rw [h])
    simp [this]

theorem cUnits_spec {l : List Account} (lot : Int) (hl : l.length ≤ 1073741824) : cUnits l lot = some (((idx l lot).bind fun i => l[i]?).map (·.Units) |>.getD 0) := by
  unfold cUnits
  rw [cFind_spec lot hl, Option.bind_some]
  cases h : idx l lot with
  | none => rfl
  | some i =>
    obtain ⟨h1, _⟩ := idx_some h
    simp [atI_idx h1, List.getElem?_eq_getElem h1]

end Go.Proofs.Ytbanncpkgbiklaa

namespace Go.Proofs.Ytbanncpkgbiklaa
open Go.Gb
set_option linter.unusedVariables false
set_option linter.unusedSimpArgs false

/-- The units of a trace, one by one. -/
def expT : List (Int × Int) → List Int
  | [] => []
  | p :: t => List.replicate p.2.toNat p.1 ++ expT t
/-- Neighbours have other origins, and no number is 0. -/
def Can : List (Int × Int) → Prop
  | [] => True
  | p :: t => 1 ≤ p.2 ∧ (∀ q, t.head? = some q → p.1 ≠ q.1) ∧ Can t

theorem expT_append : ∀ (s t : List (Int × Int)), expT (s ++ t) = expT s ++ expT t
  | [], t => rfl
  | p :: s, t => by simp only [List.cons_append, expT, expT_append s t, List.append_assoc]
theorem can_append : ∀ {s : List (Int × Int)} {p : Int × Int}, Can (s ++ [p]) ↔ Can s ∧ 1 ≤ p.2 ∧ ∀ q, s.getLast? = some q → q.1 ≠ p.1
  | [], p => by simp [Can]
  | [a], p => by simp [Can]; intro _; exact And.comm
  | a :: b :: s, p => by
    have ih := can_append (s := b :: s) (p := p)
    have e : (a :: b :: s) ++ [p] = a :: ((b :: s) ++ [p]) := rfl
    rw [e, Can, Can, ih]
    have h1 : ((b :: s) ++ [p]).head? = (b :: s).head? := rfl
    rw [h1]
    have h2 : (a :: b :: s).getLast? = (b :: s).getLast? := by simp [List.getLast?_cons_cons]
    rw [h2]
    constructor
    · rintro ⟨h1, h2, h3, h4, h5⟩; exact ⟨⟨h1, h2, h3⟩, h4, h5⟩
    · rintro ⟨⟨h1, h2, h3⟩, h4, h5⟩; exact ⟨h1, h2, h3, h4, h5⟩
theorem can_head {p : Int × Int} {t : List (Int × Int)} (h : Can (p :: t)) : (expT t).head? ≠ some p.1 := by
  cases t with
  | nil => simp [expT]
  | cons q t =>
    have h1 := h.2.1 q rfl
    have h2 : 1 ≤ q.2 := h.2.2.1
    obtain ⟨k, hk⟩ : ∃ k, q.2.toNat = k + 1 := ⟨q.2.toNat - 1, by omega⟩
    simp only [expT, hk, List.replicate_succ, List.cons_append, List.head?_cons, ne_eq, Option.some.injEq]
    exact fun e => h1 e.symm
theorem rep_inj {x : Int} {s t : List Int} : ∀ {a b : Nat}, List.replicate a x ++ s = List.replicate b x ++ t → s.head? ≠ some x → t.head? ≠ some x → a = b ∧ s = t
  | 0, 0, h, _, _ => by simpa using h
  | 0, b + 1, h, hs, _ => by simp [List.replicate_succ] at h; rw [h] at hs; simp at hs
  | a + 1, 0, h, _, ht => by simp [List.replicate_succ] at h; rw [← h] at ht; simp at ht
  | a + 1, b + 1, h, hs, ht => by
    simp only [List.replicate_succ, List.cons_append, List.cons.injEq, true_and] at h
    obtain ⟨h1, h2⟩ := rep_inj h hs ht
    exact ⟨by rw [h1], h2⟩
theorem exp_inj : ∀ {t u : List (Int × Int)}, Can t → Can u → expT t = expT u → t = u
  | [], [], _, _, _ => rfl
  | [], q :: u, _, hu, h => by
    obtain ⟨k, hk⟩ : ∃ k, q.2.toNat = k + 1 := ⟨q.2.toNat - 1, by have := hu.1; omega⟩
    simp [expT, hk, List.replicate_succ] at h
  | p :: t, [], ht, _, h => by
    obtain ⟨k, hk⟩ : ∃ k, p.2.toNat = k + 1 := ⟨p.2.toNat - 1, by have := ht.1; omega⟩
    simp [expT, hk, List.replicate_succ] at h
  | p :: t, q :: u, ht, hu, h => by
    have hp := ht.1
    have hq := hu.1
    have h1 : p.1 = q.1 := by
      obtain ⟨k, hk⟩ : ∃ k, p.2.toNat = k + 1 := ⟨p.2.toNat - 1, by omega⟩
      obtain ⟨k', hk'⟩ : ∃ k, q.2.toNat = k + 1 := ⟨q.2.toNat - 1, by omega⟩
      simp only [expT, hk, hk', List.replicate_succ, List.cons_append, List.cons.injEq] at h
      exact h.1
    simp only [expT] at h
    rw [← h1] at h
    obtain ⟨h2, h3⟩ := rep_inj h (can_head ht) (by rw [h1]; exact can_head hu)
    rw [exp_inj ht.2.2 hu.2.2 h3]
    have : p = q := Prod.ext h1 (by omega)
    rw [this]

theorem getK_setK {γ : Type} : ∀ (l : List (Int × γ)) (n k : Int) (v : γ), getK (setK l n v) k = if k = n then some v else getK l k
  | [], n, k, v => by simp only [setK, getK]
  | (a, u) :: l, n, k, v => by
    simp only [setK]
    by_cases h : n = a
    · subst h
      simp only [if_true, getK]
      by_cases hk : k = n
      · simp [hk]
      · simp [hk]
    · simp only [if_neg h, getK, getK_setK l n k v]
      by_cases hk : k = a
      · subst hk
        have : ¬ k = n := fun e => h e.symm
        simp [this]
      · simp [hk]
theorem at_setK (m : PM) (lot k : Int) (t : List (Int × Int)) : PM.at ⟨setK m.l lot t⟩ k = if k = lot then t else m.at k := by
  unfold PM.at
  rw [getK_setK]
  split <;> rfl
theorem at_backK (m : PM) (lot k : Int) (t : List (Int × Int)) (h : m.at lot ≠ []) : PM.at ⟨backK m.l lot t⟩ k = if k = lot then t else m.at k := by
  have : (getK m.l lot).isNone = false := by
    unfold PM.at at h
    cases hg : getK m.l lot with
    | none => rw [hg] at h; simp at h
    | some t => rfl
  unfold backK
  rw [this]
  exact at_setK m lot k t

/-- A pile, as a list of units; at most c parts, and at most u units. -/
structure Pile (t : List (Int × Int)) (E : List Int) (c u : Nat) : Prop where
  can : Can t
  exp : expT t = E
  len : t.length ≤ c
  units : E.length ≤ u

theorem expT_last {s : List (Int × Int)} {p : Int × Int} : (expT (s ++ [p])).length = (expT s).length + p.2.toNat := by
  rw [expT_append]; simp [expT]

theorem cPut_spec {m : PM} {lot o n : Int} {E : List Int} {c u : Nat} (h : Pile (m.at lot) E c u) (h0 : 0 ≤ n) (hn : n ≤ 1073741824) (hc : c < 1073741824) (hu : u < 1099511627776) :
    ∃ m', cPut m lot o n = some m' ∧ (∀ k, k ≠ lot → m'.at k = m.at k) ∧ Pile (m'.at lot) (E ++ List.replicate n.toNat o) (c + 1) (u + n.toNat) := by
  unfold cPut
  by_cases hz : n = 0
  · subst hz
    refine ⟨m, by simp, fun _ _ => rfl, h.can, by simpa using h.exp, by have := h.len; omega, by simpa using Nat.le_trans h.units (Nat.le_refl _)⟩
  · rw [if_neg (by simpa using hz)]
    have push : (∀ q, (m.at lot).getLast? = some q → q.1 ≠ o) → ∃ m' : PM, ((appI (m.at lot) [(o, n)]).bind fun x8 => some (⟨setK m.l lot x8⟩ : PM)) = some m' ∧ (∀ k, k ≠ lot → m'.at k = m.at k) ∧ Pile (m'.at lot) (E ++ List.replicate n.toNat o) (c + 1) (u + n.toNat) := by
      intro hq
      rw [appI_some (by have := h.len; simp; omega), Option.bind_some]
      refine ⟨_, rfl, fun k hk => by rw [at_setK, if_neg hk], ?_⟩
      rw [at_setK, if_pos rfl]
      refine ⟨can_append.2 ⟨h.can, by simp only; omega, hq⟩, by rw [expT_append, h.exp]; simp [expT], by have := h.len; simp; omega, by have := h.units; simp; omega⟩
    rcases List.eq_nil_or_concat (m.at lot) with hnil | ⟨s, p, hsp⟩
    · have hnl : ¬ (0 : Int) < ((m.at lot).length : Int) := by rw [hnil]; simp
      rw [if_neg (by simpa using hnl), Option.bind_some, if_neg (by decide)]
      exact push (by rw [hnil]; simp)
    · have hsp : m.at lot = s ++ [p] := by simpa using hsp
      have hlen : (m.at lot).length = s.length + 1 := by rw [hsp]; simp
      have hget : getI (m.at lot) (s.length : Int) = some p := by
        rw [getI_nat (by omega)]
        simp only [hsp, List.getElem_concat_length]
      have hcl := h.len
      rw [if_pos (by simp [hlen]), hlen, subI_some (by unfold inI; omega), Option.bind_some]
      rw [show (((s.length + 1 : Nat) : Int) - 1) = (s.length : Int) by omega, hget, Option.bind_some, Option.bind_some]
      by_cases ho : p.1 = o
      · rw [if_pos (by simp [ho]), Option.bind_some, hget, Option.bind_some]
        have hpu : p.2.toNat ≤ u := by have h1 := h.units; rw [← h.exp, hsp, expT_last] at h1; omega
        have hp1 : 1 ≤ p.2 := by have h1 := h.can; rw [hsp] at h1; exact (can_append.1 h1).2.1
        rw [addI_some (by unfold inI; omega), Option.bind_some, Option.bind_some]
        refine ⟨_, rfl, fun k hk => by rw [at_backK _ _ _ _ (by rw [hsp]; simp), if_neg hk], ?_⟩
        rw [at_backK _ _ _ _ (by rw [hsp]; simp), if_pos rfl, Int.toNat_natCast]
        have hset : (m.at lot).set s.length (p.1, p.2 + n) = s ++ [(p.1, p.2 + n)] := by rw [hsp]; simp
        rw [hset]
        have hcan := h.can
        rw [hsp] at hcan
        have hca := can_append.1 hcan
        refine ⟨can_append.2 ⟨hca.1, by simp only; omega, hca.2.2⟩, ?_, by simp; omega, by have := h.units; simp; omega⟩
        have e1 : (p.2 + n).toNat = p.2.toNat + n.toNat := by omega
        have hexp := h.exp
        rw [hsp, expT_append] at hexp
        rw [expT_append, ← hexp]
        simp only [expT, List.append_nil]
        rw [e1, ← List.replicate_append_replicate, ho, List.append_assoc]
      · rw [if_neg (by simp [ho])]
        refine push fun q hq => ?_
        rw [hsp] at hq
        simp at hq
        rw [← hq]; exact ho

theorem can_dropFirst {p : Int × Int} {t : List (Int × Int)} {q : Int} (h : Can (p :: t)) (hq : 1 ≤ q) : Can ((p.1, q) :: t) := ⟨hq, h.2.1, h.2.2⟩

theorem cTake_spec {m : PM} {frm to n : Int} {E T : List Int} {c u : Nat} (hne : frm ≠ to) (hE : Pile (m.at frm) E c u) (hT : Pile (m.at to) T c u) (h1 : 0 ≤ n) (hn : n.toNat ≤ E.length) (hnb : n ≤ 1073741824) (hc : 2 * c < 1073741823) (hu : u + n.toNat < 1099511627776) :
    ∃ m', cTake m frm to n = some m' ∧ (∀ k, k ≠ frm → k ≠ to → m'.at k = m.at k) ∧ Pile (m'.at frm) (E.drop n.toNat) c u ∧ Pile (m'.at to) (T ++ E.take n.toNat) (2 * c + 1) (u + n.toNat) := by
  unfold cTake
  refine Exists.elim (loop_down (body := cTake_L frm to)
    (fun s => 0 ≤ s.1 ∧ s.1 ≤ n ∧ (∀ k, k ≠ frm → k ≠ to → s.2.at k = m.at k) ∧ Pile (s.2.at frm) (E.drop (n - s.1).toNat) c u ∧
      ∃ d, d + (s.2.at frm).length ≤ c + (if s.1 = 0 then 1 else 0) ∧ Pile (s.2.at to) (T ++ E.take (n - s.1).toNat) (c + d) (u + (n - s.1).toNat))
    (fun s => if s.1 = 0 then 0 else (s.2.at frm).length + 1)
    (fun f => ∃ s, f = .ex 0 s ∧ (∀ k, k ≠ frm → k ≠ to → s.2.at k = m.at k) ∧ Pile (s.2.at frm) (E.drop n.toNat) c u ∧ Pile (s.2.at to) (T ++ E.take n.toNat) (2 * c + 1) (u + n.toNat)) ?_ (n, m)
    ⟨h1, Int.le_refl _, fun _ _ _ => rfl, by simpa using hE, 0, by have := hE.len; simp only; omega, by simpa using hT⟩ ((m.at frm).length + 2) (by simp only; split <;> omega)) ?_
  · rintro ⟨r, cur⟩ ⟨hr0, hrn, hoth, hF, d, hd, hTo⟩
    simp only at hr0 hrn hoth hF hd hTo
    unfold cTake_L
    dsimp only
    by_cases hz : r = 0
    · right
      subst hz
      refine ⟨.ex 0 (0, cur), by simp, trivial, _, rfl, hoth, by simpa using hF, ?_⟩
      simp only [if_true] at hd
      have e : (n - 0).toNat = n.toNat := by simp
      rw [e] at hTo
      exact ⟨hTo.can, hTo.exp, Nat.le_trans hTo.len (by omega), hTo.units⟩
    · left
      rw [if_pos (by simp; omega)]
      simp only [hz, if_false] at hd ⊢
      cases hlst : cur.at frm with
      | nil =>
        exfalso
        have := hF.exp
        rw [hlst] at this
        simp only [expT] at this
        have := congrArg List.length this
        simp only [List.length_nil, List.length_drop] at this
        omega
      | cons p t =>
        rw [hlst] at hF
        have hp1 : 1 ≤ p.2 := hF.can.1
        have hexp := hF.exp
        simp only [expT] at hexp
        have hget : getI (p :: t) 0 = some p := by simp [getI]
        have hlc := hF.len
        simp only [List.length_cons] at hlc
        rw [hget, Option.bind_some]
        by_cases hle : p.2 ≤ r
        · -- the whole part goes
          have hmin : min r p.2 = p.2 := by omega
          rw [hmin, if_pos (by simp), sliceI_some (by omega) (by simp; omega) (by simp), Option.bind_some, Option.bind_some]
          have e1 : List.drop (1 : Int).toNat (List.take (((p :: t).length : Nat) : Int).toNat (p :: t)) = t := by simp
          rw [e1]
          have hto : PM.at ⟨setK cur.l frm t⟩ to = cur.at to := by rw [at_setK, if_neg (fun e => hne e.symm)]
          have hTo' : Pile (PM.at ⟨setK cur.l frm t⟩ to) (T ++ E.take (n - r).toNat) (c + d) (u + (n - r).toNat) := by rw [hto]; exact hTo
          rw [hlst] at hd
          simp only [List.length_cons] at hd
          obtain ⟨m2, hm2, ho2, hP2⟩ := cPut_spec (o := p.1) (n := p.2) hTo' (by omega) (by omega) (by omega) (by omega)
          rw [hm2, Option.bind_some, subI_some (by unfold inI; omega), Option.bind_some]
          have hfrm : m2.at frm = t := by rw [ho2 _ hne, at_setK, if_pos rfl]
          have e2 : (n - (r - p.2)).toNat = (n - r).toNat + p.2.toNat := by omega
          have hdrop : E.drop ((n - r).toNat + p.2.toNat) = expT t := by
            rw [← List.drop_drop, ← hexp]
            simp
          have htk : E.take ((n - r).toNat + p.2.toNat) = E.take (n - r).toNat ++ List.replicate p.2.toNat p.1 := by
            rw [List.take_add, ← hexp]
            simp
          refine ⟨_, rfl, ⟨by simp only; omega, by simp only; omega, fun k h1 h2 => ?_, ?_, d + 1, ?_, ?_⟩, ?_⟩
          · simp only; rw [ho2 _ h2, at_setK, if_neg h1]; exact hoth k h1 h2
          · simp only
            rw [hfrm, e2, hdrop]
            have hFu := hF.units
            rw [← hexp] at hFu
            simp only [List.length_append, List.length_replicate] at hFu
            exact ⟨hF.can.2.2, rfl, by omega, by omega⟩
          · simp only
            rw [hfrm]
            split <;> omega
          · simp only
            rw [e2, htk, ← List.append_assoc]
            exact ⟨hP2.can, hP2.exp, hP2.len, by have := hP2.units; omega⟩
          · simp only
            rw [hfrm]
            split <;> simp
        · -- a part of it goes
          have hmin : min r p.2 = r := by omega
          rw [hmin, if_neg (by simp; omega), Option.bind_some, subI_some (by unfold inI; have := hF.units; rw [← hexp] at this; simp at this; omega), Option.bind_some, Option.bind_some]
          have hne0 : cur.at frm ≠ [] := by rw [hlst]; simp
          have e1 : (p :: t).set (0 : Int).toNat (p.1, p.2 - r) = (p.1, p.2 - r) :: t := rfl
          rw [e1]
          have hto : PM.at ⟨backK cur.l frm ((p.1, p.2 - r) :: t)⟩ to = cur.at to := by rw [at_backK _ _ _ _ hne0, if_neg (fun e => hne e.symm)]
          have hTo' : Pile (PM.at ⟨backK cur.l frm ((p.1, p.2 - r) :: t)⟩ to) (T ++ E.take (n - r).toNat) (c + d) (u + (n - r).toNat) := by rw [hto]; exact hTo
          rw [hlst] at hd
          simp only [List.length_cons] at hd
          obtain ⟨m2, hm2, ho2, hP2⟩ := cPut_spec (o := p.1) (n := r) hTo' (by omega) (by omega) (by omega) (by omega)
          rw [hm2, Option.bind_some, subI_some (by unfold inI; omega), Option.bind_some]
          have hfrm : m2.at frm = (p.1, p.2 - r) :: t := by rw [ho2 _ hne, at_backK _ _ _ _ hne0, if_pos rfl]
          have e2 : (n - (r - r)).toNat = (n - r).toNat + r.toNat := by omega
          have erep : List.replicate p.2.toNat p.1 = List.replicate r.toNat p.1 ++ List.replicate (p.2 - r).toNat p.1 := by
            rw [List.replicate_append_replicate]; congr 1; omega
          have hdrop : E.drop ((n - r).toNat + r.toNat) = expT ((p.1, p.2 - r) :: t) := by
            rw [← List.drop_drop, ← hexp, erep, List.append_assoc]
            simp [expT]
          have htk : E.take ((n - r).toNat + r.toNat) = E.take (n - r).toNat ++ List.replicate r.toNat p.1 := by
            rw [List.take_add, ← hexp, erep, List.append_assoc]
            simp
          refine ⟨_, rfl, ⟨by simp only; omega, by simp only; omega, fun k h1 h2 => ?_, ?_, d + 1, ?_, ?_⟩, ?_⟩
          · simp only; rw [ho2 _ h2, at_backK _ _ _ _ hne0, if_neg h1]; exact hoth k h1 h2
          · simp only
            rw [hfrm, e2, hdrop]
            refine ⟨can_dropFirst hF.can (by omega), rfl, by simpa using hlc, ?_⟩
            rw [← hdrop]
            have := hF.units
            simp only [List.length_drop] at this ⊢
            omega
          · simp only
            rw [hfrm]
            simp
            omega
          · simp only
            rw [e2, htk, ← List.append_assoc]
            exact ⟨hP2.can, hP2.exp, hP2.len, by have := hP2.units; omega⟩
          · simp
  · rintro f ⟨hf, he, s, rfl, hs⟩
    rw [hf, Option.bind_some]
    exact ⟨s.2, rfl, hs⟩
end Go.Proofs.Ytbanncpkgbiklaa

namespace Go.Proofs.Ytbanncpkgbiklaa
open Go.Gb
set_option linter.unusedVariables false
set_option linter.unusedSimpArgs false

/-- The units of each lot: n units are brought to a lot, .. -/
def opE (E : Int → List Int) (lot n : Int) : Int → List Int := fun k => if k = lot then E k ++ List.replicate n.toNat lot else E k
/-- .. the first n units go from a lot to another one. -/
def mvE (E : Int → List Int) (f t n : Int) : Int → List Int := fun k => if k = f then (E f).drop n.toNat else if k = t then E t ++ (E f).take n.toNat else E k
def evE (E : Int → List Int) (m : Move) : Int → List Int :=
  if m.Kind = 0 then opE E m.To m.N else if m.Kind = 1 then mvE E m.From m.To m.N else if m.Kind = 2 then mvE E m.From 0 m.N else if m.Kind = 3 then mvE E m.From (-1) m.N else E
def stE (l : List Account) : Nat → Int → List Int
  | 0 => fun _ => []
  | i + 1 => match l[i]? with
    | some a => opE (stE l i) a.Lot a.Units
    | none => stE l i
def evs (ms : List Move) (E : Int → List Int) : Nat → Int → List Int
  | 0 => E
  | i + 1 => match ms[i]? with
    | some m => evE (evs ms E i) m
    | none => evs ms E i

/-- Each account has as many units as the ledger says; other lots have none. -/
structure Cons (now : List Account) (E : Int → List Int) : Prop where
  len : ∀ a ∈ now, (E a.Lot).length = a.Units.toNat
  rest : ∀ k, 1 ≤ k → (∀ a ∈ now, a.Lot ≠ k) → E k = []

theorem stE_spec {l : List Account} (hR : RightP l) : ∀ i, i ≤ l.length → (∀ j (hj : j < l.length), j < i → stE l i l[j].Lot = List.replicate l[j].Units.toNat l[j].Lot) ∧ ∀ k, (∀ j (hj : j < l.length), j < i → l[j].Lot ≠ k) → stE l i k = []
  | 0, _ => ⟨fun _ _ h => absurd h (Nat.not_lt_zero _), fun _ _ => rfl⟩
  | i + 1, hi => by
    obtain ⟨h1, h2⟩ := stE_spec hR i (by omega)
    have hlt : i < l.length := by omega
    simp only [stE, List.getElem?_eq_getElem hlt]
    constructor
    · intro j hj hji
      unfold opE
      rcases Nat.lt_or_ge j i with h | h
      · have := (List.pairwise_iff_getElem.1 hR.2.1) j i hj hlt h
        rw [if_neg (by omega)]
        exact h1 j hj h
      · obtain rfl : j = i := by omega
        rw [if_pos rfl, h2 _ fun j' hj' hlt' => by have := (List.pairwise_iff_getElem.1 hR.2.1) j' j hj' hj hlt'; omega]
        simp
    · intro k hk
      unfold opE
      rw [if_neg fun e => hk i hlt (by omega) e.symm]
      exact h2 k fun j hj hji => hk j hj (by omega)
theorem stE_cons {l : List Account} (hR : RightP l) : Cons l (stE l l.length) := by
  obtain ⟨h1, h2⟩ := stE_spec hR l.length (Nat.le_refl _)
  refine ⟨fun a ha => ?_, fun k _ hk => h2 k fun j hj _ => hk _ (List.getElem_mem hj)⟩
  obtain ⟨j, hj, rfl⟩ := List.getElem_of_mem ha
  rw [h1 j hj hj]
  simp

theorem modify_mem {l : List Account} {i : Nat} {f : Account → Account} {b : Account} (h : b ∈ l.modify i f) : (∃ hi : i < l.length, b = f l[i]) ∨ ∃ k, ∃ hk : k < l.length, k ≠ i ∧ b = l[k] := by
  obtain ⟨k, hk, rfl⟩ := List.getElem_of_mem h
  simp only [List.length_modify] at hk
  rw [List.getElem_modify]
  split
  · rename_i e; subst e; exact .inl ⟨hk, rfl⟩
  · rename_i e; exact .inr ⟨k, hk, fun h => e h.symm, rfl⟩
theorem lot_inj {l : List Account} (hR : RightP l) {i j : Nat} (hi : i < l.length) (hj : j < l.length) (h : l[i].Lot = l[j].Lot) : i = j := by
  rcases Nat.lt_trichotomy i j with hij | hij | hij
  · have := (List.pairwise_iff_getElem.1 hR.2.1) i j hi hj hij; omega
  · exact hij
  · have := (List.pairwise_iff_getElem.1 hR.2.1) j i hj hi hij; omega

/-- Taking units away, and bringing them to a place that is no account, or to another account. -/
theorem cons_mv {l : List Account} {E : Int → List Int} {i : Nat} {to n : Int} (hR : RightP l) (h : Cons l E) (hi : i < l.length) (hn : 1 ≤ n) (hle : n ≤ l[i].Units) (hto : to ≤ 0) :
    Cons (l.modify i fun a => { a with Units := a.Units - n }) (mvE E l[i].Lot to n) := by
  have hpos : ∀ k (hk : k < l.length), 1 ≤ l[k].Lot := fun k hk => (hR.1 _ (List.getElem_mem hk)).1
  constructor
  · intro b hb
    rcases modify_mem hb with ⟨_, rfl⟩ | ⟨k, hk, hki, rfl⟩
    · unfold mvE
      simp only [if_true, List.length_drop]
      rw [h.len _ (List.getElem_mem hi)]
      omega
    · unfold mvE
      rw [if_neg fun e => hki (lot_inj hR hk hi e), if_neg (by have := hpos k hk; omega)]
      exact h.len _ (List.getElem_mem hk)
  · intro k hk hnk
    unfold mvE
    have hne : k ≠ l[i].Lot := fun e => by
      have hm : (l.modify i fun a => { a with Units := a.Units - n })[i]'(by simpa using hi) ∈ (l.modify i fun a => { a with Units := a.Units - n }) := List.getElem_mem _
      refine hnk _ hm ?_
      rw [List.getElem_modify, if_pos rfl]
      exact e.symm
    rw [if_neg hne, if_neg (by omega)]
    refine h.rest k hk fun a ha => ?_
    obtain ⟨j, hj, rfl⟩ := List.getElem_of_mem ha
    have hm : (l.modify i fun a => { a with Units := a.Units - n })[j]'(by simpa using hj) ∈ (l.modify i fun a => { a with Units := a.Units - n }) := List.getElem_mem _
    have := hnk _ hm
    rw [List.getElem_modify] at this
    split at this <;> exact this

/-- What a move that succeeds is. -/
theorem doS_cases {l r : List Account} {m : Move} (h : doS l m = (r, 0)) :
    (m.Kind = 0 ∧ (∀ a ∈ l, a.Lot ≠ m.To) ∧ 1 ≤ m.To ∧ 0 ≤ m.N ∧ m.N ≤ 1073741824 ∧ r = insS l ⟨m.To, m.N, m.From == 1⟩) ∨
    (m.Kind = 1 ∧ m.From ≠ m.To ∧ 1 ≤ m.N ∧ m.N ≤ 1073741824 ∧ ∃ i j, ∃ hi : i < l.length, ∃ hj : j < l.length, i ≠ j ∧ l[i].Lot = m.From ∧ l[j].Lot = m.To ∧ l[j].Receives = true ∧ m.N ≤ l[i].Units ∧ l[j].Units + m.N ≤ 1073741824 ∧
      r = (l.modify i fun a => { a with Units := a.Units - m.N }).modify j fun a => { a with Units := a.Units + m.N }) ∨
    ((m.Kind = 2 ∨ m.Kind = 3) ∧ 1 ≤ m.N ∧ m.N ≤ 1073741824 ∧ ∃ i, ∃ hi : i < l.length, l[i].Lot = m.From ∧ m.N ≤ l[i].Units ∧ r = l.modify i fun a => { a with Units := a.Units - m.N }) := by
  have hst := doS_ok h
  unfold doS at h
  have hR := hst.right
  have hV := hst.valid
  simp only [hR, hV, and_self, not_true_eq_false, if_false] at h
  by_cases h0 : m.Kind = 0
  · left
    simp only [h0, if_true] at h
    cases hi : idx l m.To with
    | some i => simp [hi] at h
    | none =>
      simp only [hi, Option.isSome_none, Bool.false_eq_true, if_false] at h
      split at h
      · simp at h
      · simp only [Prod.mk.injEq, and_true] at h
        rcases hV with hv | hv | hv
        · exact ⟨h0, idx_none.1 hi, hv.2.1, hv.2.2.2.2.2.1, hv.2.2.2.2.2.2, h.symm⟩
        · omega
        · omega
  · right
    simp only [h0, if_false] at h
    cases hi : idx l m.From with
    | none => simp [hi] at h
    | some i =>
      obtain ⟨hi1, hi2, _⟩ := idx_some hi
      simp only [hi, List.getElem?_eq_getElem hi1, Option.getD_some] at h
      by_cases h1 : m.Kind = 1
      · left
        simp only [h1, if_true] at h
        cases hj : idx l m.To with
        | none => simp [hj] at h
        | some j =>
          obtain ⟨hj1, hj2, _⟩ := idx_some hj
          simp only [hj, List.getElem?_eq_getElem hj1, Option.getD_some] at h
          split at h
          · simp at h
          · split at h
            · simp at h
            · split at h
              · simp at h
              · rename_i c1 c2 c3
                simp only [Prod.mk.injEq, and_true] at h
                rcases hV with hv | hv | hv
                · omega
                · exact ⟨h1, hv.2.1, hv.2.2.1, hv.2.2.2, i, j, hi1, hj1, fun e => hv.2.1 (by rw [← hi2, ← hj2]; subst e; rfl), hi2, hj2, by simpa using c1, by omega, by omega, h.symm⟩
                · omega
      · right
        simp only [h1, if_false] at h
        split at h
        · simp at h
        · rename_i c1
          simp only [Prod.mk.injEq, and_true] at h
          rcases hV with hv | hv | hv
          · omega
          · omega
          · exact ⟨hv.1, hv.2.2.1, hv.2.2.2, i, hi1, hi2, by omega, h.symm⟩

theorem doS_cons {l r : List Account} {m : Move} {E : Int → List Int} (h : doS l m = (r, 0)) (hc : Cons l E) : Cons r (evE E m) := by
  have hst := doS_ok h
  have hR := hst.right
  rcases doS_cases h with ⟨h0, h1, h2, h3, h4, rfl⟩ | ⟨h0, h1, h2, h3, i, j, hi, hj, hij, hf, ht, hrc, hu, hm, rfl⟩ | ⟨h0, h2, h3, i, hi, hf, hu, rfl⟩
  · unfold evE
    rw [if_pos h0]
    constructor
    · intro b hb
      unfold opE
      rcases insS_mem.1 hb with rfl | hb
      · simp only [if_true]
        rw [hc.rest _ h2 h1]
        simp
      · rw [if_neg (h1 b hb)]
        exact hc.len b hb
    · intro k hk hnk
      unfold opE
      rw [if_neg fun e => hnk _ (insS_mem.2 (.inl rfl)) e.symm]
      exact hc.rest k hk fun a ha => hnk a (insS_mem.2 (.inr ha))
  · unfold evE
    rw [if_neg (by omega), if_pos h0, ← hf, ← ht]
    have hne : l[i].Lot ≠ l[j].Lot := fun e => hij (lot_inj hR hi hj e)
    constructor
    · intro b hb
      rcases modify_mem hb with ⟨_, rfl⟩ | ⟨k, hk, hki, rfl⟩
      · rw [List.getElem_modify, if_neg hij]
        unfold mvE
        simp only
        rw [if_neg fun e => hne e.symm, if_pos trivial, List.length_append, List.length_take, hc.len _ (List.getElem_mem hi), hc.len _ (List.getElem_mem hj)]
        have := hR.1 _ (List.getElem_mem hj)
        unfold okA at this
        omega
      · simp only [List.length_modify] at hk
        rw [List.getElem_modify]
        split
        · rename_i e; subst e
          unfold mvE
          simp only [if_true, List.length_drop]
          rw [hc.len _ (List.getElem_mem hi)]
          omega
        · rename_i e
          unfold mvE
          rw [if_neg fun e' => e (lot_inj hR hk hi e').symm, if_neg fun e' => hki (lot_inj hR hk hj e')]
          exact hc.len _ (List.getElem_mem hk)
    · intro k hk hnk
      have key : ∀ a ∈ l, a.Lot ≠ k := by
        intro a ha
        obtain ⟨q, hq, rfl⟩ := List.getElem_of_mem ha
        have hm : ((l.modify i fun a => { a with Units := a.Units - m.N }).modify j fun a => { a with Units := a.Units + m.N })[q]'(by simpa using hq) ∈ ((l.modify i fun a => { a with Units := a.Units - m.N }).modify j fun a => { a with Units := a.Units + m.N }) := List.getElem_mem _
        have := hnk _ hm
        rw [List.getElem_modify] at this
        split at this
        · rw [List.getElem_modify] at this; split at this <;> exact this
        · rw [List.getElem_modify] at this; split at this <;> exact this
      unfold mvE
      rw [if_neg fun e => key _ (List.getElem_mem hi) e.symm, if_neg fun e => key _ (List.getElem_mem hj) e.symm]
      exact hc.rest k hk key
  · unfold evE
    rw [if_neg (by omega), if_neg (by omega), ← hf]
    rcases h0 with h0 | h0
    · rw [if_pos h0]
      exact cons_mv hR hc hi h2 hu (by omega)
    · rw [if_neg (by omega), if_pos h0]
      exact cons_mv hR hc hi h2 hu (by omega)

/-- The piles are those that are told, with at most c parts and u units each. -/
def Match (m : PM) (E : Int → List Int) (c u : Nat) : Prop := ∀ k, Pile (m.at k) (E k) c u
theorem Pile.mono {t : List (Int × Int)} {E : List Int} {c u c' u' : Nat} (h : Pile t E c u) (hc : c ≤ c') (hu : u ≤ u') : Pile t E c' u' := ⟨h.can, h.exp, Nat.le_trans h.len hc, Nat.le_trans h.units hu⟩

theorem match_put {m : PM} {E : Int → List Int} {c u : Nat} {lot n : Int} (h : Match m E c u) (h0 : 0 ≤ n) (hn : n ≤ 1073741824) (hc : c < 1073741824) (hu : u < 1099511627776) :
    ∃ m', cPut m lot lot n = some m' ∧ Match m' (opE E lot n) (c + 1) (u + 1073741824) := by
  obtain ⟨m', h1, h2, h3⟩ := cPut_spec (o := lot) (h lot) h0 hn hc hu
  refine ⟨m', h1, fun k => ?_⟩
  unfold opE
  split
  · rename_i e; subst e; exact h3.mono (Nat.le_refl _) (by omega)
  · rename_i e; rw [h2 k e]; exact (h k).mono (by omega) (by omega)
theorem match_take {m : PM} {E : Int → List Int} {c u : Nat} {f t n : Int} (h : Match m E c u) (hne : f ≠ t) (h0 : 1 ≤ n) (hn : n ≤ 1073741824) (hle : n.toNat ≤ (E f).length) (hc : 2 * c < 1073741823) (hu : u + 1073741824 < 1099511627776) :
    ∃ m', cTake m f t n = some m' ∧ Match m' (mvE E f t n) (2 * c + 1) (u + 1073741824) := by
  obtain ⟨m', h1, h2, h3, h4⟩ := cTake_spec hne (h f) (h t) (by omega) hle hn hc (by omega)
  refine ⟨m', h1, fun k => ?_⟩
  unfold mvE
  split
  · rename_i e; subst e; exact h3.mono (by omega) (by omega)
  · rename_i e
    split
    · rename_i e2; subst e2; exact h4.mono (Nat.le_refl _) (by omega)
    · rename_i e2; rw [h2 k e e2]; exact (h k).mono (by omega) (by omega)

/-- One move in the trace. -/
theorem trace_step {m : PM} {E : Int → List Int} {c u : Nat} {l r : List Account} {mv : Move} (hd : doS l mv = (r, 0)) (hcn : Cons l E) (h : Match m E c u) (hc : 2 * c < 1073741823) (hu : u + 1073741824 < 1099511627776) :
    ∃ m', (if (mv.Kind == 0) = true then (cPut m mv.To mv.To mv.N).bind fun x => some x else
        (if (mv.Kind == 1) = true then (cTake m mv.From mv.To mv.N).bind fun x => some x else
          (if (mv.Kind == 2) = true then (cTake m mv.From 0 mv.N).bind fun x => some x else
            (if (mv.Kind == 3) = true then (cTake m mv.From (-1) mv.N).bind fun x => some x else some m).bind fun x => some x).bind fun x => some x).bind fun x => some x) = some m' ∧
      Match m' (evE E mv) (2 * c + 1) (u + 1073741824) := by
  have hst := doS_ok hd
  have hpos : ∀ k (hk : k < l.length), 1 ≤ l[k].Lot := fun k hk => (hst.right.1 _ (List.getElem_mem hk)).1
  rcases doS_cases hd with ⟨h0, h1, h2, h3, h4, _⟩ | ⟨h0, h1, h2, h3, i, j, hi, hj, hij, hf, ht, _, hu', hm, _⟩ | ⟨h0, h2, h3, i, hi, hf, hu', _⟩
  · obtain ⟨m', e, hm⟩ := match_put (lot := mv.To) h h3 h4 (by omega) (by omega)
    refine ⟨m', by rw [if_pos (by simp [h0]), e]; rfl, ?_⟩
    unfold evE
    rw [if_pos h0]
    exact fun k => (hm k).mono (by omega) (Nat.le_refl _)
  · have hlen := hcn.len _ (List.getElem_mem hi)
    rw [hf] at hlen
    obtain ⟨m', e, hm⟩ := match_take (f := mv.From) (t := mv.To) (n := mv.N) h h1 h2 h3 (by omega) hc hu
    refine ⟨m', by rw [if_neg (by simp [h0]), if_pos (by simp [h0]), e]; rfl, ?_⟩
    unfold evE
    rw [if_neg (by omega), if_pos h0]
    exact hm
  · have hlen := hcn.len _ (List.getElem_mem hi)
    rw [hf] at hlen
    have hfp := hpos i hi
    rw [hf] at hfp
    rcases h0 with h0 | h0
    · obtain ⟨m', e, hm⟩ := match_take (f := mv.From) (t := 0) (n := mv.N) h (by omega) h2 h3 (by omega) hc hu
      refine ⟨m', by rw [if_neg (by simp [h0]), if_neg (by simp [h0]), if_pos (by simp [h0]), e]; rfl, ?_⟩
      unfold evE
      rw [if_neg (by omega), if_neg (by omega), if_pos h0]
      exact hm
    · obtain ⟨m', e, hm⟩ := match_take (f := mv.From) (t := -1) (n := mv.N) h (by omega) h2 h3 (by omega) hc hu
      refine ⟨m', by rw [if_neg (by simp [h0]), if_neg (by simp [h0]), if_neg (by simp [h0]), if_pos (by simp [h0]), e]; rfl, ?_⟩
      unfold evE
      rw [if_neg (by omega), if_neg (by omega), if_neg (by omega), if_pos h0]
      exact hm

/-- The whole of a run that succeeds. -/
theorem cTrace_spec {l : List Account} {ms : List Move} {fin : List Account} {q : Int} (lot : Int) (hl : l.length ≤ 10) (hm : ms.length ≤ 22) (hrun : runS l ms = (fin, q, 0)) :
    ∃ t, cTrace l ms lot = some (t, 0) ∧ Can t ∧ expT t = evs ms (stE l l.length) ms.length lot ∧ Cons fin (evs ms (stE l l.length) ms.length) ∧ t.length ≤ 1073741824 ∧ (expT t).length ≤ 42949672960 := by
  have hR : RightP l := by
    unfold runS at hrun
    by_cases hR : RightP l
    · exact hR
    · rw [if_neg hR] at hrun; simp at hrun
  unfold cTrace
  rw [cRun_spec (by omega), Option.bind_some, hrun, if_neg (by simp)]
  refine Exists.elim (loop_up (body := cTrace_L0 l) (fun i s => s.2 = (i : Int) ∧ Match s.1 (stE l i) i (i * 1073741824)) l.length (fun f => ∃ s, f = .ex 0 s ∧ Match s.1 (stE l l.length) l.length (l.length * 1073741824)) ?_ ?_ (⟨[]⟩, 0)
    ⟨rfl, fun k => ⟨trivial, rfl, Nat.le_refl _, Nat.le_refl _⟩⟩ (l.length + 1) (by omega)) ?_
  · rintro i ⟨m, j⟩ hi ⟨rfl, hM⟩
    left
    unfold cTrace_L0
    rw [if_pos (by simpa using hi)]
    dsimp only
    have hok := hR.1 _ (List.getElem_mem hi)
    obtain ⟨m', e, hm'⟩ := match_put (lot := l[i].Lot) (n := l[i].Units) hM hok.2.2.1 hok.2.2.2 (by omega) (by omega)
    rw [getI_nat hi, Option.bind_some, e, Option.bind_some, addI_one (show i < 4611686018427387904 by omega), Option.bind_some]
    refine ⟨_, rfl, rfl, ?_⟩
    simp only [stE, List.getElem?_eq_getElem hi]
    exact fun k => (hm' k).mono (Nat.le_refl _) (by omega)
  · rintro ⟨m, j⟩ ⟨rfl, hM⟩
    refine ⟨.ex 0 (m, (l.length : Int)), ?_, trivial, _, rfl, hM⟩
    unfold cTrace_L0
    rw [if_neg (by simp)]
  · rintro f ⟨hf, he, s, rfl, hM0⟩
    rw [hf, Option.bind_some]
    dsimp only
    have hc0 := stE_cons hR
    generalize stE l l.length = E0 at hM0 hc0
    unfold runS at hrun
    rw [if_pos hR] at hrun
    have hpow : ∀ i, i ≤ 22 → 11 * 2 ^ i ≤ 11 * 2 ^ 22 := fun i hi => Nat.mul_le_mul_left _ (Nat.pow_le_pow_right (by omega) hi)
    refine Exists.elim (loop_up (body := cTrace_L1 ms) (fun i s => s.2 = (i : Int) ∧ i ≤ ms.length ∧ Match s.1 (evs ms E0 i) (11 * 2 ^ i - 1) ((10 + i) * 1073741824) ∧ ∃ now, Cons now (evs ms E0 i) ∧ runGo ms (ms.length - i) now i = (fin, q, 0)) ms.length
      (fun f => ∃ s, f = .ex 2 s ∧ Match s.1 (evs ms E0 ms.length) 100000000 42949672960 ∧ Cons fin (evs ms E0 ms.length)) ?_ ?_ (s.1, 0)
      ⟨rfl, by omega, fun k => (hM0 k).mono (by omega) (by omega), l, hc0, by simpa using hrun⟩ (ms.length + 1) (by omega)) ?_
    · rintro i ⟨m, j⟩ hi ⟨rfl, _, hM, now, hcn, hr⟩
      left
      have hdo : doS now ms[i] = ((doS now ms[i]).1, 0) := by
        obtain ⟨k, hk⟩ : ∃ k, ms.length - i = k + 1 := ⟨ms.length - i - 1, by omega⟩
        rw [hk, runGo] at hr
        simp only [List.getElem?_eq_getElem hi] at hr
        by_cases he : (doS now ms[i]).2 = 0
        · rw [← he]
        · rw [if_pos he] at hr
          simp only [Prod.mk.injEq] at hr
          exact absurd hr.2.2 he
      have hnext : runGo ms (ms.length - (i + 1)) (doS now ms[i]).1 (i + 1) = (fin, q, 0) := by
        obtain ⟨k, hk⟩ : ∃ k, ms.length - i = k + 1 := ⟨ms.length - i - 1, by omega⟩
        rw [hk, runGo] at hr
        simp only [List.getElem?_eq_getElem hi] at hr
        rw [if_neg (by rw [hdo]; simp)] at hr
        rw [show ms.length - (i + 1) = k by omega]
        exact hr
      have hp := hpow i (by omega)
      have hp2 : 11 * 2 ^ 22 < 100000000 := by decide
      obtain ⟨m', e, hm'⟩ := trace_step hdo hcn hM (by omega) (by omega)
      unfold cTrace_L1
      rw [if_pos (by simpa using hi)]
      dsimp only
      rw [getI_nat hi, Option.bind_some, e, Option.bind_some, addI_one (show i < 4611686018427387904 by omega), Option.bind_some]
      refine ⟨_, rfl, rfl, by omega, ?_, (doS now ms[i]).1, ?_, hnext⟩
      · simp only [evs, List.getElem?_eq_getElem hi]
        have hp3 : 11 * 2 ^ (i + 1) = 2 * (11 * 2 ^ i) := by rw [Nat.pow_succ]; omega
        have hp4 : 1 ≤ 2 ^ i := Nat.one_le_two_pow
        exact fun k => (hm' k).mono (by omega) (by omega)
      · simp only [evs, List.getElem?_eq_getElem hi]
        exact doS_cons hdo hcn
    · rintro ⟨m, j⟩ ⟨rfl, _, hM, now, hcn, hr⟩
      rw [Nat.sub_self] at hr
      simp only [runGo, Prod.mk.injEq] at hr
      obtain ⟨rfl, _⟩ := hr
      have hp := hpow ms.length hm
      have hp2 : 11 * 2 ^ 22 < 100000000 := by decide
      refine ⟨.ex 2 (m, (ms.length : Int)), ?_, trivial, _, rfl, fun k => (hM k).mono (by omega) (by omega), hcn⟩
      unfold cTrace_L1
      rw [if_neg (by simp)]
    · rintro f ⟨hf, he, s, rfl, hM, hcn⟩
      rw [hf, Option.bind_some]
      exact ⟨_, rfl, (hM lot).can, (hM lot).exp, hcn, Nat.le_trans (hM lot).len (show 100000000 ≤ 1073741824 by decide), ((hM lot).exp ▸ (hM lot).units : (expT (PM.at s.1 lot)).length ≤ 42949672960)⟩
theorem cTrace_fail {l : List Account} {ms : List Move} {fin : List Account} {q e : Int} (lot : Int) (hl : l.length + ms.length ≤ 536870912) (hrun : runS l ms = (fin, q, e)) (he : e ≠ 0) : cTrace l ms lot = some ([], e) := by
  unfold cTrace
  rw [cRun_spec hl, Option.bind_some, hrun, if_pos (by simpa using he)]
end Go.Proofs.Ytbanncpkgbiklaa

namespace Go.Proofs.Ytbanncpkgbiklaa
open Go.Gb
set_option linter.unusedVariables false
set_option linter.unusedSimpArgs false

theorem rSameTrace_spec {a b : List (Int × Int)} (hl : a.length ≤ 1073741824) : rSameTrace a b = some (decide (a = b)) := by
  unfold rSameTrace
  by_cases hlen : a.length = b.length
  · rw [if_neg (by simp; omega)]
    refine Exists.elim (loop_up (body := rSameTrace_L0 a b) (fun i s => s = (i : Int) ∧ ∀ j (hj : j < a.length), j < i → a[j] = b[j]'(by omega)) a.length
      (fun f => match f with | .go _ => False | .ex _ _ => a = b | .ret r => r = false ∧ a ≠ b) ?_ ?_ 0 ⟨rfl, fun j _ h => absurd h (Nat.not_lt_zero j)⟩ (a.length + b.length + 1) (by omega)) ?_
    · rintro i s hi ⟨rfl, hG⟩
      unfold rSameTrace_L0
      rw [if_pos (by simpa using hi), getI_nat hi, Option.bind_some, getI_nat (show i < b.length by omega), Option.bind_some]
      by_cases hok : a[i] = b[i]'(by omega)
      · left
        refine ⟨((i + 1 : Nat) : Int), ?_, rfl, fun j hj hji => ?_⟩
        · rw [if_neg (by simp [hok]), addI_one (show i < 4611686018427387904 by omega), Option.bind_some]
        · rcases Nat.lt_or_ge j i with h | h
          · exact hG j hj h
          · obtain rfl : j = i := by omega
            exact hok
      · right
        refine ⟨.ret false, by rw [if_pos (by simp [hok])], trivial, rfl, fun h => hok ?_⟩
        subst h; rfl
    · rintro s ⟨rfl, hG⟩
      refine ⟨.ex 0 (a.length : Int), ?_, trivial, List.ext_getElem hlen fun j h1 h2 => hG j h1 h1⟩
      unfold rSameTrace_L0
      rw [if_neg (by simp)]
    · rintro f ⟨hf, he, hp⟩
      rw [hf, Option.bind_some]
      cases f with
      | go s => exact he.elim
      | ex id s => simp only at hp; simp [hp]
      | ret r => obtain ⟨rfl, hp⟩ := hp; simp [hp]
  · rw [if_pos (by simp; omega)]
    have : a ≠ b := fun h => hlen (by rw [h])
    simp [this]

end Go.Proofs.Ytbanncpkgbiklaa

namespace Go.Proofs.Ytbanncpkgbiklaa
open Go.Gb
set_option linter.unusedVariables false
set_option linter.unusedSimpArgs false

theorem rRight_spec {l : List Account} (hl : l.length ≤ 1073741824) : rRight l = some (decide (RightP l)) := by
  let G : Nat → Prop := fun i => ∀ j (hj : j < l.length), j < i → okA l[j] ∧ (0 < j → (l[j - 1]'(by omega)).Lot < l[j].Lot)
  refine Exists.elim (loop_up (body := rRight_L0 l) (fun i s => s = (i : Int) ∧ G i) l.length
    (fun f => match f with | .go _ => False | .ex _ _ => G l.length | .ret r => r = false ∧ ¬ G l.length) ?_ ?_ 0 ⟨rfl, fun j _ h => absurd h (Nat.not_lt_zero j)⟩ (l.length + 1) (by omega)) ?_
  · rintro i s hi ⟨rfl, hG⟩
    have key : rRight_L0 l (i : Int) = some (if okA l[i] ∧ (0 < i → (l[i - 1]'(by omega)).Lot < l[i].Lot) then .go ((i + 1 : Nat) : Int) else .ret false) := by
      unfold rRight_L0
      rw [if_pos (by simpa using hi), getI_nat hi]
      simp only [Option.bind_some]
      have e0 : (0 < (i : Int)) ↔ 0 < i := by omega
      by_cases c1 : l[i].Lot < 1
      · have hn : ¬ (okA l[i] ∧ (0 < i → (l[i - 1]'(by omega)).Lot < l[i].Lot)) := by unfold okA; omega
        rw [if_neg hn]; simp [c1]
      by_cases c2 : 1073741824 < l[i].Lot
      · have hn : ¬ (okA l[i] ∧ (0 < i → (l[i - 1]'(by omega)).Lot < l[i].Lot)) := by unfold okA; omega
        rw [if_neg hn]; simp [c1, c2]
      by_cases c3 : l[i].Units < 0
      · have hn : ¬ (okA l[i] ∧ (0 < i → (l[i - 1]'(by omega)).Lot < l[i].Lot)) := by unfold okA; omega
        rw [if_neg hn]; simp [c1, c2, c3]
      by_cases c4 : 1073741824 < l[i].Units
      · have hn : ¬ (okA l[i] ∧ (0 < i → (l[i - 1]'(by omega)).Lot < l[i].Lot)) := by unfold okA; omega
        rw [if_neg hn]; simp [c1, c2, c3, c4]
      simp only [c1, c2, c3, c4, decide_false, Bool.false_eq_true, if_false, Option.bind_some]
      rcases Nat.eq_zero_or_pos i with rfl | h0
      · have hn : (okA l[0] ∧ (0 < 0 → (l[0 - 1]'(by omega)).Lot < l[0].Lot)) := by unfold okA; omega
        rw [if_pos hn]; simp [addI, inI]
      · have e1 : (i : Int) - 1 = ((i - 1 : Nat) : Int) := by omega
        rw [if_pos (by simpa using h0), subI_some (by unfold inI; omega), e1]
        simp only [Option.bind_some, getI_nat (show i - 1 < l.length by omega)]
        by_cases c5 : l[i].Lot ≤ (l[i - 1]'(by omega)).Lot
        · have hn : ¬ (okA l[i] ∧ (0 < i → (l[i - 1]'(by omega)).Lot < l[i].Lot)) := by unfold okA; omega
          rw [if_neg hn]; simp [c5]
        · have hn : (okA l[i] ∧ (0 < i → (l[i - 1]'(by omega)).Lot < l[i].Lot)) := by unfold okA; omega
          rw [if_pos hn]; simp [c5, addI_one (show i < 4611686018427387904 by omega)]
    by_cases hok : okA l[i] ∧ (0 < i → (l[i - 1]'(by omega)).Lot < l[i].Lot)
    · rw [if_pos hok] at key
      left
      refine ⟨_, key, rfl, fun j hj hji => ?_⟩
      rcases Nat.lt_or_ge j i with h | h
      · exact hG j hj h
      · obtain rfl : j = i := by omega
        exact hok
    · rw [if_neg hok] at key
      right
      exact ⟨_, key, trivial, rfl, fun h => hok (h i hi hi)⟩
  · rintro s ⟨rfl, hG⟩
    refine ⟨.ex 0 (l.length : Int), ?_, trivial, hG⟩
    unfold rRight_L0
    rw [if_neg (by simp)]
  · rintro f ⟨hf, he, hp⟩
    unfold rRight
    rw [hf]
    cases f with
    | go s => exact he.elim
    | ex id s =>
      simp only at hp
      simp only [Option.bind_some, Option.some.injEq]
      rw [decide_eq_decide]
      constructor
      · intro h
        refine ⟨fun a ha => ?_, pairwise_of_steps fun j hj h0 => (hp j hj hj).2 h0, by omega⟩
        obtain ⟨j, hj, rfl⟩ := List.getElem_of_mem ha
        exact (hp j hj hj).1
      · intro h; have := h.2.2; omega
    | ret r =>
      obtain ⟨rfl, hp⟩ := hp
      simp only [Option.bind_some, Option.some.injEq]
      symm
      rw [decide_eq_false_iff_not]
      intro h
      exact hp fun j hj _ => ⟨h.1 _ (List.getElem_mem hj), steps_of_pairwise h.2.1 j hj⟩

theorem rValid_spec (m : Move) : rValid m = some (decide (ValidP m)) := by
  unfold rValid ValidP
  by_cases h0 : m.Kind = 0
  · simp only [h0, beq_self_eq_true, if_true]
    refine congrArg some ?_
    rw [Bool.eq_iff_iff]
    simp only [Bool.and_eq_true, Bool.or_eq_true, decide_eq_true_eq, beq_iff_eq]
    constructor
    · rintro ⟨⟨⟨⟨h1, h2⟩, h3⟩, h4⟩, h5⟩
      exact .inl ⟨trivial, h1, h2, by omega, by omega, h4, h5⟩
    · rintro (⟨_, h1, h2, h3, h4, h5, h6⟩ | ⟨h, _⟩ | ⟨h, _⟩)
      · exact ⟨⟨⟨⟨h1, h2⟩, by omega⟩, h5⟩, h6⟩
      · omega
      · omega
  · by_cases h1 : m.Kind = 1
    · by_cases h2 : m.From = m.To <;> simp [h1, h2]
      rw [Bool.and_comm]
      by_cases a5 : 1 ≤ m.N <;> by_cases a6 : m.N ≤ 1073741824 <;> simp [a5, a6, h2]
    · by_cases h2 : m.Kind = 2
      · by_cases h3 : m.To = 0 <;> simp [h2, h3]
      · by_cases h4 : m.Kind = 3
        · by_cases h3 : m.To = 0 <;> simp [h4, h3]
        · simp [h0, h1, h2, h4]

/-- The reference's place of a lot: -1, if there is none. -/
def idxI (l : List Account) (lot : Int) : Int := match idx l lot with | none => -1 | some i => (i : Int)
theorem rAt_spec {l : List Account} (lot : Int) (hl : l.length ≤ 1073741824) : rAt l lot = some (idxI l lot) := by
  unfold idxI
  refine Exists.elim (loop_up (body := rAt_L0 l lot) (fun i s => s = (i : Int) ∧ ∀ j (hj : j < l.length), j < i → l[j].Lot ≠ lot) l.length
    (fun f => match f with | .go _ => False | .ex _ _ => idx l lot = none | .ret r => ∃ i : Nat, r = (i : Int) ∧ idx l lot = some i) ?_ ?_ 0 ⟨rfl, fun j _ h => absurd h (Nat.not_lt_zero j)⟩ (l.length + 1) (by omega)) ?_
  · rintro i s hi ⟨rfl, hG⟩
    unfold rAt_L0
    rw [if_pos (by simpa using hi), getI_nat hi]
    simp only [Option.bind_some]
    by_cases hok : l[i].Lot = lot
    · right
      exact ⟨.ret (i : Int), by simp [hok], trivial, i, rfl, idx_unique hi hok hG⟩
    · left
      refine ⟨((i + 1 : Nat) : Int), by simp [hok, addI_one (show i < 4611686018427387904 by omega)], rfl, fun j hj hji => ?_⟩
      rcases Nat.lt_or_ge j i with h | h
      · exact hG j hj h
      · obtain rfl : j = i := by omega
        exact hok
  · rintro s ⟨rfl, hG⟩
    refine ⟨.ex 0 (l.length : Int), ?_, trivial, ?_⟩
    · unfold rAt_L0
      rw [if_neg (by simp)]
    · refine idx_none.2 fun a ha => ?_
      obtain ⟨j, hj, rfl⟩ := List.getElem_of_mem ha
      exact hG j hj hj
  · rintro f ⟨hf, he, hp⟩
    unfold rAt
    rw [hf]
    cases f with
    | go s => exact he.elim
    | ex id s => simp only at hp; simp [hp]
    | ret r => simp only at hp; obtain ⟨i, rfl, hp⟩ := hp; simp [hp]
theorem rUnits_spec {l : List Account} (lot : Int) (hl : l.length ≤ 1073741824) : rUnits l lot = cUnits l lot := by
  rw [cUnits_spec lot hl]
  unfold rUnits
  rw [rAt_spec lot hl, Option.bind_some]
  unfold idxI
  cases h : idx l lot with
  | none => rfl
  | some i =>
    obtain ⟨h1, _⟩ := idx_some h
    dsimp only
    rw [if_neg (by simp), getI_nat h1]
    simp [List.getElem?_eq_getElem h1]

theorem rTotal_spec {l : List Account} (hl : l.length ≤ 1073741824) : rTotal l = cTotal l := by
  have hR := rRight_spec hl
  by_cases h : RightP l
  · rw [cTotal_spec h]
    have hlen := h.2.2
    have hb : ∀ i, i ≤ l.length → 0 ≤ sumU (l.take i) ∧ sumU (l.take i) ≤ (i : Int) * 1073741824 := by
      intro i
      induction i with
      | zero => intro _; simp [sumU]
      | succ i ih =>
        intro hi
        have h1 := ih (by omega)
        have h2 := h.1 _ (List.getElem_mem (show i < l.length by omega))
        unfold okA at h2
        rw [sumU_take (show i < l.length by omega)]
        constructor
        · omega
        · have : ((i + 1 : Nat) : Int) * 1073741824 = (i : Int) * 1073741824 + 1073741824 := by push_cast; omega
          omega
    unfold rTotal
    refine Exists.elim (loop_up (body := rTotal_L0 l) (fun i s => s = (sumU (l.take i), (i : Int))) l.length (fun f => ∃ j, f = .ex 0 (sumU l, j)) ?_ ?_ (0, 0) (by simp [sumU]) (l.length + 1) (by omega)) ?_
    · rintro i s hi rfl
      left
      refine ⟨_, ?_, rfl⟩
      have h1 := hb (i + 1) (by omega)
      have e := sumU_take hi
      unfold rTotal_L0
      rw [if_pos (by simpa using hi), hR]
      simp only [Option.bind_some, h, decide_true, if_true]
      rw [getI_nat hi, Option.bind_some, addI_some (by rw [← e]; unfold inI; have : (((i + 1 : Nat) : Int)) ≤ 20000 := by omega
                                                       omega), Option.bind_some, addI_one (show i < 4611686018427387904 by omega), Option.bind_some, e]
    · rintro s rfl
      refine ⟨.ex 0 (sumU l, (l.length : Int)), ?_, trivial, _, rfl⟩
      unfold rTotal_L0
      rw [if_neg (by simp)]
      simp
    · rintro f ⟨hf, he, j, rfl⟩
      rw [hf]
      rfl
  · unfold rTotal cTotal
    rw [cRight_spec hl, Option.bind_some, if_pos (by simp [h])]
    simp only [iterL]
    unfold rTotal_L0
    rw [hR]
    simp only [Option.bind_some, h, decide_false]
    by_cases h0 : (0 : Int) < (l.length : Int)
    · simp [h0]
    · simp [h0]

/-- The loop that moves greater accounts up. -/
theorem rDo_loop {m : Move} {x : Account} (hx : x.Lot = m.To) {l : List Account} (hl : l.length ≤ 536870912) (hs : l.Pairwise (fun a b => a.Lot < b.Lot)) (hne : ∀ a ∈ l, a.Lot ≠ m.To) (d : Account) {fuel : Nat} (hf : l.length + 1 < fuel) :
    ∃ s k j, iterL (rDo_L0 m) fuel (l ++ [d], (l.length : Int)) = some (.ex j (s, ((k : Nat) : Int))) ∧ k < s.length ∧ s.set k x = insS l x := by
  have key : ∀ (k : Nat) (fuel : Nat) (s : List Account), k ≤ l.length → k < fuel → s.length = l.length + 1 → s.take k = l.take k → s.drop (k + 1) = l.drop k → (∀ j (hj : j < l.length), k ≤ j → m.To < l[j].Lot) →
      ∃ s' k' j, iterL (rDo_L0 m) fuel (s, (k : Int)) = some (.ex j (s', ((k' : Nat) : Int))) ∧ k' < s'.length ∧ s'.set k' x = insS l x := by
    intro k
    induction k with
    | zero =>
      intro fuel s hk hf hl1 h1 h2 h3
      obtain ⟨fuel, rfl⟩ : ∃ n, fuel = n + 1 := ⟨fuel - 1, by omega⟩
      refine ⟨s, 0, 0, ?_, by omega, ?_⟩
      · simp only [iterL]; unfold rDo_L0; rw [if_neg (by simp)]; simp
      · rw [← insS_eq x l 0 (by omega) (fun j _ h => absurd h (Nat.not_lt_zero j)) (fun h => by rw [hx]; have := h3 0 h (by omega); omega)]
        rw [List.set_eq_take_append_cons_drop, if_pos (by omega), h2]
        simp
    | succ k ih =>
      intro fuel s hk hf hl1 h1 h2 h3
      obtain ⟨fuel, rfl⟩ : ∃ n, fuel = n + 1 := ⟨fuel - 1, by omega⟩
      have hk1 : k < s.length := by omega
      have hk2 : k < l.length := by omega
      have e0 : s[k] = l[k] := by
        have : (s.take (k + 1))[k]? = (l.take (k + 1))[k]? := by rw [h1]
        rw [List.getElem?_take, List.getElem?_take, if_pos (by omega), List.getElem?_eq_getElem hk1, List.getElem?_eq_getElem hk2] at this
        simpa using this
      simp only [iterL]
      by_cases hc : m.To < l[k].Lot
      · have hb : rDo_L0 m (s, ((k + 1 : Nat) : Int)) = some (.go (s.set (k + 1) l[k], ((k : Nat) : Int))) := by
          unfold rDo_L0
          dsimp only
          have e1 : ((k + 1 : Nat) : Int) - 1 = (k : Int) := by omega
          rw [if_pos (by simp <;> omega), subI_some (by unfold inI; omega), e1]
          simp only [Option.bind_some, getI_nat hk1, e0, hc, decide_true, if_true, getI_nat (show k + 1 < s.length by omega), Int.toNat_natCast]
        rw [hb]
        dsimp only
        refine ih fuel _ (by omega) (by omega) (by simp; omega) ?_ ?_ ?_
        · rw [List.take_set_of_le (by omega)]
          have := congrArg (List.take k) h1
          rw [List.take_take, List.take_take, Nat.min_eq_left (by omega)] at this
          exact this
        · rw [List.drop_set, if_neg (by omega)]
          rw [show k + 1 - (k + 1) = 0 by omega, List.drop_eq_getElem_cons (show k < l.length by omega), ← h2, List.drop_eq_getElem_cons (show k + 1 < s.length by omega)]
          rfl
        · intro j hj hkj
          rcases Nat.eq_or_lt_of_le hkj with rfl | h
          · exact hc
          · exact h3 j hj h
      · have hb : rDo_L0 m (s, ((k + 1 : Nat) : Int)) = some (.ex 0 (s, ((k + 1 : Nat) : Int))) := by
          unfold rDo_L0
          dsimp only
          have e1 : ((k + 1 : Nat) : Int) - 1 = (k : Int) := by omega
          rw [if_pos (by simp <;> omega), subI_some (by unfold inI; omega), e1]
          simp only [Option.bind_some, getI_nat hk1, e0, hc, decide_false, Bool.false_eq_true, if_false]
        rw [hb]
        refine ⟨s, k + 1, 0, rfl, by omega, ?_⟩
        have hlt : l[k].Lot < m.To := by have := hne _ (List.getElem_mem hk2); omega
        rw [← insS_eq x l (k + 1) (by omega) (fun j hj hji => ?_) (fun h => ?_)]
        · rw [List.set_eq_take_append_cons_drop, if_pos (by omega), h2, h1]
          simp
        · rw [hx]
          rcases Nat.lt_or_ge j k with h | h
          · have := List.pairwise_iff_getElem.1 hs j k hj hk2 h; omega
          · obtain rfl : j = k := by omega
            exact hlt
        · rw [hx]; have := h3 (k + 1) h (by omega); omega
  exact key l.length fuel (l ++ [d]) (Nat.le_refl _) (by omega) (by simp) (by simp) (by simp) (fun j hj h => by omega)

theorem rDo_spec {l : List Account} (m : Move) (hl : l.length ≤ 536870912) : rDo l m = some (doS l m) := by
  unfold rDo doS
  rw [rRight_spec (by omega)]
  simp only [Option.bind_some]
  by_cases hR : RightP l
  · rw [rValid_spec]
    by_cases hV : ValidP m
    · simp only [hR, hV, decide_true, Bool.not_true, Bool.false_eq_true, if_false, Option.bind_some, and_self, not_true_eq_false, rAt_spec _ (show l.length ≤ 1073741824 by omega)]
      rw [appI_some (by simp; omega)]
      simp only [Option.bind_some, List.nil_append]
      by_cases h0 : m.Kind = 0
      · simp only [h0, beq_self_eq_true, if_true]
        unfold idxI
        cases hj : idx l m.To with
        | some j => simp
        | none =>
          simp only [Option.isSome_none, Bool.false_eq_true, if_false]
          rw [if_neg (by simp)]
          by_cases hn : 20000 ≤ l.length
          · rw [if_pos (by simp; omega), if_pos hn]
          · rw [if_neg (by simp; omega), if_neg hn, appI_some (by simp; omega), Option.bind_some]
            obtain ⟨s, k, j, hit, hk, hset⟩ := rDo_loop (m := m) (x := ⟨m.To, m.N, m.From == 1⟩) rfl hl hR.2.1 (fun a ha => idx_none.1 hj a ha) ⟨0, 0, false⟩ (fuel := (l ++ [(⟨0, 0, false⟩ : Account)]).length + 1) (by simp)
            rw [hit, Option.bind_some]
            dsimp only
            rw [getI_nat hk, Option.bind_some]
            rw [Int.toNat_natCast, hset]
      · have hb : (m.Kind == 0) = false := by simpa using h0
        simp only [hb, h0, Bool.false_eq_true, if_false]
        cases hi : idx l m.From with
        | none => simp [idxI, hi]
        | some i =>
          obtain ⟨hi1, hi2, _⟩ := idx_some hi
          have hui := (hR.1 _ (List.getElem_mem hi1))
          have hNb : 1 ≤ m.N ∧ m.N ≤ 1073741824 := by rcases hV with h | h | h <;> omega
          unfold okA at hui
          have ei : idxI l m.From = (i : Int) := by unfold idxI; rw [hi]
          rw [ei]
          have hi0 : ¬ ((i : Int) < 0) := by omega
          by_cases h1 : m.Kind = 1
          · cases hj : idx l m.To with
            | none => simp [h1, idxI, hj]
            | some j =>
              obtain ⟨hj1, hj2, _⟩ := idx_some hj
              have huj := (hR.1 _ (List.getElem_mem hj1))
              unfold okA at huj
              have ej : idxI l m.To = (j : Int) := by unfold idxI; rw [hj]
              have hj0 : ¬ ((j : Int) < 0) := by omega
              have em : max (j : Int) 0 = (j : Int) := by omega
              simp only [ej, em, h1, hi0, hj0, decide_false, Bool.and_false, Bool.or_self, Bool.false_eq_true, if_false, Option.bind_some, beq_self_eq_true, if_true, getI_nat hj1, getI_nat hi1, List.getElem?_eq_getElem hj1, List.getElem?_eq_getElem hi1, Option.getD_some, Int.toNat_natCast]
              cases hr : l[j].Receives
              · simp
              · simp only [Bool.not_true, Bool.false_eq_true, if_false]
                by_cases hc : l[i].Units < m.N
                · simp [hc]
                · simp only [hc, decide_false, Bool.false_eq_true, if_false]
                  rw [addI_some (show inI (l[j].Units + m.N) by unfold inI; omega)]
                  simp only [Option.bind_some]
                  by_cases hf : 1073741824 < l[j].Units + m.N
                  · simp [hf]
                  · simp only [hf, decide_false, Bool.false_eq_true, if_false]
                    rw [subI_some (show inI (l[i].Units - m.N) by unfold inI; omega)]
                    simp only [Option.bind_some]
                    have hij : i ≠ j := fun e => by
                      subst e
                      rcases hV with h | h | h
                      · omega
                      · exact h.2.1 (hi2.symm.trans hj2)
                      · omega
                    have e1 := set_modify hi1 (fun a => { a with Units := a.Units - m.N })
                    have hj1' : j < (l.modify i fun a => { a with Units := a.Units - m.N }).length := by simpa using hj1
                    have e2 : (l.modify i fun a => { a with Units := a.Units - m.N })[j] = l[j] := by simp [List.getElem_modify, hij]
                    rw [e1, getI_nat hj1', e2]
                    simp only [Option.bind_some]
                    rw [addI_some (show inI (l[j].Units + m.N) by unfold inI; omega)]
                    simp only [Option.bind_some]
                    have e3 := set_modify hj1' (fun a => { a with Units := a.Units + m.N })
                    rw [e2] at e3
                    rw [e3]
          · have hb1 : (m.Kind == 1) = false := by simpa using h1
            simp only [h1, hb1, hi0, decide_false, Bool.false_and, Bool.or_self, Bool.false_eq_true, if_false, Option.bind_some, getI_nat hi1, List.getElem?_eq_getElem hi1, Option.getD_some, Int.toNat_natCast]
            by_cases hc : l[i].Units < m.N
            · simp [hc]
            · simp only [hc, decide_false, Bool.false_eq_true, if_false]
              rw [subI_some (show inI (l[i].Units - m.N) by unfold inI; omega)]
              simp only [Option.bind_some]
              rw [set_modify hi1 (fun a => { a with Units := a.Units - m.N })]
    · simp [hR, hV]
  · simp [hR]

theorem rRunGo_L {ms : List Move} : ∀ (n i : Nat) (now : List Account) (fuel : Nat), i + n = ms.length → now.length + n ≤ 536870912 → ms.length ≤ 1073741824 → n < fuel →
    ∃ f, iterL (rRun_L0 ms) fuel (now, (i : Int)) = some f ∧ ((∃ j s, f = .ex j s ∧ runGo ms n now i = (s.1, (ms.length : Int), 0)) ∨ ∃ r, f = .ret r ∧ runGo ms n now i = r)
  | 0, i, now, fuel + 1, hi, hl, hm, hf => by
    refine ⟨.ex 0 (now, (i : Int)), ?_, .inl ⟨0, _, rfl, ?_⟩⟩
    · simp only [iterL]
      unfold rRun_L0
      rw [if_neg (by simp; omega)]
    · simp only [runGo]
      rw [show i = ms.length by omega]
  | n + 1, i, now, fuel + 1, hi, hl, hm, hf => by
    have hlt : i < ms.length := by omega
    simp only [iterL]
    unfold rRun_L0
    rw [if_pos (by simpa using hlt)]
    dsimp only
    rw [getI_nat hlt, Option.bind_some, rDo_spec ms[i] (show now.length ≤ 536870912 by omega), Option.bind_some]
    simp only [runGo, List.getElem?_eq_getElem hlt]
    have hlen := doS_len (l := now) (m := ms[i])
    generalize doS now ms[i] = d at hlen
    obtain ⟨r, e⟩ := d
    by_cases he : e = 0
    · subst he
      rw [if_neg (by simp)]
      rw [addI_one (show i < 4611686018427387904 by omega), Option.bind_some]
      obtain ⟨f, h1, h2⟩ := rRunGo_L n (i + 1) r fuel (by omega) (by simp only at hlen; omega) hm (by omega)
      refine ⟨f, h1, ?_⟩
      simp only [ne_eq, not_true_eq_false, if_false]
      exact h2
    · rw [if_pos (by simpa using he)]
      refine ⟨.ret (now, (i : Int), e), rfl, .inr ⟨_, rfl, ?_⟩⟩
      simp [he]
  | 0, _, _, 0, _, _, _, hf => absurd hf (Nat.lt_irrefl _)
  | _ + 1, _, _, 0, _, _, _, hf => absurd hf (Nat.not_lt_zero _)
theorem rRun_spec {l : List Account} {ms : List Move} (hl : l.length + ms.length ≤ 536870912) : rRun l ms = some (runS l ms) := by
  unfold rRun runS
  rw [rRight_spec (by omega), Option.bind_some]
  by_cases hR : RightP l
  · rw [if_neg (by simp [hR]), appI_some (by simp; omega), Option.bind_some, List.nil_append]
    obtain ⟨f, h1, h2⟩ := rRunGo_L (ms := ms) ms.length 0 l (ms.length + l.length + 1) (by omega) hl (by omega) (by omega)
    have h1' : iterL (rRun_L0 ms) (ms.length + l.length + 1) (l, 0) = some f := h1
    rw [h1', Option.bind_some, if_pos hR]
    rcases h2 with ⟨j, s, rfl, h2⟩ | ⟨r, rfl, h2⟩
    · dsimp only; rw [h2]
    · dsimp only; rw [h2]
  · rw [if_pos (by simp [hR]), if_neg hR]
end Go.Proofs.Ytbanncpkgbiklaa

namespace Go.Proofs.Ytbanncpkgbiklaa
open Go.Gb
set_option linter.unusedVariables false
set_option linter.unusedSimpArgs false
/-- The parts of the first pile of a lot. -/
def atP : Pl → Int → List (Int × Int)
  | [], _ => []
  | x :: m, k => if x.1 = k then x.2 else atP m k
def pidx : Pl → Int → Option Nat
  | [], _ => none
  | x :: m, k => if x.1 = k then some 0 else (pidx m k).map (· + 1)
theorem pidx_none {lot : Int} : ∀ {l : Pl}, pidx l lot = none ↔ ∀ a ∈ l, a.1 ≠ lot
  | [] => by simp [pidx]
  | a :: l => by
    simp only [pidx]
    split
    · rename_i h; simp [h]
    · rename_i h; rw [Option.map_eq_none_iff, pidx_none]; simp [h]
theorem pidx_some {lot : Int} : ∀ {l : Pl} {i : Nat}, pidx l lot = some i → ∃ h : i < l.length, l[i].1 = lot ∧ atP l lot = l[i].2 ∧ ∀ j (hj : j < l.length), j < i → l[j].1 ≠ lot
  | [], _, h => by simp [pidx] at h
  | a :: l, i, h => by
    simp only [pidx] at h
    split at h
    · rename_i he
      simp at h; subst h
      exact ⟨by simp, by simpa using he, by simp [atP, he], fun j hj h => absurd h (Nat.not_lt_zero j)⟩
    · rename_i he
      simp only [Option.map_eq_some_iff] at h
      obtain ⟨k, hk, rfl⟩ := h
      obtain ⟨hk1, hk2, hk3, hk4⟩ := pidx_some hk
      refine ⟨by simp; omega, by simpa using hk2, by simp [atP, he, hk3], fun j hj hji => ?_⟩
      cases j with
      | zero => simpa using he
      | succ j => simpa using hk4 j (by simpa using hj) (by omega)
theorem atP_none {lot : Int} : ∀ {l : Pl}, pidx l lot = none → atP l lot = []
  | [], _ => rfl
  | a :: l, h => by
    simp only [pidx] at h
    split at h
    · simp at h
    · rename_i he; simp only [atP, if_neg he]; exact atP_none (by simpa using h)
theorem atP_set {lot : Int} {t : List (Int × Int)} (k : Int) : ∀ {m : Pl} {i : Nat}, pidx m lot = some i → atP (m.set i (lot, t)) k = if k = lot then t else atP m k
  | [], _, h => by simp [pidx] at h
  | a :: m, i, h => by
    simp only [pidx] at h
    split at h
    · rename_i he
      simp at h; subst h
      simp only [List.set_cons_zero, atP]
      by_cases hk : k = lot
      · rw [if_pos hk.symm, if_pos hk]
      · rw [if_neg (fun e => hk e.symm), if_neg hk, if_neg (fun e => hk (e.symm.trans he))]
    · rename_i he
      simp only [Option.map_eq_some_iff] at h
      obtain ⟨j, hj, rfl⟩ := h
      simp only [List.set_cons_succ, atP]
      rw [atP_set k hj]
      by_cases hk : k = lot
      · subst hk; rw [if_neg he]; simp
      · simp [hk]
theorem atP_push {lot : Int} {t : List (Int × Int)} (k : Int) : ∀ {m : Pl}, pidx m lot = none → atP (m ++ [(lot, t)]) k = if k = lot then t else atP m k
  | [], _ => by simp only [List.nil_append, atP]; by_cases h : k = lot <;> simp [h]; intro h'; exact absurd h'.symm h
  | a :: m, h => by
    simp only [pidx] at h
    split at h
    · simp at h
    · rename_i he
      simp only [List.cons_append, atP]
      rw [atP_push k (by simpa using h)]
      by_cases hk : k = lot
      · subst hk; rw [if_neg he]; simp
      · simp [hk]
theorem pidx_set {lot : Int} {t : List (Int × Int)} {m : Pl} {i : Nat} (h : pidx m lot = some i) (k : Int) : pidx (m.set i (lot, t)) k = pidx m k := by
  obtain ⟨hi, h1, _, _⟩ := pidx_some h
  have hm : (m.set i (lot, t)).map (·.1) = m.map (·.1) := by
    rw [List.map_set]
    exact List.ext_getElem? fun j => by
      rw [List.getElem?_set]
      by_cases hj : i = j
      · subst hj; simp [hi, h1]
      · simp [hj]
  have key : ∀ {a b : Pl}, a.map (·.1) = b.map (·.1) → pidx a k = pidx b k := by
    intro a
    induction a with
    | nil => intro b h; cases b with
      | nil => rfl
      | cons y b => simp at h
    | cons x a ih => intro b h; cases b with
      | nil => simp at h
      | cons y b =>
        simp only [List.map_cons, List.cons.injEq] at h
        simp only [pidx]
        rw [ih h.2, h.1]
  exact key hm
theorem pidx_push {lot : Int} {t : List (Int × Int)} {k : Int} {i : Nat} : ∀ {m : Pl}, pidx m k = some i → pidx (m ++ [(lot, t)]) k = some i
  | [], h => by simp [pidx] at h
  | a :: m, h => by
    simp only [pidx, List.cons_append] at h ⊢
    split
    · rename_i he; rw [if_pos he] at h; exact h
    · rename_i he
      rw [if_neg he] at h
      simp only [Option.map_eq_some_iff] at h
      obtain ⟨j, hj, rfl⟩ := h
      rw [pidx_push hj]; rfl

/-- What put does with the parts of the pile. -/
def putT (t : List (Int × Int)) (p : Int × Int) : Option (List (Int × Int)) :=
  (if (decide (0 < (t.length : Int))) then
    (subI (t.length : Int) 1).bind fun y => (getI t (max y 0)).bind fun z => some (z.1 == p.1)
  else some false).bind fun c =>
  if c then
    (subI (t.length : Int) 1).bind fun y => (getI t y).bind fun z => (addI z.2 p.2).bind fun w => some (t.set y.toNat (z.1, w))
  else appI t [p]
theorem putT_spec {t : List (Int × Int)} {o n : Int} {E : List Int} {c u : Nat} (h : Pile t E c u) (h0 : 0 ≤ n) (hn : n ≤ 1073741824) (hz : n ≠ 0) (hc : c < 1073741824) (hu : u < 1099511627776) :
    ∃ t', putT t (o, n) = some t' ∧ Pile t' (E ++ List.replicate n.toNat o) (c + 1) (u + n.toNat) := by
  unfold putT
  have push : (∀ q, t.getLast? = some q → q.1 ≠ o) → ∃ t', appI t [(o, n)] = some t' ∧ Pile t' (E ++ List.replicate n.toNat o) (c + 1) (u + n.toNat) := by
    intro hq
    rw [appI_some (by have := h.len; simp; omega)]
    refine ⟨_, rfl, ?_⟩
    refine ⟨can_append.2 ⟨h.can, by simp only; omega, hq⟩, by rw [expT_append, h.exp]; simp [expT], by have := h.len; simp; omega, by have := h.units; simp; omega⟩
  rcases List.eq_nil_or_concat t with hnil | ⟨s, p, hsp⟩
  · have hnl : ¬ (0 : Int) < (t.length : Int) := by rw [hnil]; simp
    rw [if_neg (by simpa using hnl), Option.bind_some, if_neg (by decide)]
    exact push (by rw [hnil]; simp)
  · have hsp : t = s ++ [p] := by simpa using hsp
    have hlen : t.length = s.length + 1 := by rw [hsp]; simp
    have hget : getI t (s.length : Int) = some p := by
      rw [getI_nat (by omega)]
      simp only [hsp, List.getElem_concat_length]
    have hcl := h.len
    rw [if_pos (by simp [hlen]), hlen, subI_some (by unfold inI; omega), Option.bind_some]
    rw [show (((s.length + 1 : Nat) : Int) - 1) = (s.length : Int) by omega, show max (s.length : Int) 0 = (s.length : Int) by omega, hget, Option.bind_some, Option.bind_some]
    by_cases ho : p.1 = o
    · rw [if_pos (by simp [ho]), Option.bind_some, hget, Option.bind_some]
      have hpu : p.2.toNat ≤ u := by have h1 := h.units; rw [← h.exp, hsp, expT_last] at h1; omega
      have hp1 : 1 ≤ p.2 := by have h1 := h.can; rw [hsp] at h1; exact (can_append.1 h1).2.1
      rw [addI_some (by unfold inI; omega), Option.bind_some]
      refine ⟨_, rfl, ?_⟩
      rw [Int.toNat_natCast]
      have hset : t.set s.length (p.1, p.2 + n) = s ++ [(p.1, p.2 + n)] := by rw [hsp]; simp
      rw [hset]
      have hcan := h.can
      rw [hsp] at hcan
      have hca := can_append.1 hcan
      refine ⟨can_append.2 ⟨hca.1, by simp only; omega, hca.2.2⟩, ?_, by simp; omega, by have := h.units; simp; omega⟩
      have e1 : (p.2 + n).toNat = p.2.toNat + n.toNat := by omega
      have hexp := h.exp
      rw [hsp, expT_append] at hexp
      rw [expT_append, ← hexp]
      simp only [expT, List.append_nil]
      rw [e1, ← List.replicate_append_replicate, ho, List.append_assoc]
    · rw [if_neg (by simp [ho])]
      refine push fun q hq => ?_
      rw [hsp] at hq
      simp at hq
      rw [← hq]; exact ho

theorem rPut_eq {m : Pl} {lot : Int} {p : Int × Int} (hz : p.2 ≠ 0) (hl : m.length ≤ 1073741824) : rPut m lot p = match pidx m lot with
    | none => appI m [(lot, [p])]
    | some i => (putT (atP m lot) p).bind fun w => some (m.set i (lot, w)) := by
  unfold rPut
  rw [if_neg (by simpa using hz)]
  cases hi : pidx m lot with
  | none =>
    have hno := pidx_none.1 hi
    refine Exists.elim (loop_up (body := rPut_L0 m lot p) (fun i s => s = (i : Int)) m.length (fun f => ∃ j, f = .ex 0 j) ?_ ?_ 0 rfl (m.length + 1) (by omega)) ?_
    · rintro i s hi rfl
      left
      refine ⟨_, ?_, rfl⟩
      unfold rPut_L0
      rw [if_pos (by simpa using hi), getI_nat hi, Option.bind_some, if_pos (by simpa using hno _ (List.getElem_mem hi)), addI_one (by omega), Option.bind_some]
    · rintro s rfl
      refine ⟨.ex 0 (m.length : Int), ?_, trivial, _, rfl⟩
      · unfold rPut_L0; rw [if_neg (by simp)]
    · rintro f ⟨hf, he, j, rfl⟩
      rw [hf]; rfl
  | some i =>
    obtain ⟨hlt, h1, h2, h3⟩ := pidx_some hi
    have last : rPut_L0 m lot p (i : Int) = (putT (atP m lot) p).bind fun w => some (.ret (m.set i (lot, w))) := by
      unfold rPut_L0 putT
      rw [if_pos (by simpa using hlt), getI_nat hlt, Option.bind_some, if_neg (by simpa using h1), h2, h1, Int.toNat_natCast]
      split
      · rw [Option.bind_assoc, Option.bind_assoc, Option.bind_assoc]
        refine congrArg _ (funext fun y => ?_)
        rw [Option.bind_assoc, Option.bind_assoc]
        refine congrArg _ (funext fun z => ?_)
        rw [Option.bind_some, Option.bind_some]
        split
        · rw [Option.bind_assoc]
          refine congrArg _ (funext fun y => ?_)
          rw [Option.bind_assoc]
          refine congrArg _ (funext fun z => ?_)
          rw [Option.bind_assoc]
          rfl
        · rfl
      · rw [Option.bind_some, Option.bind_some]
        split
        · rw [Option.bind_assoc]
          refine congrArg _ (funext fun y => ?_)
          rw [Option.bind_assoc]
          refine congrArg _ (funext fun z => ?_)
          rw [Option.bind_assoc]
          rfl
        · rfl
    have key : ∀ n j fuel, j + n = i → n < fuel → iterL (rPut_L0 m lot p) fuel (j : Int) = (putT (atP m lot) p).bind fun w => some (.ret (m.set i (lot, w))) := by
      intro n
      induction n with
      | zero =>
        intro j fuel hj hf
        obtain ⟨fuel, rfl⟩ : ∃ m, fuel = m + 1 := ⟨fuel - 1, by omega⟩
        obtain rfl : j = i := by omega
        simp only [iterL, last]
        cases putT (atP m lot) p <;> rfl
      | succ n ih =>
        intro j fuel hj hf
        obtain ⟨fuel, rfl⟩ : ∃ m, fuel = m + 1 := ⟨fuel - 1, by omega⟩
        have hjl : j < m.length := by omega
        have : rPut_L0 m lot p (j : Int) = some (.go ((j + 1 : Nat) : Int)) := by
          unfold rPut_L0
          rw [if_pos (by simpa using hjl), getI_nat hjl, Option.bind_some, if_pos (by simpa using h3 j hjl (by omega)), addI_one (by omega), Option.bind_some]
        simp only [iterL, this]
        exact ih (j + 1) fuel (by omega) (by omega)
    have h0 := key i 0 (m.length + 1) (by omega) (by omega)
    rw [show ((0 : Nat) : Int) = 0 from rfl] at h0
    rw [h0]
    cases putT (atP m lot) p <;> rfl

theorem rPut_spec {m : Pl} {lot o n : Int} {E : List Int} {c u : Nat} (h : Pile (atP m lot) E c u) (h0 : 0 ≤ n) (hn : n ≤ 1073741824) (hc : c < 1073741824) (hu : u < 1099511627776) (hl : m.length < 1073741824) :
    ∃ m', rPut m lot (o, n) = some m' ∧ (∀ k, k ≠ lot → atP m' k = atP m k) ∧ Pile (atP m' lot) (E ++ List.replicate n.toNat o) (c + 1) (u + n.toNat) ∧ m'.length ≤ m.length + 1 ∧ ∀ k i, pidx m k = some i → pidx m' k = some i := by
  by_cases hz : n = 0
  · subst hz
    refine ⟨m, by unfold rPut; simp, fun _ _ => rfl, ⟨h.can, by simpa using h.exp, by have := h.len; omega, by simpa using Nat.le_trans h.units (Nat.le_refl _)⟩, by omega, fun _ _ h => h⟩
  · obtain ⟨t', e, hP⟩ := putT_spec (o := o) h h0 hn hz hc hu
    rw [rPut_eq (by simpa using hz) (by omega)]
    cases hi : pidx m lot with
    | none =>
      dsimp only
      rw [appI_some (by simp; omega)]
      refine ⟨_, rfl, fun k hk => by rw [atP_push k hi, if_neg hk], ?_, by simp, fun k i h => pidx_push h⟩
      rw [atP_push lot hi, if_pos rfl]
      rw [atP_none hi] at e
      have : putT [] (o, n) = some [(o, n)] := rfl
      rw [this] at e
      obtain rfl := Option.some.inj e
      exact hP
    | some i =>
      dsimp only
      rw [e, Option.bind_some]
      refine ⟨_, rfl, fun k hk => by rw [atP_set k hi, if_neg hk], ?_, by simp, fun k j h => by rw [pidx_set hi]; exact h⟩
      rw [atP_set lot hi, if_pos rfl]
      exact hP

theorem rTake_find {m : Pl} {frm : Int} {i : Nat} (hi : pidx m frm = some i) (hl : m.length ≤ 1073741824) : iterL (rTake_L0 m frm) (m.length + 1) 0 = some (.ex 0 (i : Int)) := by
  obtain ⟨hlt, h1, h2, h3⟩ := pidx_some hi
  have key : ∀ n j fuel, j + n = i → n < fuel → iterL (rTake_L0 m frm) fuel (j : Int) = some (.ex 0 (i : Int)) := by
    intro n
    induction n with
    | zero =>
      intro j fuel hj hf
      obtain ⟨fuel, rfl⟩ : ∃ m, fuel = m + 1 := ⟨fuel - 1, by omega⟩
      obtain rfl : j = i := by omega
      have : rTake_L0 m frm (j : Int) = some (.ex 0 (j : Int)) := by
        unfold rTake_L0
        rw [if_pos (by simpa using hlt), getI_nat hlt, Option.bind_some, Option.bind_some, if_neg (by simpa using h1)]
      simp only [iterL, this]
    | succ n ih =>
      intro j fuel hj hf
      obtain ⟨fuel, rfl⟩ : ∃ m, fuel = m + 1 := ⟨fuel - 1, by omega⟩
      have hjl : j < m.length := by omega
      have : rTake_L0 m frm (j : Int) = some (.go ((j + 1 : Nat) : Int)) := by
        unfold rTake_L0
        rw [if_pos (by simpa using hjl), getI_nat hjl, Option.bind_some, Option.bind_some, if_pos (by simpa using h3 j hjl (by omega)), addI_one (by omega), Option.bind_some]
      simp only [iterL, this]
      exact ih (j + 1) fuel (by omega) (by omega)
  exact key i 0 (m.length + 1) (by omega) (by omega)

theorem rTake_spec {m : Pl} {frm to n : Int} {E T : List Int} {c u : Nat} (hne : frm ≠ to) (hE : Pile (atP m frm) E c u) (hT : Pile (atP m to) T c u) (h1 : 1 ≤ n) (hn : n.toNat ≤ E.length) (hnb : n ≤ 1073741824) (hc : 2 * c < 1073741823) (hu : u + n.toNat < 1099511627776) (hl : m.length + c < 1073741823) :
    ∃ m', rTake m frm to n = some m' ∧ (∀ k, k ≠ frm → k ≠ to → atP m' k = atP m k) ∧ Pile (atP m' frm) (E.drop n.toNat) c u ∧ Pile (atP m' to) (T ++ E.take n.toNat) (2 * c + 1) (u + n.toNat) ∧ m'.length ≤ m.length + c + 1 := by
  cases hi : pidx m frm with
  | none =>
    exfalso
    have := hE.exp
    rw [atP_none hi] at this
    simp only [expT] at this
    rw [← this] at hn
    simp at hn
    omega
  | some i =>
  unfold rTake
  rw [rTake_find hi (by omega), Option.bind_some]
  dsimp only
  refine Exists.elim (loop_down (body := rTake_L1 to (i : Int))
    (fun s => 0 ≤ s.2 ∧ s.2 ≤ n ∧ (∀ k, k ≠ frm → k ≠ to → atP s.1 k = atP m k) ∧ pidx s.1 frm = some i ∧ Pile (atP s.1 frm) (E.drop (n - s.2).toNat) c u ∧
      ∃ d, s.1.length ≤ m.length + d ∧ d + (atP s.1 frm).length ≤ c + (if s.2 = 0 then 1 else 0) ∧ Pile (atP s.1 to) (T ++ E.take (n - s.2).toNat) (c + d) (u + (n - s.2).toNat))
    (fun s => s.2.toNat)
    (fun f => ∃ s, f = .ex 2 s ∧ (∀ k, k ≠ frm → k ≠ to → atP s.1 k = atP m k) ∧ Pile (atP s.1 frm) (E.drop n.toNat) c u ∧ Pile (atP s.1 to) (T ++ E.take n.toNat) (2 * c + 1) (u + n.toNat) ∧ s.1.length ≤ m.length + c + 1) ?_ (m, n)
    ⟨by simp only; omega, Int.le_refl _, fun _ _ _ => rfl, hi, by simpa using hE, 0, Nat.le_refl _, by have := hE.len; simp only; omega, by simpa using hT⟩ (n.toNat + 1) (by simp only; omega)) ?_
  · rintro ⟨cur, r⟩ ⟨hr0, hrn, hoth, hic, hF, d, hdl, hd, hTo⟩
    simp only at hr0 hrn hoth hic hF hdl hd hTo
    obtain ⟨hlt, hk1, hk2, hk3⟩ := pidx_some hic
    unfold rTake_L1
    dsimp only
    by_cases hz : r = 0
    · right
      subst hz
      simp only [if_true] at hd
      refine ⟨.ex 2 (cur, 0), by simp, trivial, _, rfl, hoth, by simpa using hF, ?_, by simp only; omega⟩
      have e : (n - 0).toNat = n.toNat := by simp
      rw [e] at hTo
      exact ⟨hTo.can, hTo.exp, Nat.le_trans hTo.len (by omega), hTo.units⟩
    · left
      rw [if_pos (by simp; omega), getI_nat hlt, Option.bind_some, ← hk2, hk1, Int.toNat_natCast]
      simp only [hz, if_false] at hd ⊢
      cases hlst : atP cur frm with
      | nil =>
        exfalso
        have := hF.exp
        rw [hlst] at this
        simp only [expT] at this
        have := congrArg List.length this
        simp only [List.length_nil, List.length_drop] at this
        omega
      | cons p t =>
        rw [hlst] at hF
        have hp1 : 1 ≤ p.2 := hF.can.1
        have hexp := hF.exp
        simp only [expT] at hexp
        have hget : getI (p :: t) 0 = some p := by simp [getI]
        have hln := hF.len
        simp only [List.length_cons] at hln
        have hpu : p.2.toNat ≤ u := by have := hF.units; rw [← hexp] at this; simp at this; omega
        rw [if_neg (by simp; omega), hget, Option.bind_some]
        by_cases hle : p.2 ≤ r
        · have hmin : min r p.2 = p.2 := by omega
          rw [hmin, subI_some (by unfold inI; omega), Option.bind_some, if_pos (by simp), sliceI_some (by omega) (by simp; omega) (by simp), Option.bind_some]
          have e1 : List.drop (1 : Int).toNat (List.take (((p :: t).length : Nat) : Int).toNat (p :: t)) = t := by simp
          rw [e1, appI_some (by simp; omega), Option.bind_some, Option.bind_some, List.nil_append]
          have hto : atP (cur.set i (frm, t)) to = atP cur to := by rw [atP_set _ hic, if_neg (fun e => hne e.symm)]
          have hTo' : Pile (atP (cur.set i (frm, t)) to) (T ++ E.take (n - r).toNat) (c + d) (u + (n - r).toNat) := by rw [hto]; exact hTo
          rw [hlst] at hd
          simp only [List.length_cons] at hd
          obtain ⟨m2, hm2, ho2, hP2, hl2, hx2⟩ := rPut_spec (o := p.1) (n := p.2) hTo' (by omega) (by omega) (by omega) (by omega) (by simp; omega)
          rw [hm2, Option.bind_some]
          have hfrm : atP m2 frm = t := by rw [ho2 _ hne, atP_set _ hic, if_pos rfl]
          have e2 : (n - (r - p.2)).toNat = (n - r).toNat + p.2.toNat := by omega
          have hdrop : E.drop ((n - r).toNat + p.2.toNat) = expT t := by
            rw [← List.drop_drop, ← hexp]
            simp
          have htk : E.take ((n - r).toNat + p.2.toNat) = E.take (n - r).toNat ++ List.replicate p.2.toNat p.1 := by
            rw [List.take_add, ← hexp]
            simp
          refine ⟨_, rfl, ⟨by simp only; omega, by simp only; omega, fun k h1 h2 => ?_, ?_, ?_, d + 1, ?_, ?_, ?_⟩, ?_⟩
          · simp only; rw [ho2 _ h2, atP_set _ hic, if_neg h1]; exact hoth k h1 h2
          · exact hx2 _ _ (by rw [pidx_set hic]; exact hic)
          · simp only
            rw [hfrm, e2, hdrop]
            have hFu := hF.units
            rw [← hexp] at hFu
            simp only [List.length_append, List.length_replicate] at hFu
            exact ⟨hF.can.2.2, rfl, by omega, by omega⟩
          · simp only; simp only [List.length_set] at hl2; omega
          · simp only
            rw [hfrm]
            split <;> omega
          · simp only
            rw [e2, htk, ← List.append_assoc]
            exact ⟨hP2.can, hP2.exp, hP2.len, by have := hP2.units; omega⟩
          · simp only; omega
        · have hmin : min r p.2 = r := by omega
          rw [hmin, subI_some (by unfold inI; omega), Option.bind_some, if_neg (by simp; omega), subI_some (by unfold inI; omega), Option.bind_some, Option.bind_some]
          have e1 : (p :: t).set 0 (p.1, p.2 - r) = (p.1, p.2 - r) :: t := rfl
          rw [e1]
          have hto : atP (cur.set i (frm, (p.1, p.2 - r) :: t)) to = atP cur to := by rw [atP_set _ hic, if_neg (fun e => hne e.symm)]
          have hTo' : Pile (atP (cur.set i (frm, (p.1, p.2 - r) :: t)) to) (T ++ E.take (n - r).toNat) (c + d) (u + (n - r).toNat) := by rw [hto]; exact hTo
          rw [hlst] at hd
          simp only [List.length_cons] at hd
          obtain ⟨m2, hm2, ho2, hP2, hl2, hx2⟩ := rPut_spec (o := p.1) (n := r) hTo' (by omega) (by omega) (by omega) (by omega) (by simp; omega)
          rw [hm2, Option.bind_some]
          have hfrm : atP m2 frm = (p.1, p.2 - r) :: t := by rw [ho2 _ hne, atP_set _ hic, if_pos rfl]
          have e2 : (n - (r - r)).toNat = (n - r).toNat + r.toNat := by omega
          have erep : List.replicate p.2.toNat p.1 = List.replicate r.toNat p.1 ++ List.replicate (p.2 - r).toNat p.1 := by
            rw [List.replicate_append_replicate]; congr 1; omega
          have hdrop : E.drop ((n - r).toNat + r.toNat) = expT ((p.1, p.2 - r) :: t) := by
            rw [← List.drop_drop, ← hexp, erep, List.append_assoc]
            simp [expT]
          have htk : E.take ((n - r).toNat + r.toNat) = E.take (n - r).toNat ++ List.replicate r.toNat p.1 := by
            rw [List.take_add, ← hexp, erep, List.append_assoc]
            simp
          refine ⟨_, rfl, ⟨by simp only; omega, by simp only; omega, fun k h1 h2 => ?_, ?_, ?_, d + 1, ?_, ?_, ?_⟩, ?_⟩
          · simp only; rw [ho2 _ h2, atP_set _ hic, if_neg h1]; exact hoth k h1 h2
          · exact hx2 _ _ (by rw [pidx_set hic]; exact hic)
          · simp only
            rw [hfrm, e2, hdrop]
            refine ⟨can_dropFirst hF.can (by omega), rfl, by simpa using hln, ?_⟩
            rw [← hdrop]
            have := hF.units
            simp only [List.length_drop] at this ⊢
            omega
          · simp only; simp only [List.length_set] at hl2; omega
          · simp only
            rw [hfrm]
            simp
            omega
          · simp only
            rw [e2, htk, ← List.append_assoc]
            exact ⟨hP2.can, hP2.exp, hP2.len, by have := hP2.units; omega⟩
          · simp only; omega
  · rintro f ⟨hf, he, s, rfl, hs⟩
    rw [hf, Option.bind_some]
    exact ⟨s.1, rfl, hs⟩
end Go.Proofs.Ytbanncpkgbiklaa

namespace Go.Proofs.Ytbanncpkgbiklaa
open Go.Gb
set_option linter.unusedVariables false
set_option linter.unusedSimpArgs false

def MatchP (m : Pl) (E : Int → List Int) (c u : Nat) : Prop := (∀ k, Pile (atP m k) (E k) c u) ∧ m.length ≤ c
theorem matchP_put {m : Pl} {E : Int → List Int} {c u : Nat} {lot n : Int} (h : MatchP m E c u) (h0 : 0 ≤ n) (hn : n ≤ 1073741824) (hc : c < 1073741824) (hu : u < 1099511627776) :
    ∃ m', rPut m lot (lot, n) = some m' ∧ MatchP m' (opE E lot n) (c + 1) (u + 1073741824) := by
  obtain ⟨m', h1, h2, h3, h4, _⟩ := rPut_spec (o := lot) (h.1 lot) h0 hn hc hu (Nat.lt_of_le_of_lt h.2 hc)
  refine ⟨m', h1, fun k => ?_, by have := h.2; omega⟩
  unfold opE
  split
  · rename_i e; subst e; exact h3.mono (Nat.le_refl _) (by omega)
  · rename_i e; rw [h2 k e]; exact (h.1 k).mono (by omega) (by omega)
theorem matchP_take {m : Pl} {E : Int → List Int} {c u : Nat} {f t n : Int} (h : MatchP m E c u) (hne : f ≠ t) (h0 : 1 ≤ n) (hn : n ≤ 1073741824) (hle : n.toNat ≤ (E f).length) (hc : 2 * c < 1073741823) (hu : u + 1073741824 < 1099511627776) :
    ∃ m', rTake m f t n = some m' ∧ MatchP m' (mvE E f t n) (2 * c + 1) (u + 1073741824) := by
  obtain ⟨m', h1, h2, h3, h4, h5⟩ := rTake_spec hne (h.1 f) (h.1 t) h0 hle hn hc (by omega) (by have := h.2; omega)
  refine ⟨m', h1, fun k => ?_, by have := h.2; omega⟩
  unfold mvE
  split
  · rename_i e; subst e; exact h3.mono (by omega) (by omega)
  · rename_i e
    split
    · rename_i e2; subst e2; exact h4.mono (Nat.le_refl _) (by omega)
    · rename_i e2; rw [h2 k e e2]; exact (h.1 k).mono (by omega) (by omega)
theorem MatchP.mono {m : Pl} {E : Int → List Int} {c u c' u' : Nat} (h : MatchP m E c u) (hc : c ≤ c') (hu : u ≤ u') : MatchP m E c' u' := ⟨fun k => (h.1 k).mono hc hu, Nat.le_trans h.2 hc⟩

theorem rtrace_step {m : Pl} {E : Int → List Int} {c u : Nat} {l r : List Account} {mv : Move} (hd : doS l mv = (r, 0)) (hcn : Cons l E) (h : MatchP m E c u) (hc : 2 * c < 1073741823) (hu : u + 1073741824 < 1099511627776) :
    ∃ m', (if (mv.Kind == 0) = true then rPut m mv.To (mv.To, mv.N) else if (mv.Kind == 1) = true then rTake m mv.From mv.To mv.N else if (mv.Kind == 2) = true then rTake m mv.From 0 mv.N else if (mv.Kind == 3) = true then rTake m mv.From (-1) mv.N else some m) = some m' ∧
      MatchP m' (evE E mv) (2 * c + 1) (u + 1073741824) := by
  have hst := doS_ok hd
  have hpos : ∀ k (hk : k < l.length), 1 ≤ l[k].Lot := fun k hk => (hst.right.1 _ (List.getElem_mem hk)).1
  rcases doS_cases hd with ⟨h0, h1, h2, h3, h4, _⟩ | ⟨h0, h1, h2, h3, i, j, hi, hj, hij, hf, ht, _, hu', hm, _⟩ | ⟨h0, h2, h3, i, hi, hf, hu', _⟩
  · obtain ⟨m', e, hm⟩ := matchP_put (lot := mv.To) h h3 h4 (by omega) (by omega)
    refine ⟨m', by rw [if_pos (by simp [h0]), e], ?_⟩
    unfold evE
    rw [if_pos h0]
    exact hm.mono (by omega) (Nat.le_refl _)
  · have hlen := hcn.len _ (List.getElem_mem hi)
    rw [hf] at hlen
    obtain ⟨m', e, hm⟩ := matchP_take (f := mv.From) (t := mv.To) (n := mv.N) h h1 h2 h3 (by omega) hc hu
    refine ⟨m', by rw [if_neg (by simp [h0]), if_pos (by simp [h0]), e], ?_⟩
    unfold evE
    rw [if_neg (by omega), if_pos h0]
    exact hm
  · have hlen := hcn.len _ (List.getElem_mem hi)
    rw [hf] at hlen
    have hfp := hpos i hi
    rw [hf] at hfp
    rcases h0 with h0 | h0
    · obtain ⟨m', e, hm⟩ := matchP_take (f := mv.From) (t := 0) (n := mv.N) h (by omega) h2 h3 (by omega) hc hu
      refine ⟨m', by rw [if_neg (by simp [h0]), if_neg (by simp [h0]), if_pos (by simp [h0]), e], ?_⟩
      unfold evE
      rw [if_neg (by omega), if_neg (by omega), if_pos h0]
      exact hm
    · obtain ⟨m', e, hm⟩ := matchP_take (f := mv.From) (t := -1) (n := mv.N) h (by omega) h2 h3 (by omega) hc hu
      refine ⟨m', by rw [if_neg (by simp [h0]), if_neg (by simp [h0]), if_neg (by simp [h0]), if_pos (by simp [h0]), e], ?_⟩
      unfold evE
      rw [if_neg (by omega), if_neg (by omega), if_neg (by omega), if_pos h0]
      exact hm

/-- The reference's last loop finds the pile of the lot. -/
theorem rTrace_find {m : Pl} {lot : Int} (hl : m.length ≤ 1073741824) : ((iterL (rTrace_L2 m lot) (m.length + 1) 0).bind fun f => match f with
      | .go _ => none
      | .ex _ _ => some (([] : List (Int × Int)), 0)
      | .ret r => some r) = some (atP m lot, 0) := by
  cases hi : pidx m lot with
  | none =>
    have hno := pidx_none.1 hi
    refine Exists.elim (loop_up (body := rTrace_L2 m lot) (fun i s => s = (i : Int)) m.length (fun f => ∃ j, f = .ex 5 j) ?_ ?_ 0 rfl (m.length + 1) (by omega)) ?_
    · rintro i s hi rfl
      left
      refine ⟨_, ?_, rfl⟩
      unfold rTrace_L2
      rw [if_pos (by simpa using hi), getI_nat hi, Option.bind_some, if_neg (by simpa using hno _ (List.getElem_mem hi)), addI_one (by omega), Option.bind_some]
    · rintro s rfl
      refine ⟨.ex 5 (m.length : Int), ?_, trivial, _, rfl⟩
      · unfold rTrace_L2; rw [if_neg (by simp)]
    · rintro f ⟨hf, he, j, rfl⟩
      rw [hf, atP_none hi]; rfl
  | some i =>
    obtain ⟨hlt, h1, h2, h3⟩ := pidx_some hi
    have key : ∀ n j fuel, j + n = i → n < fuel → iterL (rTrace_L2 m lot) fuel (j : Int) = some (.ret (atP m lot, 0)) := by
      intro n
      induction n with
      | zero =>
        intro j fuel hj hf
        obtain ⟨fuel, rfl⟩ : ∃ m, fuel = m + 1 := ⟨fuel - 1, by omega⟩
        obtain rfl : j = i := by omega
        have : rTrace_L2 m lot (j : Int) = some (.ret (atP m lot, 0)) := by
          unfold rTrace_L2
          rw [if_pos (by simpa using hlt), getI_nat hlt, Option.bind_some, if_pos (by simpa using h1), h2]
        simp only [iterL, this]
      | succ n ih =>
        intro j fuel hj hf
        obtain ⟨fuel, rfl⟩ : ∃ m, fuel = m + 1 := ⟨fuel - 1, by omega⟩
        have hjl : j < m.length := by omega
        have : rTrace_L2 m lot (j : Int) = some (.go ((j + 1 : Nat) : Int)) := by
          unfold rTrace_L2
          rw [if_pos (by simpa using hjl), getI_nat hjl, Option.bind_some, if_neg (by simpa using h3 j hjl (by omega)), addI_one (by omega), Option.bind_some]
        simp only [iterL, this]
        exact ih (j + 1) fuel (by omega) (by omega)
    have h0 := key i 0 (m.length + 1) (by omega) (by omega)
    rw [show ((0 : Nat) : Int) = 0 from rfl] at h0
    rw [h0]; rfl

theorem rTrace_spec {l : List Account} {ms : List Move} {fin : List Account} {q : Int} (lot : Int) (hl : l.length ≤ 10) (hm : ms.length ≤ 22) (hrun : runS l ms = (fin, q, 0)) :
    rTrace l ms lot = cTrace l ms lot := by
  have hrun0 := hrun
  have hR : RightP l := by
    unfold runS at hrun
    by_cases hR : RightP l
    · exact hR
    · rw [if_neg hR] at hrun; simp at hrun
  have key : ∃ t, rTrace l ms lot = some (t, 0) ∧ Can t ∧ expT t = evs ms (stE l l.length) ms.length lot := by
    unfold rTrace
    rw [rRun_spec (by omega), Option.bind_some, hrun, if_neg (by simp)]
    refine Exists.elim (loop_up (body := rTrace_L0 l) (fun i s => s.2 = (i : Int) ∧ MatchP s.1 (stE l i) i (i * 1073741824)) l.length (fun f => ∃ s, f = .ex 0 s ∧ MatchP s.1 (stE l l.length) l.length (l.length * 1073741824)) ?_ ?_ ([], 0)
      ⟨rfl, fun k => ⟨trivial, rfl, Nat.le_refl _, Nat.le_refl _⟩, Nat.le_refl _⟩ (l.length + 1) (by omega)) ?_
    · rintro i ⟨m, j⟩ hi ⟨rfl, hM⟩
      left
      unfold rTrace_L0
      rw [if_pos (by simpa using hi)]
      dsimp only
      have hok := hR.1 _ (List.getElem_mem hi)
      obtain ⟨m', e, hm'⟩ := matchP_put (lot := l[i].Lot) (n := l[i].Units) hM hok.2.2.1 hok.2.2.2 (by omega) (by omega)
      rw [getI_nat hi, Option.bind_some, e, Option.bind_some, addI_one (show i < 4611686018427387904 by omega), Option.bind_some]
      refine ⟨_, rfl, rfl, ?_⟩
      simp only [stE, List.getElem?_eq_getElem hi]
      exact hm'.mono (Nat.le_refl _) (by omega)
    · rintro ⟨m, j⟩ ⟨rfl, hM⟩
      refine ⟨.ex 0 (m, (l.length : Int)), ?_, trivial, _, rfl, hM⟩
      unfold rTrace_L0
      rw [if_neg (by simp)]
    · rintro f ⟨hf, he, s, rfl, hM0⟩
      rw [hf, Option.bind_some]
      dsimp only
      have hc0 := stE_cons hR
      generalize stE l l.length = E0 at hM0 hc0
      unfold runS at hrun
      rw [if_pos hR] at hrun
      have hpow : ∀ i, i ≤ 22 → 11 * 2 ^ i ≤ 11 * 2 ^ 22 := fun i hi => Nat.mul_le_mul_left _ (Nat.pow_le_pow_right (by omega) hi)
      refine Exists.elim (loop_up (body := rTrace_L1 ms) (fun i s => s.2 = (i : Int) ∧ i ≤ ms.length ∧ MatchP s.1 (evs ms E0 i) (11 * 2 ^ i - 1) ((10 + i) * 1073741824) ∧ ∃ now, Cons now (evs ms E0 i) ∧ runGo ms (ms.length - i) now i = (fin, q, 0)) ms.length
        (fun f => ∃ s, f = .ex 2 s ∧ MatchP s.1 (evs ms E0 ms.length) 100000000 42949672960) ?_ ?_ (s.1, 0)
        ⟨rfl, by omega, hM0.mono (by omega) (by omega), l, hc0, by simpa using hrun⟩ (ms.length + 1) (by omega)) ?_
      · rintro i ⟨m, j⟩ hi ⟨rfl, _, hM, now, hcn, hr⟩
        left
        have hdo : doS now ms[i] = ((doS now ms[i]).1, 0) := by
          obtain ⟨k, hk⟩ : ∃ k, ms.length - i = k + 1 := ⟨ms.length - i - 1, by omega⟩
          rw [hk, runGo] at hr
          simp only [List.getElem?_eq_getElem hi] at hr
          by_cases he : (doS now ms[i]).2 = 0
          · rw [← he]
          · rw [if_pos he] at hr
            simp only [Prod.mk.injEq] at hr
            exact absurd hr.2.2 he
        have hnext : runGo ms (ms.length - (i + 1)) (doS now ms[i]).1 (i + 1) = (fin, q, 0) := by
          obtain ⟨k, hk⟩ : ∃ k, ms.length - i = k + 1 := ⟨ms.length - i - 1, by omega⟩
          rw [hk, runGo] at hr
          simp only [List.getElem?_eq_getElem hi] at hr
          rw [if_neg (by rw [hdo]; simp)] at hr
          rw [show ms.length - (i + 1) = k by omega]
          exact hr
        have hp := hpow i (by omega)
        have hp2 : 11 * 2 ^ 22 < 100000000 := by decide
        obtain ⟨m', e, hm'⟩ := rtrace_step hdo hcn hM (by omega) (by omega)
        unfold rTrace_L1
        rw [if_pos (by simpa using hi)]
        dsimp only
        rw [getI_nat hi, Option.bind_some, e, Option.bind_some, addI_one (show i < 4611686018427387904 by omega), Option.bind_some]
        refine ⟨_, rfl, rfl, by omega, ?_, (doS now ms[i]).1, ?_, hnext⟩
        · simp only [evs, List.getElem?_eq_getElem hi]
          have hp3 : 11 * 2 ^ (i + 1) = 2 * (11 * 2 ^ i) := by rw [Nat.pow_succ]; omega
          have hp4 : 1 ≤ 2 ^ i := Nat.one_le_two_pow
          exact hm'.mono (by omega) (by omega)
        · simp only [evs, List.getElem?_eq_getElem hi]
          exact doS_cons hdo hcn
      · rintro ⟨m, j⟩ ⟨rfl, _, hM, now, hcn, hr⟩
        have hp := hpow ms.length hm
        have hp2 : 11 * 2 ^ 22 < 100000000 := by decide
        refine ⟨.ex 2 (m, (ms.length : Int)), ?_, trivial, _, rfl, hM.mono (by omega) (by omega)⟩
        unfold rTrace_L1
        rw [if_neg (by simp)]
      · rintro f ⟨hf, he, s, rfl, hM⟩
        rw [hf, Option.bind_some]
        dsimp only
        exact ⟨_, rTrace_find (Nat.le_trans hM.2 (by decide)), (hM.1 lot).can, (hM.1 lot).exp⟩
  obtain ⟨t, e, hc, hx⟩ := key
  obtain ⟨u, e', hc', hx', _⟩ := cTrace_spec lot hl hm hrun0
  rw [e, e', exp_inj hc hc' (hx.trans hx'.symm)]
theorem rTrace_fail {l : List Account} {ms : List Move} {fin : List Account} {q e : Int} (lot : Int) (hl : l.length + ms.length ≤ 536870912) (hrun : runS l ms = (fin, q, e)) (he : e ≠ 0) : rTrace l ms lot = some ([], e) := by
  unfold rTrace
  rw [rRun_spec hl, Option.bind_some, hrun, if_pos (by simpa using he)]
theorem rTrace_eq {l : List Account} {ms : List Move} (lot : Int) (hl : l.length ≤ 10) (hm : ms.length ≤ 22) : ∃ t e, cTrace l ms lot = some (t, e) ∧ rTrace l ms lot = some (t, e) ∧ t.length ≤ 1073741824 := by
  generalize hr : runS l ms = x
  obtain ⟨fin, q, e⟩ := x
  by_cases he : e = 0
  · subst he
    obtain ⟨u, e', _, _, _, hlen, _⟩ := cTrace_spec lot hl hm hr
    exact ⟨u, 0, e', (rTrace_spec lot hl hm hr).trans e', hlen⟩
  · exact ⟨[], e, cTrace_fail lot (by omega) hr he, rTrace_fail lot (by omega) hr he, by simp⟩

theorem tells_L0 {l : List Account} {m : List Move} (hl : l.length ≤ 10) (hm : m.length ≤ 20) {fuel : Nat} (hf : m.length < fuel) : ∃ s, iterL (lawTells_L0 l m) fuel 0 = some (.ex 0 s) := by
  refine Exists.elim (loop_up (body := lawTells_L0 l m) (fun i s => s = (i : Int)) m.length (fun f => ∃ s, f = .ex 0 s) ?_ ?_ 0 rfl fuel hf) ?_
  · rintro i s hi rfl
    left
    refine ⟨_, ?_, rfl⟩
    unfold lawTells_L0
    rw [if_pos (by simpa using hi), getI_nat hi, Option.bind_some, cDo_spec _ (by omega), Option.bind_some, Option.bind_some, rDo_spec _ (by omega), Option.bind_some]
    have hlen := doS_len (l := l) (m := m[i])
    rw [if_neg (by simp), rSame_spec (Nat.le_trans hlen (by omega)), Option.bind_some, decide_eq_true (rfl : (doS l m[i]).1 = (doS l m[i]).1), Bool.not_true, Option.bind_some, if_neg (by decide), addI_one (by omega), Option.bind_some]
  · rintro s rfl
    refine ⟨.ex 0 (m.length : Int), ?_, trivial, _, rfl⟩
    unfold lawTells_L0
    rw [if_neg (by simp)]
  · rintro f ⟨hf, he, s, rfl⟩
    exact ⟨s, hf⟩
theorem tells_L1 {l : List Account} {m : List Move} {lot : Int} {x : List Account × Int × Int} (hl : l.length ≤ 10) (hm : m.length ≤ 20) {fuel : Nat} (hf : m.length + 1 < fuel) : ∃ s, iterL (lawTells_L1 l m lot x) fuel (-1) = some (.ex 2 s) := by
  refine Exists.elim (loop_up (body := lawTells_L1 l m lot x) (fun i s => s = (i : Int) - 1) (m.length + 1) (fun f => ∃ s, f = .ex 2 s) ?_ ?_ (-1) rfl fuel hf) ?_
  · rintro i s hi rfl
    unfold lawTells_L1
    by_cases hc : (i : Int) - 1 ≤ x.2.1 ∧ (i : Int) - 1 < (m.length : Int)
    · left
      refine ⟨_, ?_, rfl⟩
      obtain ⟨t, e, h1, h2, h3⟩ := rTrace_eq (l := l) (ms := m.take i) lot hl (by simp; omega)
      have ha : addI ((i : Int) - 1) 1 = some (i : Int) := by rw [addI_some (by unfold inI; omega)]; congr 1; omega
      have hsl : sliceI m 0 (i : Int) = some (m.take i) := by rw [sliceI_some (by omega) (by omega) (by omega)]; simp
      rw [if_pos (by simp [hc.1, hc.2]), ha, Option.bind_some, hsl, Option.bind_some, h1, Option.bind_some, Option.bind_some, hsl, Option.bind_some, h2, Option.bind_some, if_neg (by simp), rSameTrace_spec h3, Option.bind_some, decide_eq_true (rfl : t = t), Bool.not_true, Option.bind_some, if_neg (by decide), Option.bind_some]
      rw [show ((i + 1 : Nat) : Int) - 1 = (i : Int) by omega]
    · right
      refine ⟨.ex 2 ((i : Int) - 1), ?_, trivial, _, rfl⟩
      rw [if_neg (by simp; omega)]
  · rintro s rfl
    refine ⟨.ex 2 (((m.length + 1 : Nat) : Int) - 1), ?_, trivial, _, rfl⟩
    unfold lawTells_L1
    rw [if_neg (by simp <;> omega)]
  · rintro f ⟨hf, he, s, rfl⟩
    exact ⟨s, hf⟩

theorem runGo_len {ms : List Move} : ∀ (n : Nat) (now : List Account) (i : Nat), (runGo ms n now i).1.length ≤ now.length + n
  | 0, now, i => by simp [runGo]
  | n + 1, now, i => by
    simp only [runGo]
    split
    · simp only; omega
    · rename_i m hm
      split
      · simp only; omega
      · have h1 := runGo_len (ms := ms) n (doS now m).1 (i + 1)
        have h2 := doS_len (l := now) (m := m)
        omega
theorem law_tells (l : List Account) (m : List Move) (lot : Int) : lawTells l m lot = some true := by
  unfold lawTells
  rw [small_true, Option.bind_some]
  unfold few
  rw [Option.bind_some]
  by_cases hb : l.length ≤ 10 ∧ m.length ≤ 20
  · obtain ⟨hl, hm⟩ := hb
    rw [if_neg (by simp; omega), cRun_spec (by omega), Option.bind_some, rRun_spec (by omega), Option.bind_some]
    have hlen : (runS l m).1.length ≤ 1073741824 := by
      have h1 := runGo_len (ms := m) m.length l 0
      unfold runS
      split
      · omega
      · simp
    rw [rSame_spec hlen, Option.bind_some]
    rw [rRight_spec (by omega), rTotal_spec (by omega), rUnits_spec _ (by omega), cRight_spec (by omega), cUnits_spec _ (by omega)]
    have hct : ∃ t, cTotal l = some t := by
      by_cases hR : RightP l
      · exact ⟨_, cTotal_spec hR⟩
      · unfold cTotal; rw [cRight_spec (by omega), Option.bind_some, if_pos (by simp [hR])]; exact ⟨_, rfl⟩
    obtain ⟨t, ht⟩ := hct
    rw [ht]
    rw [decide_eq_true (rfl : (runS l m).1 = (runS l m).1), Bool.not_true]
    simp only [bne_self_eq_false, Bool.or_self, Bool.false_eq_true, if_false]
    obtain ⟨s0, h0⟩ := tells_L0 hl hm (fuel := l.length + m.length + 1) (by omega)
    rw [h0, Option.bind_some]
    obtain ⟨s1, h1⟩ := tells_L1 (lot := lot) (x := runS l m) hl hm (fuel := l.length + m.length + 2) (by omega)
    rw [h1]
    simp only [Option.bind_some, bne_self_eq_false, Bool.false_eq_true, if_false]
  · rw [if_pos (by simp; omega)]
end Go.Proofs.Ytbanncpkgbiklaa

