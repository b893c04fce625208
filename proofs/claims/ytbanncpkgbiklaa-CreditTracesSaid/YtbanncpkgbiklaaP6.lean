/- Credit: what Trace computes. -/
import Derived.Test.YtbanncpkgbiklaaP5
namespace Go.Proofs.Ytbanncpkgbiklaa
open Go.Gb
set_option linter.unusedVariables false
set_option linter.unusedSimpArgs false

/-- The units of each lot: n units are brought to a lot, .. -/
def opE (E : Int → List Int) (lot n : Int) : Int → List Int := fun k => if k = lot then E k ++ List.replicate n.toNat lot else E k
/-- .. the first n units go from a lot to another one. -/
def mvE (E : Int → List Int) (f t n : Int) : Int → List Int := fun k => if k = f then (E f).drop n.toNat else if k = t then E t ++ (E f).take n.toNat else E k
def evE (E : Int → List Int) (m : Move) : Int → List Int :=
  if m.Kind = 0 then opE E m.To m.N else if m.Kind = 1 then mvE E m.From m.To m.N else if m.Kind = 2 then mvE E m.From 0 m.N else if m.Kind = 3 then mvE E m.From (-1) m.N else E
def stE (l : List Account) : Nat → Int → List Int
  | 0 => fun _ => []
  | i + 1 => match l[i]? with
    | some a => opE (stE l i) a.Lot a.Units
    | none => stE l i
def evs (ms : List Move) (E : Int → List Int) : Nat → Int → List Int
  | 0 => E
  | i + 1 => match ms[i]? with
    | some m => evE (evs ms E i) m
    | none => evs ms E i

/-- Each account has as many units as the ledger says; other lots have none. -/
structure Cons (now : List Account) (E : Int → List Int) : Prop where
  len : ∀ a ∈ now, (E a.Lot).length = a.Units.toNat
  rest : ∀ k, 1 ≤ k → (∀ a ∈ now, a.Lot ≠ k) → E k = []

theorem stE_spec {l : List Account} (hR : RightP l) : ∀ i, i ≤ l.length → (∀ j (hj : j < l.length), j < i → stE l i l[j].Lot = List.replicate l[j].Units.toNat l[j].Lot) ∧ ∀ k, (∀ j (hj : j < l.length), j < i → l[j].Lot ≠ k) → stE l i k = []
  | 0, _ => ⟨fun _ _ h => absurd h (Nat.not_lt_zero _), fun _ _ => rfl⟩
  | i + 1, hi => by
    obtain ⟨h1, h2⟩ := stE_spec hR i (by omega)
    have hlt : i < l.length := by omega
    simp only [stE, List.getElem?_eq_getElem hlt]
    constructor
    · intro j hj hji
      unfold opE
      rcases Nat.lt_or_ge j i with h | h
      · have := (List.pairwise_iff_getElem.1 hR.2.1) j i hj hlt h
        rw [if_neg (by omega)]
        exact h1 j hj h
      · obtain rfl : j = i := by omega
        rw [if_pos rfl, h2 _ fun j' hj' hlt' => by have := (List.pairwise_iff_getElem.1 hR.2.1) j' j hj' hj hlt'; omega]
        simp
    · intro k hk
      unfold opE
      rw [if_neg fun e => hk i hlt (by omega) e.symm]
      exact h2 k fun j hj hji => hk j hj (by omega)
theorem stE_cons {l : List Account} (hR : RightP l) : Cons l (stE l l.length) := by
  obtain ⟨h1, h2⟩ := stE_spec hR l.length (Nat.le_refl _)
  refine ⟨fun a ha => ?_, fun k _ hk => h2 k fun j hj _ => hk _ (List.getElem_mem hj)⟩
  obtain ⟨j, hj, rfl⟩ := List.getElem_of_mem ha
  rw [h1 j hj hj]
  simp

theorem modify_mem {l : List Account} {i : Nat} {f : Account → Account} {b : Account} (h : b ∈ l.modify i f) : (∃ hi : i < l.length, b = f l[i]) ∨ ∃ k, ∃ hk : k < l.length, k ≠ i ∧ b = l[k] := by
  obtain ⟨k, hk, rfl⟩ := List.getElem_of_mem h
  simp only [List.length_modify] at hk
  rw [List.getElem_modify]
  split
  · rename_i e; subst e; exact .inl ⟨hk, rfl⟩
  · rename_i e; exact .inr ⟨k, hk, fun h => e h.symm, rfl⟩
theorem lot_inj {l : List Account} (hR : RightP l) {i j : Nat} (hi : i < l.length) (hj : j < l.length) (h : l[i].Lot = l[j].Lot) : i = j := by
  rcases Nat.lt_trichotomy i j with hij | hij | hij
  · have := (List.pairwise_iff_getElem.1 hR.2.1) i j hi hj hij; omega
  · exact hij
  · have := (List.pairwise_iff_getElem.1 hR.2.1) j i hj hi hij; omega

/-- Taking units away, and bringing them to a place that is no account, or to another account. -/
theorem cons_mv {l : List Account} {E : Int → List Int} {i : Nat} {to n : Int} (hR : RightP l) (h : Cons l E) (hi : i < l.length) (hn : 1 ≤ n) (hle : n ≤ l[i].Units) (hto : to ≤ 0) :
    Cons (l.modify i fun a => { a with Units := a.Units - n }) (mvE E l[i].Lot to n) := by
  have hpos : ∀ k (hk : k < l.length), 1 ≤ l[k].Lot := fun k hk => (hR.1 _ (List.getElem_mem hk)).1
  constructor
  · intro b hb
    rcases modify_mem hb with ⟨_, rfl⟩ | ⟨k, hk, hki, rfl⟩
    · unfold mvE
      simp only [if_true, List.length_drop]
      rw [h.len _ (List.getElem_mem hi)]
      omega
    · unfold mvE
      rw [if_neg fun e => hki (lot_inj hR hk hi e), if_neg (by have := hpos k hk; omega)]
      exact h.len _ (List.getElem_mem hk)
  · intro k hk hnk
    unfold mvE
    have hne : k ≠ l[i].Lot := fun e => by
      have hm : (l.modify i fun a => { a with Units := a.Units - n })[i]'(by simpa using hi) ∈ (l.modify i fun a => { a with Units := a.Units - n }) := List.getElem_mem _
      refine hnk _ hm ?_
      rw [List.getElem_modify, if_pos rfl]
      exact e.symm
    rw [if_neg hne, if_neg (by omega)]
    refine h.rest k hk fun a ha => ?_
    obtain ⟨j, hj, rfl⟩ := List.getElem_of_mem ha
    have hm : (l.modify i fun a => { a with Units := a.Units - n })[j]'(by simpa using hj) ∈ (l.modify i fun a => { a with Units := a.Units - n }) := List.getElem_mem _
    have := hnk _ hm
    rw [List.getElem_modify] at this
    split at this <;> exact this

/-- What a move that succeeds is. -/
theorem doS_cases {l r : List Account} {m : Move} (h : doS l m = (r, 0)) :
    (m.Kind = 0 ∧ (∀ a ∈ l, a.Lot ≠ m.To) ∧ 1 ≤ m.To ∧ 0 ≤ m.N ∧ m.N ≤ 1073741824 ∧ r = insS l ⟨m.To, m.N, m.From == 1⟩) ∨
    (m.Kind = 1 ∧ m.From ≠ m.To ∧ 1 ≤ m.N ∧ m.N ≤ 1073741824 ∧ ∃ i j, ∃ hi : i < l.length, ∃ hj : j < l.length, i ≠ j ∧ l[i].Lot = m.From ∧ l[j].Lot = m.To ∧ l[j].Receives = true ∧ m.N ≤ l[i].Units ∧ l[j].Units + m.N ≤ 1073741824 ∧
      r = (l.modify i fun a => { a with Units := a.Units - m.N }).modify j fun a => { a with Units := a.Units + m.N }) ∨
    ((m.Kind = 2 ∨ m.Kind = 3) ∧ 1 ≤ m.N ∧ m.N ≤ 1073741824 ∧ ∃ i, ∃ hi : i < l.length, l[i].Lot = m.From ∧ m.N ≤ l[i].Units ∧ r = l.modify i fun a => { a with Units := a.Units - m.N }) := by
  have hst := doS_ok h
  unfold doS at h
  have hR := hst.right
  have hV := hst.valid
  simp only [hR, hV, and_self, not_true_eq_false, if_false] at h
  by_cases h0 : m.Kind = 0
  · left
    simp only [h0, if_true] at h
    cases hi : idx l m.To with
    | some i => simp [hi] at h
    | none =>
      simp only [hi, Option.isSome_none, Bool.false_eq_true, if_false] at h
      split at h
      · simp at h
      · simp only [Prod.mk.injEq, and_true] at h
        rcases hV with hv | hv | hv
        · exact ⟨h0, idx_none.1 hi, hv.2.1, hv.2.2.2.2.2.1, hv.2.2.2.2.2.2, h.symm⟩
        · omega
        · omega
  · right
    simp only [h0, if_false] at h
    cases hi : idx l m.From with
    | none => simp [hi] at h
    | some i =>
      obtain ⟨hi1, hi2, _⟩ := idx_some hi
      simp only [hi, List.getElem?_eq_getElem hi1, Option.getD_some] at h
      by_cases h1 : m.Kind = 1
      · left
        simp only [h1, if_true] at h
        cases hj : idx l m.To with
        | none => simp [hj] at h
        | some j =>
          obtain ⟨hj1, hj2, _⟩ := idx_some hj
          simp only [hj, List.getElem?_eq_getElem hj1, Option.getD_some] at h
          split at h
          · simp at h
          · split at h
            · simp at h
            · split at h
              · simp at h
              · rename_i c1 c2 c3
                simp only [Prod.mk.injEq, and_true] at h
                rcases hV with hv | hv | hv
                · omega
                · exact ⟨h1, hv.2.1, hv.2.2.1, hv.2.2.2, i, j, hi1, hj1, fun e => hv.2.1 (by rw [← hi2, ← hj2]; subst e; rfl), hi2, hj2, by simpa using c1, by omega, by omega, h.symm⟩
                · omega
      · right
        simp only [h1, if_false] at h
        split at h
        · simp at h
        · rename_i c1
          simp only [Prod.mk.injEq, and_true] at h
          rcases hV with hv | hv | hv
          · omega
          · omega
          · exact ⟨hv.1, hv.2.2.1, hv.2.2.2, i, hi1, hi2, by omega, h.symm⟩

theorem doS_cons {l r : List Account} {m : Move} {E : Int → List Int} (h : doS l m = (r, 0)) (hc : Cons l E) : Cons r (evE E m) := by
  have hst := doS_ok h
  have hR := hst.right
  rcases doS_cases h with ⟨h0, h1, h2, h3, h4, rfl⟩ | ⟨h0, h1, h2, h3, i, j, hi, hj, hij, hf, ht, hrc, hu, hm, rfl⟩ | ⟨h0, h2, h3, i, hi, hf, hu, rfl⟩
  · unfold evE
    rw [if_pos h0]
    constructor
    · intro b hb
      unfold opE
      rcases insS_mem.1 hb with rfl | hb
      · simp only [if_true]
        rw [hc.rest _ h2 h1]
        simp
      · rw [if_neg (h1 b hb)]
        exact hc.len b hb
    · intro k hk hnk
      unfold opE
      rw [if_neg fun e => hnk _ (insS_mem.2 (.inl rfl)) e.symm]
      exact hc.rest k hk fun a ha => hnk a (insS_mem.2 (.inr ha))
  · unfold evE
    rw [if_neg (by omega), if_pos h0, ← hf, ← ht]
    have hne : l[i].Lot ≠ l[j].Lot := fun e => hij (lot_inj hR hi hj e)
    constructor
    · intro b hb
      rcases modify_mem hb with ⟨_, rfl⟩ | ⟨k, hk, hki, rfl⟩
      · rw [List.getElem_modify, if_neg hij]
        unfold mvE
        simp only
        rw [if_neg fun e => hne e.symm, if_pos trivial, List.length_append, List.length_take, hc.len _ (List.getElem_mem hi), hc.len _ (List.getElem_mem hj)]
        have := hR.1 _ (List.getElem_mem hj)
        unfold okA at this
        omega
      · simp only [List.length_modify] at hk
        rw [List.getElem_modify]
        split
        · rename_i e; subst e
          unfold mvE
          simp only [if_true, List.length_drop]
          rw [hc.len _ (List.getElem_mem hi)]
          omega
        · rename_i e
          unfold mvE
          rw [if_neg fun e' => e (lot_inj hR hk hi e').symm, if_neg fun e' => hki (lot_inj hR hk hj e')]
          exact hc.len _ (List.getElem_mem hk)
    · intro k hk hnk
      have key : ∀ a ∈ l, a.Lot ≠ k := by
        intro a ha
        obtain ⟨q, hq, rfl⟩ := List.getElem_of_mem ha
        have hm : ((l.modify i fun a => { a with Units := a.Units - m.N }).modify j fun a => { a with Units := a.Units + m.N })[q]'(by simpa using hq) ∈ ((l.modify i fun a => { a with Units := a.Units - m.N }).modify j fun a => { a with Units := a.Units + m.N }) := List.getElem_mem _
        have := hnk _ hm
        rw [List.getElem_modify] at this
        split at this
        · rw [List.getElem_modify] at this; split at this <;> exact this
        · rw [List.getElem_modify] at this; split at this <;> exact this
      unfold mvE
      rw [if_neg fun e => key _ (List.getElem_mem hi) e.symm, if_neg fun e => key _ (List.getElem_mem hj) e.symm]
      exact hc.rest k hk key
  · unfold evE
    rw [if_neg (by omega), if_neg (by omega), ← hf]
    rcases h0 with h0 | h0
    · rw [if_pos h0]
      exact cons_mv hR hc hi h2 hu (by omega)
    · rw [if_neg (by omega), if_pos h0]
      exact cons_mv hR hc hi h2 hu (by omega)

/-- The piles are those that are told, with at most c parts and u units each. -/
def Match (m : PM) (E : Int → List Int) (c u : Nat) : Prop := ∀ k, Pile (m.at k) (E k) c u
theorem Pile.mono {t : List (Int × Int)} {E : List Int} {c u c' u' : Nat} (h : Pile t E c u) (hc : c ≤ c') (hu : u ≤ u') : Pile t E c' u' := ⟨h.can, h.exp, Nat.le_trans h.len hc, Nat.le_trans h.units hu⟩

theorem match_put {m : PM} {E : Int → List Int} {c u : Nat} {lot n : Int} (h : Match m E c u) (h0 : 0 ≤ n) (hn : n ≤ 1073741824) (hc : c < 1073741824) (hu : u < 1099511627776) :
    ∃ m', cPut m lot lot n = some m' ∧ Match m' (opE E lot n) (c + 1) (u + 1073741824) := by
  obtain ⟨m', h1, h2, h3⟩ := cPut_spec (o := lot) (h lot) h0 hn hc hu
  refine ⟨m', h1, fun k => ?_⟩
  unfold opE
  split
  · rename_i e; subst e; exact h3.mono (Nat.le_refl _) (by omega)
  · rename_i e; rw [h2 k e]; exact (h k).mono (by omega) (by omega)
theorem match_take {m : PM} {E : Int → List Int} {c u : Nat} {f t n : Int} (h : Match m E c u) (hne : f ≠ t) (h0 : 1 ≤ n) (hn : n ≤ 1073741824) (hle : n.toNat ≤ (E f).length) (hc : 2 * c < 1073741823) (hu : u + 1073741824 < 1099511627776) :
    ∃ m', cTake m f t n = some m' ∧ Match m' (mvE E f t n) (2 * c + 1) (u + 1073741824) := by
  obtain ⟨m', h1, h2, h3, h4⟩ := cTake_spec hne (h f) (h t) (by omega) hle hn hc (by omega)
  refine ⟨m', h1, fun k => ?_⟩
  unfold mvE
  split
  · rename_i e; subst e; exact h3.mono (by omega) (by omega)
  · rename_i e
    split
    · rename_i e2; subst e2; exact h4.mono (Nat.le_refl _) (by omega)
    · rename_i e2; rw [h2 k e e2]; exact (h k).mono (by omega) (by omega)

/-- One move in the trace. -/
theorem trace_step {m : PM} {E : Int → List Int} {c u : Nat} {l r : List Account} {mv : Move} (hd : doS l mv = (r, 0)) (hcn : Cons l E) (h : Match m E c u) (hc : 2 * c < 1073741823) (hu : u + 1073741824 < 1099511627776) :
    ∃ m', (if (mv.Kind == 0) = true then (cPut m mv.To mv.To mv.N).bind fun x => some x else
        (if (mv.Kind == 1) = true then (cTake m mv.From mv.To mv.N).bind fun x => some x else
          (if (mv.Kind == 2) = true then (cTake m mv.From 0 mv.N).bind fun x => some x else
            (if (mv.Kind == 3) = true then (cTake m mv.From (-1) mv.N).bind fun x => some x else some m).bind fun x => some x).bind fun x => some x).bind fun x => some x) = some m' ∧
      Match m' (evE E mv) (2 * c + 1) (u + 1073741824) := by
  have hst := doS_ok hd
  have hpos : ∀ k (hk : k < l.length), 1 ≤ l[k].Lot := fun k hk => (hst.right.1 _ (List.getElem_mem hk)).1
  rcases doS_cases hd with ⟨h0, h1, h2, h3, h4, _⟩ | ⟨h0, h1, h2, h3, i, j, hi, hj, hij, hf, ht, _, hu', hm, _⟩ | ⟨h0, h2, h3, i, hi, hf, hu', _⟩
  · obtain ⟨m', e, hm⟩ := match_put (lot := mv.To) h h3 h4 (by omega) (by omega)
    refine ⟨m', by rw [if_pos (by simp [h0]), e]; rfl, ?_⟩
    unfold evE
    rw [if_pos h0]
    exact fun k => (hm k).mono (by omega) (Nat.le_refl _)
  · have hlen := hcn.len _ (List.getElem_mem hi)
    rw [hf] at hlen
    obtain ⟨m', e, hm⟩ := match_take (f := mv.From) (t := mv.To) (n := mv.N) h h1 h2 h3 (by omega) hc hu
    refine ⟨m', by rw [if_neg (by simp [h0]), if_pos (by simp [h0]), e]; rfl, ?_⟩
    unfold evE
    rw [if_neg (by omega), if_pos h0]
    exact hm
  · have hlen := hcn.len _ (List.getElem_mem hi)
    rw [hf] at hlen
    have hfp := hpos i hi
    rw [hf] at hfp
    rcases h0 with h0 | h0
    · obtain ⟨m', e, hm⟩ := match_take (f := mv.From) (t := 0) (n := mv.N) h (by omega) h2 h3 (by omega) hc hu
      refine ⟨m', by rw [if_neg (by simp [h0]), if_neg (by simp [h0]), if_pos (by simp [h0]), e]; rfl, ?_⟩
      unfold evE
      rw [if_neg (by omega), if_neg (by omega), if_pos h0]
      exact hm
    · obtain ⟨m', e, hm⟩ := match_take (f := mv.From) (t := -1) (n := mv.N) h (by omega) h2 h3 (by omega) hc hu
      refine ⟨m', by rw [if_neg (by simp [h0]), if_neg (by simp [h0]), if_neg (by simp [h0]), if_pos (by simp [h0]), e]; rfl, ?_⟩
      unfold evE
      rw [if_neg (by omega), if_neg (by omega), if_neg (by omega), if_pos h0]
      exact hm

/-- The whole of a run that succeeds. -/
theorem cTrace_spec {l : List Account} {ms : List Move} {fin : List Account} {q : Int} (lot : Int) (hl : l.length ≤ 10) (hm : ms.length ≤ 22) (hrun : runS l ms = (fin, q, 0)) :
    ∃ t, cTrace l ms lot = some (t, 0) ∧ Can t ∧ expT t = evs ms (stE l l.length) ms.length lot ∧ Cons fin (evs ms (stE l l.length) ms.length) ∧ t.length ≤ 1073741824 ∧ (expT t).length ≤ 42949672960 := by
  have hR : RightP l := by
    unfold runS at hrun
    by_cases hR : RightP l
    · exact hR
    · rw [if_neg hR] at hrun; simp at hrun
  unfold cTrace
  rw [cRun_spec (by omega), Option.bind_some, hrun, if_neg (by simp)]
  refine Exists.elim (loop_up (body := cTrace_L0 l) (fun i s => s.2 = (i : Int) ∧ Match s.1 (stE l i) i (i * 1073741824)) l.length (fun f => ∃ s, f = .ex 0 s ∧ Match s.1 (stE l l.length) l.length (l.length * 1073741824)) ?_ ?_ (⟨[]⟩, 0)
    ⟨rfl, fun k => ⟨trivial, rfl, Nat.le_refl _, Nat.le_refl _⟩⟩ (l.length + 1) (by omega)) ?_
  · rintro i ⟨m, j⟩ hi ⟨rfl, hM⟩
    left
    unfold cTrace_L0
    rw [if_pos (by simpa using hi)]
    dsimp only
    have hok := hR.1 _ (List.getElem_mem hi)
    obtain ⟨m', e, hm'⟩ := match_put (lot := l[i].Lot) (n := l[i].Units) hM hok.2.2.1 hok.2.2.2 (by omega) (by omega)
    rw [getI_nat hi, Option.bind_some, e, Option.bind_some, addI_one (show i < 4611686018427387904 by omega), Option.bind_some]
    refine ⟨_, rfl, rfl, ?_⟩
    simp only [stE, List.getElem?_eq_getElem hi]
    exact fun k => (hm' k).mono (Nat.le_refl _) (by omega)
  · rintro ⟨m, j⟩ ⟨rfl, hM⟩
    refine ⟨.ex 0 (m, (l.length : Int)), ?_, trivial, _, rfl, hM⟩
    unfold cTrace_L0
    rw [if_neg (by simp)]
  · rintro f ⟨hf, he, s, rfl, hM0⟩
    rw [hf, Option.bind_some]
    dsimp only
    have hc0 := stE_cons hR
    generalize stE l l.length = E0 at hM0 hc0
    unfold runS at hrun
    rw [if_pos hR] at hrun
    have hpow : ∀ i, i ≤ 22 → 11 * 2 ^ i ≤ 11 * 2 ^ 22 := fun i hi => Nat.mul_le_mul_left _ (Nat.pow_le_pow_right (by omega) hi)
    refine Exists.elim (loop_up (body := cTrace_L1 ms) (fun i s => s.2 = (i : Int) ∧ i ≤ ms.length ∧ Match s.1 (evs ms E0 i) (11 * 2 ^ i - 1) ((10 + i) * 1073741824) ∧ ∃ now, Cons now (evs ms E0 i) ∧ runGo ms (ms.length - i) now i = (fin, q, 0)) ms.length
      (fun f => ∃ s, f = .ex 2 s ∧ Match s.1 (evs ms E0 ms.length) 100000000 42949672960 ∧ Cons fin (evs ms E0 ms.length)) ?_ ?_ (s.1, 0)
      ⟨rfl, by omega, fun k => (hM0 k).mono (by omega) (by omega), l, hc0, by simpa using hrun⟩ (ms.length + 1) (by omega)) ?_
    · rintro i ⟨m, j⟩ hi ⟨rfl, _, hM, now, hcn, hr⟩
      left
      have hdo : doS now ms[i] = ((doS now ms[i]).1, 0) := by
        obtain ⟨k, hk⟩ : ∃ k, ms.length - i = k + 1 := ⟨ms.length - i - 1, by omega⟩
        rw [hk, runGo] at hr
        simp only [List.getElem?_eq_getElem hi] at hr
        by_cases he : (doS now ms[i]).2 = 0
        · rw [← he]
        · rw [if_pos he] at hr
          simp only [Prod.mk.injEq] at hr
          exact absurd hr.2.2 he
      have hnext : runGo ms (ms.length - (i + 1)) (doS now ms[i]).1 (i + 1) = (fin, q, 0) := by
        obtain ⟨k, hk⟩ : ∃ k, ms.length - i = k + 1 := ⟨ms.length - i - 1, by omega⟩
        rw [hk, runGo] at hr
        simp only [List.getElem?_eq_getElem hi] at hr
        rw [if_neg (by rw [hdo]; simp)] at hr
        rw [show ms.length - (i + 1) = k by omega]
        exact hr
      have hp := hpow i (by omega)
      have hp2 : 11 * 2 ^ 22 < 100000000 := by decide
      obtain ⟨m', e, hm'⟩ := trace_step hdo hcn hM (by omega) (by omega)
      unfold cTrace_L1
      rw [if_pos (by simpa using hi)]
      dsimp only
      rw [getI_nat hi, Option.bind_some, e, Option.bind_some, addI_one (show i < 4611686018427387904 by omega), Option.bind_some]
      refine ⟨_, rfl, rfl, by omega, ?_, (doS now ms[i]).1, ?_, hnext⟩
      · simp only [evs, List.getElem?_eq_getElem hi]
        have hp3 : 11 * 2 ^ (i + 1) = 2 * (11 * 2 ^ i) := by rw [Nat.pow_succ]; omega
        have hp4 : 1 ≤ 2 ^ i := Nat.one_le_two_pow
        exact fun k => (hm' k).mono (by omega) (by omega)
      · simp only [evs, List.getElem?_eq_getElem hi]
        exact doS_cons hdo hcn
    · rintro ⟨m, j⟩ ⟨rfl, _, hM, now, hcn, hr⟩
      rw [Nat.sub_self] at hr
      simp only [runGo, Prod.mk.injEq] at hr
      obtain ⟨rfl, _⟩ := hr
      have hp := hpow ms.length hm
      have hp2 : 11 * 2 ^ 22 < 100000000 := by decide
      refine ⟨.ex 2 (m, (ms.length : Int)), ?_, trivial, _, rfl, fun k => (hM k).mono (by omega) (by omega), hcn⟩
      unfold cTrace_L1
      rw [if_neg (by simp)]
    · rintro f ⟨hf, he, s, rfl, hM, hcn⟩
      rw [hf, Option.bind_some]
      exact ⟨_, rfl, (hM lot).can, (hM lot).exp, hcn, Nat.le_trans (hM lot).len (show 100000000 ≤ 1073741824 by decide), ((hM lot).exp ▸ (hM lot).units : (expT (PM.at s.1 lot)).length ≤ 42949672960)⟩
theorem cTrace_fail {l : List Account} {ms : List Move} {fin : List Account} {q e : Int} (lot : Int) (hl : l.length + ms.length ≤ 536870912) (hrun : runS l ms = (fin, q, e)) (he : e ≠ 0) : cTrace l ms lot = some ([], e) := by
  unfold cTrace
  rw [cRun_spec hl, Option.bind_some, hrun, if_pos (by simpa using he)]
end Go.Proofs.Ytbanncpkgbiklaa
