/- Calendar: what Counts, Count and Deadline compute. -/
import Derived.Test.YtdpekblabnfjnaaP2
namespace Go.Proofs.Ytdpekblabnfjnaa
open Go.Gb
set_option linter.unusedVariables false
set_option linter.unusedSimpArgs false

theorem half {x : Int} (h0 : 0 ≤ x) (h1 : x < 9223372036854775808) : IntKind.i64.wrap (IK.shr (IK.mk (IntKind.u64.wrap x) : IK .u64) 1).n = x / 2 := by
  unfold IK.shr
  dsimp only
  rw [IntKind.wrap_u64, Int.emod_eq_of_lt h0 (by omega), show ((2 : Int) ^ (1 : Int).toNat) = 2 from rfl, Int.fdiv_eq_ediv_of_nonneg _ (by decide), IntKind.wrap_i64]
  omega

theorem search_spec {n : Nat} {f : Int → Option Bool} (p : Nat → Bool) (hn : n ≤ 1099511627776) (hf : ∀ i : Nat, i < n → f i = some (p i)) (hp : ∀ i j, i ≤ j → p i = true → p j = true) :
    ∃ k : Nat, search n f = some (k : Int) ∧ k ≤ n ∧ (∀ j, j < k → p j = false) ∧ (k < n → p k = true) := by
  unfold search
  refine Exists.elim (loop_down (body := search_L0 f) (fun s => ∃ lo hi : Nat, s = ((lo : Int), (hi : Int)) ∧ lo ≤ hi ∧ hi ≤ n ∧ (∀ j, j < lo → p j = false) ∧ (hi < n → p hi = true)) (fun s => (s.2 - s.1).toNat)
    (fun g => ∃ k : Nat, ∃ h : Int, g = .ex 0 ((k : Int), h) ∧ k ≤ n ∧ (∀ j, j < k → p j = false) ∧ (k < n → p k = true)) ?_ (0, (n : Int)) ⟨0, n, rfl, Nat.zero_le _, Nat.le_refl _, fun j h => absurd h (Nat.not_lt_zero j), fun h => absurd h (Nat.lt_irrefl _)⟩ ((n : Int).toNat + 1) ?_) ?_
  · rintro s ⟨lo, hi, rfl, h1, h2, h3, h4⟩
    unfold search_L0
    dsimp only
    by_cases hlt : lo < hi
    · left
      have hh : ((lo : Int) + hi) / 2 = ((lo + hi) / 2 : Nat) := by omega
      rw [if_pos (by simpa using hlt), addI_some (by unfold inI; omega), Option.bind_some, half (by omega) (by omega), hh, hf _ (by omega), Option.bind_some]
      cases hm : p ((lo + hi) / 2) with
      | false =>
        rw [if_pos (by decide), addI_one (show (lo + hi) / 2 < 4611686018427387904 by omega), Option.bind_some, Option.bind_some]
        refine ⟨_, rfl, ⟨(lo + hi) / 2 + 1, hi, rfl, by omega, h2, fun j hj => ?_, h4⟩, ?_⟩
        · cases hpj : p j with
          | false => rfl
          | true => rw [hp j ((lo + hi) / 2) (by omega) hpj] at hm; cases hm
        · dsimp only; omega
      | true =>
        rw [if_neg (by decide), Option.bind_some]
        refine ⟨_, rfl, ⟨lo, (lo + hi) / 2, rfl, by omega, by omega, h3, fun _ => hm⟩, ?_⟩
        dsimp only; omega
    · right
      obtain rfl : lo = hi := by omega
      refine ⟨.ex 0 ((lo : Int), (lo : Int)), by rw [if_neg (by simp)], trivial, lo, _, rfl, h2, h3, h4⟩
  · dsimp only; omega
  · rintro g ⟨hg, he, k, h, rfl, h1, h2, h3⟩
    rw [hg, Option.bind_some]
    exact ⟨k, rfl, h1, h2, h3⟩

theorem cLess_spec (x y : Int) : cLess x y = some (decide (x < y)) := by
  unfold cLess cIsNaN
  simp

theorem binSearch_spec {h : List Int} (t : Int) (hR : RH h) : ∃ k, binSearch h t = some (k, decide (t ∈ h)) := by
  have hl := hR.1
  have hlt := List.pairwise_iff_getElem.1 hR.2.2
  unfold binSearch
  refine Exists.elim (loop_down (body := binSearch_L0 h t) (fun s => ∃ lo hi : Nat, s = ((lo : Int), (hi : Int)) ∧ lo ≤ hi ∧ hi ≤ h.length ∧ (∀ j (hj : j < h.length), j < lo → h[j] < t) ∧ (∀ hj : hi < h.length, t ≤ h[hi])) (fun s => (s.2 - s.1).toNat)
    (fun g => ∃ k : Nat, ∃ x : Int, g = .ex 0 ((k : Int), x) ∧ k ≤ h.length ∧ (∀ j (hj : j < h.length), j < k → h[j] < t) ∧ (∀ hj : k < h.length, t ≤ h[k])) ?_ (0, (h.length : Int)) ⟨0, h.length, rfl, Nat.zero_le _, Nat.le_refl _, fun j _ h => absurd h (Nat.not_lt_zero j), fun hj => absurd hj (Nat.lt_irrefl _)⟩ (h.length + 1) ?_) ?_
  · rintro s ⟨lo, hi, rfl, h1, h2, h3, h4⟩
    unfold binSearch_L0
    dsimp only
    by_cases hc : lo < hi
    · left
      have hh : ((lo : Int) + hi) / 2 = ((lo + hi) / 2 : Nat) := by omega
      have hm : (lo + hi) / 2 < h.length := by omega
      rw [if_pos (by simpa using hc), addI_some (by unfold inI; omega), Option.bind_some, half (by omega) (by omega), hh, getI_nat hm, Option.bind_some, cLess_spec, Option.bind_some]
      by_cases hv : h[(lo + hi) / 2] < t
      · rw [if_pos (by simpa using hv), addI_one (show (lo + hi) / 2 < 4611686018427387904 by omega), Option.bind_some, Option.bind_some]
        refine ⟨_, rfl, ⟨(lo + hi) / 2 + 1, hi, rfl, by omega, h2, fun j hj hjl => ?_, h4⟩, ?_⟩
        · rcases Nat.lt_or_ge j ((lo + hi) / 2) with hq | hq
          · have := hlt j _ hj hm hq; omega
          · obtain rfl : j = (lo + hi) / 2 := by omega
            exact hv
        · dsimp only; omega
      · rw [if_neg (by simpa using hv), Option.bind_some]
        refine ⟨_, rfl, ⟨lo, (lo + hi) / 2, rfl, by omega, by omega, h3, fun _ => by omega⟩, ?_⟩
        dsimp only; omega
    · right
      obtain rfl : lo = hi := by omega
      exact ⟨.ex 0 ((lo : Int), (lo : Int)), by rw [if_neg (by simp)], trivial, lo, _, rfl, h2, h3, h4⟩
  · dsimp only; omega
  · rintro g ⟨hg, he, k, x, rfl, h1, h2, h3⟩
    rw [hg, Option.bind_some]
    dsimp only
    refine ⟨(k : Int), ?_⟩
    have hmem : t ∈ h ↔ ∃ hk : k < h.length, h[k] = t := by
      constructor
      · intro ht
        obtain ⟨j, hj, rfl⟩ := List.getElem_of_mem ht
        have a1 : ¬ j < k := fun hjk => by have := h2 j hj hjk; omega
        have hk : k < h.length := by omega
        refine ⟨hk, ?_⟩
        rcases Nat.lt_or_ge k j with a2 | a2
        · have b1 := hlt k j hk hj a2
          have b2 := h3 hk
          omega
        · obtain rfl : j = k := by omega
          rfl
      · rintro ⟨hk, rfl⟩
        exact List.getElem_mem hk
    by_cases hk : k < h.length
    · rw [if_pos (by simpa using hk), getI_nat hk, Option.bind_some]
      by_cases he : h[k] = t
      · rw [if_pos (by simpa using he), Option.bind_some, Option.bind_some]
        have : t ∈ h := hmem.2 ⟨hk, he⟩
        simp [this]
      · have : ¬ t ∈ h := fun ht => he (hmem.1 ht).2
        rw [if_neg (by simpa using he), Option.bind_some]
        simp [this, sIsNaN]
    · have : ¬ t ∈ h := fun ht => hk (hmem.1 ht).1
      rw [if_neg (by simpa using hk), Option.bind_some]
      simp [this]

theorem contains_spec {l : List Stay} {f : Stay → Option Bool} (q : Stay → Bool) (hl : l.length ≤ 1000) (hf : ∀ s, f s = some (q s)) : containsFunc l f = some (l.any q) := by
  unfold containsFunc indexFunc
  refine Exists.elim (loop_up (body := indexFunc_L0 l f) (fun i s => s = (i : Int) ∧ ∀ j (hj : j < l.length), j < i → q l[j] = false) l.length
    (fun g => (l.any q = true ∧ ∃ i : Nat, g = .ret (i : Int)) ∨ (l.any q = false ∧ ∃ i, g = .ex 0 i)) ?_ ?_ 0 ⟨rfl, fun j _ h => absurd h (Nat.not_lt_zero j)⟩ (l.length + 1) (by omega)) ?_
  · rintro i s hi ⟨rfl, hG⟩
    unfold indexFunc_L0
    rw [if_pos (by simpa using hi), getI_nat hi, Option.bind_some, hf, Option.bind_some]
    by_cases hq : q l[i] = true
    · right
      exact ⟨.ret (i : Int), by rw [if_pos hq], trivial, .inl ⟨List.any_eq_true.2 ⟨_, List.getElem_mem hi, hq⟩, i, rfl⟩⟩
    · left
      rw [if_neg hq, addI_one (show i < 4611686018427387904 by omega), Option.bind_some]
      refine ⟨_, rfl, rfl, fun j hj hji => ?_⟩
      rcases Nat.lt_or_ge j i with h | h
      · exact hG j hj h
      · obtain rfl : j = i := by omega
        simpa using hq
  · rintro s ⟨rfl, hG⟩
    refine ⟨.ex 0 (l.length : Int), ?_, trivial, .inr ⟨List.any_eq_false.2 fun x hx => ?_, _, rfl⟩⟩
    · unfold indexFunc_L0
      rw [if_neg (by simp)]
    · obtain ⟨j, hj, rfl⟩ := List.getElem_of_mem hx
      simp [hG j hj hj]
  · rintro g ⟨hg, he, hp⟩
    rw [hg, Option.bind_some]
    rcases hp with ⟨h, i, rfl⟩ | ⟨h, i, rfl⟩
    · simp [h]
    · simp [h]

/-- The lists are valid. -/
def Ok (h : List Int) (l : List Stay) : Prop := (∀ s ∈ l, VS s) ∧ RH h
instance (h : List Int) (l : List Stay) : Decidable (Ok h l) := inferInstanceAs (Decidable (_ ∧ _))
def isD (d : Int) : Prop := 0 ≤ d ∧ d ≤ 1073741824
instance (d : Int) : Decidable (isD d) := inferInstanceAs (Decidable (_ ∧ _))

theorem calCounts_spec {h : List Int} {l : List Stay} (d : Int) (hl : l.length ≤ 12) : calCounts h l d = some (decide (Ok h l) && decide (isD d) && C h l d) := by
  unfold calCounts
  obtain ⟨c1, c2⟩ := calm_spec hl
  by_cases hV : ∀ s ∈ l, VS s
  · obtain ⟨out, hc, _⟩ := c1 hV
    rw [hc, Option.bind_some, if_neg (by simp), calRight_spec, Option.bind_some, Option.bind_some]
    by_cases hR : RH h
    · rw [if_neg (by simp [hR]), isDay_spec, Option.bind_some, Option.bind_some]
      have hOk : Ok h l := ⟨hV, hR⟩
      by_cases hd : isD d
      · have hd' := hd
        unfold isD at hd'
        rw [if_neg (by simp [hd']), show remI d 7 = some (d % 7) from by unfold remI; rw [Int.tmod_eq_emod_of_nonneg hd'.1, if_pos (by decide)], Option.bind_some, Option.bind_some]
        by_cases hw : d % 7 < 5
        · rw [if_neg (by simp; omega)]
          obtain ⟨k, hb⟩ := binSearch_spec d hR
          rw [hb, Option.bind_some]
          dsimp only
          by_cases hm : d ∈ h
          · rw [if_pos (by simp [hm])]; simp [C, W, hm]
          · rw [if_neg (by simp [hm]), contains_spec (l := l) (f := fun y0 => calCounts_c36 y0 d) (fun s => decide (s.From ≤ d) && decide (d ≤ s.To)) (by omega) (fun s => rfl), Option.bind_some]
            have : (l.any fun s => decide (s.From ≤ d) && decide (d ≤ s.To)) = decide (inS l d) := by
              rw [Bool.eq_iff_iff, decide_eq_true_iff, List.any_eq_true]; unfold inS; simp only [Bool.and_eq_true, decide_eq_true_eq]
            rw [this]
            simp [C, W, hm, hd, hOk, wk, hw]
        · rw [if_pos (by simp; omega)]; simp [C, W, wk, hw]
      · rw [if_pos (by unfold isD at hd; simp; omega), Option.bind_some, if_pos rfl]; simp [hd]
    · rw [if_pos (by simp [hR]), Option.bind_some, if_pos rfl, Option.bind_some, if_pos rfl]
      have : ¬ Ok h l := fun h => hR h.2
      simp [this]
  · rw [c2 hV, Option.bind_some, if_pos (by decide), Option.bind_some, if_pos rfl, Option.bind_some, if_pos rfl, Option.bind_some, if_pos rfl]
    have : ¬ Ok h l := fun h => hV h.1
    simp [this]

theorem count_eq {h : List Int} {l out : List Stay} {a b : Int} (hO : Ok h l) (hc : Calm l out) (hl : l.length ≤ 12) (ha : 0 ≤ a) (hab : a < b) (hb : b ≤ 1073741824) : calCountG h out a b = some (G (C h l) (a + 1) (b - a).toNat : Int) := by
  rw [countG_spec hO.2 hc.ok hc.asc (by have := hc.len; omega) ha hab hb]
  have : (fun d => W h d && !decide (inS out d)) = C h l := by
    funext d
    have := hc.days d
    simp [C, this]
  rw [this]

theorem calCount_spec {h : List Int} {l : List Stay} (a b : Int) (hl : l.length ≤ 12) : calCount h l a b = some (if Ok h l ∧ isD a ∧ isD b ∧ a < b then (G (C h l) (a + 1) (b - a).toNat : Int) else 0) := by
  unfold calCount
  obtain ⟨c1, c2⟩ := calm_spec hl
  by_cases hV : ∀ s ∈ l, VS s
  · obtain ⟨out, hc, hC⟩ := c1 hV
    rw [hc, Option.bind_some, if_neg (by simp), calRight_spec, Option.bind_some, Option.bind_some]
    by_cases hR : RH h
    · have hOk : Ok h l := ⟨hV, hR⟩
      rw [if_neg (by simp [hR]), isDay_spec, Option.bind_some, Option.bind_some]
      by_cases hda : isD a
      · have hda' := hda
        unfold isD at hda'
        rw [if_neg (by simp [hda']), isDay_spec, Option.bind_some, Option.bind_some]
        by_cases hdb : isD b ∧ a < b
        · have hdb' := hdb
          unfold isD at hdb'
          rw [if_neg (by simp [hdb']), count_eq hOk hC hl hda'.1 hdb.2 hdb'.1.2, Option.bind_some, if_pos ⟨hOk, hda, hdb⟩]
        · rw [if_pos (by unfold isD at hdb; simp; omega), if_neg fun h => hdb h.2.2]
      · rw [if_pos (by unfold isD at hda; simp; omega), Option.bind_some, if_pos (by simp), if_neg fun h => hda h.2.1]
    · rw [if_pos (by simp [hR]), Option.bind_some, if_pos rfl, Option.bind_some, if_pos (by simp), if_neg fun h => hR h.1.2]
  · rw [c2 hV, Option.bind_some, if_pos (by decide), Option.bind_some, if_pos rfl, Option.bind_some, if_pos rfl, Option.bind_some, if_pos (by simp), if_neg fun h => hV h.1.1]

/-- What Deadline returns. -/
inductive DL (h : List Int) (l : List Stay) (day n : Int) : Int × Int → Prop where
  | arg : ¬ (Ok h l ∧ isD day ∧ isD n) → DL h l day n (0, 1)
  | zero : Ok h l → isD day → n = 0 → DL h l day n (day, 0)
  | none : Ok h l → isD day → 1 ≤ n → n ≤ 1073741824 → (G (C h l) (day + 1) (1073741824 - day).toNat : Int) < n → DL h l day n (0, 20)
  | some (k : Nat) : Ok h l → isD day → 1 ≤ n → n ≤ 1073741824 → day + 1 + k ≤ 1073741824 → (∀ j, j ≤ k → (G (C h l) (day + 1) j : Int) < n) → n ≤ (G (C h l) (day + 1) (k + 1) : Int) → DL h l day n (day + 1 + k, 0)

theorem calDeadline_spec {h : List Int} {l : List Stay} (day n : Int) (hl : l.length ≤ 12) : ∃ r, calDeadline h l day n = some r ∧ DL h l day n r := by
  unfold calDeadline
  obtain ⟨c1, c2⟩ := calm_spec hl
  by_cases hV : ∀ s ∈ l, VS s
  · obtain ⟨out, hc, hC⟩ := c1 hV
    rw [hc, Option.bind_some, if_neg (by simp), calRight_spec, Option.bind_some, Option.bind_some]
    by_cases hR : RH h
    · have hOk : Ok h l := ⟨hV, hR⟩
      rw [if_neg (by simp [hR]), isDay_spec, Option.bind_some, Option.bind_some]
      by_cases hda : isD day
      · have hda' := hda
        unfold isD at hda'
        rw [if_neg (by simp [hda']), isDay_spec, Option.bind_some, Option.bind_some]
        by_cases hdn : isD n
        · have hdn' := hdn
          unfold isD at hdn'
          rw [if_neg (by simp [hdn'])]
          by_cases h0 : n = 0
          · rw [if_pos (by simpa using h0)]
            exact ⟨_, rfl, .zero hOk hda h0⟩
          · rw [if_neg (by simpa using h0), subI_some (by unfold inI; omega), Option.bind_some]
            dsimp only
            obtain ⟨k, hs, hk, hlow, hhigh⟩ := search_spec (n := (1073741824 - day).toNat) (f := fun y0 => calDeadline_c28 y0 h out day n) (fun i => decide (n ≤ (G (C h l) (day + 1) (i + 1) : Int))) (by omega)
              (fun i hi => by
                unfold calDeadline_c28
                rw [addI_some (by unfold inI; omega), Option.bind_some, addI_some (by unfold inI; omega), Option.bind_some, count_eq hOk hC hl (by omega) (by omega) (by omega), Option.bind_some, show (day + 1 + (i : Int) - day).toNat = i + 1 by omega])
              (fun i j hij hi => by
                have := G_mono (C h l) (day + 1) (show i + 1 ≤ j + 1 by omega)
                simp only [decide_eq_true_eq] at hi ⊢
                omega)
            rw [show (((1073741824 - day).toNat : Nat) : Int) = 1073741824 - day by omega] at hs
            rw [hs, Option.bind_some]
            simp only [decide_eq_false_iff_not, Int.not_le, decide_eq_true_eq] at hlow hhigh
            by_cases hkn : (k : Int) = 1073741824 - day
            · rw [if_pos (by simpa using hkn)]
              refine ⟨_, rfl, .none hOk hda (by omega) hdn'.2 ?_⟩
              rw [← hkn, Int.toNat_natCast]
              cases k with
              | zero => simp only [G]; omega
              | succ k => exact hlow k (by omega)
            · rw [if_neg (by simpa using hkn), addI_some (by unfold inI; omega), Option.bind_some, addI_some (by unfold inI; omega), Option.bind_some]
              refine ⟨_, rfl, .some k hOk hda (by omega) hdn'.2 (by omega) (fun j hj => ?_) (hhigh (by omega))⟩
              cases j with
              | zero => simp only [G]; omega
              | succ j => exact hlow j (by omega)
        · rw [if_pos (by unfold isD at hdn; simp; omega)]
          exact ⟨_, rfl, .arg fun h => hdn h.2.2⟩
      · rw [if_pos (by unfold isD at hda; simp; omega), Option.bind_some, if_pos rfl]
        exact ⟨_, rfl, .arg fun h => hda h.2.1⟩
    · rw [if_pos (by simp [hR]), Option.bind_some, if_pos rfl, Option.bind_some, if_pos rfl]
      exact ⟨_, rfl, .arg fun h => hR h.1.2⟩
  · rw [c2 hV, Option.bind_some, if_pos (by decide), Option.bind_some, if_pos rfl, Option.bind_some, if_pos rfl, Option.bind_some, if_pos rfl]
    exact ⟨_, rfl, .arg fun h => hV h.1.1⟩

theorem G_step (P : Int → Bool) (a : Int) (k : Nat) : G P a (k + 1) ≤ G P a k + 1 := by rw [G]; split <;> omega
/-- The result is determined by what counts. -/
theorem DL.unique {h h' : List Int} {l l' : List Stay} {day n : Int} {r r' : Int × Int} (hr : DL h l day n r) (hr' : DL h' l' day n r') (hO : Ok h l ↔ Ok h' l') (hC : ∀ d, 0 ≤ d → C h l d = C h' l' d) : r = r' := by
  have hG : isD day → ∀ k, G (C h l) (day + 1) k = G (C h' l') (day + 1) k := fun hd k => G_congr fun d h1 _ => hC d (by unfold isD at hd; omega)
  cases hr with
  | arg hn =>
    cases hr' with
    | arg _ => rfl
    | zero o d e => exact absurd ⟨hO.2 o, d, by unfold isD; omega⟩ hn
    | none o d e f _ => exact absurd ⟨hO.2 o, d, by unfold isD; omega⟩ hn
    | some k o d e f _ _ _ => exact absurd ⟨hO.2 o, d, by unfold isD; omega⟩ hn
  | zero o d e =>
    cases hr' with
    | arg hn => exact absurd ⟨hO.1 o, d, by unfold isD; omega⟩ hn
    | zero _ _ _ => rfl
    | none _ _ e' _ _ => omega
    | some k _ _ e' _ _ _ _ => omega
  | none o d e f g =>
    cases hr' with
    | arg hn => exact absurd ⟨hO.1 o, d, by unfold isD; omega⟩ hn
    | zero _ _ e' => omega
    | none _ _ _ _ _ => rfl
    | some k _ _ _ _ hk _ hi =>
      rw [hG d] at g
      have := G_mono (C h' l') (day + 1) (show k + 1 ≤ (1073741824 - day).toNat by omega)
      omega
  | some k o d e f hk lo hi =>
    cases hr' with
    | arg hn => exact absurd ⟨hO.1 o, d, by unfold isD; omega⟩ hn
    | zero _ _ e' => omega
    | none _ _ _ _ g =>
      rw [hG d] at hi
      have := G_mono (C h' l') (day + 1) (show k + 1 ≤ (1073741824 - day).toNat by omega)
      omega
    | some k' _ _ _ _ _ lo' hi' =>
      rw [hG d] at hi
      have h1 : ¬ k' < k := fun hlt => by have := lo (k' + 1) (by omega); rw [hG d] at this; omega
      have h2 : ¬ k < k' := fun hlt => by have := lo' (k + 1) (by omega); omega
      obtain rfl : k = k' := by omega
      rfl

set_option maxRecDepth 100000 in
theorem small_true : small = some true := by decide +kernel
end Go.Proofs.Ytdpekblabnfjnaa
