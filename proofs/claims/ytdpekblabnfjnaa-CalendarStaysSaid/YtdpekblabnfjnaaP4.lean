/- CalendarDeadline and CalendarWeeks, as laws of what the functions compute. -/
import Derived.Test.YtdpekblabnfjnaaP3
namespace Go.Proofs.Ytdpekblabnfjnaa
open Go.Gb
set_option linter.unusedVariables false
set_option linter.unusedSimpArgs false

theorem within_spec (n a b : Int) : within n a b = some (decide (a ≤ n ∧ n ≤ b)) := by
  unfold within; simp [Bool.decide_and]
theorem few_spec (h : List Int) (l : List Stay) : few h l = some (decide (h.length ≤ 30 ∧ l.length ≤ 10)) := by
  unfold few
  have a : decide ((h.length : Int) ≤ 30) = decide (h.length ≤ 30) := by rw [decide_eq_decide]; omega
  have b : decide ((l.length : Int) ≤ 10) = decide (l.length ≤ 10) := by rw [decide_eq_decide]; omega
  rw [a, b, Bool.decide_and]

theorem law_deadline (h : List Int) (l : List Stay) (day n m : Int) : lawDeadline h l day n m = some true := by
  unfold lawDeadline
  rw [small_true, Option.bind_some, few_spec, Option.bind_some]
  by_cases hf : h.length ≤ 30 ∧ l.length ≤ 10
  · rw [if_neg (by simp [hf]), within_spec, Option.bind_some, Option.bind_some]
    by_cases hn : 1 ≤ n ∧ n ≤ 1000000
    · rw [if_neg (by simp [hn]), within_spec, Option.bind_some, Option.bind_some]
      by_cases hm : 1 ≤ m ∧ m ≤ 1000000
      · rw [if_neg (by simp [hm])]
        have hl : l.length ≤ 12 := by omega
        obtain ⟨r, hr, hD⟩ := calDeadline_spec (h := h) (l := l) day n hl
        rw [hr, Option.bind_some]
        cases hD with
        | arg _ => rfl
        | zero _ _ e => omega
        | none hO hd _ _ hlt =>
          have hd' := hd
          unfold isD at hd'
          rw [if_neg (by decide), calCount_spec _ _ hl, Option.bind_some, if_pos (by decide)]
          have hx : (if Ok h l ∧ isD day ∧ isD 1073741824 ∧ day < 1073741824 then (G (C h l) (day + 1) (1073741824 - day).toNat : Int) else 0) < n := by
            split
            · exact hlt
            · omega
          simp [hx]
        | some k hO hd _ _ hk hlo hhi =>
          have hd' := hd
          unfold isD at hd'
          have hisD : ∀ d, 0 ≤ d → d ≤ 1073741824 → isD d := fun d a b => ⟨a, b⟩
          have hstep := G_step (C h l) (day + 1) k
          have hlok := hlo k (Nat.le_refl _)
          have hGk1 : (G (C h l) (day + 1) (k + 1) : Int) = n := by omega
          have hGk : (G (C h l) (day + 1) k : Int) = n - 1 := by omega
          have hCk : C h l (day + 1 + k) = true := by
            cases hc : C h l (day + 1 + k) with
            | true => rfl
            | false => rw [G, hc] at hGk1; simp at hGk1; omega
          have hmono := G_mono (C h l) (day + 1) (show k + 1 ≤ (1073741824 - day).toNat by omega)
          have cc : ∀ b, isD b → day < b → calCount h l day b = some (G (C h l) (day + 1) (b - day).toNat : Int) := fun b hb hlt => by rw [calCount_spec _ _ hl, if_pos ⟨hO, hd, hb, hlt⟩]
          rw [if_neg (by simp), cc 1073741824 (hisD _ (by omega) (by omega)) (by omega), Option.bind_some, if_neg (by simp)]
          dsimp only
          rw [if_neg (by simp; omega), calCounts_spec _ hl, Option.bind_some, Option.bind_some, if_neg (by simp [hO, hCk, hisD (day + 1 + k) (by omega) (by omega)]), cc (day + 1 + k) (hisD _ (by omega) (by omega)) (by omega), Option.bind_some, Option.bind_some, show (day + 1 + (k : Int) - day).toNat = k + 1 by omega, hGk1, if_neg (by simp), subI_some (by unfold inI; omega), Option.bind_some]
          have hlast : (if decide (day < day + 1 + (k : Int) - 1) = true then
              (some (day + 1 + (k : Int) - 1)).bind fun x679_34 => (calCount h l day x679_34).bind fun x679_35 => (subI n 1).bind fun x679_37 => some (x679_35 != x679_37)
              else some false) = some false := by
            by_cases hk0 : 0 < k
            · rw [if_pos (by simp; omega), Option.bind_some, cc (day + 1 + k - 1) (hisD _ (by omega) (by omega)) (by omega), Option.bind_some, subI_some (by unfold inI; omega), Option.bind_some, show (day + 1 + (k : Int) - 1 - day).toNat = k by omega, hGk]
              simp
            · rw [if_neg (by simp; omega)]
          rw [hlast, Option.bind_some, Option.bind_some, if_neg (by decide)]
          obtain ⟨r1, hr1, hD1⟩ := calDeadline_spec (h := h) (l := l) (day + 1 + k) m hl
          obtain ⟨r2, hr2, hD2⟩ := calDeadline_spec (h := h) (l := l) day (n + m) hl
          obtain ⟨r3, hr3, hD3⟩ := calDeadline_spec (h := h) (l := l) day 0 hl
          rw [hr1, Option.bind_some, addI_some (by unfold inI; omega), Option.bind_some, hr2, Option.bind_some, hr3, Option.bind_some]
          have h3 : r3 = (day, 0) := by
            cases hD3 with
            | arg hn => exact absurd ⟨hO, hd, hisD _ (by omega) (by omega)⟩ hn
            | zero _ _ _ => rfl
            | none _ _ e _ _ => omega
            | some _ _ _ e _ _ _ _ => omega
          subst h3
          have hsum : ∀ j, G (C h l) (day + 1) (k + 1 + j) = G (C h l) (day + 1) (k + 1) + G (C h l) (day + 1 + k + 1) j := by
            intro j
            rw [G_add, show day + 1 + ((k + 1 : Nat) : Int) = day + 1 + k + 1 by omega]
          have h12 : r1 = r2 := by
            cases hD1 with
            | arg hn => exact absurd ⟨hO, hisD _ (by omega) (by omega), hisD _ (by omega) (by omega)⟩ hn
            | zero _ _ e => omega
            | none _ _ _ _ g1 =>
              cases hD2 with
              | arg hn => exact absurd ⟨hO, hd, hisD _ (by omega) (by omega)⟩ hn
              | zero _ _ e => omega
              | none _ _ _ _ _ => rfl
              | some k2 _ _ _ _ hk2 _ hi2 =>
                have a := G_mono (C h l) (day + 1) (show k2 + 1 ≤ k + 1 + (1073741824 - (day + 1 + (k : Int))).toNat by omega)
                rw [hsum] at a
                omega
            | some k1 _ _ _ _ hk1 lo1 hi1 =>
              have s1 := hsum (k1 + 1)
              cases hD2 with
              | arg hn => exact absurd ⟨hO, hd, hisD _ (by omega) (by omega)⟩ hn
              | zero _ _ e => omega
              | none _ _ _ _ g2 =>
                have a := G_mono (C h l) (day + 1) (show k + 1 + (k1 + 1) ≤ (1073741824 - day).toNat by omega)
                omega
              | some k2 _ _ _ _ hk2 lo2 hi2 =>
                have h1 : ¬ k2 < k + 1 + k1 := fun hlt => by
                  by_cases hc : k2 + 1 ≤ k + 1
                  · have := G_mono (C h l) (day + 1) hc; omega
                  · obtain ⟨j, hj⟩ : ∃ j, k2 + 1 = k + 1 + j := ⟨k2 - k, by omega⟩
                    have := hsum j
                    have := lo1 j (by omega)
                    rw [hj] at hi2
                    omega
                have h2 : ¬ k + 1 + k1 < k2 := fun hlt => by
                  have := lo2 (k + 1 + (k1 + 1)) (by omega)
                  omega
                obtain rfl : k2 = k + 1 + k1 := by omega
                rw [show day + 1 + ((k + 1 + k1 : Nat) : Int) = day + 1 + k + 1 + k1 by omega]
          subst h12
          have hgt : r1.2 = 0 → day + 1 + (k : Int) < r1.1 := by
            intro h0
            cases hD1 with
            | arg _ => simp at h0
            | zero _ _ e => omega
            | none _ _ _ _ _ => simp at h0
            | some k1 _ _ _ _ _ _ _ => dsimp only; omega
          by_cases h0 : r1.2 = 0
          · simp [h0, hgt h0]
          · simp [h0]
      · rw [if_pos (by simp; omega)]
    · rw [if_pos (by simp; omega), Option.bind_some, if_pos rfl]
  · rw [if_pos (by simp; omega), Option.bind_some, if_pos rfl, Option.bind_some, if_pos rfl]
end Go.Proofs.Ytdpekblabnfjnaa
