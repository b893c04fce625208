/- CalendarDays, as a law of what the functions compute. -/
import Derived.Test.YtdpekblabnfjnaaP5
namespace Go.Proofs.Ytdpekblabnfjnaa
open Go.Gb
set_option linter.unusedVariables false
set_option linter.unusedSimpArgs false

theorem allV_iff {l : List Stay} : allV l = true ↔ ∀ s ∈ l, VS s := by simp [allV]
theorem G_false (a : Int) : ∀ n, G (fun _ => false) a n = 0
  | 0 => rfl
  | n + 1 => by rw [G, G_false a n]; rfl

/-- The loop over the days. -/
theorem days_loop {h : List Int} {l : List Stay} {a days : Int} {j : Int} {n : Nat} (hl : l.length ≤ 10) (hh : h.length ≤ 30) (ha : 0 ≤ a) (hd : 0 ≤ days) (hd2 : days ≤ 400) (hm : a ≤ 1073741424) (hn : days.toNat < n) :
    ∃ d, iterL (lawDays_L1 h l a days (decide (RH h)) (allV l, j)) n (0, 0, a + 1) = some (.ex 2 ((G (fun d => decide (RH h) && W h d) (a + 1) days.toNat : Int), (G (fun d => decide (RH h) && W h d && allV l && !decide (inS l d)) (a + 1) days.toNat : Int), d)) := by
  refine Exists.elim (loop_up (body := lawDays_L1 h l a days (decide (RH h)) (allV l, j)) (fun i s => i ≤ days.toNat ∧ s = ((G (fun d => decide (RH h) && W h d) (a + 1) i : Int), (G (fun d => decide (RH h) && W h d && allV l && !decide (inS l d)) (a + 1) i : Int), a + 1 + (i : Int))) days.toNat
    (fun f => ∃ d, f = .ex 2 ((G (fun d => decide (RH h) && W h d) (a + 1) days.toNat : Int), (G (fun d => decide (RH h) && W h d && allV l && !decide (inS l d)) (a + 1) days.toNat : Int), d)) ?_ ?_ (0, 0, a + 1) ⟨Nat.zero_le _, by simp [G]⟩ n hn) ?_
  · rintro i s hi ⟨_, rfl⟩
    left
    have g1 := G_le (fun d => decide (RH h) && W h d) (a + 1) i
    have g2 := G_le (fun d => decide (RH h) && W h d && allV l && !decide (inS l d)) (a + 1) i
    obtain ⟨i2, h2⟩ := days_hol (h := h) (t := ((G (fun d => decide (RH h) && W h d) (a + 1) i : Int), (G (fun d => decide (RH h) && W h d && allV l && !decide (inS l d)) (a + 1) i : Int), a + 1 + (i : Int))) (b := decide (RH h) && wk (a + 1 + i)) (n := h.length + l.length + 1) (by omega) (by omega)
    obtain ⟨i3, h3⟩ := days_free (l := l) (t := ((G (fun d => decide (RH h) && W h d) (a + 1) i : Int), (G (fun d => decide (RH h) && W h d && allV l && !decide (inS l d)) (a + 1) i : Int), a + 1 + (i : Int))) (b := (decide (RH h) && wk (a + 1 + i) && decide (a + 1 + (i : Int) ∉ h)) && allV l) (n := h.length + l.length + 1) (by omega) (by omega)
    have hisD : isD (a + 1 + i) := ⟨by omega, by omega⟩
    have hW : (decide (RH h) && wk (a + 1 + i) && decide (a + 1 + (i : Int) ∉ h)) = (decide (RH h) && W h (a + 1 + i)) := by rw [W, Bool.and_assoc]
    have hv : (if decide (RH h) = true then (remI (a + 1 + (i : Int)) 7).bind fun x554_3 => some (decide (x554_3 < 5)) else some false) = some (decide (RH h) && wk (a + 1 + i)) := by
      rw [rem7 (by omega)]
      by_cases hR : RH h <;> simp [hR, wk]
    have hOk : decide (Ok h l) = (allV l && decide (RH h)) := by
      rw [Bool.eq_iff_iff, Bool.and_eq_true, decide_eq_true_iff, decide_eq_true_iff, allV_iff]
      exact Iff.rfl
    have hcnt : (decide (Ok h l) && decide (isD (a + 1 + (i : Int))) && C h l (a + 1 + i)) = (decide (RH h) && W h (a + 1 + i) && allV l && !decide (inS l (a + 1 + i))) := by
      rw [hOk]
      simp only [hisD, decide_true, Bool.and_true, C]
      cases allV l <;> cases decide (RH h) <;> simp
    unfold lawDays_L1
    dsimp only at h2 h3 ⊢
    rw [addI_some (by unfold inI; omega), Option.bind_some, if_pos (by simp; omega), hv, Option.bind_some, h2, Option.bind_some]
    dsimp only
    rw [h3, Option.bind_some]
    dsimp only
    rw [hW, calIsWork_spec, Option.bind_some]
    have hw2 : (decide (RH h) && decide (isD (a + 1 + (i : Int))) && W h (a + 1 + i)) = (decide (RH h) && W h (a + 1 + i)) := by simp [hisD]
    rw [hw2, if_neg (by simp), calCounts_spec _ (by omega), Option.bind_some, hcnt, Option.bind_some, if_neg (by simp)]
    have e1 : (if (decide (RH h) && W h (a + 1 + (i : Int))) = true then (addI (G (fun d => decide (RH h) && W h d) (a + 1) i : Int) 1).bind fun x597_1 => some x597_1 else some (G (fun d => decide (RH h) && W h d) (a + 1) i : Int)) = some (G (fun d => decide (RH h) && W h d) (a + 1) (i + 1) : Int) := by
      rw [G]
      by_cases hc : (decide (RH h) && W h (a + 1 + (i : Int))) = true
      · rw [if_pos hc, if_pos hc, addI_some (by unfold inI; omega)]; simp
      · rw [if_neg hc, if_neg hc]; simp
    have e2 : (if (decide (RH h) && W h (a + 1 + (i : Int)) && allV l && !decide (inS l (a + 1 + i))) = true then (addI (G (fun d => decide (RH h) && W h d && allV l && !decide (inS l d)) (a + 1) i : Int) 1).bind fun x604_1 => some x604_1 else some (G (fun d => decide (RH h) && W h d && allV l && !decide (inS l d)) (a + 1) i : Int)) = some (G (fun d => decide (RH h) && W h d && allV l && !decide (inS l d)) (a + 1) (i + 1) : Int) := by
      rw [G]
      by_cases hc : (decide (RH h) && W h (a + 1 + (i : Int)) && allV l && !decide (inS l (a + 1 + i))) = true
      · rw [if_pos hc, if_pos hc, addI_some (by unfold inI; omega)]; simp
      · rw [if_neg hc, if_neg hc]; simp
    rw [e1, Option.bind_some, e2, Option.bind_some, addI_some (by unfold inI; omega), Option.bind_some]
    refine ⟨_, rfl, by omega, ?_⟩
    rw [show a + 1 + (i : Int) + 1 = a + 1 + ((i + 1 : Nat) : Int) by omega]
  · rintro s ⟨_, rfl⟩
    refine ⟨.ex 2 (_, _, a + 1 + (days.toNat : Int)), ?_, trivial, _, rfl⟩
    unfold lawDays_L1
    dsimp only
    rw [addI_some (by unfold inI; omega), Option.bind_some, if_neg (by simp; omega)]
  · rintro f ⟨hf, he, d, rfl⟩
    exact ⟨d, hf⟩

theorem law_days (h : List Int) (l : List Stay) (a days : Int) : lawDays h l a days = some true := by
  unfold lawDays
  rw [small_true, Option.bind_some, few_spec, Option.bind_some]
  by_cases hf : h.length ≤ 30 ∧ l.length ≤ 10
  · rw [if_neg (by simp [hf]), within_spec, Option.bind_some, Option.bind_some]
    by_cases ha : 0 ≤ a ∧ a ≤ 1073741424
    · rw [if_neg (by simp [ha]), within_spec, Option.bind_some, Option.bind_some]
      by_cases hd : 0 ≤ days ∧ days ≤ 400
      · rw [if_neg (by simp [hd]), calRight_spec, Option.bind_some]
        obtain ⟨j, h0⟩ := days_stays (l := l) (n := h.length + l.length + 1) (by omega) (by omega)
        obtain ⟨d, h1⟩ := days_loop (h := h) (l := l) (a := a) (days := days) (j := j) (n := days.toNat + 2) hf.2 hf.1 ha.1 hd.1 hd.2 ha.2 (by omega)
        rw [h0, Option.bind_some]
        dsimp only
        rw [addI_some (by unfold inI; omega), Option.bind_some, h1, Option.bind_some]
        dsimp only
        rw [if_pos rfl, addI_some (by unfold inI; omega), Option.bind_some, calBetween_spec, Option.bind_some, Option.bind_some]
        have hisD : ∀ d, 0 ≤ d → d ≤ 1073741824 → isD d := fun d a b => ⟨a, b⟩
        have e1 : (if RH h ∧ isD a ∧ isD (a + days) ∧ a < a + days then (G (W h) (a + 1) (a + days - a).toNat : Int) else 0) = (G (fun d => decide (RH h) && W h d) (a + 1) days.toNat : Int) := by
          rw [show a + days - a = days by omega]
          by_cases h0 : days = 0
          · subst h0; simp [G]
          · by_cases hR : RH h
            · rw [if_pos ⟨hR, hisD _ (by omega) (by omega), hisD _ (by omega) (by omega), by omega⟩]
              simp [hR]
            · rw [if_neg fun h => hR h.1]
              simp [hR, G_false]
        rw [e1, if_pos (by simp), Option.bind_some, calCount_spec _ _ (by omega), Option.bind_some, Option.bind_some]
        have e2 : (if Ok h l ∧ isD a ∧ isD (a + days) ∧ a < a + days then (G (C h l) (a + 1) (a + days - a).toNat : Int) else 0) = (G (fun d => decide (RH h) && W h d && allV l && !decide (inS l d)) (a + 1) days.toNat : Int) := by
          rw [show a + days - a = days by omega]
          by_cases h0 : days = 0
          · subst h0; simp [G]
          · by_cases hO : Ok h l
            · rw [if_pos ⟨hO, hisD _ (by omega) (by omega), hisD _ (by omega) (by omega), by omega⟩]
              have : (fun d => decide (RH h) && W h d && allV l && !decide (inS l d)) = C h l := by
                funext d
                simp [hO.2, allV_iff.2 hO.1, C]
              rw [this]
            · rw [if_neg fun h => hO h.1]
              have : (fun d => decide (RH h) && W h d && allV l && !decide (inS l d)) = fun _ => false := by
                funext d
                by_cases hR : RH h
                · have : allV l = false := by
                    cases hv : allV l with
                    | false => rfl
                    | true => exact absurd ⟨allV_iff.1 hv, hR⟩ hO
                  simp [this]
                · simp [hR]
              rw [this, G_false]; rfl
        rw [e2]
        simp
      · rw [if_pos (by simp; omega)]
    · rw [if_pos (by simp; omega), Option.bind_some, if_pos rfl]
  · rw [if_pos (by simp; omega), Option.bind_some, if_pos rfl, Option.bind_some, if_pos rfl]

end Go.Proofs.Ytdpekblabnfjnaa
