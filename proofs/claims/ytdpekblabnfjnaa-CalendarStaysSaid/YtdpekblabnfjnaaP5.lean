/- CalendarWeeks and CalendarDays, as laws of what the functions compute. -/
import Derived.Test.YtdpekblabnfjnaaP4
namespace Go.Proofs.Ytdpekblabnfjnaa
open Go.Gb
set_option linter.unusedVariables false
set_option linter.unusedSimpArgs false

theorem inS_nil (d : Int) : ¬ inS [] d := by simp [inS]
theorem C_nil : C [] [] = wk := by funext d; simp [C, W, inS_nil]
theorem RH_nil : RH [] := by simp [RH]
theorem Ok_nil {h : List Int} : Ok h [] ↔ RH h := by simp [Ok]
theorem rem7 {d : Int} (h : 0 ≤ d) : remI d 7 = some (d % 7) := by unfold remI; rw [Int.tmod_eq_emod_of_nonneg h, if_pos (by decide)]

theorem weeks_count {a : Int} (h0 : 0 ≤ a) (n : Nat) : (G wk a n : Int) = (a + n) / 7 * 5 + min ((a + n) % 7) 5 - (a / 7 * 5 + min (a % 7) 5) := by
  have h := U_sub wk h0 (show a ≤ a + n by omega)
  have h1 := wk_count a.toNat
  have h2 := wk_count (a + n).toNat
  rw [Int.toNat_of_nonneg h0] at h1
  rw [Int.toNat_of_nonneg (by omega)] at h2
  rw [show (a + (n : Int) - a).toNat = n by omega] at h
  omega

theorem calIsWork_spec (h : List Int) (d : Int) : calIsWork h d = some (decide (RH h) && decide (isD d) && W h d) := by
  unfold calIsWork
  rw [calCounts_spec _ (by simp), Option.bind_some]
  simp [Ok_nil, C, inS_nil]
theorem calBetween_spec (h : List Int) (a b : Int) : calBetween h a b = some (if RH h ∧ isD a ∧ isD b ∧ a < b then (G (W h) (a + 1) (b - a).toNat : Int) else 0) := by
  unfold calBetween
  rw [calCount_spec _ _ (by simp), Option.bind_some]
  have : C h [] = W h := by funext d; simp [C, inS_nil]
  simp only [Ok_nil, this]
theorem W_nil : W [] = wk := by funext d; simp [W]

theorem law_weeks (day weeks holiday : Int) : lawWeeks day weeks holiday = some true := by
  unfold lawWeeks
  rw [small_true, Option.bind_some, within_spec, Option.bind_some]
  by_cases hw : 0 ≤ weeks ∧ weeks ≤ 100000000
  · have m7 : mulI 7 weeks = some (7 * weeks) := mulI_some (by unfold inI; omega)
    have m5 : mulI 5 weeks = some (5 * weeks) := mulI_some (by unfold inI; omega)
    rw [if_neg (by simp [hw]), m7, Option.bind_some, subI_some (by unfold inI; omega), Option.bind_some, within_spec, Option.bind_some, Option.bind_some]
    by_cases hd : 0 ≤ day ∧ day ≤ 1073741824 - 7 * weeks
    · have hisD : ∀ d, 0 ≤ d → d ≤ 1073741824 → isD d := fun d a b => ⟨a, b⟩
      rw [if_neg (by simp [hd]), Option.bind_some, addI_some (by unfold inI; omega), Option.bind_some, m5, Option.bind_some]
      unfold calAdd
      obtain ⟨r, hr, hD⟩ := calDeadline_spec (h := []) (l := []) day (5 * weeks) (by simp)
      have hO : Ok [] [] := Ok_nil.2 RH_nil
      have hG : (G wk (day + 1) (7 * weeks).toNat : Int) = 5 * weeks := by rw [weeks_count (by omega)]; omega
      have hbet : ∀ {h : List Int}, RH h → calBetween h day (day + 7 * weeks) = some (G (W h) (day + 1) (7 * weeks).toNat : Int) := by
        intro h hR
        rw [calBetween_spec]
        by_cases h0 : weeks = 0
        · subst h0
          rw [if_neg fun h => by omega]; simp [G]
        · rw [if_pos ⟨hR, hisD _ (by omega) (by omega), hisD _ (by omega) (by omega), by omega⟩, show day + 7 * weeks - day = 7 * weeks by omega]
      have hres : r.2 = 0 ∧ (wk day = true → r.1 = day + 7 * weeks) := by
        cases hD with
        | arg hn => exact absurd ⟨hO, hisD _ (by omega) (by omega), hisD _ (by omega) (by omega)⟩ hn
        | zero _ _ e => exact ⟨rfl, fun _ => by dsimp only; omega⟩
        | none _ _ _ _ g =>
          rw [C_nil] at g
          have := G_mono wk (day + 1) (show (7 * weeks).toNat ≤ (1073741824 - day).toNat by omega)
          omega
        | some k _ _ e _ hk lo hi =>
          refine ⟨rfl, fun hwk => ?_⟩
          rw [C_nil] at lo hi
          dsimp only
          have h1 : ¬ (7 * weeks).toNat ≤ k := fun hle => by have := lo _ hle; omega
          have h2 : G wk (day + 1) (7 * weeks).toNat = G wk (day + 1) ((7 * weeks).toNat - 1) + 1 := by
            obtain ⟨m, hm⟩ : ∃ m, (7 * weeks).toNat = m + 1 := ⟨(7 * weeks).toNat - 1, by omega⟩
            rw [hm, Nat.add_sub_cancel, G, if_pos]
            unfold wk at hwk ⊢
            simp only [decide_eq_true_eq] at hwk ⊢
            omega
          have h3 : ¬ k + 1 ≤ (7 * weeks).toNat - 1 := fun hle => by have := G_mono wk (day + 1) hle; omega
          omega
      obtain ⟨r0, r1⟩ := hres
      rw [hr, Option.bind_some, Option.bind_some]
      dsimp only
      rw [hbet RH_nil, W_nil, hG, Option.bind_some, Option.bind_some, if_neg (by simp [r0]), calIsWork_spec, Option.bind_some, rem7 hd.1, Option.bind_some, Option.bind_some]
      have hw1 : (decide (RH []) && decide (isD day) && W [] day) = wk day := by simp [RH_nil, hisD day hd.1 (by omega), W_nil]
      rw [hw1, if_neg (by simp [wk]), Option.bind_some, Option.bind_some, if_neg (by
        cases hwk : wk day with
        | false => simp
        | true => simp [r1 hwk]), within_spec, Option.bind_some]
      by_cases hh : 0 ≤ holiday ∧ holiday ≤ 1073741824
      · rw [if_neg (by simp [hh]), Option.bind_some]
        have hR : RH [holiday] := by simp [RH, hh]
        have hs : G wk (day + 1) (7 * weeks).toNat = G (W [holiday]) (day + 1) (7 * weeks).toNat + G (fun d => wk d && decide (holiday ≤ d ∧ d ≤ holiday)) (day + 1) (7 * weeks).toNat := by
          refine G_sum fun d _ _ => ?_
          simp only [W, List.mem_singleton]
          by_cases e : d = holiday
          · subst e; simp
          · have : ¬ (holiday ≤ d ∧ d ≤ holiday) := by omega
            simp [e, this]
        rw [G_range] at hs
        rw [hbet hR]
        by_cases hc : day < holiday ∧ holiday ≤ day + 7 * weeks
        · have e1 : (min holiday (day + 1 + ((7 * weeks).toNat : Int) - 1) + 1 - max holiday (day + 1)).toNat = 1 := by omega
          have e2 : max holiday (day + 1) = holiday := by omega
          rw [e1, e2] at hs
          simp only [G] at hs
          rw [if_pos (by simp [hc]), rem7 hh.1, Option.bind_some, Option.bind_some]
          by_cases hk : holiday % 7 < 5
          · rw [if_pos (by simpa using hk), subI_some (by unfold inI; omega), Option.bind_some, Option.bind_some, if_pos rfl, Option.bind_some, Option.bind_some]
            have : wk (holiday + (0 : Nat)) = true := by simpa [wk] using hk
            rw [if_pos this] at hs
            congr 1
            rw [beq_iff_eq]
            omega
          · rw [if_neg (by simpa using hk), Option.bind_some, if_pos rfl, Option.bind_some, Option.bind_some]
            have : ¬ wk (holiday + (0 : Nat)) = true := by simpa [wk] using hk
            rw [if_neg this] at hs
            congr 1
            rw [beq_iff_eq]
            omega
        · have e1 : (min holiday (day + 1 + ((7 * weeks).toNat : Int) - 1) + 1 - max holiday (day + 1)).toNat = 0 := by omega
          rw [e1] at hs
          simp only [G] at hs
          rw [if_neg (by simp; omega), Option.bind_some, if_neg (by decide), Option.bind_some, if_pos rfl, Option.bind_some, Option.bind_some]
          congr 1
          rw [beq_iff_eq]
          omega
      · have hR : ¬ RH [holiday] := fun hR => hh (hR.2.1 _ (by simp))
        rw [if_pos (by simp; omega), if_pos rfl, calBetween_spec, if_neg fun h => hR h.1, Option.bind_some, Option.bind_some]
        rfl
    · rw [if_pos (by simp; omega)]
  · rw [if_pos (by simp; omega), Option.bind_some, if_pos rfl]

/- CalendarDays. -/
def allV (l : List Stay) : Bool := decide (∀ s ∈ l, VS s)
theorem allV_nil : allV [] = true := by simp [allV]
theorem allV_snoc (l : List Stay) (x : Stay) : allV (l ++ [x]) = (allV l && decide (VS x)) := by
  unfold allV
  rw [← Bool.decide_and, decide_eq_decide]
  simp only [List.mem_append, List.mem_singleton]
  exact ⟨fun h => ⟨fun s hs => h s (.inl hs), h _ (.inr rfl)⟩, fun h s hs => hs.elim (h.1 s) (fun e => e ▸ h.2)⟩
theorem days_stays {l : List Stay} {n : Nat} (hl : l.length ≤ 1000) (hn : l.length < n) : ∃ i, iterL (lawDays_L0 l) n (true, 0) = some (.ex 0 (allV l, i)) := by
  refine Exists.elim (loop_up (body := lawDays_L0 l) (fun i s => s.2 = (i : Int) ∧ i ≤ l.length ∧ s.1 = allV (l.take i)) l.length (fun f => ∃ i, f = .ex 0 (allV l, i)) ?_ ?_ (true, 0) ⟨rfl, Nat.zero_le _, allV_nil.symm⟩ n hn) ?_
  · rintro i ⟨b, j⟩ hi ⟨rfl, _, rfl⟩
    left
    have hstep : allV (l.take (i + 1)) = (allV (l.take i) && decide (VS l[i])) := by rw [List.take_succ_eq_append_getElem hi, allV_snoc]
    unfold lawDays_L0
    dsimp only
    rw [if_pos (by simpa using hi)]
    refine ⟨(allV (l.take (i + 1)), ((i + 1 : Nat) : Int)), ?_, rfl, by omega, rfl⟩
    rw [hstep, getI_nat hi]
    simp only [Option.bind_some]
    rw [addI_one (show i < 4611686018427387904 by omega)]
    cases allV (l.take i) with
    | false => rfl
    | true =>
      by_cases h1 : 0 ≤ l[i].From
      · by_cases h2 : l[i].From ≤ l[i].To
        · simp [h1, h2, VS]
        · simp [h1, h2, VS]
      · simp [h1, VS]
  · rintro ⟨b, j⟩ ⟨rfl, _, rfl⟩
    refine ⟨.ex 0 (_, (l.length : Int)), ?_, trivial, _, rfl⟩
    unfold lawDays_L0
    rw [if_neg (by simp), List.take_length]
  · rintro f ⟨hf, he, i, rfl⟩
    exact ⟨i, hf⟩

theorem days_hol {h : List Int} {t : Int × Int × Int} {b : Bool} {n : Nat} (hl : h.length ≤ 1000) (hn : h.length < n) : ∃ i, iterL (lawDays_L2 h t) n (b, 0) = some (.ex 4 (b && decide (t.2.2 ∉ h), i)) := by
  refine Exists.elim (loop_up (body := lawDays_L2 h t) (fun i s => s.2 = (i : Int) ∧ i ≤ h.length ∧ s.1 = (b && decide (t.2.2 ∉ h.take i))) h.length (fun f => ∃ i, f = .ex 4 (b && decide (t.2.2 ∉ h), i)) ?_ ?_ (b, 0) ⟨rfl, Nat.zero_le _, by simp⟩ n hn) ?_
  · rintro i ⟨c, j⟩ hi ⟨rfl, _, rfl⟩
    left
    have hstep : decide (t.2.2 ∉ h.take (i + 1)) = (decide (t.2.2 ∉ h.take i) && (h[i] != t.2.2)) := by
      rw [List.take_succ_eq_append_getElem hi, Bool.eq_iff_iff]
      simp only [List.mem_append, List.mem_singleton, not_or, decide_eq_true_eq, Bool.and_eq_true, bne_iff_ne, ne_eq]
      exact and_congr_right fun _ => ⟨fun h e => h e.symm, fun h e => h e.symm⟩
    unfold lawDays_L2
    dsimp only
    rw [if_pos (by simpa using hi)]
    refine ⟨(b && decide (t.2.2 ∉ h.take (i + 1)), ((i + 1 : Nat) : Int)), ?_, rfl, by omega, rfl⟩
    rw [hstep, getI_nat hi, addI_one (show i < 4611686018427387904 by omega), ← Bool.and_assoc]
    cases b && decide (t.2.2 ∉ h.take i) <;> rfl
  · rintro ⟨c, j⟩ ⟨rfl, _, rfl⟩
    refine ⟨.ex 4 (_, (h.length : Int)), ?_, trivial, _, rfl⟩
    unfold lawDays_L2
    rw [if_neg (by simp), List.take_length]
  · rintro f ⟨hf, he, i, rfl⟩
    exact ⟨i, hf⟩

theorem days_free {l : List Stay} {t : Int × Int × Int} {b : Bool} {n : Nat} (hl : l.length ≤ 1000) (hn : l.length < n) : ∃ i, iterL (lawDays_L3 l t) n (b, 0) = some (.ex 6 (b && !decide (inS l t.2.2), i)) := by
  refine Exists.elim (loop_up (body := lawDays_L3 l t) (fun i s => s.2 = (i : Int) ∧ i ≤ l.length ∧ s.1 = (b && !decide (inS (l.take i) t.2.2))) l.length (fun f => ∃ i, f = .ex 6 (b && !decide (inS l t.2.2), i)) ?_ ?_ (b, 0) ⟨rfl, Nat.zero_le _, by simp [inS_nil]⟩ n hn) ?_
  · rintro i ⟨c, j⟩ hi ⟨rfl, _, rfl⟩
    left
    have hin : inS (l.take (i + 1)) t.2.2 ↔ inS (l.take i) t.2.2 ∨ (l[i].From ≤ t.2.2 ∧ t.2.2 ≤ l[i].To) := by
      rw [List.take_succ_eq_append_getElem hi]
      simp only [inS, List.mem_append, List.mem_singleton, or_and_right, exists_or, exists_eq_left]
    have hstep : (!decide (inS (l.take (i + 1)) t.2.2)) = (!decide (inS (l.take i) t.2.2) && (decide (t.2.2 < l[i].From) || decide (l[i].To < t.2.2))) := by
      rw [Bool.eq_iff_iff]
      simp only [Bool.not_eq_true', decide_eq_false_iff_not, Bool.and_eq_true, Bool.or_eq_true, decide_eq_true_eq, hin, not_or]
      exact and_congr_right fun _ => by omega
    unfold lawDays_L3
    dsimp only
    rw [if_pos (by simpa using hi)]
    refine ⟨(b && !decide (inS (l.take (i + 1)) t.2.2), ((i + 1 : Nat) : Int)), ?_, rfl, by omega, rfl⟩
    rw [hstep, getI_nat hi, addI_one (show i < 4611686018427387904 by omega), ← Bool.and_assoc]
    cases b && !decide (inS (l.take i) t.2.2) with
    | false => rfl
    | true => by_cases h1 : t.2.2 < l[i].From <;> simp [h1]
  · rintro ⟨c, j⟩ ⟨rfl, _, rfl⟩
    refine ⟨.ex 6 (_, (l.length : Int)), ?_, trivial, _, rfl⟩
    unfold lawDays_L3
    rw [if_neg (by simp), List.take_length]
  · rintro f ⟨hf, he, i, rfl⟩
    exact ⟨i, hf⟩
end Go.Proofs.Ytdpekblabnfjnaa
