/- CalendarStays, as a law of what the functions compute. -/
import Derived.Test.YtdpekblabnfjnaaP6
namespace Go.Proofs.Ytdpekblabnfjnaa
open Go.Gb
set_option linter.unusedVariables false
set_option linter.unusedSimpArgs false

theorem stays_back {x : List Stay} {n : Nat} (hl : x.length ≤ 1000) (hn : x.length < n) : ∃ i, iterL (lawStays_L0 x) n (([] : List Stay), 0) = some (.ex 0 (x.reverse, i)) := by
  refine Exists.elim (loop_up (body := lawStays_L0 x) (fun i s => s.2 = (i : Int) ∧ i ≤ x.length ∧ s.1 = x.reverse.take i) x.length (fun f => ∃ i, f = .ex 0 (x.reverse, i)) ?_ ?_ (([] : List Stay), 0) ⟨rfl, Nat.zero_le _, by simp⟩ n hn) ?_
  · rintro i ⟨b, j⟩ hi ⟨rfl, _, rfl⟩
    left
    have hr : i < x.reverse.length := by simpa using hi
    have hstep : x.reverse.take (i + 1) = x.reverse.take i ++ [x[x.length - 1 - i]'(by omega)] := by
      rw [List.take_succ_eq_append_getElem hr, List.getElem_reverse]
    unfold lawStays_L0
    dsimp only
    rw [if_pos (by simpa using hi), subI_some (by unfold inI; omega), Option.bind_some, subI_some (by unfold inI; omega), Option.bind_some, show (x.length : Int) - 1 - (i : Int) = ((x.length - 1 - i : Nat) : Int) by omega, getI_nat (show x.length - 1 - i < x.length by omega), Option.bind_some,
      appI_some (by rw [List.length_take]; exact Nat.le_trans (Nat.add_le_add (Nat.min_le_left _ _) (Nat.le_refl 1)) (by omega)), Option.bind_some, addI_one (show i < 4611686018427387904 by omega), Option.bind_some]
    exact ⟨_, rfl, rfl, by omega, hstep.symm⟩
  · rintro ⟨b, j⟩ ⟨rfl, _, rfl⟩
    refine ⟨.ex 0 (x.reverse, (x.length : Int)), ?_, trivial, _, rfl⟩
    unfold lawStays_L0
    dsimp only
    rw [if_neg (by simp), show x.reverse.take x.length = x.reverse from by rw [← List.length_reverse, List.take_length]]
  · rintro f ⟨hf, he, i, rfl⟩
    exact ⟨i, hf⟩

/-- With fewer days that count the deadline is not earlier. -/
theorem DL.later {h h' : List Int} {l l' : List Stay} {day n : Int} {r r' : Int × Int} (hr : DL h l day n r) (hr' : DL h' l' day n r') (hn : 1 ≤ n) (h0 : r.2 = 0) (hO : Ok h' l') (hC : ∀ d, 0 ≤ d → C h' l' d = true → C h l d = true) :
    (r'.2 = 0 ∧ r.1 ≤ r'.1) ∨ r'.2 = 20 := by
  cases hr with
  | arg _ => simp at h0
  | none _ _ _ _ _ => simp at h0
  | zero _ _ e => omega
  | some k o d e f hk lo hi =>
    have hle : ∀ j, G (C h' l') (day + 1) j ≤ G (C h l) (day + 1) j := by
      intro j
      induction j with
      | zero => exact Nat.le_refl _
      | succ j ih =>
        rw [G, G]
        by_cases hc : C h' l' (day + 1 + j) = true
        · rw [if_pos hc, if_pos (hC _ (by unfold isD at d; omega) hc)]; omega
        · rw [if_neg hc]; omega
    cases hr' with
    | arg hx => exact absurd ⟨hO, d, by unfold isD; omega⟩ hx
    | zero _ _ e' => omega
    | none _ _ _ _ _ => exact .inr rfl
    | some k' _ _ _ _ _ lo' hi' =>
      refine .inl ⟨rfl, ?_⟩
      dsimp only
      have : ¬ k' < k := fun hlt => by
        have a := lo (k' + 1) (by omega)
        have b := hle (k' + 1)
        omega
      omega
/-- The deadline hangs on the days up to it alone. -/
theorem DL.same {h h' : List Int} {l l' : List Stay} {day n : Int} {r r' : Int × Int} (hr : DL h l day n r) (hr' : DL h' l' day n r') (hn : 1 ≤ n) (h0 : r.2 = 0) (hO : Ok h' l') (hC : ∀ d, day < d → d ≤ r.1 → C h' l' d = C h l d) : r' = r := by
  cases hr with
  | arg _ => simp at h0
  | none _ _ _ _ _ => simp at h0
  | zero _ _ e => omega
  | some k o d e f hk lo hi =>
    dsimp only at hC
    have hG : ∀ j, j ≤ k + 1 → G (C h' l') (day + 1) j = G (C h l) (day + 1) j := fun j hj => G_congr fun d h1 h2 => hC d (by omega) (by omega)
    cases hr' with
    | arg hx => exact absurd ⟨hO, d, by unfold isD; omega⟩ hx
    | zero _ _ e' => omega
    | none _ _ _ _ g =>
      have := G_mono (C h' l') (day + 1) (show k + 1 ≤ (1073741824 - day).toNat by omega)
      rw [hG _ (Nat.le_refl _)] at this
      omega
    | some k' _ _ _ _ _ lo' hi' =>
      have h1 : ¬ k' < k := fun hlt => by
        have a := lo (k' + 1) (by omega)
        rw [hG _ (by omega)] at hi'
        omega
      have h2 : ¬ k < k' := fun hlt => by
        have a := lo' (k + 1) (by omega)
        rw [hG _ (Nat.le_refl _)] at a
        omega
      obtain rfl : k' = k := by omega
      rfl

theorem inS_append (l m : List Stay) (d : Int) : inS (l ++ m) d ↔ inS l d ∨ inS m d := by
  simp only [inS, List.mem_append, or_and_right, exists_or]
theorem C_of_inS {h : List Int} {l l' : List Stay} {d : Int} (hi : inS l d ↔ inS l' d) : C h l d = C h l' d := by
  unfold C
  rw [show decide (inS l d) = decide (inS l' d) from by rw [decide_eq_decide]; exact hi]

theorem law_stays (h : List Int) (l : List Stay) (more : Stay) (day n at_ : Int) : lawStays h l more day n at_ = some true := by
  unfold lawStays
  rw [small_true, Option.bind_some]
  by_cases hf : h.length ≤ 30 ∧ l.length ≤ 8
  · rw [if_neg (by simp; omega), within_spec, Option.bind_some, Option.bind_some]
    by_cases hn : (1 ≤ n ∧ n ≤ 1000000) ∧ VS more
    · obtain ⟨hn, hV⟩ := hn
      have hV' := hV
      unfold VS at hV'
      rw [if_neg (by simp; omega)]
      obtain ⟨r, hr, hD⟩ := calDeadline_spec (h := h) (l := l) day n (by omega)
      rw [hr, Option.bind_some]
      by_cases he : r.2 = 0
      · obtain ⟨hO, hday, hrd⟩ : Ok h l ∧ isD day ∧ day < r.1 := by
          cases hD with
          | arg _ => simp at he
          | none _ _ _ _ _ => simp at he
          | zero o d e => omega
          | some k o d _ _ _ _ _ => exact ⟨o, d, by dsimp only; omega⟩
        have hO2 : ∀ x : List Stay, (∀ s ∈ x, VS s) → Ok h (l ++ x) := fun x hx => ⟨fun s hs => (List.mem_append.1 hs).elim (hO.1 s) (hx s), hO.2⟩
        have hOm : Ok h (l ++ [more]) := hO2 _ (by simpa using hV)
        rw [if_neg (by simp [he]), appI_some (by simp; omega), Option.bind_some, List.nil_append, appI_some (by simp; omega), Option.bind_some]
        obtain ⟨i0, hb⟩ := stays_back (x := l ++ [more]) (n := h.length + l.length + (l ++ [more]).length + ([] : List Stay).length + 1) (by simp; omega) (by omega)
        rw [hb, Option.bind_some]
        dsimp only
        obtain ⟨r1, hr1, hD1⟩ := calDeadline_spec (h := h) (l := l ++ [more]) day n (by simp; omega)
        obtain ⟨r2, hr2, hD2⟩ := calDeadline_spec (h := h) (l := (l ++ [more]).reverse ++ [more]) day n (by simp; omega)
        rw [hr1, Option.bind_some, appI_some (by simp; omega), Option.bind_some, hr2, Option.bind_some]
        have e12 : r1 = r2 := hD1.unique hD2 (by
            have hm : ∀ s, s ∈ (l ++ [more]).reverse ++ [more] ↔ s ∈ l ++ [more] := by intro s; simp [or_comm]
            unfold Ok
            simp only [hm]) fun d _ => C_of_inS (by
              unfold inS
              have hm : ∀ s, s ∈ (l ++ [more]).reverse ++ [more] ↔ s ∈ l ++ [more] := by intro s; simp [or_comm]
              simp only [hm])
        subst e12
        have hlater := hD.later hD1 hn.1 he hOm fun d _ hc => by
          unfold C at hc ⊢
          simp only [Bool.and_eq_true, Bool.not_eq_true', decide_eq_false_iff_not, inS_append, not_or] at hc ⊢
          exact ⟨hc.1, hc.2.1⟩
        have hsame : (more.To ≤ day ∨ r.1 < more.From) → r1 = r := fun hx => hD.same hD1 hn.1 he hOm fun d h1 h2 => C_of_inS (by
          rw [inS_append]
          refine ⟨fun h => h.elim id fun ⟨s, hs, a, b⟩ => ?_, .inl⟩
          obtain rfl := List.mem_singleton.1 hs
          omega)
        have hcond : ¬ (((((r1.1 != r1.1) || (r1.2 != r1.2)) || ((r1.2 == 0) && (decide (r1.1 < r.1)))) || ((r1.2 != 0) && (r1.2 != 20))) || (((decide (more.To ≤ day)) || (decide (r.1 < more.From))) && ((r1.2 != 0) || (r1.1 != r.1)))) = true := by
          by_cases hx : more.To ≤ day ∨ r.1 < more.From
          · rw [hsame hx]; simp [he]
          · have h1 : ¬ more.To ≤ day := fun h => hx (.inl h)
            have h2 : ¬ r.1 < more.From := fun h => hx (.inr h)
            rcases hlater with ⟨a, b⟩ | a
            · simp [a, h1, h2, b]
            · simp [a, h1, h2]
        rw [if_neg hcond]
        -- the two parts
        have hparts : ((if (decide (more.From < more.To)) then
              (subI more.To more.From).bind fun x758_8 =>
              (remI (andI at_ 4611686018427387903) x758_8).bind fun x758_9 =>
              (addI more.From x758_9).bind fun x758_10 =>
              (some l).bind fun x759_2 =>
              (addI x758_10 1).bind fun x759_8 =>
              (appI x759_2 ([(⟨more.From, x758_10⟩ : Stay), (⟨x759_8, more.To⟩ : Stay)])).bind fun x759_13 =>
              (calDeadline h x759_13 day n).bind fun x761_4 =>
              if ((x761_4.1 != r1.1) || (x761_4.2 != r1.2)) then
                some (.ret false)
              else
                some (.go ())
            else
              some (.go ()) : Option (Flow (Unit) (Bool)))) = some (.go ()) := by
          by_cases hlt : more.From < more.To
          · have hand : 0 ≤ andI at_ 4611686018427387903 := by rw [andI_mask]; omega
            have hmod : remI (andI at_ 4611686018427387903) (more.To - more.From) = some (andI at_ 4611686018427387903 % (more.To - more.From)) := by
              unfold remI; rw [Int.tmod_eq_emod_of_nonneg hand, if_pos (by omega)]
            have c1 := Int.emod_nonneg (andI at_ 4611686018427387903) (show more.To - more.From ≠ 0 by omega)
            have c2 := Int.emod_lt_of_pos (andI at_ 4611686018427387903) (show 0 < more.To - more.From by omega)
            rw [if_pos (by simpa using hlt), subI_some (by unfold inI; omega), Option.bind_some, hmod, Option.bind_some]
            generalize andI at_ 4611686018427387903 % (more.To - more.From) = c at c1 c2
            rw [addI_some (by unfold inI; omega), Option.bind_some, Option.bind_some, addI_some (by unfold inI; omega), Option.bind_some, appI_some (by simp; omega), Option.bind_some]
            obtain ⟨r3, hr3, hD3⟩ := calDeadline_spec (h := h) (l := l ++ [(⟨more.From, more.From + c⟩ : Stay), (⟨more.From + c + 1, more.To⟩ : Stay)]) day n (by simp; omega)
            have hO3 : Ok h (l ++ [(⟨more.From, more.From + c⟩ : Stay), (⟨more.From + c + 1, more.To⟩ : Stay)]) := hO2 _ (by
              intro s hs
              simp only [List.mem_cons, List.not_mem_nil, or_false] at hs
              rcases hs with rfl | rfl
              · unfold VS; dsimp only; omega
              · unfold VS; dsimp only; omega)
            have e3 : r3 = r1 := hD3.unique hD1 ⟨fun _ => hOm, fun _ => hO3⟩ fun d _ => C_of_inS (by
              rw [inS_append, inS_append]
              refine or_congr_right ?_
              unfold inS
              constructor
              · rintro ⟨s, hs, a, b⟩
                refine ⟨more, by simp, ?_⟩
                simp only [List.mem_cons, List.not_mem_nil, or_false] at hs
                rcases hs with rfl | rfl
                · dsimp only at a b; omega
                · dsimp only at a b; omega
              · rintro ⟨s, hs, a, b⟩
                obtain rfl := List.mem_singleton.1 hs
                by_cases hd : d ≤ s.From + c
                · exact ⟨⟨s.From, s.From + c⟩, by simp, a, hd⟩
                · exact ⟨⟨s.From + c + 1, s.To⟩, by simp, (show s.From + c + 1 ≤ d by omega), b⟩)
            rw [hr3, Option.bind_some, e3, if_neg (by simp)]
          · rw [if_neg (by simpa using hlt)]
        rw [hparts, Option.bind_some]
        dsimp only
        -- one more holiday
        have hlast : (if (decide (0 < (h.length : Int))) then
                  (subI (h.length : Int) 1).bind fun x778_7 =>
                  (getI h x778_7).bind fun x778_8 =>
                  some (decide (more.From ≤ x778_8))
                else
                  some false) = some (decide (∃ hp : 0 < h.length, more.From ≤ h[h.length - 1]'(by omega))) := by
          by_cases hp : 0 < h.length
          · rw [if_pos (by rw [decide_eq_true_eq]; omega), subI_some (by unfold inI; omega), Option.bind_some, show (h.length : Int) - 1 = ((h.length - 1 : Nat) : Int) by omega, getI_nat (show h.length - 1 < h.length by omega), Option.bind_some]
            simp [hp]
          · rw [if_neg (by rw [decide_eq_true_eq]; omega)]
            simp [hp]
        rw [hlast, Option.bind_some]
        by_cases hc : ∃ hp : 0 < h.length, more.From ≤ h[h.length - 1]'(by omega)
        · rw [if_pos (by simpa using hc)]
        · rw [if_neg (by simpa using hc), appI_some (by simp; omega), Option.bind_some, List.nil_append, appI_some (by simp; omega), Option.bind_some]
          obtain ⟨r4, hr4, hD4⟩ := calDeadline_spec (h := h ++ [more.From]) (l := l) day n (by omega)
          have hasc : ∀ d ∈ h, d < more.From := by
            intro d hd
            obtain ⟨j, hj, rfl⟩ := List.getElem_of_mem hd
            have h1 : (h[h.length - 1]'(by omega)) < more.From := by
              have : ¬ more.From ≤ h[h.length - 1]'(by omega) := fun hx => hc ⟨by omega, hx⟩
              omega
            rcases Nat.lt_or_ge j (h.length - 1) with hq | hq
            · have := (List.pairwise_iff_getElem.1 hO.2.2.2) j (h.length - 1) hj (by omega) hq
              omega
            · have : j = h.length - 1 := by omega
              subst this
              exact h1
          have hR4 : RH (h ++ [more.From]) := by
            refine ⟨by simp; omega, fun d hd => ?_, ?_⟩
            · rcases List.mem_append.1 hd with hd | hd
              · exact hO.2.2.1 d hd
              · obtain rfl := List.mem_singleton.1 hd
                omega
            · rw [List.pairwise_append]
              refine ⟨hO.2.2.2, by simp, fun d hd e he => ?_⟩
              obtain rfl := List.mem_singleton.1 he
              exact hasc d hd
          have hlater4 := hD.later hD4 hn.1 he ⟨hO.1, hR4⟩ fun d _ hc => by
            unfold C W at hc ⊢
            simp only [Bool.and_eq_true, Bool.not_eq_true', decide_eq_false_iff_not, decide_eq_true_eq, List.mem_append, not_or] at hc ⊢
            exact ⟨⟨hc.1.1, hc.1.2.1⟩, hc.2⟩
          rw [hr4, Option.bind_some]
          rcases hlater4 with ⟨a, b⟩ | a
          · simp [a, b]
          · simp [a]
      · rw [if_pos (by simpa using he)]
    · rw [if_pos (by unfold VS at hn; simp; omega)]
  · rw [if_pos (by simp; omega), Option.bind_some, if_pos (by simp)]
end Go.Proofs.Ytdpekblabnfjnaa
