/- CreditLimits, as a law of what the functions compute. -/
import Derived.Test.YtbanncpkgbiklaaPa1
namespace Go.Proofs.Ytbanncpkgbiklaa
open Go.Gb

theorem limits_L1 {r : List Account × Int} (hR : RightP r.1) (fuel : Nat) (hf : r.1.length < fuel) : ∃ s, iterL (lawLimits_L1 r) fuel 0 = some (.ex 2 s) := by
  refine Exists.elim (loop_up (body := lawLimits_L1 r) (fun i s => s = (i : Int)) r.1.length (fun f => ∃ s, f = .ex 2 s) ?_ ?_ 0 rfl fuel hf) ?_
  · rintro i s hi rfl
    left
    refine ⟨((i + 1 : Nat) : Int), ?_, rfl⟩
    have := hR.1 _ (List.getElem_mem hi)
    unfold okA at this
    have hl := hR.2.2
    unfold lawLimits_L1
    rw [if_pos (by simpa using hi), getI_nat hi]
    have c1 : ¬ r.1[i].Units < 0 := by omega
    have c2 : ¬ 1073741824 < r.1[i].Units := by omega
    simp [c1, c2, addI_one (show i < 4611686018427387904 by omega)]
  · rintro s rfl
    refine ⟨.ex 2 (r.1.length : Int), ?_, trivial, _, rfl⟩
    unfold lawLimits_L1
    rw [if_neg (by simp)]
  · rintro f ⟨hf, he, s, rfl⟩
    exact ⟨s, hf⟩

theorem limits_L3 {s : List Account × Int} {r : List Account × Int} {k : Nat} (hk : k < s.1.length) (hl : r.1.length ≤ 20000) (hkeep : ∃ b ∈ r.1, kept s.1[k] b) (fuel : Nat) (hf : r.1.length < fuel) :
    ∃ j, iterL (lawLimits_L3 s r (k : Int)) fuel (false, 0) = some (.ex 6 (true, j)) := by
  refine Exists.elim (loop_up (body := lawLimits_L3 s r (k : Int)) (fun i st => st.2 = (i : Int) ∧ (st.1 = true ↔ ∃ j, ∃ h : j < r.1.length, j < i ∧ kept s.1[k] r.1[j])) r.1.length
    (fun f => ∃ st, f = .ex 6 st ∧ (st.1 = true ↔ ∃ j, ∃ h : j < r.1.length, j < r.1.length ∧ kept s.1[k] r.1[j])) ?_ ?_ (false, 0) ⟨rfl, by simp⟩ fuel hf) ?_
  · rintro i ⟨b, j⟩ hi ⟨rfl, hb⟩
    left
    have hstep : ∀ c : Bool, (c = true ↔ b = true ∨ kept s.1[k] r.1[i]) → (c = true ↔ ∃ j, ∃ h : j < r.1.length, j < i + 1 ∧ kept s.1[k] r.1[j]) := by
      intro c hc
      rw [hc]
      constructor
      · rintro (h | h)
        · obtain ⟨j, h1, h2, h3⟩ := hb.1 h; exact ⟨j, h1, by omega, h3⟩
        · exact ⟨i, hi, by omega, h⟩
      · rintro ⟨j, h1, h2, h3⟩
        rcases Nat.lt_or_ge j i with h | h
        · exact .inl (hb.2 ⟨j, h1, h, h3⟩)
        · obtain rfl : j = i := by omega
          exact .inr h3
    refine ⟨(b || decide (kept s.1[k] r.1[i]), ((i + 1 : Nat) : Int)), ?_, rfl, hstep _ (by simp)⟩
    unfold lawLimits_L3
    rw [if_pos (by simpa using hi)]
    simp only [getI_nat hi, getI_nat hk, Option.bind_some]
    cases b with
    | true => simp [addI_one (show i < 4611686018427387904 by omega)]
    | false =>
      clear hb hstep hkeep
      generalize r.1[i] = b
      generalize s.1[k] = a
      obtain ⟨al, au, ar⟩ := a
      obtain ⟨bl, bu, br⟩ := b
      rw [addI_one (show i < 4611686018427387904 by omega)]
      by_cases c1 : bl = al <;> by_cases c2 : br = ar <;> cases ar <;> by_cases c4 : bu ≤ au <;> simp [kept, c1, c2, c4]
  · rintro ⟨b, j⟩ ⟨rfl, hb⟩
    refine ⟨.ex 6 (b, (r.1.length : Int)), ?_, trivial, _, rfl, hb⟩
    unfold lawLimits_L3
    rw [if_neg (by simp)]
  · rintro f ⟨hf, he, ⟨b, j⟩, rfl, hb⟩
    obtain ⟨x, hx, hk'⟩ := hkeep
    obtain ⟨i, hi, rfl⟩ := List.getElem_of_mem hx
    have : b = true := hb.2 ⟨i, hi, hi, hk'⟩
    subst this
    exact ⟨j, hf⟩

theorem limits_L2 {m : List Move} {s r : List Account × Int} (hs : s.1.length ≤ 20000) (hl : r.1.length ≤ 20000) (hkeep : ∀ a ∈ s.1, ∃ b ∈ r.1, kept a b) (fuel : Nat) (hf : s.1.length < fuel) :
    ∃ j, iterL (lawLimits_L2 m s r) fuel 0 = some (.ex 4 j) := by
  refine Exists.elim (loop_up (body := lawLimits_L2 m s r) (fun i st => st = (i : Int)) s.1.length (fun f => ∃ st, f = .ex 4 st) ?_ ?_ 0 rfl fuel hf) ?_
  · rintro i st hi rfl
    left
    refine ⟨((i + 1 : Nat) : Int), ?_, rfl⟩
    unfold lawLimits_L2
    rw [if_pos (by simpa using hi)]
    obtain ⟨j, hj⟩ := limits_L3 hi hl (hkeep _ (List.getElem_mem hi)) (m.length + s.1.length + r.1.length + 1) (by omega)
    rw [hj]
    simp [addI_one (show i < 4611686018427387904 by omega)]
  · rintro st rfl
    refine ⟨.ex 4 (s.1.length : Int), ?_, trivial, _, rfl⟩
    unfold lawLimits_L2
    rw [if_neg (by simp)]
  · rintro f ⟨hf, he, j, rfl⟩
    exact ⟨j, hf⟩

theorem law_limits (l : List Account) (m : List Move) : lawLimits l m = some true := by
  unfold lawLimits
  rw [small_true]
  simp only [Option.bind_some, few]
  by_cases hf : (decide ((l.length : Int) ≤ 10) && decide ((m.length : Int) ≤ 20)) = true
  · have hfl := hf
    simp only [Bool.and_eq_true, decide_eq_true_eq] at hf
    simp only [hfl, Bool.not_true, Bool.false_eq_true, if_false]
    refine Exists.elim (loop_up (body := lawLimits_L0 m) (fun i st => st.2 = (i : Int) ∧ st.1.length ≤ 10 + i) m.length (fun f => ∃ j st, f = .ex j st) ?_ ?_ (l, 0) ⟨rfl, by simp only; omega⟩ (m.length + l.length + 1) (by omega)) ?_
    · rintro i ⟨now, j⟩ hi ⟨rfl, hn⟩
      simp only at hn
      left
      unfold lawLimits_L0
      rw [if_pos (by simpa using hi)]
      dsimp only
      simp only [getI_nat hi, Option.bind_some, cDo_spec m[i] (show now.length ≤ 536870912 by omega)]
      generalize hd : doS now m[i] = d
      obtain ⟨r, e⟩ := d
      by_cases he : e = 0
      · subst he
        have hst := doS_ok hd
        rw [if_neg (by simp)]
        obtain ⟨s1, h1⟩ := limits_L1 (r := (r, (0 : Int))) hst.right' (m.length + now.length + r.length + 1) (show r.length < _ by omega)
        obtain ⟨s2, h2⟩ := limits_L2 (m := m) (s := (now, (i : Int))) (r := (r, (0 : Int))) (show now.length ≤ _ by omega) hst.right'.2.2 hst.keeps (m.length + now.length + r.length + 1) (show now.length < _ by omega)
        rw [h1, Option.bind_some]
        dsimp only
        rw [h2, Option.bind_some]
        dsimp only
        rw [Option.bind_some]
        dsimp only
        rw [addI_one (show i < 4611686018427387904 by omega)]
        exact ⟨(r, ((i + 1 : Nat) : Int)), by simp only [Option.bind_some], rfl, Nat.le_trans hst.len (Nat.succ_le_succ hn)⟩
      · have : (e != 0) = true := by simpa using he
        rw [if_pos this, Option.bind_some]
        dsimp only
        rw [addI_one (show i < 4611686018427387904 by omega)]
        exact ⟨(now, ((i + 1 : Nat) : Int)), by simp only [Option.bind_some], rfl, Nat.le_trans hn (by omega)⟩
    · rintro ⟨now, j⟩ ⟨rfl, hn⟩
      refine ⟨.ex 0 (now, (m.length : Int)), ?_, trivial, _, _, rfl⟩
      unfold lawLimits_L0
      rw [if_neg (by simp)]
    · rintro f ⟨hf, he, j, st, rfl⟩
      simp only [hf, Option.bind_some]
  · simp only [Bool.not_eq_true] at hf
    simp [hf]
end Go.Proofs.Ytbanncpkgbiklaa
