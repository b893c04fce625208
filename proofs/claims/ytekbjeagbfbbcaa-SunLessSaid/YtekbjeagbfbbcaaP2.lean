/- The plain part of the proof (no program in sight), part 2 -/
import Derived.Test.YtekbjeagbfbbcaaP1
namespace Go.Proofs.Ytekbjeagbfbbcaa
open Go.Gb
set_option linter.unusedVariables false
set_option linter.unusedSimpArgs false
set_option linter.unusedSectionVars false
set_option linter.unusedVariables false
set_option linter.unusedSimpArgs false

theorem nS_low {f : Nat → Nat} : ∀ {n : Nat}, nS f (n + 1) = f 0 + nS (fun j => f (j + 1)) n
  | 0 => by simp [nS]
  | n + 1 => by rw [nS, nS_low (n := n), nS]; omega
theorem nS_cast {f : Nat → Nat} : ∀ {n : Nat}, ((nS f n : Nat) : Int) = sumN (fun j => (f j : Int)) n
  | 0 => rfl
  | n + 1 => by rw [nS, sumN, Int.natCast_add, nS_cast (n := n)]
/-- How many of the first 63 bits are set. -/
def cntI (m : Int) : Int := sumN (fun j => m / 2 ^ j % 2) 63
theorem low_bit {m : Int} {j : Nat} (hj : j < 63) : (m % 9223372036854775808) / 2 ^ j % 2 = m / 2 ^ j % 2 := by
  have e : (9223372036854775808 : Int) = 2 ^ j * (2 * 2 ^ (62 - j)) := by
    rw [← Int.mul_assoc, ← Int.pow_succ, ← Int.pow_add, show j + 1 + (62 - j) = 63 by omega]; rfl
  have h := Int.emod_add_mul_ediv m 9223372036854775808
  have h2 : m = m % 9223372036854775808 + 2 ^ j * (2 * 2 ^ (62 - j) * (m / 9223372036854775808)) := by
    rw [← Int.mul_assoc, ← e]; omega
  have h3 : m / 2 ^ j = m % 9223372036854775808 / 2 ^ j + 2 * 2 ^ (62 - j) * (m / 9223372036854775808) := by
    have h4 : m / 2 ^ j = (m % 9223372036854775808 + 2 ^ j * (2 * 2 ^ (62 - j) * (m / 9223372036854775808))) / 2 ^ j := by rw [← h2]
    rw [h4, Int.add_mul_ediv_left _ _ (by have := pow_pos2 j; omega)]
  rw [h3, Int.mul_assoc]
  omega
theorem Count_eq (m : Int) : sun_Count m = some (cntI m) := by
  unfold sun_Count
  have hk : IK.shl (IK.mk (IntKind.u64.wrap m) : IK .u64) 1 = U (2 * (m % 9223372036854775808).toNat) := by
    unfold IK.shl U
    dsimp only
    congr 1
    rw [show (2 : Int) ^ (1 : Int).toNat = 2 from rfl]
    unfold IntKind.wrap
    simp [IntKind.bits, IntKind.signed]
    omega
  rw [hk, ones_eq (by omega), Option.bind_some]
  congr 1
  rw [nS_low]
  have h0 : 2 * (m % 9223372036854775808).toNat / 2 ^ 0 % 2 = 0 := by simp
  rw [h0, Nat.zero_add, nS_cast]
  unfold cntI
  apply sumN_congr
  intro j hj
  have h1 : 2 * (m % 9223372036854775808).toNat / 2 ^ (j + 1) = (m % 9223372036854775808).toNat / 2 ^ j := by
    rw [Nat.pow_succ, Nat.mul_comm (2 ^ j) 2, ← Nat.div_div_eq_div_mul, Nat.mul_div_cancel_left _ (by decide)]
  rw [h1, ← low_bit hj]
  have h2 : ((m % 9223372036854775808).toNat : Int) = m % 9223372036854775808 := Int.toNat_of_nonneg (Int.emod_nonneg _ (by decide))
  rw [Int.natCast_emod, Int.natCast_ediv, h2, Int.natCast_pow]
  rfl
theorem bitS_bounds (m : Int) : ∀ n : Nat, 0 ≤ sumN (fun j => m / 2 ^ j % 2) n ∧ sumN (fun j => m / 2 ^ j % 2) n ≤ n
  | 0 => by simp [sumN]
  | n + 1 => by
    have := bitS_bounds m n
    rw [sumN]
    omega
theorem bM_bits (f : Nat → Bool) (n j : Nat) : bM f n / 2 ^ j % 2 = if (decide (j < n) && f j) = true then 1 else 0 := by
  by_cases h : j < n
  · rw [bM_bit f h]; simp [h]
  · rw [bM_high f (by omega)]; simp [h]
theorem bM_sub {f g : Nat → Bool} {n : Nat} (h : ∀ i, i < n → g i = true → f i = true) : bM f n - bM g n = bM (fun i => f i && !g i) n := by
  have h1 : bM g n + bM (fun i => f i && !g i) n = bM f n := by
    rw [bM_add fun i _ => by cases f i <;> cases g i <;> simp]
    apply bM_congr
    intro i hi
    have := h i hi
    cases hg : g i <;> cases hf : f i <;> simp_all
  omega
theorem cnt_split {f g : Nat → Bool} {n : Nat} (h : ∀ i, i < n → g i = true → f i = true) : cntI (bM g n) + cntI (bM (fun i => f i && !g i) n) = cntI (bM f n) := by
  unfold cntI
  rw [← sumN_add]
  apply sumN_congr
  intro j _
  rw [bM_bits, bM_bits, bM_bits]
  by_cases hj : j < n
  · have := h j hj
    cases hg : g j <;> cases hf : f j <;> simp_all
  · simp [hj]
theorem law_SunLess (t : List Point3) (a b : List Box) (p : Point3) : law12_SunLess t a b p = some true := by
  unfold law12_SunLess
  rw [small12_true, Option.bind_some]
  by_cases hc : t.length ≤ 30 ∧ a.length ≤ 5 ∧ b.length ≤ 5
  · obtain ⟨ht, ca, cb⟩ := hc
    have ht' : t.length ≤ 62 := by omega
    rw [if_neg (by simp only [Bool.or_eq_true, decide_eq_true_eq]; omega)]
    have hlen : (a ++ b).length ≤ 10 := by rw [List.length_append]; omega
    by_cases hva : ∀ x ∈ a, VB x
    · by_cases hv : ∀ x ∈ a ++ b, VB x
      · obtain ⟨s, hM, e⟩ := Mk.of (l := a) (m := a ++ b) hv (by omega) (fun x h => List.mem_append_left _ h) (by omega)
        obtain ⟨s', hM', e'⟩ := Mk.of (l := a ++ b) (m := a ++ b) hv (by omega) (fun x h => h) (by omega)
        have hS := hM.ss
        have hS' := hM'.ss
        have ha : ∀ b ∈ s, b.Area.length ≤ 100000 := fun b hb => by have := (hS.ok b hb).2.2.2.1; omega
        have ha' : ∀ b ∈ s', b.Area.length ≤ 100000 := fun b hb => by have := (hS'.ok b hb).2.2.2.1; omega
        have mono : ∀ d, rayB s p d = true → rayB s' p d = true := by
          intro d
          rw [rayB_iff ha, rayB_iff ha']
          rintro ⟨h1, h2, _, x, y, hy, hx, h3⟩
          refine ⟨h1, h2, hS', x, y, hy, hx, ?_⟩
          unfold Hit at h3 ⊢
          rw [hM.is.cells, bcB_iff] at h3
          rw [hM'.is.cells, bcB_iff]
          obtain ⟨z, hz, h4⟩ := h3
          exact ⟨z, List.mem_append_left _ hz, h4⟩
        obtain ⟨ok, hok⟩ : ∃ c, c = okB t [s] p := ⟨_, rfl⟩
        have ok' : okB t [s'] p = ok := by rw [hok]; exact okB_iff (by simp [hS, hS'])
        have ok1 : okB t [s, s'] p = ok := by rw [hok]; exact okB_iff (by simp [hS, hS'])
        have ok2 : okB t [s', s] p = ok := by rw [hok]; exact okB_iff (by simp [hS, hS'])
        have gf : ∀ i, i < t.length → mk1 t s' p i = true → mk1 t s p i = true := by
          intro i _
          unfold mk1
          rw [ok', ← hok]
          have := mono (dirOf t i)
          cases ok <;> cases h1 : rayB s p (dirOf t i) <;> cases h2 : rayB s' p (dirOf t i) <;> simp_all
        have hb1 := bM_bounds (mk1 t s p) t.length
        have hb2 := bM_bounds (mk1 t s' p) t.length
        have hp := pow_small ht'
        have q1 : bM (fun i => mk1 t s' p i && mk1 t s p i) t.length = bM (mk1 t s' p) t.length := bM_congr fun i hi => by
          have := gf i hi
          cases h1 : mk1 t s' p i <;> simp_all
        have q2 : bM (fun i => okB t [s, s'] p && (rayB s' p (dirOf t i) && !rayB s p (dirOf t i))) t.length = bM (fun i => mk1 t s p i && !mk1 t s' p i) t.length := bM_congr fun i hi => by
          unfold mk1
          rw [ok1, ok', ← hok]
          have := mono (dirOf t i)
          cases ok <;> cases h1 : rayB s p (dirOf t i) <;> cases h2 : rayB s' p (dirOf t i) <;> simp_all
        have q3 : bM (fun i => okB t [s', s] p && (rayB s p (dirOf t i) && !rayB s' p (dirOf t i))) t.length = 0 := by
          rw [← bM_none t.length]
          apply bM_congr
          intro i hi
          have := mono (dirOf t i)
          cases h1 : rayB s p (dirOf t i) <;> cases h2 : rayB s' p (dirOf t i) <;> simp_all
        have q4 : bM (fun i => okB t [s, s'] p && free t [s, s'] p i) t.length = bM (mk1 t s' p) t.length := bM_congr fun i hi => by
          unfold mk1
          rw [ok1, ok']
          have := mono (dirOf t i)
          simp only [free, List.all_cons, List.all_nil, Bool.and_true]
          cases ok <;> cases h1 : rayB s p (dirOf t i) <;> cases h2 : rayB s' p (dirOf t i) <;> simp_all
        have hs := cnt_split gf
        have c1 := bitS_bounds (bM (mk1 t s' p) t.length) 63
        have c2 := bitS_bounds (bM (fun i => mk1 t s p i && !mk1 t s' p i) t.length) 63
        have l2 : fineL [s, s'] := ⟨by simp, by simp only [List.mem_cons, List.not_mem_nil, or_false, forall_eq_or_imp, forall_eq]; exact ⟨ha, ha'⟩⟩
        rw [e, Option.bind_some, appI_some (by simp; omega), Option.bind_some, List.nil_append, appI_some (by omega), Option.bind_some, e', Option.bind_some, if_neg (by simp)]
        dsimp only
        rw [Mask_eq ht' ha, Option.bind_some, Mask_eq ht' ha', Option.bind_some, Lost_eq ht' ha ha', Option.bind_some, q2, bM_and _ _ ht', q1, if_pos (by simp), subI_some (by unfold inI; omega), Option.bind_some, bM_sub gf, Option.bind_some,
          if_pos (by simp), Lost_eq ht' ha' ha, Option.bind_some, q3, Option.bind_some, if_pos (by rfl), Count_eq, Option.bind_some, Count_eq, Option.bind_some, addI_some (by unfold inI cntI; omega), Option.bind_some, Count_eq, Option.bind_some, hs, Option.bind_some,
          if_pos (by simp), MaskOf_eq ht' l2, Option.bind_some, q4, Option.bind_some]
        simp
      · rw [appI_some (by simp; omega)]
        obtain ⟨s, hM, e⟩ := Mk.of (l := a) (m := a) hva (by omega) (fun x h => h) (by omega)
        rw [e, Option.bind_some, Option.bind_some, List.nil_append, appI_some (by omega), Option.bind_some, solid_Of_bad (by omega) hv, Option.bind_some, if_pos (by simp)]
        simp
    · have hv : ¬ ∀ x ∈ a ++ b, VB x := fun h => hva fun x hx => h x (List.mem_append_left _ hx)
      rw [solid_Of_bad (by omega) hva, Option.bind_some, appI_some (by simp; omega), Option.bind_some, List.nil_append, appI_some (by omega), Option.bind_some, solid_Of_bad (by omega) hv, Option.bind_some, if_pos (by simp)]
      simp
  · rw [if_pos]
    simp only [Bool.or_eq_true, decide_eq_true_eq]
    omega
end Go.Proofs.Ytekbjeagbfbbcaa

