/- The plain part of the proof (no program in sight), part 2 -/
import Derived.Test.YtmniloampanhfaaP1
namespace Go.Proofs.Ytmniloampanhfaa
open Go.Gb
set_option linter.unusedVariables false
set_option linter.unusedSimpArgs false
set_option linter.unusedSectionVars false
set_option maxRecDepth 100000
def nearB (b : Box) : Prop := VB b ∧ b.Base.X1 ≤ 8 ∧ b.Base.Y1 ≤ 8 ∧ b.Z1 ≤ 8
theorem near_spec {l : List Box} {n : Nat} (hn : n ≤ 1000) : ∃ b, law09_near l (n : Int) = some b ∧ (b = true → l.length ≤ n ∧ ∀ x ∈ l, nearB x) := by
  unfold law09_near
  rcases iter_findN (body := law09_near_L0 l (n : Int)) (k := 0) (min l.length (n + 1)) (fun i => ∃ h : i < l.length, ¬ nearB l[i]) (fun _ => false) (by
    intro i hi _
    have hil : i < l.length := by omega
    unfold law09_near_L0
    rw [if_pos (by simp; omega), getI_nat hil, Option.bind_some]
    by_cases hc : nearB l[i]
    · right
      have hc' := hc
      unfold nearB VB VR at hc'
      rw [if_neg (by simp; omega), addI_one (by omega), Option.bind_some]
      exact ⟨fun ⟨_, h⟩ => h hc, rfl⟩
    · left
      have hc' := hc
      unfold nearB VB VR at hc'
      rw [if_pos (by simp; omega)]
      exact ⟨⟨hil, hc⟩, rfl⟩) (by
    unfold law09_near_L0
    rw [if_neg (by simp; omega)]) (fuel := l.length + 1) (by omega) with ⟨i, hi, _, _, h⟩ | ⟨hp, h⟩
  · rw [h, Option.bind_some]
    exact ⟨_, rfl, by simp⟩
  · rw [h, Option.bind_some]
    refine ⟨_, rfl, ?_⟩
    rw [decide_eq_true_iff]
    intro h'
    refine ⟨by omega, fun x hx => ?_⟩
    obtain ⟨i, hi, rfl⟩ := List.getElem_of_mem hx
    have := hp i (by omega)
    by_cases hc : nearB l[i]
    · exact hc
    · exact absurd ⟨hi, hc⟩ this
theorem covered_eq {l : List Box} (hl : l.length ≤ 1000) (x y z : Int) : law09_covered l x y z = some (bcB l x y z) := by
  unfold law09_covered
  rcases iter_findN (body := law09_covered_L0 l x y z) (k := 0) l.length (fun i => ∃ h : i < l.length, rin l[i].Base x y ∧ l[i].Z0 ≤ z ∧ z < l[i].Z1) (fun _ => true) (by
    intro i hi _
    unfold law09_covered_L0
    rw [if_pos (by simpa using hi), getI_nat hi, Option.bind_some]
    by_cases hc : rin l[i].Base x y ∧ l[i].Z0 ≤ z ∧ z < l[i].Z1
    · left
      have hc' := hc
      unfold rin at hc'
      rw [if_pos (by simp; omega)]
      exact ⟨⟨hi, hc⟩, rfl⟩
    · right
      have hc' := hc
      unfold rin at hc'
      rw [if_neg (by simp; omega), addI_one (by omega), Option.bind_some]
      exact ⟨fun ⟨_, h⟩ => hc h, rfl⟩) (by
    unfold law09_covered_L0
    rw [if_neg (by simp)]) (fuel := l.length + 1) (by omega) with ⟨i, hi, ⟨h1, h2⟩, _, h⟩ | ⟨hp, h⟩
  · rw [h, Option.bind_some]
    dsimp only
    congr 1
    symm
    rw [bcB_iff]
    exact ⟨_, List.getElem_mem h1, h2⟩
  · rw [h, Option.bind_some]
    dsimp only
    congr 1
    symm
    rw [Bool.eq_false_iff, Ne, bcB_iff]
    rintro ⟨b, hb, hh⟩
    obtain ⟨i, hi, rfl⟩ := List.getElem_of_mem hb
    exact hp i hi ⟨hi, hh⟩

/-! counting -/
theorem sumN_cut {f : Nat → Int} {m n : Nat} (hmn : m ≤ n) (h : ∀ i, m ≤ i → f i = 0) : sumN f n = sumN f m := by
  obtain ⟨d, rfl⟩ : ∃ d, n = m + d := ⟨n - m, by omega⟩
  rw [sumN_split]
  have : sumN (fun i => f (m + i)) d = sumN (fun _ => 0) d := sumN_congr fun i _ => h _ (by omega)
  rw [this, sumN_zero, Int.add_zero]
theorem cnt_cut {M N : Nat} (hM : 8 ≤ M) (hN : 8 ≤ N) {S : Int → Int → Int → Bool} (h : ∀ x y z, S x y z = true → x < 8 ∧ y < 8 ∧ z < 8) : cnt M N S = cnt 8 8 S := by
  have h0 : ∀ x y z, (8 ≤ x ∨ 8 ≤ y ∨ 8 ≤ z) → ind (S x y z) = 0 := by
    intro x y z hx
    cases hs : S x y z
    · rfl
    · have := h _ _ _ hs; omega
  unfold cnt
  rw [sumN_cut hN (by
    intro z hz
    rw [sumN_congr (g := fun _ => 0) fun x _ => by rw [sumN_congr (g := fun _ => 0) fun y _ => h0 _ _ _ (by omega), sumN_zero], sumN_zero])]
  refine sumN_congr fun z _ => ?_
  rw [sumN_cut hM (by
    intro x hx
    rw [sumN_congr (g := fun _ => 0) fun y _ => h0 _ _ _ (by omega), sumN_zero])]
  exact sumN_congr fun x _ => sumN_cut hM fun y hy => h0 _ _ _ (by omega)
theorem cnt_bounds {S : Int → Int → Int → Bool} : 0 ≤ cnt 8 8 S ∧ cnt 8 8 S ≤ 512 := by
  unfold cnt
  have h1 : ∀ x z : Nat, 0 ≤ sumN (fun y => ind (S x y z)) 8 ∧ sumN (fun y => ind (S (x : Int) (y : Int) (z : Int))) 8 ≤ 8 := fun x z =>
    ⟨sumN_nonneg fun y _ => (ind_bounds _).1, by have := sumN_le (n := 8) (m := 1) fun y _ => (ind_bounds (S (x : Int) ((y : Nat) : Int) (z : Int))).2; omega⟩
  have h2 : ∀ z : Nat, 0 ≤ sumN (fun x => sumN (fun y => ind (S (x : Int) (y : Int) (z : Int))) 8) 8 ∧ sumN (fun x => sumN (fun y => ind (S (x : Int) (y : Int) (z : Int))) 8) 8 ≤ 64 := fun z =>
    ⟨sumN_nonneg fun x _ => (h1 x z).1, by have := sumN_le (n := 8) (m := 8) fun x _ => (h1 x z).2; omega⟩
  exact ⟨sumN_nonneg fun z _ => (h2 z).1, by have := sumN_le (n := 8) (m := 64) fun z _ => (h2 z).2; omega⟩
theorem sumN_zero_inv {f : Nat → Int} : ∀ {n : Nat}, (∀ i, 0 ≤ f i) → sumN f n = 0 → ∀ i, i < n → f i = 0
  | 0, _, _, i, hi => absurd hi (Nat.not_lt_zero i)
  | n + 1, hf, h, i, hi => by
    have h1 := sumN_nonneg (n := n) fun i _ => hf i
    have h2 := hf n
    simp only [sumN] at h
    by_cases e : i = n
    · subst e; omega
    · exact sumN_zero_inv (n := n) hf (by omega) i (by omega)
theorem cnt_zero {S : Int → Int → Int → Bool} (h : cnt 8 8 S = 0) {x y z : Int} (hx : 0 ≤ x ∧ x < 8) (hy : 0 ≤ y ∧ y < 8) (hz : 0 ≤ z ∧ z < 8) : S x y z = false := by
  obtain ⟨i, rfl⟩ : ∃ i : Nat, x = i := ⟨x.toNat, by omega⟩
  obtain ⟨j, rfl⟩ : ∃ i : Nat, y = i := ⟨y.toNat, by omega⟩
  obtain ⟨k, rfl⟩ : ∃ i : Nat, z = i := ⟨z.toNat, by omega⟩
  unfold cnt at h
  have h1 := sumN_zero_inv (fun z => sumN_nonneg fun x _ => sumN_nonneg fun y _ => (ind_bounds _).1) h k (by omega)
  have h2 := sumN_zero_inv (fun x => sumN_nonneg fun y _ => (ind_bounds _).1) h1 i (by omega)
  have h3 := sumN_zero_inv (fun y => (ind_bounds _).1) h2 j (by omega)
  cases hs : S i j k
  · rfl
  · rw [hs] at h3; exact absurd h3 (by decide)
/-! the loops -/
theorem if_add {p : Bool} {n : Int} (h : 0 ≤ n ∧ n ≤ 100000) : (if p then (addI n 1).bind fun v => some v else some n) = some (n + ind p) := by
  cases p
  · rw [if_neg (by simp)]; simp [ind]
  · rw [if_pos rfl, addI_some (by unfold inI; omega), Option.bind_some]; rfl
section
variable {m a b : List Box} {c u i d : List Slab} {ec eu ei ed : Int}
variable (ha : a.length ≤ 1000) (hb : b.length ≤ 1000) (hc : Mk m (bcB a) c) (hu : Mk m (fun x y z => bcB a x y z || bcB b x y z) u) (hi : Mk m (fun x y z => bcB a x y z && bcB b x y z) i)
  (hd : Mk m (fun x y z => bcB a x y z && !bcB b x y z) d)
include ha hb hc hu hi hd
theorem Cubes_L2 (z x : Nat) (o t k : Int) (s1820 s1826 : Int × Int × Int × Int) (e1 : s1820.2.2.2 = (z : Int)) (e2 : s1826.2.2.2 = (x : Int)) (ho : 0 ≤ o ∧ o ≤ 10000) (ht : 0 ≤ t ∧ t ≤ 10000) (hk : 0 ≤ k ∧ k ≤ 10000) :
    iterL (law09_SolidCubes_L2 a b (c, ec) (u, eu) (i, ei) (d, ed) s1820 s1826) 9 (o, t, k, 0) =
      some (.ex 4 (o + sumN (fun y => ind (bcB a x y z)) 8, t + sumN (fun y => ind (bcB b x y z)) 8, k + sumN (fun y => ind (bcB a x y z && bcB b x y z)) 8, 8)) := by
  obtain ⟨s, h1, h2⟩ := iter_from (k := 4) (body := law09_SolidCubes_L2 a b (c, ec) (u, eu) (i, ei) (d, ed) s1820 s1826) (fun (s : Int × Int × Int) y => (s.1, s.2.1, s.2.2, y)) 0 8 (Nat.zero_le _)
    (fun n s => s = (o + sumN (fun y => ind (bcB a x y z)) n, t + sumN (fun y => ind (bcB b x y z)) n, k + sumN (fun y => ind (bcB a x y z && bcB b x y z)) n)) (by
    rintro n - hn s rfl
    have bd : ∀ f : Nat → Bool, 0 ≤ sumN (fun y => ind (f y)) n ∧ sumN (fun y => ind (f y)) n ≤ 8 := fun f =>
      ⟨sumN_nonneg fun y _ => (ind_bounds _).1, by have := sumN_le (n := n) (m := 1) fun y _ => (ind_bounds (f y)).2; omega⟩
    have b1 := bd fun y => bcB a x y z
    have b2 := bd fun y => bcB b x y z
    have b3 := bd fun y => bcB a x y z && bcB b x y z
    refine ⟨(o + sumN (fun y => ind (bcB a x y z)) (n + 1), t + sumN (fun y => ind (bcB b x y z)) (n + 1), k + sumN (fun y => ind (bcB a x y z && bcB b x y z)) (n + 1)), ?_, rfl⟩
    unfold law09_SolidCubes_L2
    dsimp only at b1 b2 b3 ⊢
    rw [if_pos (by simp; omega), e1, e2, covered_eq ha, Option.bind_some, covered_eq hb, Option.bind_some, hc.has, Option.bind_some, if_neg (by simp), hu.has, Option.bind_some, Option.bind_some, if_neg (by simp),
      hi.has, Option.bind_some, Option.bind_some, if_neg (by simp), hd.has, Option.bind_some, Option.bind_some, if_neg (by simp), if_add (by omega), Option.bind_some, if_add (by omega), Option.bind_some, if_add (by omega), Option.bind_some,
      addI_one (by omega), Option.bind_some]
    simp only [sumN, Int.add_assoc]) (by
    rintro s -
    unfold law09_SolidCubes_L2
    dsimp only
    rw [if_neg (by simp)]) (s0 := (o, t, k)) (by simp [sumN]) (fuel := 9) (by omega)
  rw [h2] at h1
  exact h1
omit ha hb hc hu hi hd in
theorem row_bounds (f : Nat → Bool) (n : Nat) (hn : n ≤ 8) : 0 ≤ sumN (fun y => ind (f y)) n ∧ sumN (fun y => ind (f y)) n ≤ 8 :=
  ⟨sumN_nonneg fun y _ => (ind_bounds _).1, by have := sumN_le (n := n) (m := 1) fun y _ => (ind_bounds (f y)).2; omega⟩
omit ha hb hc hu hi hd in
theorem plane_bounds (f : Nat → Nat → Bool) (n : Nat) (hn : n ≤ 8) : 0 ≤ sumN (fun x => sumN (fun y => ind (f x y)) 8) n ∧ sumN (fun x => sumN (fun y => ind (f x y)) 8) n ≤ 64 :=
  ⟨sumN_nonneg fun x _ => (row_bounds _ 8 (by omega)).1, by have := sumN_le (n := n) (m := 8) fun x _ => (row_bounds (f x) 8 (by omega)).2; omega⟩
omit ha hb hc hu hi hd in
theorem space_bounds (f : Nat → Nat → Nat → Bool) (n : Nat) (hn : n ≤ 8) : 0 ≤ sumN (fun z => sumN (fun x => sumN (fun y => ind (f z x y)) 8) 8) n ∧ sumN (fun z => sumN (fun x => sumN (fun y => ind (f z x y)) 8) 8) n ≤ 512 :=
  ⟨sumN_nonneg fun z _ => (plane_bounds _ 8 (by omega)).1, by have := sumN_le (n := n) (m := 64) fun z _ => (plane_bounds (f z) 8 (by omega)).2; omega⟩
theorem Cubes_L1 (z : Nat) (o t k : Int) (s1820 : Int × Int × Int × Int) (e1 : s1820.2.2.2 = (z : Int)) (ho : 0 ≤ o ∧ o ≤ 5000) (ht : 0 ≤ t ∧ t ≤ 5000) (hk : 0 ≤ k ∧ k ≤ 5000) :
    iterL (law09_SolidCubes_L1 a b (c, ec) (u, eu) (i, ei) (d, ed) s1820) 9 (o, t, k, 0) =
      some (.ex 2 (o + sumN (fun x => sumN (fun y => ind (bcB a x y z)) 8) 8, t + sumN (fun x => sumN (fun y => ind (bcB b x y z)) 8) 8, k + sumN (fun x => sumN (fun y => ind (bcB a x y z && bcB b x y z)) 8) 8, 8)) := by
  obtain ⟨s, h1, h2⟩ := iter_from (k := 2) (body := law09_SolidCubes_L1 a b (c, ec) (u, eu) (i, ei) (d, ed) s1820) (fun (s : Int × Int × Int) y => (s.1, s.2.1, s.2.2, y)) 0 8 (Nat.zero_le _)
    (fun n s => s = (o + sumN (fun x => sumN (fun y => ind (bcB a x y z)) 8) n, t + sumN (fun x => sumN (fun y => ind (bcB b x y z)) 8) n, k + sumN (fun x => sumN (fun y => ind (bcB a x y z && bcB b x y z)) 8) n)) (by
    rintro n - hn s rfl
    have b1 := plane_bounds (fun x y => bcB a x y z) n (by omega)
    have b2 := plane_bounds (fun x y => bcB b x y z) n (by omega)
    have b3 := plane_bounds (fun x y => bcB a x y z && bcB b x y z) n (by omega)
    refine ⟨(o + sumN (fun x => sumN (fun y => ind (bcB a x y z)) 8) (n + 1), t + sumN (fun x => sumN (fun y => ind (bcB b x y z)) 8) (n + 1), k + sumN (fun x => sumN (fun y => ind (bcB a x y z && bcB b x y z)) 8) (n + 1)), ?_, rfl⟩
    unfold law09_SolidCubes_L1
    dsimp only at b1 b2 b3 ⊢
    rw [if_pos (by simp; omega), Cubes_L2 ha hb hc hu hi hd z n _ _ _ s1820 _ e1 rfl (by omega) (by omega) (by omega), Option.bind_some]
    dsimp only
    rw [addI_one (by omega), Option.bind_some]
    simp only [sumN, Int.add_assoc]) (by
    rintro s -
    unfold law09_SolidCubes_L1
    dsimp only
    rw [if_neg (by simp)]) (s0 := (o, t, k)) (by simp [sumN]) (fuel := 9) (by omega)
  rw [h2] at h1
  exact h1
theorem Cubes_L0 :
    iterL (law09_SolidCubes_L0 a b (c, ec) (u, eu) (i, ei) (d, ed)) 9 (0, 0, 0, 0) = some (.ex 0 (cnt 8 8 (bcB a), cnt 8 8 (bcB b), cnt 8 8 (fun x y z => bcB a x y z && bcB b x y z), 8)) := by
  obtain ⟨s, h1, h2⟩ := iter_from (k := 0) (body := law09_SolidCubes_L0 a b (c, ec) (u, eu) (i, ei) (d, ed)) (fun (s : Int × Int × Int) y => (s.1, s.2.1, s.2.2, y)) 0 8 (Nat.zero_le _)
    (fun n s => s = (sumN (fun z => sumN (fun x => sumN (fun y => ind (bcB a x y z)) 8) 8) n, sumN (fun z => sumN (fun x => sumN (fun y => ind (bcB b x y z)) 8) 8) n, sumN (fun z => sumN (fun x => sumN (fun y => ind (bcB a x y z && bcB b x y z)) 8) 8) n)) (by
    rintro n - hn s rfl
    have b1 := space_bounds (fun z x y => bcB a x y z) n (by omega)
    have b2 := space_bounds (fun z x y => bcB b x y z) n (by omega)
    have b3 := space_bounds (fun z x y => bcB a x y z && bcB b x y z) n (by omega)
    refine ⟨(sumN (fun z => sumN (fun x => sumN (fun y => ind (bcB a x y z)) 8) 8) (n + 1), sumN (fun z => sumN (fun x => sumN (fun y => ind (bcB b x y z)) 8) 8) (n + 1), sumN (fun z => sumN (fun x => sumN (fun y => ind (bcB a x y z && bcB b x y z)) 8) 8) (n + 1)), ?_, rfl⟩
    unfold law09_SolidCubes_L0
    dsimp only at b1 b2 b3 ⊢
    rw [if_pos (by simp; omega), Cubes_L1 ha hb hc hu hi hd n _ _ _ _ rfl (by omega) (by omega) (by omega), Option.bind_some]
    dsimp only
    rw [addI_one (by omega), Option.bind_some]
    simp only [sumN]) (by
    rintro s -
    unfold law09_SolidCubes_L0
    dsimp only
    rw [if_neg (by simp)]) (s0 := (0, 0, 0)) (by simp [sumN]) (fuel := 9) (by omega)
  rw [h2] at h1
  exact h1
end
theorem bcB_near {l : List Box} (h : ∀ b ∈ l, nearB b) {x y z : Int} (hx : bcB l x y z = true) : (0 ≤ x ∧ x < 8) ∧ (0 ≤ y ∧ y < 8) ∧ (0 ≤ z ∧ z < 8) := by
  rw [bcB_iff] at hx
  obtain ⟨b, hb, h1, h2, h3⟩ := hx
  have := h b hb
  unfold nearB VB VR at this
  unfold rin at h1
  omega
theorem law_SolidCubes (a b : List Box) : law09_SolidCubes a b = some true := by
  unfold law09_SolidCubes
  rw [small_true, Option.bind_some]
  obtain ⟨p, hp1, hp2⟩ := near_spec (l := a) (n := 6) (by omega)
  obtain ⟨q, hq1, hq2⟩ := near_spec (l := b) (n := 6) (by omega)
  rw [show ((6 : Nat) : Int) = 6 from rfl] at hp1 hq1
  rw [hp1, Option.bind_some]
  cases p
  · rw [if_pos (by simp), Option.bind_some, if_pos rfl]
  rw [if_neg (by simp), hq1, Option.bind_some]
  cases q
  · rw [Option.bind_some, if_pos (by simp)]
  rw [Option.bind_some, if_neg (by simp)]
  obtain ⟨la, na⟩ := hp2 rfl
  obtain ⟨lb, nb⟩ := hq2 rfl
  have hv : ∀ x ∈ a ++ b, VB x := by
    intro x hx
    rw [List.mem_append] at hx
    rcases hx with hx | hx
    · exact (na x hx).1
    · exact (nb x hx).1
  have hn : (a ++ b).length ≤ 14 := by simp; omega
  obtain ⟨c, mC, eC⟩ := Mk.of (l := a) hv hn (by intro q hq; simp [hq]) (by omega)
  obtain ⟨d, mD, eD⟩ := Mk.of (l := b) hv hn (by intro q hq; simp [hq]) (by omega)
  obtain ⟨u, mU, eU⟩ := mC.union mD hn
  obtain ⟨i, mI, eI⟩ := mC.common mD hn
  obtain ⟨m, mM, eM⟩ := mC.minus mD hn
  rw [eC, Option.bind_some, eD, Option.bind_some]
  dsimp only
  rw [eU, Option.bind_some, eI, Option.bind_some, eM, Option.bind_some, if_neg (by simp)]
  dsimp only
  rw [mC.right, Option.bind_some, Option.bind_some, if_neg (by simp), mU.right, Option.bind_some, Option.bind_some, if_neg (by simp), mI.right, Option.bind_some, Option.bind_some, if_neg (by simp), mM.right, Option.bind_some, Option.bind_some, if_neg (by simp),
    Cubes_L0 (by omega) (by omega) mC mU mI mM, Option.bind_some]
  dsimp only
  have cut : ∀ S : Int → Int → Int → Bool, (∀ x y z, S x y z = true → bcB a x y z = true ∨ bcB b x y z = true) → cnt 1048576 4096 S = cnt 8 8 S := by
    intro S hS
    refine cnt_cut (by omega) (by omega) fun x y z h => ?_
    rcases hS x y z h with h | h
    · have := bcB_near na h; omega
    · have := bcB_near nb h; omega
  have kC := cut (bcB a) (fun _ _ _ h => .inl h)
  have kD := cut (bcB b) (fun _ _ _ h => .inr h)
  have kU := cut (fun x y z => bcB a x y z || bcB b x y z) (fun _ _ _ h => by simpa using h)
  have kI := cut (fun x y z => bcB a x y z && bcB b x y z) (fun _ _ _ h => .inl (by simp at h; exact h.1))
  have kM := cut (fun x y z => bcB a x y z && !bcB b x y z) (fun _ _ _ h => .inl (by simp at h; exact h.1))
  have aU := cnt_add (M := 8) (N := 8) (S := fun x y z => bcB a x y z || bcB b x y z) (T := fun x y z => bcB a x y z && bcB b x y z) (U := bcB a) (V := bcB b) (by
    intro x y z; cases bcB a x y z <;> cases bcB b x y z <;> rfl)
  have zero : cnt 8 8 (fun _ _ _ => false) = 0 := by decide
  have aM := cnt_add (M := 8) (N := 8) (S := fun x y z => bcB a x y z && !bcB b x y z) (T := fun x y z => bcB a x y z && bcB b x y z) (U := bcB a) (V := fun _ _ _ => false) (by
    intro x y z; cases bcB a x y z <;> cases bcB b x y z <;> rfl)
  have aN := cnt_add (M := 8) (N := 8) (S := fun x y z => bcB b x y z && !bcB a x y z) (T := fun x y z => bcB a x y z && bcB b x y z) (U := bcB b) (V := fun _ _ _ => false) (by
    intro x y z; cases bcB a x y z <;> cases bcB b x y z <;> rfl)
  have b1 := cnt_bounds (S := bcB a)
  have b2 := cnt_bounds (S := bcB b)
  have b3 := cnt_bounds (S := fun x y z => bcB a x y z && bcB b x y z)
  rw [zero] at aM aN
  rw [mC.vol.1, Option.bind_some, kC, if_neg (by simp), mD.vol.1, Option.bind_some, kD, Option.bind_some, if_neg (by simp), mI.vol.1, Option.bind_some, kI, Option.bind_some, if_neg (by simp), mU.vol.1, Option.bind_some, kU,
    addI_some (by unfold inI; omega), Option.bind_some, subI_some (by unfold inI; omega), Option.bind_some, Option.bind_some, if_neg (by simp; omega), mM.vol.1, Option.bind_some, kM, subI_some (by unfold inI; omega), Option.bind_some, Option.bind_some, if_neg (by simp; omega),
    if_pos rfl, mC.same, Option.bind_some, Option.bind_some]
  have hsame : decide (c = d) = ((cnt 8 8 (bcB a) == cnt 8 8 (fun x y z => bcB a x y z && bcB b x y z)) && (cnt 8 8 (bcB b) == cnt 8 8 (fun x y z => bcB a x y z && bcB b x y z))) := by
    rw [Bool.eq_iff_iff, decide_eq_true_iff, mC.eq_iff mD, Bool.and_eq_true, beq_iff_eq, beq_iff_eq]
    constructor
    · intro h
      have h1 : bcB a = bcB b := by funext x y z; exact h x y z
      have h2 : (fun x y z => bcB b x y z && bcB b x y z) = bcB b := by funext x y z; exact Bool.and_self _
      rw [h1, h2]
      exact ⟨rfl, rfl⟩
    · rintro ⟨h1, h2⟩ x y z
      have z1 : cnt 8 8 (fun x y z => bcB a x y z && !bcB b x y z) = 0 := by omega
      have z2 : cnt 8 8 (fun x y z => bcB b x y z && !bcB a x y z) = 0 := by omega
      rw [Bool.eq_iff_iff]
      constructor
      · intro h
        obtain ⟨g1, g2, g3⟩ := bcB_near na h
        have := cnt_zero z1 g1 g2 g3
        simpa [h] using this
      · intro h
        obtain ⟨g1, g2, g3⟩ := bcB_near nb h
        have := cnt_zero z2 g1 g2 g3
        simpa [h] using this
  have e8 : bcB a 0 0 8 = false := by
    rw [Bool.eq_false_iff]; intro h; have := bcB_near na h; omega
  have e9 : bcB a (-1) 0 0 = false := by
    rw [Bool.eq_false_iff]; intro h; have := bcB_near na h; omega
  rw [if_pos (by rw [hsame]; simp), mC.has, Option.bind_some, e8, Option.bind_some, if_pos (by rfl), mC.has, Option.bind_some, e9, Option.bind_some]
  rfl
end Go.Proofs.Ytmniloampanhfaa

