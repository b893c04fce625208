/- The plain part of the proof (no program in sight), part 2 -/
import Derived.Test.YtmniloampanhfaaGreatP1
namespace Go.Proofs.YtmniloampanhfaaGreat
open Go.Gb
set_option linter.unusedVariables false
set_option linter.unusedSimpArgs false
set_option linter.unusedSectionVars false
set_option linter.unusedVariables false
set_option linter.unusedSimpArgs false

/-! What is asked of a region -/
theorem rect_checked_eq (r : Rect) : rect_checked r = some (if VR r then (r, true) else (⟨0, 0, 0, 0⟩, false)) := by
  unfold rect_checked
  rw [rect_Right_eq, Option.bind_some]
  by_cases h : VR r <;> simp [h]
theorem rect_Has_eq (r : Rect) (x y : Int) : rect_Has r x y = some (decide (VR r ∧ rin r x y)) := by
  unfold rect_Has
  rw [rect_checked_eq, Option.bind_some]
  congr 1
  by_cases h : VR r
  · rw [if_pos h, Bool.eq_iff_iff]
    simp only [Bool.and_eq_true, decide_eq_true_eq, h, true_and]
    unfold rin
    constructor
    · rintro ⟨⟨⟨a, b⟩, c⟩, d⟩; exact ⟨⟨a, b⟩, c, d⟩
    · rintro ⟨⟨a, b⟩, c, d⟩; exact ⟨⟨⟨a, b⟩, c⟩, d⟩
  · rw [if_neg h]
    rw [Bool.eq_iff_iff]
    simp only [Bool.and_eq_true, decide_eq_true_eq, h, false_and, iff_false]
    omega
theorem contains_Rect {a : List Rect} {f : Rect → Option Bool} {p : Rect → Bool} (hf : ∀ r ∈ a, f r = some (p r)) (hl : a.length ≤ 1000000) : slices_ContainsFunc_Rect a f = some (a.any p) := by
  unfold slices_ContainsFunc_Rect slices_IndexFunc_Rect
  rcases iter_find (l := a) (body := slices_IndexFunc_Rect_L0 a f) (k := 0) (fun r => p r = true) (fun i => (i : Int)) (by
    intro i hi
    unfold slices_IndexFunc_Rect_L0
    rw [if_pos (by simpa using hi), getI_nat hi, Option.bind_some, hf _ (List.getElem_mem hi), Option.bind_some]
    cases hp : p a[i]
    · right
      rw [if_neg (by simp), addI_one (by omega), Option.bind_some]
      exact ⟨by simp, rfl⟩
    · left
      exact ⟨rfl, if_pos rfl⟩) (by
    unfold slices_IndexFunc_Rect_L0
    rw [if_neg (by simp)]) (fuel := a.length + 1) (by omega) with ⟨i, hi, hp, _, h⟩ | ⟨hp, h⟩
  · rw [h, Option.bind_some]
    dsimp only
    rw [Option.bind_some]
    congr 1
    rw [decide_eq_true (by omega)]
    symm
    rw [List.any_eq_true]
    exact ⟨_, List.getElem_mem hi, hp⟩
  · rw [h, Option.bind_some]
    dsimp only
    rw [Option.bind_some]
    congr 1
    rw [decide_eq_false (by omega)]
    symm
    rw [List.any_eq_false]
    intro r hr; exact hp r hr
theorem region_Has_any {a : List Rect} (hl : a.length ≤ 1000000) (x y : Int) : slices_ContainsFunc_Rect a (fun y0 => region_Has_1 y0 x y) = some (a.any fun r => decide (VR r ∧ rin r x y)) :=
  contains_Rect (fun r _ => by unfold region_Has_1; rw [rect_Has_eq, Option.bind_some]) hl
theorem region_Has_fine {a : List Rect} (h : RR a) (x y : Int) : region_Has a x y = some (decide (cells a x y)) := by
  unfold region_Has
  rw [region_Has_any (by have := h.2.1; omega), Option.bind_some, region_Right_true h]
  have e : (a.any fun r => decide (VR r ∧ rin r x y)) = decide (cells a x y) := by
    rw [Bool.eq_iff_iff, List.any_eq_true, decide_eq_true_eq]
    refine exists_congr fun r => and_congr_right fun hr => ?_
    simp [h.1 r hr]
  rw [e]
  cases decide (cells a x y) <;> rfl
/-- The number of cells. -/
def areaL (l : List Rect) : Int := sumL (fun r => (r.X1 - r.X0) * (r.Y1 - r.Y0)) l
def ind (b : Bool) : Int := if b then 1 else 0
theorem ind_bounds (b : Bool) : 0 ≤ ind b ∧ ind b ≤ 1 := by cases b <;> simp [ind]
theorem area_form {S : Int → Int → Prop} [∀ x y, Decidable (S x y)] {out : List Rect} (h : IsForm S out) {M : Nat} (hb : ∀ r ∈ out, 0 ≤ r.X0 ∧ r.X1 ≤ M ∧ 0 ≤ r.Y0 ∧ r.Y1 ≤ M) :
    areaL out = sumN (fun x => sumN (fun y => ind (decide (S x y))) M) M := by
  obtain ⟨G, h1, h2, h3, rfl⟩ := h
  have hG : ∀ g ∈ G, (0 ≤ g.1 ∧ g.2.1 ≤ M) ∧ ∀ s ∈ g.2.2, 0 ≤ s.1 ∧ s.2.1 ≤ M := by
    intro g hg
    have hmem : ∀ s ∈ g.2.2, (⟨g.1, s.1, g.2.1, s.2.1⟩ : Rect) ∈ flatG G := fun s hs => List.mem_flatMap.2 ⟨g, hg, List.mem_map.2 ⟨s, hs, rfl⟩⟩
    refine ⟨?_, fun s hs => ?_⟩
    · obtain ⟨a, b, c⟩ := g
      have hne := (canon_mem h1 hg).2
      cases c with
      | nil => exact absurd rfl hne
      | cons s c =>
        have := hb _ (hmem s (by simp))
        exact ⟨this.1, this.2.1⟩
    · have := hb _ (hmem s hs)
      exact ⟨this.2.2.1, this.2.2.2⟩
  have e1 : areaL (flatG G) = sumL (fun g => (g.2.1 - g.1) * sumN (fun y => ind (rval false g.2.2 (y : Int))) M) G := by
    unfold areaL flatG
    rw [sumL_flatMap]
    refine sumL_congr fun g hg => ?_
    obtain ⟨a, b, c⟩ := g
    have hc := h2 a b c hg
    rw [← sum_runs (w := ind) (e := false) rfl hc (hG _ hg).2, sumL_map, ← sumL_mul]
    refine sumL_congr fun s hs => ?_
    have : s.2.2 = true := by
      have := (canon_mem hc (show (s.1, s.2.1, s.2.2) ∈ c from hs)).2
      cases hv : s.2.2
      · rw [hv] at this; exact absurd rfl this
      · rfl
    rw [this]; simp [ind]
  rw [e1, sum_runs (e := []) (w := fun c : Col => sumN (fun y => ind (rval false c (y : Int))) M) (by simp only [rval]; exact sumN_zero) h1 fun r hr => (hG r hr).1]
  refine sumN_congr fun x _ => sumN_congr fun y _ => ?_
  congr 1
  rw [Bool.eq_iff_iff, h3, decide_eq_true_eq]
theorem area_bound {S : Int → Int → Prop} {out : List Rect} (h : IsForm S out) (hb : ∀ r ∈ out, VR r) : 0 ≤ areaL out ∧ areaL out ≤ 1099511627776 := by
  classical
  have hb' : ∀ r ∈ out, 0 ≤ r.X0 ∧ r.X1 ≤ ((1048576 : Nat) : Int) ∧ 0 ≤ r.Y0 ∧ r.Y1 ≤ ((1048576 : Nat) : Int) := fun r hr => by
    have := hb r hr
    unfold VR at this
    omega
  rw [area_form h hb']
  generalize hM : (1048576 : Nat) = M
  have h1 : ∀ x : Nat, 0 ≤ sumN (fun y : Nat => ind (decide (S (x : Int) (y : Int)))) M ∧ sumN (fun y : Nat => ind (decide (S (x : Int) (y : Int)))) M ≤ M * 1 := fun x =>
    ⟨sumN_nonneg fun i _ => (ind_bounds _).1, sumN_le fun i _ => (ind_bounds _).2⟩
  refine ⟨sumN_nonneg fun i _ => (h1 i).1, ?_⟩
  have h2 := sumN_le (f := fun x : Nat => sumN (fun y : Nat => ind (decide (S (x : Int) (y : Int)))) M) (m := M * 1) (n := M) fun i _ => (h1 i).2
  subst hM
  exact h2
theorem rect_Area_eq {r : Rect} (h : VR r) : rect_Area r = some ((r.X1 - r.X0) * (r.Y1 - r.Y0)) := by
  unfold rect_Area
  rw [rect_checked_eq, if_pos h, Option.bind_some]
  unfold VR at h
  have hm : (r.X1 - r.X0) * (r.Y1 - r.Y0) ≤ 1048576 * 1048576 := Int.mul_le_mul (by omega) (by omega) (by omega) (by omega)
  have hm0 : 0 ≤ (r.X1 - r.X0) * (r.Y1 - r.Y0) := Int.mul_nonneg (by omega) (by omega)
  rw [subI_some (by unfold inI; dsimp only; omega), Option.bind_some, subI_some (by unfold inI; dsimp only; omega), Option.bind_some, mulI_some (by unfold inI; dsimp only; omega), Option.bind_some]
theorem rect_area_bound {r : Rect} (h : VR r) : 0 ≤ (r.X1 - r.X0) * (r.Y1 - r.Y0) ∧ (r.X1 - r.X0) * (r.Y1 - r.Y0) ≤ 1099511627776 := by
  unfold VR at h
  exact ⟨Int.mul_nonneg (by omega) (by omega), Int.mul_le_mul (c := 1048576) (d := 1048576) (by omega) (by omega) (by omega) (by omega)⟩
theorem sumL_prefix {α : Type} {f : α → Int} {l : List α} (h : ∀ x ∈ l, 0 ≤ f x) (i : Nat) : 0 ≤ sumL f (l.take i) ∧ sumL f (l.take i) ≤ sumL f l := by
  have h1 := sumL_nonneg (l := l.take i) fun x hx => h x (List.mem_of_mem_take hx)
  have h2 := sumL_nonneg (l := l.drop i) fun x hx => h x (List.mem_of_mem_drop hx)
  have h3 : sumL f l = sumL f (l.take i) + sumL f (l.drop i) := by rw [← sumL_append, List.take_append_drop]
  omega
theorem sumL_snoc {α : Type} {f : α → Int} {l : List α} {i : Nat} (hi : i < l.length) : sumL f (l.take (i + 1)) = sumL f (l.take i) + f l[i] := by
  rw [List.take_succ_eq_append_getElem hi, sumL_append]; simp [sumL]
/-! What is asked of a solid -/
def boxesOf (s : List Slab) : List Box := s.flatMap fun x => x.Area.map fun r => ⟨r, x.Z0, x.Z1⟩
theorem Boxes_L1 {x : Slab} (hx : x.Area.length ≤ 1000000) {o : List Box} (ho : o.length ≤ 100000000) :
    iterL (solid_Boxes_L1 x) (x.Area.length + 1) (o, 0) = some (.ex 2 (o ++ x.Area.map (fun r => ⟨r, x.Z0, x.Z1⟩), (x.Area.length : Int))) := by
  refine (iter_range (k := 2) (l := x.Area) (body := solid_Boxes_L1 x) (fun (s : List Box) i => (s, i)) (fun s r => s ++ [⟨r, x.Z0, x.Z1⟩]) (fun i s => s.length ≤ 100000000 + i) (by
    intro i hi s hI
    constructor
    · unfold solid_Boxes_L1
      dsimp only
      rw [if_pos (by simpa using hi), getI_nat hi, Option.bind_some, appI_some (by simp; omega), Option.bind_some, addI_one (by omega), Option.bind_some]
    · simp; omega) (by
    intro s _
    unfold solid_Boxes_L1
    dsimp only
    rw [if_neg (by simp)]) (s0 := o) (by omega) (by omega)).1.trans ?_
  rw [foldl_flatMap (fun r : Rect => [(⟨r, x.Z0, x.Z1⟩ : Box)]), List.map_eq_flatMap]
theorem solid_Boxes_fine {s : List Slab} (h : SS s) : solid_Boxes s = some (boxesOf s) := by
  unfold solid_Boxes
  rw [solid_Right_true h, Option.bind_some, if_neg (by simp)]
  have hl := h.len
  obtain ⟨h1, h2⟩ := iter_range (k := 0) (l := s) (body := solid_Boxes_L0 s) (fun (s : List Box) i => (s, i)) (fun o x => o ++ x.Area.map fun r => ⟨r, x.Z0, x.Z1⟩) (fun i o => o.length ≤ 200 * i) (by
    intro i hi o hI
    have hx := (h.ok _ (List.getElem_mem hi)).2.2.2.1
    constructor
    · unfold solid_Boxes_L0
      dsimp only
      rw [if_pos (by simpa using hi), getI_nat hi, Option.bind_some, Boxes_L1 (by omega) (by omega), Option.bind_some]
      dsimp only
      rw [addI_one (by omega), Option.bind_some]
    · simp; omega) (by
    intro o _
    unfold solid_Boxes_L0
    dsimp only
    rw [if_neg (by simp)]) (s0 := []) (by simp) (fuel := s.length + 1) (by omega)
  rw [h1, Option.bind_some, foldl_flatMap (fun x : Slab => x.Area.map fun r => (⟨r, x.Z0, x.Z1⟩ : Box))]
  rfl
theorem solid_Boxes_bad {s : List Slab} (ha : ∀ b ∈ s, b.Area.length ≤ 100000) (h : ¬ SS s) : solid_Boxes s = some [] := by
  unfold solid_Boxes
  rw [solid_Right_false ha h, Option.bind_some, if_pos (by simp)]
theorem boxesOf_length {s : List Slab} (h : SS s) : (boxesOf s).length ≤ 16000 := by
  have hl := h.len
  have key : ∀ l : List Slab, (∀ b ∈ l, b.Area.length ≤ 200) → (boxesOf l).length ≤ 200 * l.length := by
    intro l
    induction l with
    | nil => intro _; simp [boxesOf]
    | cons a l ih =>
      intro hb
      have h1 := ih fun b hb' => hb b (by simp [hb'])
      have h2 := hb a (by simp)
      unfold boxesOf at h1 ⊢
      simp only [List.flatMap_cons, List.length_append, List.length_map, List.length_cons]
      omega
  have := key s fun b hb => (h.ok b hb).2.2.2.1
  omega
theorem boxesOf_VB {s : List Slab} (h : SS s) : ∀ b ∈ boxesOf s, VB b := by
  intro b hb
  obtain ⟨x, hx, hb⟩ := List.mem_flatMap.1 hb
  obtain ⟨r, hr, rfl⟩ := List.mem_map.1 hb
  have h1 := h.ok x hx
  have h2 := slab_pos h.canon hx
  exact ⟨h1.2.2.1 r hr, h1.1, h2.1, h1.2.1⟩
/-- The number of cubes. -/
def boxVol (b : Box) : Int := (b.Z1 - b.Z0) * ((b.Base.X1 - b.Base.X0) * (b.Base.Y1 - b.Base.Y0))
def vol (s : List Slab) : Int := sumL boxVol (boxesOf s)
theorem vol_slabs (s : List Slab) : vol s = sumL (fun x => (x.Z1 - x.Z0) * areaL x.Area) s := by
  unfold vol boxesOf
  rw [sumL_flatMap]
  refine sumL_congr fun x _ => ?_
  rw [sumL_map, areaL, ← sumL_mul]
  rfl
theorem vol_sect {s : List Slab} (h : SS s) {N : Nat} (hN : N = 4096) : vol s = sumN (fun z => areaL (sect s (z : Int))) N := by
  rw [vol_slabs]
  have := sum_runs (e := []) (w := areaL) rfl (l := slabRuns s) (N := N) h.canon (fun r hr => by
    obtain ⟨b, hb, rfl⟩ := List.mem_map.1 hr
    have := h.ok b hb
    subst hN
    exact ⟨this.1, this.2.1⟩)
  rw [← show _ = sumN (fun z => areaL (sect s (z : Int))) N from this]
  unfold slabRuns
  rw [sumL_map]
theorem sect_RR_bound {s : List Slab} (h : SS s) (z : Int) : 0 ≤ areaL (sect s z) ∧ areaL (sect s z) ≤ 1099511627776 := area_bound (h.sect z).2.2 (h.sect z).1
theorem vol_bound {s : List Slab} (h : SS s) : 0 ≤ vol s ∧ vol s ≤ 4503599627370496 := by
  obtain ⟨N, hN⟩ : ∃ N : Nat, N = 4096 := ⟨_, rfl⟩
  rw [vol_sect h hN]
  refine ⟨sumN_nonneg fun i _ => (sect_RR_bound h _).1, ?_⟩
  have := sumN_le (f := fun z : Nat => areaL (sect s (z : Int))) (m := 1099511627776) (n := N) fun i _ => (sect_RR_bound h _).2
  subst hN
  exact this
/-- The number of cubes of a set. -/
noncomputable def cnt (M N : Nat) (S : Int → Int → Int → Bool) : Int := sumN (fun z => sumN (fun x => sumN (fun y => ind (S x y z)) M) M) N
theorem vol_cnt {s : List Slab} (h : SS s) : vol s = cnt 1048576 4096 fun x y z => decide (scells s x y z) := by
  rw [vol_sect h rfl]
  unfold cnt
  refine sumN_congr fun z _ => ?_
  have hz := h.sect (z : Int)
  have := area_form (S := fun x y => scells s x y z) (hz.2.2.congr fun x y => Iff.rfl) (M := 1048576) (fun r hr => by
    have := hz.1 r hr
    unfold VR at this
    omega)
  exact this
theorem boxVol_bound {b : Box} (h : VB b) : 0 ≤ boxVol b ∧ boxVol b ≤ 4503599627370496 := by
  obtain ⟨h1, h2, h3, h4⟩ := h
  have := rect_area_bound h1
  unfold boxVol
  exact ⟨Int.mul_nonneg (by omega) this.1, Int.mul_le_mul (c := 4096) (d := 1099511627776) (by omega) this.2 this.1 (by omega)⟩
theorem solid_Volume_fine {s : List Slab} (h : SS s) : solid_Volume s = some (vol s) := by
  unfold solid_Volume
  rw [solid_Boxes_fine h, Option.bind_some]
  have hl := boxesOf_length h
  have hv := boxesOf_VB h
  have hb := vol_bound h
  unfold vol at hb ⊢
  generalize boxesOf s = l at hl hv hb
  obtain ⟨h1, h2⟩ := iter_range (k := 0) (l := l) (body := solid_Volume_L0 l) (fun (s : Int) i => (s, i)) (fun s b => s + boxVol b) (fun i s => s = sumL boxVol (l.take i)) (by
    intro i hi s hI
    have hbi := hv _ (List.getElem_mem hi)
    have hp := sumL_prefix (fun b hb => (boxVol_bound (hv b hb)).1) (i + 1)
    rw [sumL_snoc hi, ← hI] at hp
    have hbb := boxVol_bound hbi
    constructor
    · unfold solid_Volume_L0
      dsimp only
      obtain ⟨g1, g2, g3, g4⟩ := hbi
      rw [if_pos (by simpa using hi), getI_nat hi, Option.bind_some, subI_some (by unfold inI; omega), Option.bind_some, rect_Area_eq g1, Option.bind_some, mulI_some (by unfold boxVol at hbb; unfold inI; omega), Option.bind_some,
        addI_some (by have e : boxVol l[i] = (l[i].Z1 - l[i].Z0) * ((l[i].Base.X1 - l[i].Base.X0) * (l[i].Base.Y1 - l[i].Base.Y0)) := rfl
                      rw [← e]; unfold inI; omega), Option.bind_some, addI_one (by omega), Option.bind_some]
      rfl
    · rw [sumL_snoc hi, ← hI]) (by
    intro s _
    unfold solid_Volume_L0
    dsimp only
    rw [if_neg (by simp)]) (s0 := 0) rfl (fuel := l.length + 1) (by omega)
  rw [h1, Option.bind_some]
  dsimp only
  rw [h2, List.take_length]
theorem solid_Volume_bad {s : List Slab} (ha : ∀ b ∈ s, b.Area.length ≤ 100000) (h : ¬ SS s) : solid_Volume s = some 0 := by
  unfold solid_Volume
  rw [solid_Boxes_bad ha h, Option.bind_some]
  have e : solid_Volume_L0 [] (0, 0) = some (.ex 0 (0, 0)) := by
    unfold solid_Volume_L0
    dsimp only
    rw [if_neg (by simp)]
  simp only [List.length_nil, Nat.zero_add, iterL, e, Option.bind_some]
theorem clone_Rect {a : List Rect} (h : a.length ≤ 1000000) : slices_Clone_Rect a = some a := by
  unfold slices_Clone_Rect
  rw [appI_some (by simp; omega), Option.bind_some, List.nil_append]
theorem solid_Section_fine {s : List Slab} (h : SS s) (z : Int) : solid_Section s z = some (sect s z) := by
  unfold solid_Section
  rw [solid_Right_true h, Option.bind_some, if_neg (by simp), at_eq (by have := h.len; omega), Option.bind_some, clone_Rect (by have := (h.sect z).2.1; omega), Option.bind_some]
theorem solid_Section_bad {s : List Slab} (ha : ∀ b ∈ s, b.Area.length ≤ 100000) (h : ¬ SS s) (z : Int) : solid_Section s z = some [] := by
  unfold solid_Section
  rw [solid_Right_false ha h, Option.bind_some, if_pos (by simp)]
theorem solid_Has_fine {s : List Slab} (h : SS s) (x y z : Int) : solid_Has s x y z = some (decide (scells s x y z)) := by
  unfold solid_Has
  rw [solid_Section_fine h, Option.bind_some, region_Has_fine (h.sect z), Option.bind_some]
  exact rfl
theorem solid_Has_bad {s : List Slab} (ha : ∀ b ∈ s, b.Area.length ≤ 100000) (h : ¬ SS s) (x y z : Int) : solid_Has s x y z = some false := by
  unfold solid_Has
  rw [solid_Section_bad ha h, Option.bind_some, region_Has_fine RR_nil, Option.bind_some]
  congr 1
/-- The height over a cell. -/
def IsTop (s : List Slab) (x y t : Int) : Prop := 0 ≤ t ∧ (∀ z, scells s x y z → z < t) ∧ (t = 0 ∨ scells s x y (t - 1))
theorem IsTop.unique {s : List Slab} {x y t t' : Int} (h : IsTop s x y t) (h' : IsTop s x y t') : t = t' := by
  obtain ⟨a1, a2, a3⟩ := h
  obtain ⟨b1, b2, b3⟩ := h'
  rcases a3 with rfl | a3
  · rcases b3 with rfl | b3
    · rfl
    · have := a2 _ b3; omega
  · have := b2 _ a3
    rcases b3 with rfl | b3
    · omega
    · have := a2 _ b3; omega
theorem scells_slab {s : List Slab} (h : Canon [] (slabRuns s)) {x y z : Int} : scells s x y z ↔ ∃ b ∈ s, cells b.Area x y ∧ b.Z0 ≤ z ∧ z < b.Z1 := by
  constructor
  · intro hc
    unfold scells at hc
    rcases rval_mem (e := []) (l := slabRuns s) (x := z) with h1 | ⟨p, q, h1, h2⟩
    · unfold sect at hc; rw [h1] at hc; simp [cells] at hc
    · obtain ⟨b, hb, he⟩ := List.mem_map.1 h1
      simp only [Prod.mk.injEq] at he
      have : sect s z = b.Area := by unfold sect; rw [← he.2.2]
      exact ⟨b, hb, by rw [← this]; exact hc, by omega⟩
  · rintro ⟨b, hb, h1, h2, h3⟩
    unfold scells
    rw [sect_mem h hb h2 h3]; exact h1
theorem slab_order {s : List Slab} (h : Canon [] (slabRuns s)) {i j : Nat} (hij : i < j) (hj : j < s.length) : (s[i]'(by omega)).Z1 ≤ s[j].Z0 := by
  have := List.pairwise_iff_getElem.1 (canon_pairwise h) i j (by rw [slabRuns_length]; omega) (by rw [slabRuns_length]; exact hj) hij
  simpa [slabRuns] using this
theorem solid_Top_fine {s : List Slab} (h : SS s) (x y : Int) : ∃ t, solid_Top s x y = some t ∧ IsTop s x y t := by
  unfold solid_Top
  have hl := h.len
  rw [solid_Right_true h, Option.bind_some, if_neg (by simp), subI_some (by unfold inI; omega), Option.bind_some]
  have key : ∀ m : Nat, m ≤ s.length → (∀ j (hj : j < s.length), m ≤ j → ¬ cells s[j].Area x y) → ∀ fuel, m < fuel →
      ∃ f, iterL (solid_Top_L0 s x y) fuel ((m : Int) - 1) = some f ∧ ((∃ n, f = .ex 0 n ∧ IsTop s x y 0) ∨ ∃ t, f = .ret t ∧ IsTop s x y t) := by
    intro m
    induction m with
    | zero =>
      intro _ hno fuel hf
      obtain ⟨fuel, rfl⟩ : ∃ m, fuel = m + 1 := ⟨fuel - 1, by omega⟩
      refine ⟨.ex 0 (((0 : Nat) : Int) - 1), ?_, .inl ⟨_, rfl, Int.le_refl _, fun z hz => ?_, .inl rfl⟩⟩
      · have e : solid_Top_L0 s x y (((0 : Nat) : Int) - 1) = some (.ex 0 (((0 : Nat) : Int) - 1)) := by
          unfold solid_Top_L0
          rw [if_neg (by decide)]
        simp only [iterL, e]
      · obtain ⟨b, hb, hc, _⟩ := (scells_slab h.canon).1 hz
        obtain ⟨j, hj, rfl⟩ := List.getElem_of_mem hb
        exact absurd hc (hno j hj (Nat.zero_le _))
    | succ m ih =>
      intro hm hno fuel hf
      obtain ⟨fuel, rfl⟩ : ∃ m, fuel = m + 1 := ⟨fuel - 1, by omega⟩
      have em : ((m + 1 : Nat) : Int) - 1 = (m : Int) := by omega
      have hml : m < s.length := by omega
      have hRR := (h.ok _ (List.getElem_mem hml)).2.2
      rw [em]
      by_cases hc : cells s[m].Area x y
      · refine ⟨.ret s[m].Z1, ?_, .inr ⟨_, rfl, ?_, fun z hz => ?_, .inr ?_⟩⟩
        · have e : solid_Top_L0 s x y (m : Int) = some (.ret s[m].Z1) := by
            unfold solid_Top_L0
            rw [if_pos (by simp), getI_nat hml, Option.bind_some, region_Has_fine hRR, Option.bind_some, if_pos (by simpa using hc), Option.bind_some]
          simp only [iterL, e]
        · have h1 := (h.ok _ (List.getElem_mem hml)).1
          have h2 := (slab_pos h.canon (List.getElem_mem hml)).1
          omega
        · obtain ⟨b, hb, hc', h2, h3⟩ := (scells_slab h.canon).1 hz
          obtain ⟨j, hj, rfl⟩ := List.getElem_of_mem hb
          rcases Nat.lt_trichotomy j m with h' | h' | h'
          · have := slab_order h.canon h' hml
            have h2 := (slab_pos h.canon (List.getElem_mem hml)).1
            omega
          · subst h'; exact h3
          · exact absurd hc' (hno j hj (by omega))
        · have h2 := (slab_pos h.canon (List.getElem_mem hml)).1
          exact (scells_slab h.canon).2 ⟨_, List.getElem_mem hml, hc, by omega, by omega⟩
      · have e : solid_Top_L0 s x y (m : Int) = some (.go ((m : Int) - 1)) := by
          unfold solid_Top_L0
          rw [if_pos (by simp), getI_nat hml, Option.bind_some, region_Has_fine hRR, Option.bind_some, if_neg (by simpa using hc), subI_some (by unfold inI; omega), Option.bind_some]
        simp only [iterL, e]
        exact ih (by omega) (fun j hj hmj => by
          rcases Nat.lt_or_ge m j with h' | h'
          · exact hno j hj (by omega)
          · have : j = m := by omega
            subst this; exact hc) fuel (by omega)
  obtain ⟨f, h1, h2⟩ := key s.length (Nat.le_refl _) (fun j hj h' => absurd hj (by omega)) (s.length + 1) (by omega)
  rw [h1, Option.bind_some]
  rcases h2 with ⟨n, rfl, h2⟩ | ⟨t, rfl, h2⟩
  · exact ⟨0, rfl, h2⟩
  · exact ⟨t, rfl, h2⟩
theorem solid_Top_bad {s : List Slab} (ha : ∀ b ∈ s, b.Area.length ≤ 100000) (h : ¬ SS s) (x y : Int) : solid_Top s x y = some 0 := by
  unfold solid_Top
  rw [solid_Right_false ha h, Option.bind_some, if_pos (by simp)]
theorem solid_Same_eq {a b : List Slab} (hl : a.length ≤ 1000000) (ha : ∀ s ∈ a, s.Area.length ≤ 1000000) : solid_Same a b = some (decide (a = b)) := by
  unfold solid_Same slices_EqualFunc_Slab_Slab_Slab
  by_cases hlen : a.length = b.length
  · rw [if_neg (by simp [hlen])]
    have heq : ∀ x ∈ a, ∀ y : Slab, solid_Same_1 x y = some (decide (x = y)) := by
      intro x hx y
      unfold solid_Same_1
      obtain ⟨x0, x1, xa⟩ := x
      obtain ⟨y0, y1, ya⟩ := y
      have hxa := ha _ hx
      dsimp only at hxa ⊢
      by_cases h0 : x0 = y0
      · by_cases h1 : x1 = y1
        · rw [if_pos (by simp [h0, h1]), region_Same_eq hxa, Option.bind_some, Option.bind_some]; simp [h0, h1]
        · rw [if_neg (by simp [h1]), Option.bind_some]; simp [h1]
      · rw [if_neg (by simp [h0]), Option.bind_some]; simp [h0]
    rcases iter_find (l := a.zip b) (body := slices_EqualFunc_Slab_Slab_Slab_L0 a b solid_Same_1) (k := 0) (fun p => p.1 ≠ p.2) (fun _ => false) (by
      intro i hi
      simp only [List.length_zip] at hi
      have h1 : i < a.length := by omega
      have h2 : i < b.length := by omega
      unfold slices_EqualFunc_Slab_Slab_Slab_L0
      rw [if_pos (by simpa using h1), getI_nat h1, Option.bind_some, getI_nat h2, Option.bind_some, heq _ (List.getElem_mem h1), Option.bind_some]
      simp only [List.getElem_zip]
      by_cases he : a[i] = b[i]
      · right
        rw [if_neg (by simpa using he), addI_one (show i < 4611686018427387904 by omega), Option.bind_some]
        exact ⟨by simpa using he, rfl⟩
      · left
        rw [if_pos (by simpa using he)]
        exact ⟨he, rfl⟩) (by
      have e : ((a.zip b).length : Int) = (a.length : Int) := by simp; omega
      rw [e]
      unfold slices_EqualFunc_Slab_Slab_Slab_L0
      rw [if_neg (by simp)]) (fuel := a.length + 1) (by simp; omega) with ⟨i, hi, hp, _, h⟩ | ⟨hp, h⟩
    · rw [h, Option.bind_some]
      dsimp only
      rw [Option.bind_some]
      congr 1
      symm
      rw [decide_eq_false_iff_not]
      intro e; subst e; simp at hp
    · rw [h, Option.bind_some]
      dsimp only
      rw [Option.bind_some]
      congr 1
      symm
      rw [decide_eq_true_iff]
      refine List.ext_getElem hlen fun i h1 h2 => ?_
      have := hp (a[i], b[i]) (by
        rw [List.mem_iff_getElem]
        exact ⟨i, by simp; omega, by simp⟩)
      simpa using this
  · rw [if_pos (by simp; omega), Option.bind_some]
    congr 1
    symm
    rw [decide_eq_false_iff_not]
    intro e; exact hlen (by rw [e])
end Go.Proofs.YtmniloampanhfaaGreat

namespace Go.Proofs.YtmniloampanhfaaGreat
open Go.Gb
set_option linter.unusedVariables false
set_option linter.unusedSimpArgs false
set_option linter.unusedSectionVars false
set_option linter.unusedVariables false
set_option linter.unusedSimpArgs false

/-! Forms that can be checked by reckoning -/
def canonB {V : Type} [DecidableEq V] (e : V) : Runs V → Bool
  | [] => true
  | (a, b, v) :: t => decide (a < b) && decide (v ≠ e) && (match t with | [] => true | (c, _, w) :: _ => decide (b < c) || (decide (b = c) && decide (v ≠ w))) && canonB e t
theorem canonB_spec {V : Type} [DecidableEq V] {e : V} : ∀ {l : Runs V}, canonB e l = true → Canon e l
  | [], _ => trivial
  | (a, b, v) :: t, h => by
    simp only [canonB, Bool.and_eq_true, decide_eq_true_eq] at h
    obtain ⟨⟨⟨h1, h2⟩, h3⟩, h4⟩ := h
    refine ⟨h1, h2, ?_, canonB_spec h4⟩
    cases t with
    | nil => trivial
    | cons r t =>
      obtain ⟨c, d, w⟩ := r
      simp only [Bool.or_eq_true, Bool.and_eq_true, decide_eq_true_eq] at h3
      exact h3
/-- The runs of columns of a list of rectangles, neighbours with the same ends in one. -/
def runsOf : List Rect → Runs Col
  | [] => []
  | r :: l => match runsOf l with
    | [] => [(r.X0, r.X1, [(r.Y0, r.Y1, true)])]
    | (a, b, c) :: t => if r.X0 = a ∧ r.X1 = b then (a, b, (r.Y0, r.Y1, true) :: c) :: t else (r.X0, r.X1, [(r.Y0, r.Y1, true)]) :: (a, b, c) :: t
theorem flatG_cons (a b : Int) (c : Col) (t : Runs Col) : flatG ((a, b, c) :: t) = (c.map fun s => ⟨a, s.1, b, s.2.1⟩) ++ flatG t := rfl
theorem flatG_runsOf : ∀ l : List Rect, flatG (runsOf l) = l
  | [] => rfl
  | r :: l => by
    have ih := flatG_runsOf l
    simp only [runsOf]
    split
    · rename_i h
      rw [h] at ih
      rw [← ih]; rfl
    · rename_i a b c t h
      rw [h] at ih
      split
      · rename_i h2
        obtain ⟨rfl, rfl⟩ := h2
        rw [← ih, flatG_cons, flatG_cons]; rfl
      · rw [flatG_cons, ← ih]; rfl
def formB (l : List Rect) : Bool := canonB [] (runsOf l) && (runsOf l).all fun g => canonB false g.2.2
theorem formB_spec {l : List Rect} (h : formB l = true) : IsForm (cells l) l := by
  unfold formB at h
  rw [Bool.and_eq_true, List.all_eq_true] at h
  have hf : IsForm (fun x y => rval false (rval [] (runsOf l) x) y = true) l := ⟨runsOf l, canonB_spec h.1, fun a b c hm => canonB_spec (h.2 _ hm), fun _ _ => Iff.rfl, (flatG_runsOf l).symm⟩
  exact hf.self
def rrB (l : List Rect) : Bool := l.all (fun r => decide (VR r)) && decide (l.length ≤ 200) && formB l
theorem rrB_spec {l : List Rect} (h : rrB l = true) : RR l := by
  unfold rrB at h
  simp only [Bool.and_eq_true, List.all_eq_true, decide_eq_true_eq] at h
  exact ⟨h.1.1, h.1.2, formB_spec h.2⟩
def ssB (s : List Slab) : Bool := decide (s.length ≤ 80) && canonB [] (slabRuns s) && s.all fun b => decide (0 ≤ b.Z0) && decide (b.Z1 ≤ 4096) && rrB b.Area
theorem ssB_spec {s : List Slab} (h : ssB s = true) : SS s := by
  unfold ssB at h
  simp only [Bool.and_eq_true, List.all_eq_true, decide_eq_true_eq] at h
  exact ⟨h.1.1, canonB_spec h.1.2, fun b hb => ⟨(h.2 b hb).1.1, (h.2 b hb).1.2, rrB_spec (h.2 b hb).2⟩⟩
theorem slim_fine {s : List Slab} (h : SS s) : slim s = (s, 0) := by
  unfold slim
  rw [if_neg]
  rintro (⟨b, hb, h'⟩ | h')
  · have := (h.ok b hb).2.2.2.1; omega
  · have := h.len; omega
theorem Of_is {l : List Box} {w : List Slab} (hl : l.all (fun b => decide (VB b)) = true) (hn : l.length ≤ 200) (hw : ssB w = true) (he : ∀ x y z, bcells l x y z ↔ scells w x y z) : solid_Of l = some (w, 0) := by
  have hS := ssB_spec hw
  obtain ⟨out, h1, h2⟩ := solid_Of_fine (l := l) (by simpa using hl) hn
  rw [h2, h1.unique hS.solid he, slim_fine hS]
theorem op_is {op : Int} {a b w : List Slab} (ha : SS a) (hb : SS b) (hw : SS w) (he : ∀ x y z, sopS op a b x y z ↔ scells w x y z) : solidOp op a b = some (w, 0) := by
  obtain ⟨out, h1, h2⟩ := solidOp_fine (op := op) ha hb
  rw [h2, h1.unique hw.solid he, slim_fine hw]
theorem top_is {s : List Slab} (h : SS s) {x y t : Int} (ht : IsTop s x y t) : solid_Top s x y = some t := by
  obtain ⟨t', h1, h2⟩ := solid_Top_fine h x y
  rw [h1, h2.unique ht]
theorem scells_iff {s : List Slab} {x y z : Int} : scells s x y z ↔ cells (sect s z) x y := Iff.rfl
theorem sect_cons (b : Slab) (s : List Slab) (z : Int) : sect (b :: s) z = if b.Z0 ≤ z ∧ z < b.Z1 then b.Area else sect s z := rfl
theorem sect_nil (z : Int) : sect [] z = [] := rfl
theorem cells_if {p : Prop} [Decidable p] {a b : List Rect} {x y : Int} : cells (if p then a else b) x y ↔ (p ∧ cells a x y) ∨ (¬ p ∧ cells b x y) := by
  split <;> simp [*]
theorem rsame_is {a b : List Rect} (hb : a.length ≤ 1000000) : ref06_Same a b = some (decide (a = b)) := by
  unfold ref06_Same
  by_cases hl : a.length = b.length
  · rw [if_neg (by simp [hl])]
    rcases iter_find (l := a.zip b) (body := ref06_Same_L0 a b) (k := 0) (fun p => p.1 ≠ p.2) (fun _ => false) (by
      intro i hi
      simp only [List.length_zip] at hi
      have h1 : i < a.length := by omega
      have h2 : i < b.length := by omega
      unfold ref06_Same_L0
      rw [if_pos (by simpa using h1), getI_nat h1, Option.bind_some, getI_nat h2, Option.bind_some]
      simp only [List.getElem_zip]
      by_cases he : a[i] = b[i]
      · right
        rw [if_neg (by simpa using he), addI_one (show i < 4611686018427387904 by omega), Option.bind_some]
        exact ⟨by simpa using he, rfl⟩
      · left
        rw [if_pos (by simpa using he)]
        exact ⟨he, rfl⟩) (by
      have e : ((a.zip b).length : Int) = (a.length : Int) := by simp; omega
      rw [e]
      unfold ref06_Same_L0
      rw [if_neg (by simp)]) (fuel := a.length + b.length + 1) (by simp; omega) with ⟨i, hi, hp, _, h⟩ | ⟨hp, h⟩
    · rw [h, Option.bind_some]
      dsimp only
      congr 1
      symm
      rw [decide_eq_false_iff_not]
      intro e; subst e; simp at hp
    · rw [h, Option.bind_some]
      dsimp only
      congr 1
      symm
      rw [decide_eq_true_iff]
      refine List.ext_getElem hl fun i h1 h2 => ?_
      have := hp (a[i], b[i]) (by
        rw [List.mem_iff_getElem]
        exact ⟨i, by simp; omega, by simp⟩)
      simpa using this
  · rw [if_pos (by simp; omega)]
    congr 1
    symm
    rw [decide_eq_false_iff_not]
    intro e; exact hl (by rw [e])
theorem sSame_eq {a b : List Slab} (hl : a.length ≤ 1000000) (ha : ∀ s ∈ a, s.Area.length ≤ 1000000) : ref09_Same a b = some (decide (a = b)) := by
  unfold ref09_Same
  by_cases hlen : a.length = b.length
  · rw [if_neg (by simp [hlen])]
    rcases iter_find (l := a.zip b) (body := ref09_Same_L0 a b) (k := 0) (fun p => p.1 ≠ p.2) (fun _ => false) (by
      intro i hi
      simp only [List.length_zip] at hi
      have h1 : i < a.length := by omega
      have h2 : i < b.length := by omega
      have hs : ref09_Same_L0 a b (i : Int) = if a[i] = b[i] then some (.go ((i + 1 : Nat) : Int)) else some (.ret false) := by
        have hai := ha _ (List.getElem_mem h1)
        unfold ref09_Same_L0
        rw [if_pos (by simpa using h1)]
        simp only [getI_nat h1, getI_nat h2, Option.bind_some, rsame_is hai, addI_one (show i < 4611686018427387904 by omega)]
        generalize a[i] = p at hai ⊢
        generalize b[i] = q
        obtain ⟨x0, x1, xa⟩ := p
        obtain ⟨y0, y1, ya⟩ := q
        by_cases c0 : x0 = y0
        · by_cases c1 : x1 = y1
          · by_cases c2 : xa = ya
            · simp [c0, c1, c2]
            · simp [c0, c1, c2]
          · simp [c0, c1]
        · simp [c0]
      rw [hs]
      simp only [List.getElem_zip]
      by_cases he : a[i] = b[i]
      · right
        rw [if_pos he]
        exact ⟨fun h => h he, rfl⟩
      · left
        rw [if_neg he]
        exact ⟨he, rfl⟩) (by
      have e : ((a.zip b).length : Int) = (a.length : Int) := by simp; omega
      rw [e]
      unfold ref09_Same_L0
      rw [if_neg (by simp)]) (fuel := a.length + b.length + 1) (by simp; omega) with ⟨i, hi, hp, _, h⟩ | ⟨hp, h⟩
    · rw [h, Option.bind_some]
      dsimp only
      congr 1
      symm
      rw [decide_eq_false_iff_not]
      intro e; subst e; simp at hp
    · rw [h, Option.bind_some]
      dsimp only
      congr 1
      symm
      rw [decide_eq_true_iff]
      refine List.ext_getElem hlen fun i h1 h2 => ?_
      have := hp (a[i], b[i]) (by
        rw [List.mem_iff_getElem]
        exact ⟨i, by simp; omega, by simp⟩)
      simpa using this
  · rw [if_pos (by simp; omega)]
    congr 1
    symm
    rw [decide_eq_false_iff_not]
    intro e; exact hlen (by rw [e])

/-- The examples of the documentation. -/
def exU : List Slab := [⟨0, 3, [⟨0, 0, 2, 2⟩]⟩, ⟨3, 5, [⟨0, 0, 1, 2⟩]⟩]
def exV : List Slab := [⟨1, 5, [⟨0, 0, 2, 1⟩]⟩]
def exM : List Slab := [⟨0, 1, [⟨0, 0, 2, 2⟩]⟩, ⟨1, 3, [⟨0, 1, 2, 2⟩]⟩, ⟨3, 5, [⟨0, 1, 1, 2⟩]⟩]
theorem exU_fine : SS exU := ssB_spec (by decide)
theorem exV_fine : SS exV := ssB_spec (by decide)
theorem exM_fine : SS exM := ssB_spec (by decide)
theorem ex1 : solid_Of [⟨⟨0, 0, 2, 2⟩, 0, 3⟩, ⟨⟨0, 0, 1, 2⟩, 2, 5⟩] = some (exU, 0) := by
  refine Of_is (by decide) (by decide) (by decide) fun x y z => ?_
  simp only [scells_iff, exU, sect_cons, sect_nil, cells_if]
  simp only [bcells, cells, List.mem_cons, List.not_mem_nil, or_false, exists_eq_or_imp, exists_eq_left, false_and, exists_false, and_false, or_false, rin]
  omega
theorem ex2 : solid_Of [⟨⟨0, 0, 2, 1⟩, 1, 5⟩] = some (exV, 0) := by
  refine Of_is (by decide) (by decide) (by decide) fun x y z => ?_
  simp only [scells_iff, exV, sect_cons, sect_nil, cells_if]
  simp only [bcells, cells, List.mem_cons, List.not_mem_nil, or_false, exists_eq_or_imp, exists_eq_left, false_and, exists_false, and_false, or_false, rin]
  omega
theorem ex3 : solid_Minus exU exV = some (exM, 0) := by
  have h := op_is (op := 2) exU_fine exV_fine exM_fine (fun x y z => by
    unfold sopS opB
    rw [if_neg (by decide), if_pos rfl]
    simp only [Bool.and_eq_true, Bool.not_eq_true', decide_eq_true_eq, decide_eq_false_iff_not]
    simp only [scells_iff, exU, exV, exM, sect_cons, sect_nil, cells_if]
    simp only [cells, List.mem_cons, List.not_mem_nil, or_false, exists_eq_or_imp, exists_eq_left, false_and, exists_false, and_false, or_false, rin]
    omega)
  exact h
theorem ex4 : solid_Of [⟨⟨0, 0, 2, 1⟩, 1, 1⟩] = some ([], 1) := solid_Of_bad (by decide) (by decide)
theorem exTop (x y t : Int) (h : (0 ≤ t ∧ (∀ z, ((0 ≤ z ∧ z < 3) ∧ (0 ≤ x ∧ x < 2) ∧ 0 ≤ y ∧ y < 2) ∨ ((3 ≤ z ∧ z < 5) ∧ (0 ≤ x ∧ x < 1) ∧ 0 ≤ y ∧ y < 2) → z < t)) ∧ (t = 0 ∨ ((0 ≤ t - 1 ∧ t - 1 < 3) ∧ (0 ≤ x ∧ x < 2) ∧ 0 ≤ y ∧ y < 2) ∨ ((3 ≤ t - 1 ∧ t - 1 < 5) ∧ (0 ≤ x ∧ x < 1) ∧ 0 ≤ y ∧ y < 2))) : solid_Top exU x y = some t := by
  have e : ∀ z, scells exU x y z ↔ ((0 ≤ z ∧ z < 3) ∧ (0 ≤ x ∧ x < 2) ∧ 0 ≤ y ∧ y < 2) ∨ ((3 ≤ z ∧ z < 5) ∧ (0 ≤ x ∧ x < 1) ∧ 0 ≤ y ∧ y < 2) := by
    intro z
    simp only [scells_iff, exU, sect_cons, sect_nil, cells_if]
    simp only [cells, List.mem_cons, List.not_mem_nil, or_false, exists_eq_or_imp, exists_eq_left, false_and, exists_false, and_false, or_false, rin]
    omega
  refine top_is exU_fine ⟨h.1.1, fun z hz => h.1.2 z ((e z).1 hz), ?_⟩
  rcases h.2 with h | h
  · exact .inl h
  · exact .inr ((e _).2 h)
theorem small_true : law09_small = some true := by
  unfold law09_small law09_square
  rw [ex1, Option.bind_some, ex2, Option.bind_some]
  dsimp only
  rw [ex3, Option.bind_some, ex4]
  simp only [Option.bind_some]
  have hs1 : ref09_Same exU [⟨0, 3, [⟨0, 0, 2, 2⟩]⟩, ⟨3, 5, [⟨0, 0, 1, 2⟩]⟩] = some true := sSame_eq (by decide) (by decide)
  have hs2 : ref09_Same exM [⟨0, 1, [⟨0, 0, 2, 2⟩]⟩, ⟨1, 3, [⟨0, 1, 2, 2⟩]⟩, ⟨3, 5, [⟨0, 1, 1, 2⟩]⟩] = some true := sSame_eq (by decide) (by decide)
  have hs3 : solid_Same exM [⟨0, 1, [⟨0, 0, 2, 2⟩]⟩, ⟨1, 3, [⟨0, 1, 2, 2⟩]⟩, ⟨3, 5, [⟨0, 1, 1, 2⟩]⟩] = some true := solid_Same_eq (by decide) (by decide)
  have hv : solid_Volume exU = some 16 := solid_Volume_fine exU_fine
  have ht1 := exTop 0 1 5 ⟨⟨by omega, fun z hz => by omega⟩, by omega⟩
  have ht2 := exTop 1 1 3 ⟨⟨by omega, fun z hz => by omega⟩, by omega⟩
  have ht3 := exTop 2 0 0 ⟨⟨by omega, fun z hz => by omega⟩, by omega⟩
  have hc1 : solid_Section exU 2 = some [⟨0, 0, 2, 2⟩] := solid_Section_fine exU_fine 2
  have hc2 : solid_Section exU 5 = some [] := solid_Section_fine exU_fine 5
  have hb : solid_Boxes exU = some [⟨⟨0, 0, 2, 2⟩, 0, 3⟩, ⟨⟨0, 0, 1, 2⟩, 3, 5⟩] := solid_Boxes_fine exU_fine
  have hh1 : solid_Has exU 0 0 4 = some true := by rw [solid_Has_fine exU_fine]; decide
  have hh2 : solid_Has exU 1 0 4 = some false := by rw [solid_Has_fine exU_fine]; decide
  have hr1 : solid_Right [] = some true := solid_Right_true SS_nil
  have hr2 : solid_Right [⟨0, 1, []⟩] = some false := solid_Right_false (by decide) (fun h => (slab_pos h.canon (List.mem_singleton.2 rfl)).2 rfl)
  simp [hs1, hs2, hs3, hv, ht1, ht2, ht3, hc1, hc2, hb, hh1, hh2, hr1, hr2]
end Go.Proofs.YtmniloampanhfaaGreat

namespace Go.Proofs.YtmniloampanhfaaGreat
open Go.Gb
set_option linter.unusedVariables false
set_option linter.unusedSimpArgs false
set_option linter.unusedSectionVars false
set_option linter.unusedVariables false
set_option linter.unusedSimpArgs false

theorem nodup_le {α : Type} [DecidableEq α] : ∀ {l m : List α}, l.Nodup → (∀ x ∈ l, x ∈ m) → l.length ≤ m.length
  | [], m, _, _ => Nat.zero_le _
  | a :: l, m, hn, hs => by
    have hn' := List.nodup_cons.1 hn
    have ha := hs a (by simp)
    have ih := nodup_le (l := l) (m := m.erase a) hn'.2 fun x hx => by
      have hxa : x ≠ a := fun e => hn'.1 (e ▸ hx)
      exact (List.mem_erase_of_ne hxa).2 (hs x (by simp [hx]))
    rw [List.length_erase_of_mem ha] at ih
    have := List.length_pos_of_mem ha
    simp only [List.length_cons]; omega

/-- How many of the numbers lie in [a, b). -/
def inC (D : List Int) (a b : Int) : Nat := D.countP fun c => decide (a ≤ c) && decide (c < b)
def ends (l : List (Int × Int)) : List Int := l.flatMap fun r => [r.1, r.2]
theorem ends_cons (r : Int × Int) (l : List (Int × Int)) : ends (r :: l) = r.1 :: r.2 :: ends l := rfl
def sumNat {α : Type} (f : α → Nat) : List α → Nat
  | [] => 0
  | x :: xs => f x + sumNat f xs
theorem sumNat_le {α : Type} {f g : α → Nat} : ∀ {l : List α}, (∀ x ∈ l, f x ≤ g x) → sumNat f l ≤ sumNat g l
  | [], _ => Nat.le_refl _
  | x :: l, h => by
    have := h x (by simp)
    have := sumNat_le (l := l) fun y hy => h y (by simp [hy])
    simp only [sumNat]; omega
theorem sumNat_add {α : Type} {f g : α → Nat} : ∀ {l : List α}, sumNat (fun x => f x + g x) l = sumNat f l + sumNat g l
  | [] => rfl
  | x :: l => by simp only [sumNat, sumNat_add (l := l)]; omega
theorem sumNat_const {α : Type} {c : Nat} : ∀ {l : List α}, sumNat (fun _ => c) l = c * l.length
  | [] => rfl
  | x :: l => by simp only [sumNat, sumNat_const (l := l), List.length_cons, Nat.mul_add]; omega
/-- Numbers that are ends of intervals, each once: those in a set are no more than the ends in it. -/
theorem count_ends {l : List (Int × Int)} {q : Int → Bool} : ∀ {D : List Int}, D.Nodup → (∀ c ∈ D, c ∈ ends l) → D.countP q ≤ sumNat (fun r => (if q r.1 then 1 else 0) + (if q r.2 then 1 else 0)) l := by
  intro D hn hs
  have h1 : D.countP q = (D.filter q).length := List.countP_eq_length_filter
  have h2 : (D.filter q).length ≤ ((ends l).filter q).length := nodup_le (hn.sublist List.filter_sublist) fun x hx => by
    rw [List.mem_filter] at hx ⊢
    exact ⟨hs x hx.1, hx.2⟩
  have h3 : ∀ l : List (Int × Int), ((ends l).filter q).length = sumNat (fun r => (if q r.1 then 1 else 0) + (if q r.2 then 1 else 0)) l := by
    intro l
    induction l with
    | nil => rfl
    | cons r l ih =>
      rw [ends_cons]
      simp only [List.filter_cons, sumNat, ← ih]
      cases q r.1 <;> cases q r.2 <;> simp <;> omega
  rw [← h3]; omega
theorem pairs_sq : ∀ {l : List (Int × Int)} {D : List Int}, (∀ r ∈ l, r.1 < r.2) → D.Nodup → (∀ c ∈ D, c ∈ ends l) → sumNat (fun r => inC D r.1 r.2) l ≤ l.length * l.length
  | [], D, _, _, _ => Nat.le_refl _
  | r0 :: l, D, hlt, hn, hs => by
    have h0 := hlt r0 (by simp)
    -- the numbers that are ends of the other intervals, and those that are not
    let o : Int → Bool := fun c => decide (c ∈ ends l)
    have hD : ∀ p : Int → Bool, D.countP p = (D.filter o).countP p + (D.filter fun c => !o c).countP p := by
      intro p
      clear hn hs hlt
      induction D with
      | nil => rfl
      | cons c D ih =>
        simp only [List.countP_cons, List.filter_cons, ih]
        cases o c <;> simp [List.countP_cons] <;> omega
    have hD1 : (D.filter o).Nodup := hn.sublist List.filter_sublist
    have hs1 : ∀ c ∈ D.filter o, c ∈ ends l := fun c hc => by have := (List.mem_filter.1 hc).2; simpa [o] using this
    have hD2 : (D.filter fun c => !o c).Nodup := hn.sublist List.filter_sublist
    have hs2 : ∀ c ∈ D.filter (fun c => !o c), c ∉ ends l ∧ (c = r0.1 ∨ c = r0.2) := fun c hc => by
      have h1 := (List.mem_filter.1 hc).2
      have h2 := hs c (List.mem_filter.1 hc).1
      rw [ends_cons] at h2
      have h3 : c ∉ ends l := by simpa [o] using h1
      refine ⟨h3, ?_⟩
      rcases List.mem_cons.1 h2 with h | h
      · exact .inl h
      · rcases List.mem_cons.1 h with h | h
        · exact .inr h
        · exact absurd h h3
    have ih := pairs_sq (l := l) (D := D.filter o) (fun r hr => hlt r (by simp [hr])) hD1 hs1
    -- the new numbers within another interval
    have hnew : ∀ r ∈ l, (D.filter fun c => !o c).countP (fun c => decide (r.1 ≤ c) && decide (c < r.2)) ≤ (if r.1 < r0.1 ∧ r0.1 < r.2 then 1 else 0) + (if r.1 < r0.2 ∧ r0.2 < r.2 then 1 else 0) := by
      intro r hr
      have hrl := hlt r (by simp [hr])
      have := count_ends (l := [r0]) (q := fun c => decide (r.1 < c) && decide (c < r.2)) (D := D.filter fun c => !o c) hD2 (fun c hc => by
        have := (hs2 c hc).2
        simp [ends]; exact this)
      have e : (D.filter fun c => !o c).countP (fun c => decide (r.1 ≤ c) && decide (c < r.2)) = (D.filter fun c => !o c).countP (fun c => decide (r.1 < c) && decide (c < r.2)) := by
        refine List.countP_congr fun c hc => ?_
        have hc1 : c ≠ r.1 := fun e => (hs2 c hc).1 (by rw [e]; exact List.mem_flatMap.2 ⟨r, hr, by simp⟩)
        simp only [Bool.and_eq_true, decide_eq_true_eq]
        omega
      rw [e]
      simpa [sumNat] using this
    -- the numbers within the new interval
    have hold : inC D r0.1 r0.2 ≤ 1 + sumNat (fun r => (if r0.1 < r.1 ∧ r.1 < r0.2 then 1 else 0) + (if r0.1 < r.2 ∧ r.2 < r0.2 then 1 else 0)) l := by
      have h1 : inC D r0.1 r0.2 ≤ 1 + D.countP (fun c => decide (r0.1 < c) && decide (c < r0.2)) := by
        have h2 : D.countP (fun c => decide (c = r0.1)) ≤ 1 := by
          have := nodup_le (l := D.filter fun c => decide (c = r0.1)) (m := [r0.1]) (hn.sublist List.filter_sublist) fun x hx => by
            have := (List.mem_filter.1 hx).2
            simpa using this
          rw [List.countP_eq_length_filter]; simpa using this
        have h3 : inC D r0.1 r0.2 ≤ D.countP (fun c => decide (c = r0.1)) + D.countP (fun c => decide (r0.1 < c) && decide (c < r0.2)) := by
          unfold inC
          clear hn hs hD hD1 hs1 hD2 hs2 ih hnew h2
          induction D with
          | nil => simp
          | cons c D ih =>
            simp only [List.countP_cons]
            by_cases c1 : c = r0.1
            · subst c1; simp [h0]; omega
            · by_cases c2 : r0.1 < c ∧ c < r0.2
              · simp [c1, c2, Int.le_of_lt c2.1]; omega
              · have : ¬ (r0.1 ≤ c ∧ c < r0.2) := by omega
                simp only [Bool.and_eq_true, decide_eq_true_eq, c1, c2, this, if_false]; omega
        omega
      have h4 : D.countP (fun c => decide (r0.1 < c) && decide (c < r0.2)) ≤ sumNat (fun r => (if r0.1 < r.1 ∧ r.1 < r0.2 then 1 else 0) + (if r0.1 < r.2 ∧ r.2 < r0.2 then 1 else 0)) (r0 :: l) := by
        have := count_ends (l := r0 :: l) (q := fun c => decide (r0.1 < c) && decide (c < r0.2)) hn hs
        simpa using this
      have h5 : sumNat (fun r : Int × Int => (if r0.1 < r.1 ∧ r.1 < r0.2 then 1 else 0) + (if r0.1 < r.2 ∧ r.2 < r0.2 then 1 else 0)) (r0 :: l) = sumNat (fun r => (if r0.1 < r.1 ∧ r.1 < r0.2 then 1 else 0) + (if r0.1 < r.2 ∧ r.2 < r0.2 then 1 else 0)) l := by
        simp only [sumNat]
        rw [if_neg (by omega), if_neg (by omega)]; omega
      omega
    have hsum : sumNat (fun r => inC D r.1 r.2) l ≤ sumNat (fun r => inC (D.filter o) r.1 r.2) l + sumNat (fun r => (if r.1 < r0.1 ∧ r0.1 < r.2 then 1 else 0) + (if r.1 < r0.2 ∧ r0.2 < r.2 then 1 else 0)) l := by
      rw [← sumNat_add]
      refine sumNat_le fun r hr => ?_
      unfold inC
      rw [hD]
      have := hnew r hr
      omega
    have hpair : sumNat (fun r => (if r.1 < r0.1 ∧ r0.1 < r.2 then 1 else 0) + (if r.1 < r0.2 ∧ r0.2 < r.2 then 1 else 0)) l + sumNat (fun r => (if r0.1 < r.1 ∧ r.1 < r0.2 then 1 else 0) + (if r0.1 < r.2 ∧ r.2 < r0.2 then 1 else 0)) l ≤ 2 * l.length := by
      rw [← sumNat_add, ← sumNat_const]
      refine sumNat_le fun r hr => ?_
      have := hlt r (by simp [hr])
      repeat' split
      all_goals omega
    have e : (r0 :: l).length * (r0 :: l).length = l.length * l.length + 2 * l.length + 1 := by
      simp only [List.length_cons, Nat.add_mul, Nat.mul_add]; omega
    rw [e]
    simp only [sumNat]
    omega

/-- What holds at a cell hangs on the rectangles alone that the cell is in. -/
structure Hangs (S : Int → Int → Prop) (l : List Rect) : Prop where
  same : ∀ x y x' y', (∀ r ∈ l, rin r x y ↔ rin r x' y') → (S x y ↔ S x' y')
  none : ∀ x y, (∀ r ∈ l, ¬ rin r x y) → ¬ S x y
theorem rval_before {V : Type} {e : V} : ∀ {l : Runs V}, Canon e l → ∀ {a b : Int} {v : V}, (a, b, v) ∈ l → rval e l (a - 1) ≠ v
  | (c, d, w) :: t, hc, a, b, v, hm => by
    obtain ⟨k1, k2, k3, k4⟩ := hc
    rcases List.mem_cons.1 hm with h | h
    · simp only [Prod.mk.injEq] at h
      obtain ⟨rfl, rfl, rfl⟩ := h
      rw [canon_lt ⟨k1, k2, k3, k4⟩ (by omega)]
      exact fun h => k2 h.symm
    · have ih := rval_before k4 h
      have hst := canon_starts k4 k3 _ h
      simp only at hst
      simp only [rval]
      split
      · rename_i h2
        -- the last place of the first run: the run begins right behind it
        have had : a = d := by omega
        cases t with
        | nil => simp at h
        | cons q t =>
          obtain ⟨c', d', w'⟩ := q
          rcases List.mem_cons.1 h with h' | h'
          · simp only [Prod.mk.injEq] at h'
            obtain ⟨rfl, rfl, rfl⟩ := h'
            rcases k3 with h3 | h3
            · omega
            · exact h3.2
          · have := canon_starts k4.2.2.2 k4.2.2.1 _ h'
            simp only at this
            have h5 := k4.1
            have h6 : d ≤ c' := by rcases k3 with h3 | h3 <;> omega
            omega
      · exact ih
theorem rval_behind {V : Type} {e : V} : ∀ {l : Runs V}, Canon e l → ∀ {a b : Int} {v : V}, (a, b, v) ∈ l → rval e l b ≠ v
  | (c, d, w) :: t, hc, a, b, v, hm => by
    obtain ⟨k1, k2, k3, k4⟩ := hc
    simp only [rval]
    rcases List.mem_cons.1 hm with h | h
    · simp only [Prod.mk.injEq] at h
      obtain ⟨rfl, rfl, rfl⟩ := h
      rw [if_neg (by omega)]
      exact rval_nxt k4 k3 k2
    · have ih := rval_behind k4 h
      have h1 := (canon_mem k4 h).1
      have hst := canon_starts k4 k3 _ h
      simp only at hst
      rw [if_neg (by omega)]
      exact ih
theorem length_flatMap {α β : Type} {g : α → List β} : ∀ {l : List α}, (l.flatMap g).length = sumNat (fun x => (g x).length) l
  | [] => rfl
  | x :: l => by simp only [List.flatMap_cons, List.length_append, sumNat, length_flatMap (l := l)]
theorem starts_nodup {V : Type} {e : V} : ∀ {l : Runs V}, Canon e l → (l.map (·.1)).Nodup
  | [], _ => .nil
  | (a, b, v) :: t, h => by
    obtain ⟨k1, k2, k3, k4⟩ := h
    rw [List.map_cons, List.nodup_cons]
    refine ⟨fun hm => ?_, starts_nodup k4⟩
    obtain ⟨r, hr, he⟩ := List.mem_map.1 hm
    have := canon_starts k4 k3 r hr
    simp only at he; omega
theorem flat_nodup {c : Col} (h : Canon false c) : (c.flatMap fun s => [s.1, s.2.1]).Nodup ∧ (c.flatMap fun s => [s.1, s.2.1]).length = 2 * c.length := by
  have key : ∀ c : Col, Canon false c → (c.flatMap fun s => [s.1, s.2.1]).Pairwise (fun a b => a < b) ∧ (c.flatMap fun s => [s.1, s.2.1]).length = 2 * c.length := by
    intro c
    induction c with
    | nil => intro _; exact ⟨.nil, rfl⟩
    | cons r t ih =>
      obtain ⟨a, b, v⟩ := r
      rintro ⟨k1, k2, k3, k4⟩
      obtain ⟨i1, i2⟩ := ih k4
      have hbt : ∀ x ∈ t.flatMap (fun s => [s.1, s.2.1]), b < x := by
        intro x hx
        obtain ⟨s, hs, hx⟩ := List.mem_flatMap.1 hx
        have h1 := canon_starts k4 k3 s hs
        have h2 := (canon_mem k4 (show (s.1, s.2.1, s.2.2) ∈ t from hs)).1
        have h3 : b < s.1 := by
          cases t with
          | nil => simp at hs
          | cons q t =>
            obtain ⟨c', d', w'⟩ := q
            have hw : b < c' := by
              rcases k3 with h | ⟨_, h⟩
              · exact h
              · exfalso
                have := k4.2.1
                revert h this k2
                cases v <;> cases w' <;> simp
            rcases List.mem_cons.1 hs with rfl | hs
            · exact hw
            · have := canon_starts k4.2.2.2 k4.2.2.1 s hs
              have := k4.1
              omega
        simp at hx
        omega
      refine ⟨?_, by simp only [List.flatMap_cons, List.length_append, List.length_cons, List.length_nil, i2]; omega⟩
      simp only [List.flatMap_cons, List.cons_append, List.nil_append]
      refine List.pairwise_cons.2 ⟨fun x hx => ?_, List.pairwise_cons.2 ⟨hbt, i1⟩⟩
      rcases List.mem_cons.1 hx with rfl | hx
      · exact k1
      · have := hbt x hx; omega
  obtain ⟨h1, h2⟩ := key c h
  exact ⟨h1.imp fun h => Int.ne_of_lt h, h2⟩

theorem col_len {S : Int → Int → Prop} {l : List Rect} (hS : Hangs S l) (hl : ∀ r ∈ l, VR r) {x : Int} {c : Col} (hc : Canon false c) (hv : ∀ y, rval false c y = true ↔ S x y) : c.length ≤ (l.filter fun r => decide (r.X0 ≤ x) && decide (x < r.X1)).length := by
  obtain ⟨h1, h2⟩ := flat_nodup hc
  have hsub : ∀ z ∈ c.flatMap (fun s => [s.1, s.2.1]), z ∈ (l.filter fun r => decide (r.X0 ≤ x) && decide (x < r.X1)).flatMap (fun r => [r.Y0, r.Y1]) := by
    intro z hz
    obtain ⟨s, hs, hz⟩ := List.mem_flatMap.1 hz
    have hst : s.2.2 = true := by
      have := (canon_mem hc (show (s.1, s.2.1, s.2.2) ∈ c from hs)).2
      cases h : s.2.2
      · rw [h] at this; exact absurd rfl this
      · rfl
    have hs' : (s.1, s.2.1, true) ∈ c := by rw [← hst]; exact hs
    have hpos := (canon_mem hc hs').1
    -- something changes at z
    have hch : ¬ (S x z ↔ S x (z - 1)) := by
      rw [← hv, ← hv]
      simp at hz
      rcases hz with rfl | rfl
      · have h3 := rval_before hc hs'
        have h4 := rval_of_mem hc hs' (Int.le_refl _) hpos
        rw [h4]
        cases h5 : rval false c (s.1 - 1)
        · simp
        · exact absurd h5 h3
      · have h3 := rval_behind hc hs'
        have h4 := rval_of_mem hc hs' (show s.1 ≤ s.2.1 - 1 by omega) (by omega)
        rw [h4]
        cases h5 : rval false c s.2.1
        · simp
        · exact absurd h5 h3
    rw [List.mem_flatMap]
    refine Classical.byContradiction fun hno => hch (hS.same _ _ _ _ fun r hr => ?_)
    have hr2 : (r.X0 ≤ x ∧ x < r.X1) → z ≠ r.Y0 ∧ z ≠ r.Y1 := fun hx => by
      have hm : r ∈ l.filter fun r => decide (r.X0 ≤ x) && decide (x < r.X1) := List.mem_filter.2 ⟨hr, by simpa using hx⟩
      exact ⟨fun e => hno ⟨r, hm, by simp [e]⟩, fun e => hno ⟨r, hm, by simp [e]⟩⟩
    unfold rin
    constructor
    · rintro ⟨hx, hy⟩
      have := hr2 hx
      exact ⟨hx, by omega⟩
    · rintro ⟨hx, hy⟩
      have := hr2 hx
      exact ⟨hx, by omega⟩
  have h3 := nodup_le h1 hsub
  have h4 : ∀ m : List Rect, (m.flatMap fun r => [r.Y0, r.Y1]).length = 2 * m.length := by
    intro m
    induction m with
    | nil => rfl
    | cons a m ih => simp only [List.flatMap_cons, List.length_append, List.length_cons, List.length_nil, ih]; omega
  rw [h2, h4] at h3
  omega
theorem form_len {S : Int → Int → Prop} {l out : List Rect} (hS : Hangs S l) (hl : ∀ r ∈ l, VR r) (h : IsForm S out) : out.length ≤ l.length * l.length := by
  obtain ⟨G, h1, h2, h3, rfl⟩ := h
  let P : List (Int × Int) := l.map fun r => (r.X0, r.X1)
  have hPl : P.length = l.length := by simp [P]
  have hcol : ∀ g ∈ G, g.2.2.length ≤ (l.filter fun r => decide (r.X0 ≤ g.1) && decide (g.1 < r.X1)).length := by
    intro g hg
    obtain ⟨a, b, c⟩ := g
    have hab := (canon_mem h1 hg).1
    have hr := rval_of_mem h1 hg (Int.le_refl a) hab
    exact col_len hS hl (h2 a b c hg) fun y => by rw [← hr]; exact h3 a y
  have hstart : ∀ a ∈ G.map (·.1), a ∈ ends P := by
    intro a ha
    obtain ⟨g, hg, rfl⟩ := List.mem_map.1 ha
    obtain ⟨a, b, c⟩ := g
    have hab := (canon_mem h1 hg).1
    have hr := rval_of_mem h1 hg (Int.le_refl a) hab
    have hb := rval_before h1 hg
    dsimp only
    refine Classical.byContradiction fun hno => hb ?_
    rw [← hr]
    refine canon_unique (canon_at h2 _) (canon_at h2 _) fun y => ?_
    rw [Bool.eq_iff_iff, h3, h3]
    refine hS.same _ _ _ _ fun r hr => ?_
    have hm : (r.X0, r.X1) ∈ P := List.mem_map.2 ⟨r, hr, rfl⟩
    have e1 : a ≠ r.X0 := fun e => hno (List.mem_flatMap.2 ⟨_, hm, by simp [e]⟩)
    have e2 : a ≠ r.X1 := fun e => hno (List.mem_flatMap.2 ⟨_, hm, by simp [e]⟩)
    unfold rin
    constructor
    · rintro ⟨hx, hy⟩; exact ⟨by omega, hy⟩
    · rintro ⟨hx, hy⟩; exact ⟨by omega, hy⟩
  have hsq := pairs_sq (l := P) (D := G.map (·.1)) (fun r hr => by
    obtain ⟨q, hq, rfl⟩ := List.mem_map.1 hr
    exact (hl q hq).2.1) (starts_nodup h1) hstart
  rw [hPl] at hsq
  refine Nat.le_trans ?_ hsq
  unfold flatG
  rw [length_flatMap]
  refine Nat.le_trans (sumNat_le (g := fun g => (l.filter fun r => decide (r.X0 ≤ g.1) && decide (g.1 < r.X1)).length) fun g hg => by rw [List.length_map]; exact hcol g hg) ?_
  -- exchange the sums
  have hex : ∀ (m : List Rect) (H : Runs Col), sumNat (fun g => (m.filter fun r => decide (r.X0 ≤ g.1) && decide (g.1 < r.X1)).length) H = sumNat (fun r => inC (H.map (·.1)) r.1 r.2) (m.map fun r => (r.X0, r.X1)) := by
    intro m
    induction m with
    | nil =>
      intro H
      simp only [List.filter_nil, List.length_nil, List.map_nil, sumNat]
      rw [sumNat_const]; simp
    | cons r m ih =>
      intro H
      simp only [List.map_cons, sumNat]
      rw [← ih H]
      have e1 : sumNat (fun g : Int × Int × Col => ((r :: m).filter fun r => decide (r.X0 ≤ g.1) && decide (g.1 < r.X1)).length) H = sumNat (fun g => if (decide (r.X0 ≤ g.1) && decide (g.1 < r.X1)) = true then 1 else 0) H + sumNat (fun g => (m.filter fun r => decide (r.X0 ≤ g.1) && decide (g.1 < r.X1)).length) H := by
        rw [← sumNat_add]
        congr 1
        funext g
        by_cases hp : (decide (r.X0 ≤ g.1) && decide (g.1 < r.X1)) = true
        · rw [List.filter_cons, if_pos hp, if_pos hp, List.length_cons]; omega
        · rw [List.filter_cons, if_neg hp, if_neg hp]; omega
      have e2 : ∀ H : Runs Col, sumNat (fun g : Int × Int × Col => if (decide (r.X0 ≤ g.1) && decide (g.1 < r.X1)) = true then 1 else 0) H = inC (H.map (·.1)) r.X0 r.X1 := by
        intro H
        unfold inC
        induction H with
        | nil => rfl
        | cons g H ihH =>
          simp only [sumNat, List.map_cons, List.countP_cons, ihH]; omega
      rw [e1, e2]
  rw [hex]
  exact Nat.le_refl _

/-- What holds at a cube hangs on the boxes alone that it is in. -/
structure Hangs3 (S : Int → Int → Int → Prop) (l : List Box) : Prop where
  same : ∀ x y z x' y' z', (∀ b ∈ l, (rin b.Base x y ∧ b.Z0 ≤ z ∧ z < b.Z1) ↔ (rin b.Base x' y' ∧ b.Z0 ≤ z' ∧ z' < b.Z1)) → (S x y z ↔ S x' y' z')
  none : ∀ x y z, (∀ b ∈ l, ¬ (rin b.Base x y ∧ b.Z0 ≤ z ∧ z < b.Z1)) → ¬ S x y z
theorem Hangs3.at {S : Int → Int → Int → Prop} {l : List Box} (h : Hangs3 S l) (z : Int) : Hangs (fun x y => S x y z) (bases l z) := by
  have hb : ∀ b ∈ l, (b.Z0 ≤ z ∧ z < b.Z1) → b.Base ∈ bases l z := fun b hb hz => List.mem_map.2 ⟨b, List.mem_filter.2 ⟨hb, by simpa using hz⟩, rfl⟩
  refine ⟨fun x y x' y' he => h.same _ _ _ _ _ _ fun b hbl => ?_, fun x y hno => h.none _ _ _ fun b hbl hh => hno _ (hb b hbl hh.2) hh.1⟩
  constructor
  · rintro ⟨h1, h2⟩; exact ⟨(he _ (hb b hbl h2)).1 h1, h2⟩
  · rintro ⟨h1, h2⟩; exact ⟨(he _ (hb b hbl h2)).2 h1, h2⟩
theorem solid_len {S : Int → Int → Int → Prop} {l : List Box} {out : List Slab} (hS : Hangs3 S l) (hl : ∀ b ∈ l, VB b) (h : IsSolid S out) : out.length ≤ 2 * l.length ∧ ∀ s ∈ out, s.Area.length ≤ l.length * l.length := by
  constructor
  · have h1 := starts_nodup h.canon
    have hsub : ∀ a ∈ (slabRuns out).map (·.1), a ∈ l.flatMap fun b => [b.Z0, b.Z1] := by
      intro a ha
      obtain ⟨g, hg, rfl⟩ := List.mem_map.1 ha
      obtain ⟨a, b, c⟩ := g
      have hab := (canon_mem h.canon hg).1
      have hr := rval_of_mem h.canon hg (Int.le_refl a) hab
      have hb := rval_before h.canon hg
      dsimp only
      refine Classical.byContradiction fun hno => hb ?_
      rw [← hr]
      refine (h.form (a - 1)).unique (h.form a) fun x y => hS.same _ _ _ _ _ _ fun b hb => ?_
      have e1 : a ≠ b.Z0 := fun e => hno (List.mem_flatMap.2 ⟨b, hb, by simp [e]⟩)
      have e2 : a ≠ b.Z1 := fun e => hno (List.mem_flatMap.2 ⟨b, hb, by simp [e]⟩)
      constructor
      · rintro ⟨h1, h2⟩; exact ⟨h1, by omega⟩
      · rintro ⟨h1, h2⟩; exact ⟨h1, by omega⟩
    have h2 := nodup_le h1 hsub
    have h4 : ∀ m : List Box, (m.flatMap fun r => [r.Z0, r.Z1]).length = 2 * m.length := by
      intro m
      induction m with
      | nil => rfl
      | cons a m ih => simp only [List.flatMap_cons, List.length_append, List.length_cons, List.length_nil, ih]; omega
    rw [h4, List.length_map, slabRuns_length] at h2
    exact h2
  · intro s hs
    have hp := (slab_pos h.canon hs).1
    have he := sect_mem h.canon hs (Int.le_refl _) hp
    have := form_len (hS.at s.Z0) (bases_right hl s.Z0) (h.form s.Z0)
    rw [he] at this
    exact Nat.le_trans this (Nat.mul_le_mul (bases_length l s.Z0) (bases_length l s.Z0))
/-- With few boxes no limit is met. -/
theorem slim_few {S : Int → Int → Int → Prop} {l : List Box} {out : List Slab} (hS : Hangs3 S l) (hl : ∀ b ∈ l, VB b) (h : IsSolid S out) (hn : l.length ≤ 14) : SS out ∧ slim out = (out, 0) := by
  obtain ⟨h1, h2⟩ := solid_len hS hl h
  have hsq : l.length * l.length ≤ 14 * 14 := Nat.mul_le_mul (by omega) (by omega)
  have hex : ∀ {x y z : Int}, S x y z → ∃ b ∈ l, rin b.Base x y ∧ b.Z0 ≤ z ∧ z < b.Z1 := fun {x y z} hs => Classical.byContradiction fun hno => hS.none x y z (fun b hb hh => hno ⟨b, hb, hh⟩) hs
  have hSS : SS out := by
    refine ⟨by omega, h.canon, fun s hs => ?_⟩
    obtain ⟨hp, hne⟩ := slab_pos h.canon hs
    have hf := h.form s.Z0
    rw [sect_mem h.canon hs (Int.le_refl _) hp] at hf
    have hf1 := h.form (s.Z1 - 1)
    rw [sect_mem h.canon hs (by omega) (by omega)] at hf1
    have hpos := form_rect hf
    obtain ⟨r, hr⟩ := List.exists_mem_of_ne_nil _ hne
    have hrp := hpos r hr
    obtain ⟨b, hb, hb1, hb2⟩ := hex ((hf.cells r.X0 r.Y0).1 ⟨r, hr, ⟨Int.le_refl _, hrp.1⟩, Int.le_refl _, hrp.2⟩)
    obtain ⟨b', hb', hb1', hb2'⟩ := hex ((hf1.cells r.X0 r.Y0).1 ⟨r, hr, ⟨Int.le_refl _, hrp.1⟩, Int.le_refl _, hrp.2⟩)
    have v1 := hl b hb; have v2 := hl b' hb'
    unfold VB at v1 v2
    refine ⟨by omega, by omega, RR.of_form hf (fun q hq => ?_) (by have := h2 s hs; omega)⟩
    have hqp := hpos q hq
    obtain ⟨c, hc, hc1, _⟩ := hex ((hf.cells q.X0 q.Y0).1 ⟨q, hq, ⟨Int.le_refl _, hqp.1⟩, Int.le_refl _, hqp.2⟩)
    obtain ⟨d, hd, hd1, _⟩ := hex ((hf.cells (q.X1 - 1) (q.Y1 - 1)).1 ⟨q, hq, ⟨by omega, by omega⟩, by omega, by omega⟩)
    have w1 := (hl c hc).1; have w2 := (hl d hd).1
    unfold VR at w1 w2 ⊢
    unfold rin at hc1 hd1
    omega
  exact ⟨hSS, slim_fine hSS⟩
theorem bcells_hangs (l : List Box) : Hangs3 (bcells l) l :=
  ⟨fun x y z x' y' z' h => exists_congr fun b => and_congr_right fun hb => h b hb, fun x y z h ⟨b, hb, hh⟩ => h b hb hh⟩
theorem Hangs3.mono {S : Int → Int → Int → Prop} {l m : List Box} (h : Hangs3 S l) (hs : ∀ b ∈ l, b ∈ m) : Hangs3 S m :=
  ⟨fun x y z x' y' z' he => h.same _ _ _ _ _ _ fun b hb => he b (hs b hb), fun x y z hn => h.none x y z fun b hb => hn b (hs b hb)⟩
theorem Hangs3.op {S T : Int → Int → Int → Prop} [∀ x y z, Decidable (S x y z)] [∀ x y z, Decidable (T x y z)] {l : List Box} (h : Hangs3 S l) (g : Hangs3 T l) (op : Int) : Hangs3 (fun x y z => opB op (decide (S x y z)) (decide (T x y z)) = true) l := by
  refine ⟨fun x y z x' y' z' he => ?_, fun x y z hn => ?_⟩
  · have e1 : decide (S x y z) = decide (S x' y' z') := by rw [decide_eq_decide]; exact h.same _ _ _ _ _ _ he
    have e2 : decide (T x y z) = decide (T x' y' z') := by rw [decide_eq_decide]; exact g.same _ _ _ _ _ _ he
    rw [e1, e2]
  · have e1 : decide (S x y z) = false := by rw [decide_eq_false_iff_not]; exact h.none _ _ _ hn
    have e2 : decide (T x y z) = false := by rw [decide_eq_false_iff_not]; exact g.none _ _ _ hn
    rw [e1, e2, opB_false]; simp
theorem Hangs3.congr {S T : Int → Int → Int → Prop} {l : List Box} (h : Hangs3 S l) (he : ∀ x y z, S x y z ↔ T x y z) : Hangs3 T l :=
  ⟨fun x y z x' y' z' hh => by rw [← he, ← he]; exact h.same _ _ _ _ _ _ hh, fun x y z hn => by rw [← he]; exact h.none _ _ _ hn⟩
end Go.Proofs.YtmniloampanhfaaGreat

namespace Go.Proofs.YtmniloampanhfaaGreat
open Go.Gb
set_option linter.unusedVariables false
set_option linter.unusedSimpArgs false
set_option linter.unusedSectionVars false
set_option linter.unusedVariables false
set_option linter.unusedSimpArgs false

theorem op0 (a b : List Slab) : solidOp 0 a b = solid_Union a b := by unfold solidOp; rw [if_neg (by decide), if_neg (by decide)]
theorem op1 (a b : List Slab) : solidOp 1 a b = solid_Common a b := by unfold solidOp; rw [if_pos rfl]
theorem op2 (a b : List Slab) : solidOp 2 a b = solid_Minus a b := by unfold solidOp; rw [if_neg (by decide), if_pos rfl]

/-! few -/
/-! SolidFull -/
/-! SolidBoxes -/
end Go.Proofs.YtmniloampanhfaaGreat

namespace Go.Proofs.YtmniloampanhfaaGreat
open Go.Gb
set_option linter.unusedVariables false
set_option linter.unusedSimpArgs false
set_option linter.unusedSectionVars false
set_option maxRecDepth 100000
theorem rects_is {a b : List Rect} (hb : a.length ≤ 1000000) : law09_rects a b = some (decide (a = b)) := by
  unfold law09_rects
  by_cases hl : a.length = b.length
  · rw [if_neg (by simp [hl])]
    rcases iter_find (l := a.zip b) (body := law09_rects_L0 a b) (k := 0) (fun p => p.1 ≠ p.2) (fun _ => false) (by
      intro i hi
      simp only [List.length_zip] at hi
      have h1 : i < a.length := by omega
      have h2 : i < b.length := by omega
      unfold law09_rects_L0
      rw [if_pos (by simpa using h1), getI_nat h1, Option.bind_some, getI_nat h2, Option.bind_some]
      simp only [List.getElem_zip]
      by_cases he : a[i] = b[i]
      · right
        rw [if_neg (by simpa using he), addI_one (show i < 4611686018427387904 by omega), Option.bind_some]
        exact ⟨by simpa using he, rfl⟩
      · left
        rw [if_pos (by simpa using he)]
        exact ⟨he, rfl⟩) (by
      have e : ((a.zip b).length : Int) = (a.length : Int) := by simp; omega
      rw [e]
      unfold law09_rects_L0
      rw [if_neg (by simp)]) (fuel := a.length + b.length + 1) (by simp; omega) with ⟨i, hi, hp, _, h⟩ | ⟨hp, h⟩
    · rw [h, Option.bind_some]
      dsimp only
      congr 1
      symm
      rw [decide_eq_false_iff_not]
      intro e; subst e; simp at hp
    · rw [h, Option.bind_some]
      dsimp only
      congr 1
      symm
      rw [decide_eq_true_iff]
      refine List.ext_getElem hl fun i h1 h2 => ?_
      have := hp (a[i], b[i]) (by
        rw [List.mem_iff_getElem]
        exact ⟨i, by simp; omega, by simp⟩)
      simpa using this
  · rw [if_pos (by simp; omega)]
    congr 1
    symm
    rw [decide_eq_false_iff_not]
    intro e; exact hl (by rw [e])

theorem slab_lt {s : List Slab} (h : Canon [] (slabRuns s)) {b : Slab} (hb : b ∈ s) : b.Z0 < b.Z1 := (canon_mem h (slab_mem hb)).1
theorem bases_snoc (l : List Box) (z : Int) {i : Nat} (hi : i < l.length) :
    bases (l.take (i + 1)) z = bases (l.take i) z ++ (if l[i].Z0 ≤ z ∧ z < l[i].Z1 then [l[i].Base] else []) := by
  unfold bases
  rw [List.take_succ_eq_append_getElem hi, List.filter_append, List.map_append]
  congr 1
  by_cases h : l[i].Z0 ≤ z ∧ z < l[i].Z1
  · rw [if_pos h]; simp [h]
  · rw [if_neg h]
    simp only [List.filter_cons, List.filter_nil]
    rw [if_neg (by simpa using h)]; rfl
end Go.Proofs.YtmniloampanhfaaGreat

namespace Go.Proofs.YtmniloampanhfaaGreat
open Go.Gb
set_option linter.unusedVariables false
set_option linter.unusedSimpArgs false
set_option linter.unusedSectionVars false
set_option maxRecDepth 100000
/-- This solid has these cubes, and its borders are those of these boxes. -/
structure Mk (l : List Box) (S : Int → Int → Int → Bool) (s : List Slab) : Prop where
  vb : ∀ b ∈ l, VB b
  ss : SS s
  is : IsSolid (fun x y z => S x y z = true) s
  hang : Hangs3 (fun x y z => S x y z = true) l
theorem Mk.op {l : List Box} {S T : Int → Int → Int → Bool} {a b : List Slab} (h : Mk l S a) (g : Mk l T b) (hn : l.length ≤ 14) (op : Int) :
    ∃ s, Mk l (fun x y z => opB op (S x y z) (T x y z)) s ∧ solidOp op a b = some (s, 0) := by
  obtain ⟨out, h1, h2⟩ := solidOp_fine (op := op) h.ss g.ss
  have e : ∀ x y z, sopS op a b x y z ↔ opB op (S x y z) (T x y z) = true := by
    intro x y z
    unfold sopS
    have e1 : decide (scells a x y z) = S x y z := by rw [Bool.eq_iff_iff, decide_eq_true_iff]; exact h.is.cells x y z
    have e2 : decide (scells b x y z) = T x y z := by rw [Bool.eq_iff_iff, decide_eq_true_iff]; exact g.is.cells x y z
    rw [e1, e2]
  have hh : Hangs3 (fun x y z => opB op (S x y z) (T x y z) = true) l := (h.hang.op g.hang op).congr fun x y z => by
    rw [Bool.decide_eq_true, Bool.decide_eq_true]
  have h1' := h1.congr e
  obtain ⟨h3, h4⟩ := slim_few hh h.vb h1' hn
  exact ⟨out, ⟨h.vb, h3, h1', hh⟩, by rw [h2, h4]⟩
section
variable {l m : List Box} {S T : Int → Int → Int → Bool} {a b : List Slab}
theorem Mk.mono (h : Mk l S a) (hs : ∀ b ∈ l, b ∈ m) (hv : ∀ b ∈ m, VB b) : Mk m S a := ⟨hv, h.ss, h.is, h.hang.mono hs⟩
theorem Mk.right (h : Mk l S a) : solid_Right a = some true := solid_Right_true h.ss
theorem Mk.vol (h : Mk l S a) : solid_Volume a = some (cnt 1048576 4096 S) ∧ 0 ≤ cnt 1048576 4096 S ∧ cnt 1048576 4096 S ≤ 4503599627370496 := by
  have e : YtmniloampanhfaaGreat.vol a = cnt 1048576 4096 S := by
    rw [vol_cnt h.ss]
    congr 1
    funext x y z
    rw [Bool.eq_iff_iff, decide_eq_true_iff]
    exact h.is.cells x y z
  rw [solid_Volume_fine h.ss, e]
  have := vol_bound h.ss
  rw [e] at this
  exact ⟨rfl, this⟩
theorem Mk.same (h : Mk l S a) (b : List Slab) : solid_Same a b = some (decide (a = b)) :=
  solid_Same_eq (by have := h.ss.len; omega) fun s hs => by have := (h.ss.ok s hs).2.2.2.1; omega
theorem Mk.nil (hv : ∀ b ∈ l, VB b) : Mk l (fun _ _ _ => false) [] := by
  refine ⟨hv, ssB_spec (by decide), (ssB_spec (s := []) (by decide)).solid.congr fun x y z => ?_, ⟨by simp, by simp⟩⟩
  rw [scells_iff, sect_nil]
  simp [cells]
end
end Go.Proofs.YtmniloampanhfaaGreat

namespace Go.Proofs.YtmniloampanhfaaGreat
open Go.Gb
set_option linter.unusedVariables false
set_option linter.unusedSimpArgs false
set_option linter.unusedSectionVars false
set_option maxRecDepth 100000
def okAt (s : List Slab) (i : Nat) : Prop := ∃ h : i < s.length, (0 ≤ s[i].Z0 ∧ s[i].Z0 < s[i].Z1 ∧ s[i].Z1 ≤ 4096 ∧ s[i].Area ≠ [] ∧ RR s[i].Area) ∧ ∀ h0 : 0 < i, (s[i - 1]'(by omega)).Z1 < s[i].Z0 ∨ ((s[i - 1]'(by omega)).Z1 = s[i].Z0 ∧ (s[i - 1]'(by omega)).Area ≠ s[i].Area)
theorem ss_iff {s : List Slab} : SS s ↔ s.length ≤ 80 ∧ ∀ i, i < s.length → okAt s i := by
  constructor
  · intro hS
    refine ⟨hS.len, fun i hi => ⟨hi, ?_, fun h0 => ?_⟩⟩
    · have h1 := hS.ok _ (List.getElem_mem hi)
      have h2 := slab_pos hS.canon (List.getElem_mem hi)
      exact ⟨h1.1, h2.1, h1.2.1, h2.2, h1.2.2⟩
    · have := (slabs_canon.1 hS.canon).2 (i - 1) (by omega)
      have e : i - 1 + 1 = i := by omega
      simp only [e] at this
      exact this
  · rintro ⟨hl, hp⟩
    have hp' : ∀ i (hi : i < s.length), (0 ≤ s[i].Z0 ∧ s[i].Z0 < s[i].Z1 ∧ s[i].Z1 ≤ 4096 ∧ s[i].Area ≠ [] ∧ RR s[i].Area) ∧ ∀ h0 : 0 < i, (s[i - 1]'(by omega)).Z1 < s[i].Z0 ∨ ((s[i - 1]'(by omega)).Z1 = s[i].Z0 ∧ (s[i - 1]'(by omega)).Area ≠ s[i].Area) := by
      intro i hi
      obtain ⟨_, h⟩ := hp i hi
      exact h
    refine ⟨hl, slabs_canon.2 ⟨fun i hi => ⟨(hp' i hi).1.2.1, (hp' i hi).1.2.2.2.1⟩, fun i hi => (hp' (i + 1) hi).2 (by omega)⟩, fun b hb => ?_⟩
    obtain ⟨i, hi, rfl⟩ := List.getElem_of_mem hb
    have := (hp' i hi).1
    exact ⟨this.1, this.2.2.1, this.2.2.2.2⟩
theorem rRightS_spec {s : List Slab} (ha : ∀ b ∈ s, b.Area.length ≤ 100000) : ∃ b, ref09_Right s = some b ∧ (b = true ↔ SS s) := by
  unfold ref09_Right
  by_cases hl : 80 < s.length
  · rw [if_pos (by simp; omega)]
    exact ⟨_, rfl, by simp, fun h => absurd h.len (by omega)⟩
  · rw [if_neg (by simp; omega)]
    rcases iter_findN (body := ref09_Right_L0 s) (k := 0) s.length (fun i => ¬ okAt s i) (fun _ => false) (by
      intro i hi _
      obtain ⟨rb, hr1, hr2⟩ := region_Right_spec (a := s[i].Area) (ha _ (List.getElem_mem hi))
      rw [← rRight_eq (ha _ (List.getElem_mem hi))] at hr1
      have hg := getI_nat hi
      unfold ref09_Right_L0
      rw [if_pos (by simpa using hi)]
      simp only [hg, Option.bind_some, hr1]
      by_cases h1 : 0 ≤ s[i].Z0 ∧ s[i].Z0 < s[i].Z1 ∧ s[i].Z1 ≤ 4096 ∧ s[i].Area ≠ [] ∧ rb = true
      · obtain ⟨c1, c2, c3, c4, c5⟩ := h1
        have hRR := hr2.1 c5
        subst c5
        have hal : 0 < s[i].Area.length := List.length_pos_iff.2 c4
        rw [if_neg (by simp; omega), Option.bind_some, if_neg (by simp; omega), Option.bind_some, if_neg (by simp; omega), Option.bind_some, if_neg (by simp; omega), Option.bind_some, if_neg (by simp)]
        rcases Nat.eq_zero_or_pos i with rfl | h0
        · right
          rw [if_neg (by simp), Option.bind_some, if_neg (by simp), addI_one (by omega), Option.bind_some]
          exact ⟨fun h => h ⟨hi, ⟨c1, c2, c3, c4, hRR⟩, fun h => absurd h (Nat.lt_irrefl _)⟩, rfl⟩
        · have hi1 : i - 1 < s.length := by omega
          have hsame : ref06_Same (s[i - 1]'hi1).Area s[i].Area = some (decide ((s[i - 1]'hi1).Area = s[i].Area)) := rSame_eq (by have := ha _ (List.getElem_mem hi1); omega)
          have hcond : (if decide (s[i].Z0 < (s[i - 1]'hi1).Z1) = true then some true else (if ((s[i - 1]'hi1).Z1 == s[i].Z0) = true then some (decide ((s[i - 1]'hi1).Area = s[i].Area)) else some false).bind fun x => some x) =
              some (decide (¬ ((s[i - 1]'hi1).Z1 < s[i].Z0 ∨ ((s[i - 1]'hi1).Z1 = s[i].Z0 ∧ (s[i - 1]'hi1).Area ≠ s[i].Area)))) := by
            by_cases c1 : s[i].Z0 < (s[i - 1]'hi1).Z1
            · rw [if_pos (by simpa using c1)]; congr 1; simp; omega
            · rw [if_neg (by simpa using c1)]
              by_cases c2 : (s[i - 1]'hi1).Z1 = s[i].Z0
              · rw [if_pos (by simpa using c2)]; simp [c2]
              · rw [if_neg (by simpa using c2)]; simp; omega
          have hs1 : subI (i : Int) 1 = some ((i - 1 : Nat) : Int) := subI_nat h0 (by omega)
          have hg1 := getI_nat hi1
          simp only [hs1, hg1, hsame, Option.bind_some]
          rw [if_pos (by simpa using h0), hcond, Option.bind_some, Option.bind_some]
          by_cases c : (s[i - 1]'hi1).Z1 < s[i].Z0 ∨ ((s[i - 1]'hi1).Z1 = s[i].Z0 ∧ (s[i - 1]'hi1).Area ≠ s[i].Area)
          · right
            rw [if_neg (by simp only [decide_eq_true_eq, Classical.not_not]; exact c), addI_one (by omega), Option.bind_some]
            exact ⟨fun h => h ⟨hi, ⟨c1, c2, c3, c4, hRR⟩, fun _ => c⟩, rfl⟩
          · left
            rw [if_pos (decide_eq_true c)]
            exact ⟨fun ⟨_, h⟩ => c (h.2 h0), rfl⟩
      · left
        refine ⟨fun ⟨_, ⟨g1, g2, g3, g4, g5⟩, _⟩ => h1 ⟨g1, g2, g3, g4, hr2.2 g5⟩, ?_⟩
        by_cases g1 : s[i].Z0 < 0
        · simp [g1]
        by_cases g2 : s[i].Z1 ≤ s[i].Z0
        · simp [g1, g2]
        by_cases g3 : 4096 < s[i].Z1
        · simp [g1, g2, g3]
        by_cases g4 : s[i].Area = []
        · simp [g1, g2, g3, g4]
        have g5 : rb = false := by
          cases rb
          · rfl
          · exact absurd ⟨by omega, by omega, by omega, g4, rfl⟩ h1
        simp [g1, g2, g3, g4, g5]) (by
      unfold ref09_Right_L0
      rw [if_neg (by simp)]) (fuel := s.length + 1) (by omega) with ⟨i, hi, hp, _, h⟩ | ⟨hp, h⟩
    · rw [h, Option.bind_some]
      exact ⟨_, rfl, by simp, fun hS => absurd ((ss_iff.1 hS).2 i hi) hp⟩
    · rw [h, Option.bind_some]
      exact ⟨_, rfl, fun _ => ss_iff.2 ⟨by omega, fun i hi => Classical.not_not.1 (hp i hi)⟩, fun _ => rfl⟩
theorem rRightS_true {s : List Slab} (h : SS s) : ref09_Right s = some true := by
  obtain ⟨b, h1, h2⟩ := rRightS_spec (s := s) (fun b hb => by have := (h.ok b hb).2.2.2.1; omega)
  rw [h1, h2.2 h]
theorem rRightS_false {s : List Slab} (ha : ∀ b ∈ s, b.Area.length ≤ 100000) (h : ¬ SS s) : ref09_Right s = some false := by
  obtain ⟨b, h1, h2⟩ := rRightS_spec ha
  rw [h1]; cases b
  · rfl
  · exact absurd (h2.1 rfl) h
theorem area_flat {s : List Slab} {i : Nat} (hi : i < s.length) : s[i].Area.length ≤ (s.flatMap fun b => b.Area).length := by
  obtain ⟨a, b, e⟩ := List.append_of_mem (List.getElem_mem hi)
  have : (s.flatMap fun b => b.Area).length = ((a ++ s[i] :: b).flatMap fun b => b.Area).length := by rw [← e]
  rw [this, List.flatMap_append, List.flatMap_cons]; simp; omega
theorem rBoxes_L1 {s : List Slab} {i : Nat} (hi : i < s.length) (hx : s[i].Area.length ≤ 1000000) {o : List Box} (ho : o.length ≤ 100000000) :
    iterL (ref09_Boxes_L1 s (o, (i : Int))) ((s.flatMap fun b => b.Area).length + 1) (o, 0) = some (.ex 2 (o ++ s[i].Area.map (fun r => ⟨r, s[i].Z0, s[i].Z1⟩), (s[i].Area.length : Int))) := by
  have hg := getI_nat hi
  refine (iter_range (k := 2) (l := s[i].Area) (body := ref09_Boxes_L1 s (o, (i : Int))) (fun (s : List Box) i => (s, i)) (fun p r => p ++ [(⟨r, s[i].Z0, s[i].Z1⟩ : Box)]) (fun i s => s.length ≤ 100000000 + i) (by
    intro j hj p hI
    constructor
    · unfold ref09_Boxes_L1
      dsimp only
      rw [hg, Option.bind_some, if_pos (by simpa using hj), Option.bind_some, getI_nat hj, Option.bind_some, Option.bind_some, Option.bind_some, appI_some (by simp; omega), Option.bind_some, addI_one (by omega), Option.bind_some]
    · simp; omega) (by
    intro p _
    unfold ref09_Boxes_L1
    dsimp only
    rw [hg, Option.bind_some, if_neg (by simp)]) (s0 := o) (by omega) (by have := area_flat hi; omega)).1.trans ?_
  rw [foldl_flatMap (fun r : Rect => [(⟨r, s[i].Z0, s[i].Z1⟩ : Box)]), List.map_eq_flatMap]
theorem rBoxes_fine {s : List Slab} (h : SS s) : ref09_Boxes s = some (boxesOf s) := by
  unfold ref09_Boxes
  rw [rRightS_true h, Option.bind_some, if_neg (by simp)]
  have hl := h.len
  obtain ⟨h1, h2⟩ := iter_range (k := 0) (l := s) (body := ref09_Boxes_L0 s) (fun (s : List Box) i => (s, i)) (fun o x => o ++ x.Area.map fun r => ⟨r, x.Z0, x.Z1⟩) (fun i o => o.length ≤ 200 * i) (by
    intro i hi o hI
    have hx := (h.ok _ (List.getElem_mem hi)).2.2.2.1
    constructor
    · unfold ref09_Boxes_L0
      dsimp only
      rw [if_pos (by simpa using hi), rBoxes_L1 hi (by omega) (by omega), Option.bind_some]
      dsimp only
      rw [addI_one (by omega), Option.bind_some]
    · simp; omega) (by
    intro o _
    unfold ref09_Boxes_L0
    dsimp only
    rw [if_neg (by simp)]) (s0 := []) (by simp) (fuel := s.length + ([] : List Box).length + 1) (by simp)
  rw [h1, Option.bind_some, foldl_flatMap (fun x : Slab => x.Area.map fun r => (⟨r, x.Z0, x.Z1⟩ : Box))]
  rfl
theorem rBoxes_bad {s : List Slab} (ha : ∀ b ∈ s, b.Area.length ≤ 100000) (h : ¬ SS s) : ref09_Boxes s = some [] := by
  unfold ref09_Boxes
  rw [rRightS_false ha h, Option.bind_some, if_pos (by simp)]
theorem rRightBox_eq (b : Box) : ref09_RightBox b = some (decide (VB b)) := by
  unfold ref09_RightBox ref06_RightRect
  rw [Option.bind_some]
  congr 1
  rw [Bool.eq_iff_iff, decide_eq_true_iff]
  unfold VB VR
  simp only [Bool.and_eq_true, decide_eq_true_eq]
  omega
end Go.Proofs.YtmniloampanhfaaGreat

namespace Go.Proofs.YtmniloampanhfaaGreat
open Go.Gb
set_option linter.unusedVariables false
set_option linter.unusedSimpArgs false
set_option linter.unusedSectionVars false
set_option maxRecDepth 100000
/-- coordinates, and steps, that can be reckoned with -/
def cK (x : Int) : Prop := -2097152 ≤ x ∧ x ≤ 2097152
/-! boxes -/
end Go.Proofs.YtmniloampanhfaaGreat

namespace Go.Proofs.YtmniloampanhfaaGreat
open Go.Gb
set_option linter.unusedVariables false
set_option linter.unusedSimpArgs false
set_option linter.unusedSectionVars false
set_option maxRecDepth 100000
theorem insert_spec {l : List Int} (n : Int) (hl : l.length ≤ 1000000) (hp : l.Pairwise fun a b => a < b) :
    ∃ r, ref09_insert l n = some r ∧ r.Pairwise (fun a b => a < b) ∧ (∀ x, x ∈ r ↔ x = n ∨ x ∈ l) ∧ r.length ≤ l.length + 1 := by
  unfold ref09_insert
  have key : ∃ k, k ≤ l.length ∧ (∀ i (hi : i < l.length), i < k → l[i] < n) ∧ (∀ h : k < l.length, n ≤ l[k]) ∧ iterL (ref09_insert_L0 l n) (l.length + 1) 0 = some (.ex 0 (k : Int)) := by
    have gen : ∀ m i, i + m = l.length → (∀ j (hj : j < l.length), j < i → l[j] < n) → ∀ fuel, m < fuel →
        ∃ k, k ≤ l.length ∧ (∀ i (hi : i < l.length), i < k → l[i] < n) ∧ (∀ h : k < l.length, n ≤ l[k]) ∧ iterL (ref09_insert_L0 l n) fuel (i : Int) = some (.ex 0 (k : Int)) := by
      intro m
      induction m with
      | zero =>
        intro i hi hI fuel hf
        obtain ⟨fuel, rfl⟩ : ∃ m, fuel = m + 1 := ⟨fuel - 1, by omega⟩
        have e : ref09_insert_L0 l n (i : Int) = some (.ex 0 (i : Int)) := by
          unfold ref09_insert_L0
          rw [if_neg (by simp; omega), Option.bind_some, if_neg (by simp)]
        refine ⟨i, by omega, hI, fun h => absurd h (by omega), ?_⟩
        simp only [iterL, e]
      | succ m ih =>
        intro i hi hI fuel hf
        obtain ⟨fuel, rfl⟩ : ∃ m, fuel = m + 1 := ⟨fuel - 1, by omega⟩
        have hil : i < l.length := by omega
        by_cases hc : l[i] < n
        · have e : ref09_insert_L0 l n (i : Int) = some (.go ((i + 1 : Nat) : Int)) := by
            unfold ref09_insert_L0
            rw [if_pos (by simpa using hil), getI_nat hil, Option.bind_some, Option.bind_some, if_pos (by simpa using hc), addI_one (by omega), Option.bind_some]
          obtain ⟨k, k1, k2, k3, k4⟩ := ih (i + 1) (by omega) (by
            intro j hj h
            by_cases e : j = i
            · subst e; exact hc
            · exact hI j hj (by omega)) fuel (by omega)
          refine ⟨k, k1, k2, k3, ?_⟩
          simp only [iterL, e]
          exact k4
        · have e : ref09_insert_L0 l n (i : Int) = some (.ex 0 (i : Int)) := by
            unfold ref09_insert_L0
            rw [if_pos (by simpa using hil), getI_nat hil, Option.bind_some, Option.bind_some, if_neg (by simpa using hc)]
          refine ⟨i, by omega, hI, fun h => by omega, ?_⟩
          simp only [iterL, e]
    exact gen l.length 0 (by omega) (fun j hj h => absurd h (Nat.not_lt_zero j)) (l.length + 1) (by omega)
  obtain ⟨k, k1, k2, k3, k4⟩ := key
  rw [k4, Option.bind_some]
  dsimp only
  have hpw := List.pairwise_iff_getElem.1 hp
  by_cases hk : k < l.length
  · rw [if_pos (by simpa using hk), getI_nat hk, Option.bind_some, Option.bind_some]
    by_cases he : l[k] = n
    · rw [if_pos (by simpa using he)]
      refine ⟨l, rfl, hp, fun x => ⟨.inr, ?_⟩, by omega⟩
      rintro (rfl | h)
      · rw [← he]; exact List.getElem_mem hk
      · exact h
    · rw [if_neg (by simpa using he), sliceI_some (by omega) (by omega) (by omega), Option.bind_some, appI_some (by simp; omega), Option.bind_some, appI_some (by simp; omega), Option.bind_some, sliceI_some (by omega) (by omega) (by omega), Option.bind_some, appI_some (by simp; omega), Option.bind_some]
      have hgt : n < l[k] := by have := k3 hk; omega
      refine ⟨_, rfl, ?_, fun x => ?_, by simp; omega⟩
      · simp only [Int.toNat_natCast, Int.toNat_zero, List.drop_zero, List.nil_append, List.take_length]
        rw [List.append_assoc, List.pairwise_append]
        refine ⟨hp.sublist (List.take_sublist _ _), ?_, ?_⟩
        · rw [List.singleton_append, List.pairwise_cons]
          refine ⟨fun x hx => ?_, hp.sublist (List.drop_sublist _ _)⟩
          obtain ⟨j, hj, rfl⟩ := List.getElem_of_mem hx
          rw [List.getElem_drop]
          simp only [List.length_drop] at hj
          rcases Nat.eq_zero_or_pos j with rfl | h0
          · exact hgt
          · have := hpw k (k + j) hk (by omega) (by omega); omega
        · intro x hx y hy
          obtain ⟨i, hi, rfl⟩ := List.getElem_of_mem hx
          rw [List.getElem_take]
          simp only [List.length_take] at hi
          have hxn := k2 i (by omega) (by omega)
          rw [List.singleton_append, List.mem_cons] at hy
          rcases hy with rfl | hy
          · exact hxn
          · obtain ⟨j, hj, rfl⟩ := List.getElem_of_mem hy
            rw [List.getElem_drop]
            simp only [List.length_drop] at hj
            exact hpw i (k + j) (by omega) (by omega) (by omega)
      · simp only [Int.toNat_natCast, Int.toNat_zero, List.drop_zero, List.nil_append, List.take_length, List.mem_append, List.mem_singleton]
        have : x ∈ l ↔ x ∈ l.take k ∨ x ∈ l.drop k := by rw [← List.mem_append, List.take_append_drop]
        rw [this]
        constructor
        · rintro ((h | h) | h)
          · exact .inr (.inl h)
          · exact .inl h
          · exact .inr (.inr h)
        · rintro (h | h | h)
          · exact .inl (.inr h)
          · exact .inl (.inl h)
          · exact .inr h
  · have hkl : k = l.length := by omega
    subst hkl
    rw [if_neg (by simp), Option.bind_some, if_neg (by simp), sliceI_some (by omega) (by omega) (by omega), Option.bind_some, appI_some (by simp; omega), Option.bind_some, appI_some (by simp; omega), Option.bind_some, sliceI_some (by omega) (by omega) (by omega), Option.bind_some, appI_some (by simp; omega), Option.bind_some]
    refine ⟨_, rfl, ?_, fun x => ?_, by simp⟩
    · simp only [Int.toNat_natCast, Int.toNat_zero, List.drop_zero, List.nil_append, List.take_length, List.drop_length, List.append_nil]
      rw [List.pairwise_append]
      refine ⟨hp, by simp, fun x hx y hy => ?_⟩
      rw [List.mem_singleton] at hy
      subst hy
      obtain ⟨i, hi, rfl⟩ := List.getElem_of_mem hx
      exact k2 i hi hi
    · simp [or_comm]
theorem radd_eq {out : List Slab} {f t : Int} {area : List Rect} (hl : out.length ≤ 1000000) (ha : ∀ b ∈ out, b.Area.length ≤ 1000000) : ref09_add out f t area = solid_put out ⟨f, t, area⟩ := by
  unfold ref09_add solid_put
  dsimp only
  by_cases h0 : area = []
  · rw [if_pos (by simp [h0]), if_pos (by simp [h0])]
  · have hlen : 0 < area.length := List.length_pos_iff.2 h0
    have hc : ¬ ((area.length : Int) == 0) = true := by rw [beq_iff_eq]; omega
    rw [if_neg hc, if_neg hc]
    rcases List.eq_nil_or_concat out with rfl | ⟨o, x, rfl⟩
    · have e : subI (([] : List Slab).length : Int) 1 = some (-1) := by decide
      rw [e]
      rfl
    · rw [List.concat_eq_append] at *
      have hol : o.length < 1000000 := by simp at hl; omega
      have hta := ha x (by simp)
      have hs := subI_len (l := o) (x := x) (by omega)
      have hg : getI (o ++ [x]) (o.length : Int) = some x := getI_concat rfl
      rw [hs]
      simp only [Option.bind_some, hg]
      rw [if_pos (by simp only [decide_eq_true_eq, List.length_append, List.length_singleton]; omega), if_pos (by simp)]
      simp only [Option.bind_some]
      rw [rSame_eq hta, region_Same_eq hta]
theorem rend_eq {out : List Slab} (hl : out.length ≤ 1000000) : ref09_end out = some (slim out) := by
  unfold ref09_end slim
  rcases iter_find (l := out) (body := ref09_end_L0 out) (k := 0) (fun b => 200 < b.Area.length) (fun _ => (([] : List Slab), (6 : Int))) (by
    intro i hi
    unfold ref09_end_L0
    rw [if_pos (by simpa using hi), getI_nat hi, Option.bind_some]
    by_cases hc : 200 < out[i].Area.length
    · left
      rw [if_pos (by simp; omega)]
      exact ⟨hc, rfl⟩
    · right
      rw [if_neg (by simp; omega), addI_one (by omega), Option.bind_some]
      exact ⟨hc, rfl⟩) (by
    unfold ref09_end_L0
    rw [if_neg (by simp)]) (fuel := out.length + 1) (by omega) with ⟨i, hi, hp, _, h⟩ | ⟨hp, h⟩
  · rw [h, Option.bind_some]
    dsimp only
    rw [if_pos (.inl ⟨_, List.getElem_mem hi, hp⟩)]
  · rw [h, Option.bind_some]
    dsimp only
    by_cases h2 : 80 < out.length
    · rw [if_pos (by simp; omega), if_pos (.inr h2)]
    · rw [if_neg (by simp; omega), if_neg (fun h => h.elim (fun ⟨b, hb, h⟩ => hp b hb h) h2)]
/-- The heights, one after the other. -/
theorem rheights {ρ γ : Type} {l : List γ} {f g : γ → Int} {body : List Int × Int → Option (Flow (List Int × Int) ρ)} {k : Nat} {z0 : List Int} (hz : z0.Pairwise fun a b => a < b) (hl : l.length ≤ 100000) (h0 : z0.length ≤ 100000)
    (hs : ∀ i (hi : i < l.length) (s : List Int), body (s, (i : Int)) = (ref09_insert s (f l[i])).bind fun a => (ref09_insert a (g l[i])).bind fun b => some (.go (b, ((i + 1 : Nat) : Int))))
    (hd : ∀ s, body (s, (l.length : Int)) = some (.ex k (s, (l.length : Int)))) {fuel : Nat} (hf : l.length < fuel) :
    ∃ zs, iterL body fuel (z0, 0) = some (.ex k (zs, (l.length : Int))) ∧ zs.Pairwise (fun a b => a < b) ∧ (∀ x, x ∈ zs ↔ x ∈ z0 ∨ ∃ b ∈ l, x = f b ∨ x = g b) ∧ zs.length ≤ z0.length + 2 * l.length := by
  obtain ⟨s, h1, h2, h3, h4⟩ := iter_rangeE (l := l) (k := k) (body := body) (fun (s : List Int) i => (s, i)) (fun i s => s.Pairwise (fun a b => a < b) ∧ (∀ x, x ∈ s ↔ x ∈ z0 ∨ ∃ b ∈ l.take i, x = f b ∨ x = g b) ∧ s.length ≤ z0.length + 2 * i) (by
    rintro i hi s ⟨i1, i2, i3⟩
    obtain ⟨a, a1, a2, a3, a4⟩ := insert_spec (l := s) (f l[i]) (by omega) i1
    obtain ⟨b, b1, b2, b3, b4⟩ := insert_spec (l := a) (g l[i]) (by omega) a2
    refine ⟨b, by rw [hs i hi s, a1, Option.bind_some, b1, Option.bind_some], b2, fun x => ?_, by omega⟩
    rw [b3, a3, i2, List.take_succ_eq_append_getElem hi]
    simp only [List.mem_append, List.mem_singleton, or_and_right, exists_or, exists_eq_left]
    constructor
    · rintro (h | h | h | h)
      · exact .inr (.inr (.inr h))
      · exact .inr (.inr (.inl h))
      · exact .inl h
      · exact .inr (.inl h)
    · rintro (h | h | h | h)
      · exact .inr (.inr (.inl h))
      · exact .inr (.inr (.inr h))
      · exact .inr (.inl h)
      · exact .inl h) (fun s _ => hd s) (s0 := z0) ⟨hz, by simp, by omega⟩ hf
  rw [List.take_length] at h3
  exact ⟨s, h1, h2, h3, h4⟩
/-- One slab after the other. -/
theorem rsolid_loop {ρ : Type} {body : List Slab × Int → Option (Flow (List Slab × Int) ρ)} {k : Nat} {zs : List Int} {A : Int → List Rect} (hz : zs.Pairwise fun a b => a < b) (hzl : zs.length ≤ 100000)
    (hA : ∀ z, (A z).length ≤ 1000000)
    (hb : ∀ i (hi : i + 1 < zs.length) (s : List Slab), body (s, (i : Int)) = (ref09_add s (zs[i]'(by omega)) zs[i + 1] (A (zs[i]'(by omega)))).bind fun o => some (.go (o, ((i + 1 : Nat) : Int))))
    (hd : ∀ s (i : Nat), zs.length ≤ i + 1 → i ≤ 1000000 → body (s, (i : Int)) = some (.ex k (s, (i : Int)))) {fuel : Nat} (hf : zs.length < fuel) :
    iterL body fuel (([] : List Slab), 0) = some (.ex k (unslab (build [] zs A (zs.length - 1)), ((zs.length - 1 : Nat) : Int))) ∧ (unslab (build [] zs A (zs.length - 1))).length ≤ zs.length := by
  obtain ⟨s, h1, h2, h3, h4⟩ := iter_from (k := k) (body := body) (fun (s : List Slab) i => (s, i)) 0 (zs.length - 1) (Nat.zero_le _) (fun i s => slabRuns s = build [] zs A i ∧ s.length ≤ i ∧ ∀ b ∈ s, b.Area.length ≤ 1000000) (by
    rintro i - hi s ⟨i1, i2, i3⟩
    obtain ⟨o, p1, p2, p3, p4⟩ := put_spec (out := s) (x := ⟨zs[i]'(by omega), zs[i + 1]'(by omega), A (zs[i]'(by omega))⟩) (by omega) i3
    refine ⟨o, by rw [hb i (by omega) s, radd_eq (by omega) i3, p1, Option.bind_some], ?_, by omega, fun b hb => ?_⟩
    · rw [p2, i1, build_succ (show i + 1 < zs.length by omega)]
    · rcases p4 b hb with h | ⟨c, hc', h⟩
      · rw [h]; exact hA _
      · rw [h]; exact i3 c hc') (fun s _ => hd s _ (by omega) (by omega)) (s0 := []) ⟨rfl, by simp, by simp⟩ (fuel := fuel) (by omega)
  have e : s = unslab (build [] zs A (zs.length - 1)) := slabRuns_inj (by rw [h2, slabRuns_unslab])
  rw [← e]
  exact ⟨h1, by omega⟩
theorem rOf_check9 {l : List Box} (hl : l.length ≤ 100000) :
    (iterL (ref09_Of_L0 l) (l.length + 1) 0 = some (.ret (([] : List Slab), 1)) ∧ ¬ ∀ b ∈ l, VB b) ∨ ((∀ b ∈ l, VB b) ∧ iterL (ref09_Of_L0 l) (l.length + 1) 0 = some (.ex 0 (l.length : Int))) := by
  rcases iter_find (l := l) (body := ref09_Of_L0 l) (k := 0) (fun b => ¬ VB b) (fun _ => (([] : List Slab), (1 : Int))) (by
    intro i hi
    unfold ref09_Of_L0
    rw [if_pos (by simpa using hi), getI_nat hi, Option.bind_some, rRightBox_eq, Option.bind_some]
    by_cases hc : VB l[i]
    · right
      rw [if_neg (by simp [hc]), addI_one (by omega), Option.bind_some]
      exact ⟨fun h => h hc, rfl⟩
    · left
      rw [if_pos (by simp [hc])]
      exact ⟨hc, rfl⟩) (by
    unfold ref09_Of_L0
    rw [if_neg (by simp)]) (fuel := l.length + 1) (by omega) with ⟨i, hi, hp, _, h⟩ | ⟨hp, h⟩
  · exact .inl ⟨h, fun hv => hp (hv _ (List.getElem_mem hi))⟩
  · exact .inr ⟨fun b hb => Classical.not_not.1 (hp b hb), h⟩
theorem rOf_L3 {l : List Box} {zs : List Int} {i : Nat} (hi : i < zs.length) (hl : l.length ≤ 1000) {s0 : List Slab} {y : Int} {fuel : Nat} (hf : l.length < fuel) :
    iterL (ref09_Of_L3 l (zs, y) (s0, (i : Int))) fuel (([] : List Rect), 0) = some (.ex 6 (bases l zs[i], (l.length : Int))) := by
  have hg := getI_nat hi
  obtain ⟨h1, h2⟩ := iter_range (k := 6) (l := l) (body := ref09_Of_L3 l (zs, y) (s0, (i : Int))) (fun (s : List Rect) i => (s, i)) (fun s b => s ++ (if b.Z0 ≤ zs[i] ∧ zs[i] < b.Z1 then [b.Base] else [])) (fun j s => s = bases (l.take j) zs[i]) (by
    rintro j hj s rfl
    have hgj := getI_nat hj
    constructor
    · unfold ref09_Of_L3
      dsimp only
      rw [if_pos (by simpa using hj)]
      simp only [hgj, hg, Option.bind_some]
      have e1 : (if decide (l[j].Z0 ≤ zs[i]) = true then some (decide (zs[i] < l[j].Z1)) else some false) = some (decide (l[j].Z0 ≤ zs[i] ∧ zs[i] < l[j].Z1)) := by
        by_cases h : l[j].Z0 ≤ zs[i] <;> simp [h]
      rw [e1, Option.bind_some]
      by_cases h : l[j].Z0 ≤ zs[i] ∧ zs[i] < l[j].Z1
      · rw [if_pos (by simpa using h), if_pos h, appI_some (by
          have := bases_length (l.take j) zs[i]
          have := List.length_take_le j l
          simp; omega), Option.bind_some, Option.bind_some, addI_one (by omega), Option.bind_some]
      · rw [if_neg (by simpa using h), if_neg h, Option.bind_some, List.append_nil, addI_one (by omega), Option.bind_some]
    · rw [bases_snoc l zs[i] hj]) (by
    rintro s rfl
    unfold ref09_Of_L3
    dsimp only
    rw [if_neg (by simp)]) (s0 := []) rfl (fuel := fuel) hf
  rw [List.take_length] at h2
  rw [h2] at h1
  exact h1
theorem rOf9_fine {l : List Box} (h : ∀ b ∈ l, VB b) (hm : l.length ≤ 200) : ∃ out, IsSolid (bcells l) out ∧ ref09_Of l = some (slim out) := by
  have hex : ∀ z, ∃ o, ref06_Form (bases l z) [] 0 = some o ∧ IsForm (cells (bases l z)) o := by
    intro z
    exact Form_or (bases_right h z) (by have := bases_length l z; omega)
  obtain ⟨A, hA⟩ := Classical.axiomOfChoice hex
  have hA' : ∀ z, IsForm (fun x y => bcells l x y z) (A z) := fun z => (hA z).2.congr fun x y => bases_cells l x y z
  unfold ref09_Of
  rcases rOf_check9 (l := l) (by omega) with ⟨_, h1⟩ | ⟨_, h1⟩
  · exact absurd h h1
  rw [h1, Option.bind_some]
  dsimp only
  rw [if_neg (by simp; omega)]
  obtain ⟨zs, z1, z2, z3, z4⟩ := rheights (body := ref09_Of_L1 l) (k := 2) (f := fun b : Box => b.Z0) (g := fun b => b.Z1) (z0 := []) (by simp) (show l.length ≤ 100000 by omega) (by simp) (by
    intro i hi s
    have hg := getI_nat hi
    unfold ref09_Of_L1
    dsimp only
    rw [if_pos (by simpa using hi), hg, Option.bind_some]
    simp only [Option.bind_some, addI_one (show i < 4611686018427387904 by omega)]) (by
    intro s
    unfold ref09_Of_L1
    dsimp only
    rw [if_neg (by simp)]) (fuel := l.length + ([] : List Int).length + 1) (by simp)
  simp only [List.not_mem_nil, false_or, List.length_nil, Nat.zero_add] at z3 z4
  rw [z1, Option.bind_some]
  dsimp only
  have hmem : ∀ b ∈ l, b.Z0 ∈ zs ∧ b.Z1 ∈ zs := fun b hb => ⟨(z3 _).2 ⟨b, hb, .inl rfl⟩, (z3 _).2 ⟨b, hb, .inr rfl⟩⟩
  obtain ⟨hS, _, _⟩ := build_solid (S := bcells l) z2 hA' (by
    intro i hi z h1 h2 x y
    refine exists_congr fun b => and_congr_right fun hb => and_congr_right fun _ => ?_
    have g1 := asc_gap z2 hi (hmem b hb).1
    have g2 := asc_gap z2 hi (hmem b hb).2
    omega) (by
    rintro z hno x y ⟨b, hb, _, h1, h2⟩
    obtain ⟨i, hi, a1, a2⟩ := asc_between z2 (hmem b hb).1 (hmem b hb).2 h1 h2
    exact hno i hi ⟨a1, a2⟩)
  have hAl : ∀ z, (A z).length ≤ 1000000 := fun z => by
    have hh : Hangs (fun x y => bcells l x y z) (bases l z) := (bcells_hangs l).at z
    have := form_len hh (bases_right h z) (hA' z)
    have h2 := bases_length l z
    have := Nat.mul_le_mul (show (bases l z).length ≤ 200 by omega) (show (bases l z).length ≤ 200 by omega)
    omega
  obtain ⟨w1, w2⟩ := rsolid_loop (body := ref09_Of_L2 l (zs, (l.length : Int))) (k := 4) (A := A) z2 (by omega) hAl (by
    intro i hi s
    have hg0 := getI_nat (show i < zs.length by omega)
    have hg1 := getI_nat hi
    have hadd := addI_one (show i < 4611686018427387904 by omega)
    unfold ref09_Of_L2
    dsimp only
    rw [hadd, Option.bind_some, if_pos (by simp; omega), rOf_L3 (show i < zs.length by omega) (by omega) (by omega), Option.bind_some]
    dsimp only
    rw [hg0, Option.bind_some, Option.bind_some, hg1, Option.bind_some, (hA _).1, Option.bind_some]
    simp only [Option.bind_some]) (by
    intro s i hi hi2
    unfold ref09_Of_L2
    dsimp only
    rw [addI_one (show i < 4611686018427387904 by omega), Option.bind_some, if_neg (by simp; omega)]) (fuel := l.length + zs.length + ([] : List Slab).length + 1) (by simp; omega)
  rw [w1, Option.bind_some]
  dsimp only
  rw [rend_eq (by omega), Option.bind_some]
  exact ⟨_, hS, rfl⟩
theorem rOf9_eq {l : List Box} (hl : l.length ≤ 100000) : ref09_Of l = solid_Of l := by
  by_cases h : ∀ b ∈ l, VB b
  · by_cases hm : 200 < l.length
    · rw [solid_Of_many hl h hm]
      unfold ref09_Of
      rcases rOf_check9 (l := l) hl with ⟨_, h1⟩ | ⟨_, h1⟩
      · exact absurd h h1
      · rw [h1, Option.bind_some]
        dsimp only
        rw [if_pos (by simp; omega)]
    · obtain ⟨o, h1, h2⟩ := solid_Of_fine h (by omega)
      obtain ⟨w, g1, g2⟩ := rOf9_fine h (by omega)
      rw [h2, g2, g1.unique h1 fun _ _ _ => Iff.rfl]
  · rw [solid_Of_bad hl h]
    unfold ref09_Of
    rcases rOf_check9 (l := l) hl with ⟨h1, _⟩ | ⟨h1, _⟩
    · rw [h1, Option.bind_some]
    · exact absurd h1 h
end Go.Proofs.YtmniloampanhfaaGreat

namespace Go.Proofs.YtmniloampanhfaaGreat
open Go.Gb
set_option linter.unusedVariables false
set_option linter.unusedSimpArgs false
set_option linter.unusedSectionVars false
set_option maxRecDepth 100000
theorem sect_first {s : List Slab} {z : Int} : ∀ i (hi : i < s.length), (s[i].Z0 ≤ z ∧ z < s[i].Z1) → (∀ j (hj : j < i), ¬ ((s[j]'(by omega)).Z0 ≤ z ∧ z < (s[j]'(by omega)).Z1)) → sect s z = s[i].Area := by
  induction s with
  | nil => intro i hi; simp at hi
  | cons a s ih =>
    intro i hi h1 h2
    show (if a.Z0 ≤ z ∧ z < a.Z1 then a.Area else sect s z) = _
    cases i with
    | zero => exact if_pos h1
    | succ i =>
      have h3 : ¬ (a.Z0 ≤ z ∧ z < a.Z1) := h2 0 (by omega)
      rw [if_neg h3]
      exact ih i (by simpa using hi) h1 fun j hj => by simpa using h2 (j + 1) (by omega)
theorem sect_none {s : List Slab} {z : Int} : (∀ b ∈ s, ¬ (b.Z0 ≤ z ∧ z < b.Z1)) → sect s z = [] := by
  induction s with
  | nil => intro _; rfl
  | cons a s ih =>
    intro h
    show (if a.Z0 ≤ z ∧ z < a.Z1 then a.Area else sect s z) = _
    rw [if_neg (h a (by simp))]
    exact ih fun b hb => h b (by simp [hb])
theorem rsection_eq {s : List Slab} (hl : s.length ≤ 100000) (ha : ∀ b ∈ s, b.Area.length ≤ 1000000) (z : Int) : ref09_section s z = some (sect s z) := by
  unfold ref09_section
  rcases iter_find (l := s) (body := ref09_section_L0 s z) (k := 0) (fun b => b.Z0 ≤ z ∧ z < b.Z1) (fun i => (s[i]?.getD default).Area) (by
    intro i hi
    have hg := getI_nat hi
    unfold ref09_section_L0
    rw [if_pos (by simpa using hi)]
    simp only [hg, Option.bind_some]
    have e1 : (if decide (s[i].Z0 ≤ z) = true then some (decide (z < s[i].Z1)) else some false) = some (decide (s[i].Z0 ≤ z ∧ z < s[i].Z1)) := by
      by_cases h : s[i].Z0 ≤ z <;> simp [h]
    rw [e1, Option.bind_some]
    by_cases hc : s[i].Z0 ≤ z ∧ z < s[i].Z1
    · left
      rw [if_pos (by simpa using hc), appI_some (by have := ha _ (List.getElem_mem hi); simp; omega), Option.bind_some, List.getElem?_eq_getElem hi]
      exact ⟨hc, rfl⟩
    · right
      rw [if_neg (by simpa using hc), addI_one (by omega), Option.bind_some]
      exact ⟨hc, rfl⟩) (by
    unfold ref09_section_L0
    rw [if_neg (by simp)]) (fuel := s.length + 1) (by omega) with ⟨i, hi, hp, hq, h⟩ | ⟨hp, h⟩
  · rw [h, Option.bind_some]
    dsimp only
    rw [List.getElem?_eq_getElem hi, sect_first i hi hp fun j hj => hq j hj]
    rfl
  · rw [h, Option.bind_some, sect_none hp]
theorem rcomb_bad {op : Int} {a b : List Slab} (ha : ∀ s ∈ a, s.Area.length ≤ 100000) (hb : ∀ s ∈ b, s.Area.length ≤ 100000) (h : ¬ (SS a ∧ SS b)) : ref09_combine a b op = some ([], 1) := by
  unfold ref09_combine
  by_cases h1 : SS a
  · have h2 : ¬ SS b := fun h2 => h ⟨h1, h2⟩
    rw [rRightS_true h1, Option.bind_some, if_neg (by simp), rRightS_false hb h2, Option.bind_some, Option.bind_some, if_pos (by simp)]
  · rw [rRightS_false ha h1, Option.bind_some, if_pos (by simp), Option.bind_some, if_pos rfl]
theorem rcomb_fine {op : Int} {a b : List Slab} (ha : SS a) (hb : SS b) : ∃ out, IsSolid (sopS op a b) out ∧ ref09_combine a b op = some (slim out) := by
  have la := ha.len; have lb := hb.len
  have ara : ∀ x ∈ a, x.Area.length ≤ 200 := fun x hx => (ha.ok x hx).2.2.2.1
  have arb : ∀ x ∈ b, x.Area.length ≤ 200 := fun x hx => (hb.ok x hx).2.2.2.1
  obtain ⟨A, hA⟩ := Classical.axiomOfChoice fun z => Form_spec (op := op) (ha.sect z).1 (hb.sect z).1 (by have := (ha.sect z).2.1; have := (hb.sect z).2.1; simp; omega)
  have hAf : ∀ z, IsForm (fun x y => sopS op a b x y z) (A z) := fun z => (hA z).2
  unfold ref09_combine
  rw [rRightS_true ha, Option.bind_some, if_neg (by simp), rRightS_true hb, Option.bind_some, Option.bind_some, if_neg (by simp)]
  obtain ⟨z0, y1, y2, y3, y4⟩ := rheights (body := ref09_combine_L0 a) (k := 0) (f := fun s : Slab => s.Z0) (g := fun s => s.Z1) (z0 := []) (by simp) (show a.length ≤ 100000 by omega) (by simp) (by
    intro i hi s
    have hg := getI_nat hi
    unfold ref09_combine_L0
    dsimp only
    rw [if_pos (by simpa using hi), hg, Option.bind_some]
    simp only [Option.bind_some, addI_one (show i < 4611686018427387904 by omega)]) (by
    intro s
    unfold ref09_combine_L0
    dsimp only
    rw [if_neg (by simp)]) (fuel := a.length + b.length + ([] : List Int).length + 1) (by simp; omega)
  simp only [List.not_mem_nil, false_or, List.length_nil, Nat.zero_add] at y3 y4
  rw [y1, Option.bind_some]
  dsimp only
  obtain ⟨zs, z1, z2, z3, z4⟩ := rheights (body := ref09_combine_L1 b) (k := 2) (f := fun s : Slab => s.Z0) (g := fun s => s.Z1) (z0 := z0) y2 (show b.length ≤ 100000 by omega) (by omega) (by
    intro i hi s
    have hg := getI_nat hi
    unfold ref09_combine_L1
    dsimp only
    rw [if_pos (by simpa using hi), hg, Option.bind_some]
    simp only [Option.bind_some, addI_one (show i < 4611686018427387904 by omega)]) (by
    intro s
    unfold ref09_combine_L1
    dsimp only
    rw [if_neg (by simp)]) (fuel := a.length + b.length + z0.length + 1) (by omega)
  rw [z1, Option.bind_some]
  dsimp only
  have hmem : ∀ s ∈ a ++ b, s.Z0 ∈ zs ∧ s.Z1 ∈ zs := by
    intro s hs
    rw [z3, z3, y3, y3]
    rcases List.mem_append.1 hs with hs | hs
    · exact ⟨.inl ⟨s, hs, .inl rfl⟩, .inl ⟨s, hs, .inr rfl⟩⟩
    · exact ⟨.inr ⟨s, hs, .inl rfl⟩, .inr ⟨s, hs, .inr rfl⟩⟩
  have hsame : ∀ c : List Slab, (∀ s ∈ c, s ∈ a ++ b) → ∀ i (hi : i + 1 < zs.length) z, zs[i] ≤ z → z < zs[i + 1] → sect c zs[i] = sect c z := by
    intro c hc i hi z h1 h2
    refine rval_between (fun r hr => ?_) h1
    obtain ⟨s, hs, rfl⟩ := List.mem_map.1 hr
    have g1 := asc_gap z2 hi (hmem s (hc s hs)).1
    have g2 := asc_gap z2 hi (hmem s (hc s hs)).2
    dsimp only; omega
  have hout : ∀ c : List Slab, (∀ s ∈ c, s ∈ a ++ b) → ∀ z, (∀ i (h : i + 1 < zs.length), ¬ (zs[i] ≤ z ∧ z < zs[i + 1])) → sect c z = [] := by
    intro c hc z hno
    rcases rval_mem (e := []) (l := slabRuns c) (x := z) with h7 | ⟨p, q, h7, h8, h9⟩
    · exact h7
    · obtain ⟨s, hs, he⟩ := List.mem_map.1 h7
      simp only [Prod.mk.injEq] at he
      obtain ⟨i, hi, a1, a2⟩ := asc_between z2 (hmem s (hc s hs)).1 (hmem s (hc s hs)).2 (by omega) (by omega : z < s.Z1)
      exact absurd ⟨a1, a2⟩ (hno i hi)
  have hma : ∀ s ∈ a, s ∈ a ++ b := fun s hs => List.mem_append_left _ hs
  have hmb : ∀ s ∈ b, s ∈ a ++ b := fun s hs => List.mem_append_right _ hs
  obtain ⟨hS, _, _⟩ := build_solid (S := sopS op a b) z2 hAf (by
    intro i hi z h1 h2 x y
    have key : ∀ c : List Slab, sect c zs[i] = sect c z → decide (scells c x y zs[i]) = decide (scells c x y z) := by
      intro c hc
      rw [decide_eq_decide]
      unfold scells; rw [hc]
    unfold sopS
    rw [key a (hsame a hma i hi z h1 h2), key b (hsame b hmb i hi z h1 h2)]) (by
    intro z hno x y h
    have e : ∀ c : List Slab, sect c z = [] → decide (scells c x y z) = false := by
      intro c hc
      rw [decide_eq_false_iff_not]
      unfold scells; rw [hc]; simp [cells]
    unfold sopS at h
    rw [e a (hout a hma z hno), e b (hout b hmb z hno), opB_false] at h
    simp at h)
  have hAl : ∀ z, (A z).length ≤ 1000000 := by
    intro z
    have hh : Hangs (fun x y => sopS op a b x y z) (sect a z ++ sect b z) := by
      refine ⟨fun x y x' y' he => ?_, fun x y hn => ?_⟩
      · have e1 : decide (scells a x y z) = decide (scells a x' y' z) := by
          rw [decide_eq_decide]
          exact exists_congr fun r => and_congr_right fun hr => he r (List.mem_append_left _ hr)
        have e2 : decide (scells b x y z) = decide (scells b x' y' z) := by
          rw [decide_eq_decide]
          exact exists_congr fun r => and_congr_right fun hr => he r (List.mem_append_right _ hr)
        unfold sopS
        rw [e1, e2]
      · have e1 : decide (scells a x y z) = false := by
          rw [decide_eq_false_iff_not]
          rintro ⟨r, hr, h⟩
          exact hn r (List.mem_append_left _ hr) h
        have e2 : decide (scells b x y z) = false := by
          rw [decide_eq_false_iff_not]
          rintro ⟨r, hr, h⟩
          exact hn r (List.mem_append_right _ hr) h
        unfold sopS
        rw [e1, e2, opB_false]; simp
    have hlen : (sect a z ++ sect b z).length ≤ 400 := by have := (ha.sect z).2.1; have := (hb.sect z).2.1; simp; omega
    have := form_len hh (fun r hr => (List.mem_append.1 hr).elim ((ha.sect z).1 r) ((hb.sect z).1 r)) (hAf z)
    have := Nat.mul_le_mul hlen hlen
    omega
  obtain ⟨w1, w2⟩ := rsolid_loop (body := ref09_combine_L2 a b op (zs, (b.length : Int))) (k := 4) (A := A) z2 (by omega) hAl (by
    intro i hi s
    have hg0 := getI_nat (show i < zs.length by omega)
    have hg1 := getI_nat hi
    have hadd := addI_one (show i < 4611686018427387904 by omega)
    have e1 := rsection_eq (s := a) (by omega) (fun b hb => by have := ara b hb; omega) (zs[i]'(by omega))
    have e2 := rsection_eq (s := b) (by omega) (fun b hb => by have := arb b hb; omega) (zs[i]'(by omega))
    unfold ref09_combine_L2
    dsimp only
    rw [hadd, Option.bind_some, if_pos (by simp; omega)]
    simp only [hg0, hg1, e1, e2, (hA _).1, Option.bind_some]) (by
    intro s i hi hi2
    unfold ref09_combine_L2
    dsimp only
    rw [addI_one (show i < 4611686018427387904 by omega), Option.bind_some, if_neg (by simp; omega)]) (fuel := a.length + b.length + zs.length + ([] : List Slab).length + 1) (by simp; omega)
  rw [w1, Option.bind_some]
  dsimp only
  rw [rend_eq (by omega), Option.bind_some]
  exact ⟨_, hS, rfl⟩
theorem rcomb_eq {op : Int} {a b : List Slab} (ha : ∀ s ∈ a, s.Area.length ≤ 100000) (hb : ∀ s ∈ b, s.Area.length ≤ 100000) : ref09_combine a b op = solidOp op a b := by
  by_cases h : SS a ∧ SS b
  · obtain ⟨o, h1, h2⟩ := solidOp_fine (op := op) h.1 h.2
    obtain ⟨w, g1, g2⟩ := rcomb_fine (op := op) h.1 h.2
    rw [h2, g2, g1.unique h1 fun _ _ _ => Iff.rfl]
  · rw [rcomb_bad ha hb h, solidOp_bad ha hb h]
/-! what is asked of a solid -/
theorem has_chain {r : Rect} {x y : Int} {G : Option (Flow Int Bool)} : ((if decide (r.X0 ≤ x) = true then some (decide (x < r.X1)) else some false).bind fun p => (if p = true then some (decide (r.Y0 ≤ y)) else some false).bind fun p => (if p = true then some (decide (y < r.Y1)) else some false).bind fun p => if p = true then some (Flow.ret true) else G) =
    if rin r x y then some (Flow.ret true) else G := by
  unfold rin
  by_cases h1 : r.X0 ≤ x <;> by_cases h2 : x < r.X1 <;> by_cases h3 : r.Y0 ≤ y <;> by_cases h4 : y < r.Y1 <;> simp [h1, h2, h3, h4]
theorem rHas6_fine {a : List Rect} (h : RR a) (x y : Int) : ref06_Has a x y = some (decide (cells a x y)) := by
  unfold ref06_Has
  rw [rRight_true h, Option.bind_some, if_neg (by simp)]
  have hl := h.2.1
  rcases iter_find (l := a) (body := ref06_Has_L0 a x y) (k := 0) (fun r => rin r x y) (fun _ => true) (by
    intro i hi
    have hg := getI_nat hi
    unfold ref06_Has_L0
    rw [if_pos (by simpa using hi)]
    simp only [hg, Option.bind_some]
    rw [has_chain]
    by_cases hc : rin a[i] x y
    · left
      rw [if_pos hc]
      exact ⟨hc, rfl⟩
    · right
      rw [if_neg hc, addI_one (by omega), Option.bind_some]
      exact ⟨hc, rfl⟩) (by
    unfold ref06_Has_L0
    rw [if_neg (by simp)]) (fuel := a.length + 1) (by omega) with ⟨i, hi, hp, _, h⟩ | ⟨hp, h⟩
  · rw [h, Option.bind_some]
    dsimp only
    congr 1; symm
    rw [decide_eq_true_iff]
    exact ⟨_, List.getElem_mem hi, hp⟩
  · rw [h, Option.bind_some]
    dsimp only
    congr 1; symm
    rw [decide_eq_false_iff_not]
    rintro ⟨r, hr, h'⟩
    exact hp r hr h'
theorem rArea6_fine {a : List Rect} (h : RR a) : ref06_Area a = some (areaL a) := by
  unfold ref06_Area
  rw [rRight_true h, Option.bind_some, if_neg (by simp)]
  have hl := h.2.1
  have hb := area_bound h.2.2 h.1
  have hpos : ∀ r ∈ a, 0 ≤ (r.X1 - r.X0) * (r.Y1 - r.Y0) := fun r hr => (rect_area_bound (h.1 r hr)).1
  obtain ⟨h1, h2⟩ := iter_range (k := 0) (l := a) (body := ref06_Area_L0 a) (fun (s : Int) i => (s, i)) (fun s r => s + (r.X1 - r.X0) * (r.Y1 - r.Y0)) (fun i s => s = areaL (a.take i)) (by
    rintro i hi s rfl
    have hg := getI_nat hi
    have hv := h.1 _ (List.getElem_mem hi)
    have hr := rect_area_bound hv
    have hp := sumL_prefix hpos (i + 1)
    rw [sumL_snoc hi] at hp
    have hp0 := sumL_prefix hpos i
    unfold VR at hv
    unfold areaL at hb ⊢
    constructor
    · unfold ref06_Area_L0
      dsimp only
      rw [if_pos (by simpa using hi)]
      simp only [hg, Option.bind_some]
      rw [subI_some (by unfold inI; omega), Option.bind_some, subI_some (by unfold inI; omega), Option.bind_some, mulI_some (by unfold inI; omega), Option.bind_some, addI_some (by unfold inI; omega), Option.bind_some, addI_one (by omega), Option.bind_some]
    · rw [sumL_snoc hi]) (by
    rintro s rfl
    unfold ref06_Area_L0
    dsimp only
    rw [if_neg (by simp)]) (s0 := 0) rfl (fuel := a.length + 1) (by omega)
  rw [h1, Option.bind_some]
  dsimp only
  rw [h2, List.take_length]
theorem rVolume_eq {s : List Slab} (ha : ∀ b ∈ s, b.Area.length ≤ 100000) : ref09_Volume s = solid_Volume s := by
  by_cases h : SS s
  · rw [solid_Volume_fine h]
    unfold ref09_Volume
    rw [rRightS_true h, Option.bind_some, if_neg (by simp)]
    have hl := h.len
    have hpos : ∀ x ∈ s, 0 ≤ (x.Z1 - x.Z0) * areaL x.Area := by
      intro b hb
      obtain ⟨q1, q2, q3⟩ := h.ok b hb
      have q4 := slab_lt h.canon hb
      exact Int.mul_nonneg (by omega) (area_bound q3.2.2 q3.1).1
    have hvb := vol_bound h
    rw [vol_slabs] at hvb
    obtain ⟨h1, h2⟩ := iter_range (k := 0) (l := s) (body := ref09_Volume_L0 s) (fun (v : Int) i => (v, i)) (fun v b => v + (b.Z1 - b.Z0) * areaL b.Area) (fun i v => v = sumL (fun x => (x.Z1 - x.Z0) * areaL x.Area) (s.take i)) (by
      rintro i hi v rfl
      have hm := List.getElem_mem hi
      have hg := getI_nat hi
      obtain ⟨q1, q2, q3⟩ := h.ok _ hm
      have q4 := slab_lt h.canon hm
      have hq := hpos _ hm
      have hp := sumL_prefix hpos (i + 1)
      rw [sumL_snoc hi] at hp
      have hp0 := sumL_prefix hpos i
      constructor
      · unfold ref09_Volume_L0
        dsimp only
        rw [if_pos (by simpa using hi)]
        simp only [hg, Option.bind_some]
        rw [subI_some (by unfold inI; omega), Option.bind_some, rArea6_fine q3, Option.bind_some, mulI_some (by unfold inI; omega), Option.bind_some, addI_some (by unfold inI; omega), Option.bind_some, addI_one (by omega), Option.bind_some]
      · rw [sumL_snoc hi]) (by
      rintro v rfl
      unfold ref09_Volume_L0
      dsimp only
      rw [if_neg (by simp)]) (s0 := 0) rfl (fuel := s.length + 1) (by omega)
    rw [h1, Option.bind_some]
    dsimp only
    rw [h2, List.take_length, vol_slabs]
  · rw [solid_Volume_bad ha h]
    unfold ref09_Volume
    rw [rRightS_false ha h, Option.bind_some, if_pos (by simp)]
theorem rSection_eq {s : List Slab} (ha : ∀ b ∈ s, b.Area.length ≤ 100000) (z : Int) : ref09_Section s z = solid_Section s z := by
  unfold ref09_Section
  by_cases h : SS s
  · rw [rRightS_true h, Option.bind_some, if_neg (by simp), rsection_eq (by have := h.len; omega) (fun b hb => by have := ha b hb; omega), Option.bind_some, solid_Section_fine h]
  · rw [rRightS_false ha h, Option.bind_some, if_pos (by simp), solid_Section_bad ha h]
theorem rHas_eq {s : List Slab} (ha : ∀ b ∈ s, b.Area.length ≤ 100000) (x y z : Int) : ref09_Has s x y z = solid_Has s x y z := by
  unfold ref09_Has
  rw [rSection_eq ha]
  by_cases h : SS s
  · rw [solid_Section_fine h, Option.bind_some, rHas6_fine (h.sect z), Option.bind_some, solid_Has_fine h]
    congr 1
  · rw [solid_Section_bad ha h, Option.bind_some, rHas6_fine RR_nil, Option.bind_some, solid_Has_bad ha h]
    congr 1
theorem rTop_eq {s : List Slab} (ha : ∀ b ∈ s, b.Area.length ≤ 100000) (x y : Int) : ref09_Top s x y = solid_Top s x y := by
  unfold ref09_Top
  by_cases h : SS s
  · rw [rRightS_true h, Option.bind_some, if_neg (by simp)]
    have hl := h.len
    obtain ⟨v, h1, h2, h3, h4⟩ := iter_rangeE (k := 0) (l := s) (body := ref09_Top_L0 s x y) (fun (v : Int) i => (v, i)) (fun i v => 0 ≤ v ∧ (∀ j (hj : j < s.length), j < i → cells s[j].Area x y → s[j].Z1 ≤ v) ∧ (v = 0 ∨ ∃ j, ∃ hj : j < s.length, j < i ∧ cells s[j].Area x y ∧ v = s[j].Z1)) (by
      rintro i hi v ⟨i1, i2, i3⟩
      have hg := getI_nat hi
      obtain ⟨q1, q2, q3⟩ := h.ok _ (List.getElem_mem hi)
      have q4 := slab_lt h.canon (List.getElem_mem hi)
      unfold ref09_Top_L0
      dsimp only
      rw [if_pos (by simpa using hi)]
      simp only [hg, Option.bind_some]
      rw [rHas6_fine q3, Option.bind_some, addI_one (by omega)]
      by_cases hc : cells s[i].Area x y
      · rw [if_pos (by simpa using hc), Option.bind_some, Option.bind_some]
        refine ⟨_, rfl, by omega, fun j hj hji hcj => ?_, .inr ⟨i, hi, by omega, hc, rfl⟩⟩
        by_cases e : j = i
        · subst e; exact Int.le_refl _
        · have := slab_order h.canon (show j < i by omega) hi
          omega
      · rw [if_neg (by simpa using hc), Option.bind_some, Option.bind_some]
        refine ⟨_, rfl, i1, fun j hj hji hcj => ?_, i3.imp id fun ⟨j, hj, a, b⟩ => ⟨j, hj, by omega, b⟩⟩
        by_cases e : j = i
        · subst e; exact absurd hcj hc
        · exact i2 j hj (by omega) hcj) (by
      intro v _
      unfold ref09_Top_L0
      dsimp only
      rw [if_neg (by simp)]) (s0 := 0) ⟨Int.le_refl _, fun j _ hj => absurd hj (Nat.not_lt_zero j), .inl rfl⟩ (fuel := s.length + 1) (by omega)
    rw [h1, Option.bind_some]
    dsimp only
    rw [top_is h (t := v)]
    refine ⟨h2, fun z hz => ?_, h4.imp id fun ⟨j, hj, _, hc, e⟩ => ?_⟩
    · obtain ⟨b, hb, hc, a1, a2⟩ := (scells_slab h.canon).1 hz
      obtain ⟨j, hj, rfl⟩ := List.getElem_of_mem hb
      have := h3 j hj hj hc
      omega
    · have q4 := slab_lt h.canon (List.getElem_mem hj)
      exact (scells_slab h.canon).2 ⟨_, List.getElem_mem hj, hc, by omega, by omega⟩
  · rw [rRightS_false ha h, Option.bind_some, if_pos (by simp), solid_Top_bad ha h]
theorem rSameBoxes_refl {a : List Box} (hl : a.length ≤ 1000000) : ref09_SameBoxes a a = some true := by
  unfold ref09_SameBoxes
  rw [if_neg (by simp)]
  obtain ⟨h1, _⟩ := iter_range (k := 0) (l := a) (body := ref09_SameBoxes_L0 a a) (fun (_ : Unit) i => i) (fun s _ => s) (fun _ _ => True) (by
    intro i hi s _
    unfold ref09_SameBoxes_L0
    rw [if_pos (by simpa using hi), getI_nat hi, Option.bind_some, Option.bind_some, if_neg (by simp), addI_one (by omega), Option.bind_some]
    exact ⟨rfl, trivial⟩) (by
    intro s _
    unfold ref09_SameBoxes_L0
    rw [if_neg (by simp)]) (s0 := ()) trivial (fuel := a.length + a.length + 1) (by omega)
  rw [h1, Option.bind_some]
theorem slim_len {out : List Slab} : (slim out).1.length ≤ 80 ∧ ∀ s ∈ (slim out).1, s.Area.length ≤ 200 := by
  unfold slim
  by_cases h : (∃ s ∈ out, 200 < s.Area.length) ∨ 80 < out.length
  · rw [if_pos h]; simp
  · rw [if_neg h]
    exact ⟨Nat.le_of_not_lt fun h' => h (.inr h'), fun s hs => Nat.le_of_not_lt fun h' => h (.inl ⟨s, hs, h'⟩)⟩
theorem solidOp_some {op : Int} {a b : List Slab} (ha : ∀ s ∈ a, s.Area.length ≤ 100000) (hb : ∀ s ∈ b, s.Area.length ≤ 100000) : ∃ r, solidOp op a b = some r ∧ r.1.length ≤ 1000000 ∧ ∀ s ∈ r.1, s.Area.length ≤ 1000000 := by
  by_cases h : SS a ∧ SS b
  · obtain ⟨o, _, h2⟩ := solidOp_fine (op := op) h.1 h.2
    exact ⟨_, h2, by have := (slim_len (out := o)).1; omega, fun s hs => by have := (slim_len (out := o)).2 s hs; omega⟩
  · exact ⟨_, solidOp_bad ha hb h, by simp, by simp⟩
theorem same_true {a b : List Slab} (la : a.length ≤ 100000) (ha : ∀ s ∈ a, s.Area.length ≤ 100000) (hb : ∀ s ∈ b, s.Area.length ≤ 100000) (x y z : Int) : law09_same a b x y z = some true := by
  obtain ⟨u, u1, u2, u3⟩ := solidOp_some (op := 0) ha hb
  obtain ⟨c, c1, c2, c3⟩ := solidOp_some (op := 1) ha hb
  obtain ⟨m, m1, m2, m3⟩ := solidOp_some (op := 2) ha hb
  have ru : ref09_Union a b = some u := by unfold ref09_Union; rw [rcomb_eq ha hb, u1, Option.bind_some]
  have rc : ref09_Common a b = some c := by unfold ref09_Common; rw [rcomb_eq ha hb, c1, Option.bind_some]
  have rm : ref09_Minus a b = some m := by unfold ref09_Minus; rw [rcomb_eq ha hb, m1, Option.bind_some]
  rw [op0] at u1; rw [op1] at c1; rw [op2] at m1
  have e1 : ref09_Same u.1 u.1 = some true := by rw [sSame_eq u2 u3]; simp
  have e2 : ref09_Same c.1 c.1 = some true := by rw [sSame_eq c2 c3]; simp
  have e3 : ref09_Same m.1 m.1 = some true := by rw [sSame_eq m2 m3]; simp
  have e4 : ref09_Same a b = solid_Same a b := by
    rw [sSame_eq (by omega) (fun s hs => by have := ha s hs; omega), solid_Same_eq (by omega) (fun s hs => by have := ha s hs; omega)]
  have hR : ∃ r, solid_Right a = some r ∧ ref09_Right a = some r := by
    by_cases h : SS a
    · exact ⟨_, solid_Right_true h, rRightS_true h⟩
    · exact ⟨_, solid_Right_false ha h, rRightS_false ha h⟩
  have hV : ∃ r, solid_Volume a = some r := by
    by_cases h : SS a
    · exact ⟨_, solid_Volume_fine h⟩
    · exact ⟨_, solid_Volume_bad ha h⟩
  have hT : ∃ r, solid_Top a x y = some r := by
    by_cases h : SS a
    · obtain ⟨t, h1, _⟩ := solid_Top_fine h x y; exact ⟨_, h1⟩
    · exact ⟨_, solid_Top_bad ha h x y⟩
  have hH : ∃ r, solid_Has a x y z = some r := by
    by_cases h : SS a
    · exact ⟨_, solid_Has_fine h x y z⟩
    · exact ⟨_, solid_Has_bad ha h x y z⟩
  have hC : ∃ r, solid_Section a z = some r ∧ law09_rects r r = some true := by
    by_cases h : SS a
    · exact ⟨_, solid_Section_fine h z, by rw [rects_is (by have := (h.sect z).2.1; omega)]; simp⟩
    · exact ⟨_, solid_Section_bad ha h z, by rw [rects_is (by simp)]; simp⟩
  have hB : ∃ r, solid_Boxes a = some r ∧ ref09_Boxes a = some r ∧ ref09_SameBoxes r r = some true := by
    by_cases h : SS a
    · exact ⟨_, solid_Boxes_fine h, rBoxes_fine h, rSameBoxes_refl (by have := boxesOf_length h; omega)⟩
    · exact ⟨_, solid_Boxes_bad ha h, rBoxes_bad ha h, rSameBoxes_refl (by simp)⟩
  have hS : ∃ r, solid_Same a b = some r := ⟨_, solid_Same_eq (by omega) (fun s hs => by have := ha s hs; omega)⟩
  obtain ⟨r1, g1, g1'⟩ := hR
  obtain ⟨r2, g2⟩ := hV
  obtain ⟨r3, g3⟩ := hT
  obtain ⟨r4, g4⟩ := hH
  obtain ⟨r5, g5, g5'⟩ := hC
  obtain ⟨r6, g6, g6', g6''⟩ := hB
  obtain ⟨r7, g7⟩ := hS
  unfold law09_same
  rw [rVolume_eq ha, rTop_eq ha, rHas_eq ha, rSection_eq ha, e4]
  simp only [u1, c1, m1, ru, rc, rm, e1, e2, e3, g1, g1', g2, g3, g4, g5, g5', g6, g6', g6'', g7, Option.bind_some]
  simp
theorem law_SolidOf (a b : List Box) (x y z : Int) : law09_SolidOf a b x y z = some true := by
  unfold law09_SolidOf
  rw [small_true, Option.bind_some]
  by_cases hl : 12 < a.length ∨ 12 < b.length
  · rw [if_pos (by simp; omega)]
  · have hof : ∀ l : List Box, l.length ≤ 12 → ∃ r, solid_Of l = some r ∧ r.1.length ≤ 100000 ∧ ∀ s ∈ r.1, s.Area.length ≤ 100000 := by
      intro l h
      by_cases hv : ∀ b ∈ l, VB b
      · obtain ⟨o, _, h2⟩ := solid_Of_fine hv (by omega)
        exact ⟨_, h2, by have := (slim_len (out := o)).1; omega, fun s hs => by have := (slim_len (out := o)).2 s hs; omega⟩
      · exact ⟨_, solid_Of_bad (by omega) hv, by simp, by simp⟩
    obtain ⟨r, r1, r2, r3⟩ := hof a (by omega)
    obtain ⟨t, t1, t2, t3⟩ := hof b (by omega)
    have e1 : ref09_Same r.1 r.1 = some true := by rw [sSame_eq (by omega) (fun s hs => by have := r3 s hs; omega)]; simp
    rw [if_neg (by simp; omega), r1, Option.bind_some, rOf9_eq (by omega), r1, Option.bind_some, rOf9_eq (by omega), t1, Option.bind_some, if_neg (by simp), e1, Option.bind_some, Option.bind_some, if_neg (by simp), if_pos rfl, same_true r2 r3 t3]
    rfl
end Go.Proofs.YtmniloampanhfaaGreat

