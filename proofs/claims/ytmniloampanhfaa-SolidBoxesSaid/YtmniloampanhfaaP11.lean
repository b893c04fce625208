/- Solids: boxes, volume, cross-section, top, cubes, comparison. -/
import Derived.Test.YtmniloampanhfaaP10
namespace Go.Proofs.Ytmniloampanhfaa
open Go.Gb
set_option linter.unusedVariables false
set_option linter.unusedSimpArgs false
set_option linter.unusedSectionVars false
set_option linter.unusedVariables false
set_option linter.unusedSimpArgs false

/-! What is asked of a region -/
theorem rect_checked_eq (r : Rect) : rect_checked r = some (if VR r then (r, true) else (⟨0, 0, 0, 0⟩, false)) := by
  unfold rect_checked
  rw [rect_Right_eq, Option.bind_some]
  by_cases h : VR r <;> simp [h]
theorem rect_Has_eq (r : Rect) (x y : Int) : rect_Has r x y = some (decide (VR r ∧ rin r x y)) := by
  unfold rect_Has
  rw [rect_checked_eq, Option.bind_some]
  congr 1
  by_cases h : VR r
  · rw [if_pos h, Bool.eq_iff_iff]
    simp only [Bool.and_eq_true, decide_eq_true_eq, h, true_and]
    unfold rin
    constructor
    · rintro ⟨⟨⟨a, b⟩, c⟩, d⟩; exact ⟨⟨a, b⟩, c, d⟩
    · rintro ⟨⟨a, b⟩, c, d⟩; exact ⟨⟨⟨a, b⟩, c⟩, d⟩
  · rw [if_neg h]
    rw [Bool.eq_iff_iff]
    simp only [Bool.and_eq_true, decide_eq_true_eq, h, false_and, iff_false]
    omega
theorem contains_Rect {a : List Rect} {f : Rect → Option Bool} {p : Rect → Bool} (hf : ∀ r ∈ a, f r = some (p r)) (hl : a.length ≤ 1000000) : slices_ContainsFunc_Rect a f = some (a.any p) := by
  unfold slices_ContainsFunc_Rect slices_IndexFunc_Rect
  rcases iter_find (l := a) (body := slices_IndexFunc_Rect_L0 a f) (k := 0) (fun r => p r = true) (fun i => (i : Int)) (by
    intro i hi
    unfold slices_IndexFunc_Rect_L0
    rw [if_pos (by simpa using hi), getI_nat hi, Option.bind_some, hf _ (List.getElem_mem hi), Option.bind_some]
    cases hp : p a[i]
    · right
      rw [if_neg (by simp), addI_one (by omega), Option.bind_some]
      exact ⟨by simp, rfl⟩
    · left
      exact ⟨rfl, if_pos rfl⟩) (by
    unfold slices_IndexFunc_Rect_L0
    rw [if_neg (by simp)]) (fuel := a.length + 1) (by omega) with ⟨i, hi, hp, _, h⟩ | ⟨hp, h⟩
  · rw [h, Option.bind_some]
    dsimp only
    rw [Option.bind_some]
    congr 1
    rw [decide_eq_true (by omega)]
    symm
    rw [List.any_eq_true]
    exact ⟨_, List.getElem_mem hi, hp⟩
  · rw [h, Option.bind_some]
    dsimp only
    rw [Option.bind_some]
    congr 1
    rw [decide_eq_false (by omega)]
    symm
    rw [List.any_eq_false]
    intro r hr; exact hp r hr
theorem region_Has_any {a : List Rect} (hl : a.length ≤ 1000000) (x y : Int) : slices_ContainsFunc_Rect a (fun y0 => region_Has_1 y0 x y) = some (a.any fun r => decide (VR r ∧ rin r x y)) :=
  contains_Rect (fun r _ => by unfold region_Has_1; rw [rect_Has_eq, Option.bind_some]) hl
theorem region_Has_fine {a : List Rect} (h : RR a) (x y : Int) : region_Has a x y = some (decide (cells a x y)) := by
  unfold region_Has
  rw [region_Has_any (by have := h.2.1; omega), Option.bind_some, region_Right_true h]
  have e : (a.any fun r => decide (VR r ∧ rin r x y)) = decide (cells a x y) := by
    rw [Bool.eq_iff_iff, List.any_eq_true, decide_eq_true_eq]
    refine exists_congr fun r => and_congr_right fun hr => ?_
    simp [h.1 r hr]
  rw [e]
  cases decide (cells a x y) <;> rfl
theorem region_Has_bad {a : List Rect} (hl : a.length ≤ 100000) (h : ¬ RR a) (x y : Int) : region_Has a x y = some false := by
  unfold region_Has
  rw [region_Has_any (by omega), Option.bind_some, region_Right_false hl h]
  cases (a.any fun r => decide (VR r ∧ rin r x y)) <;> rfl
/-- The number of cells. -/
def areaL (l : List Rect) : Int := sumL (fun r => (r.X1 - r.X0) * (r.Y1 - r.Y0)) l
def ind (b : Bool) : Int := if b then 1 else 0
theorem ind_bounds (b : Bool) : 0 ≤ ind b ∧ ind b ≤ 1 := by cases b <;> simp [ind]
theorem area_form {S : Int → Int → Prop} [∀ x y, Decidable (S x y)] {out : List Rect} (h : IsForm S out) {M : Nat} (hb : ∀ r ∈ out, 0 ≤ r.X0 ∧ r.X1 ≤ M ∧ 0 ≤ r.Y0 ∧ r.Y1 ≤ M) :
    areaL out = sumN (fun x => sumN (fun y => ind (decide (S x y))) M) M := by
  obtain ⟨G, h1, h2, h3, rfl⟩ := h
  have hG : ∀ g ∈ G, (0 ≤ g.1 ∧ g.2.1 ≤ M) ∧ ∀ s ∈ g.2.2, 0 ≤ s.1 ∧ s.2.1 ≤ M := by
    intro g hg
    have hmem : ∀ s ∈ g.2.2, (⟨g.1, s.1, g.2.1, s.2.1⟩ : Rect) ∈ flatG G := fun s hs => List.mem_flatMap.2 ⟨g, hg, List.mem_map.2 ⟨s, hs, rfl⟩⟩
    refine ⟨?_, fun s hs => ?_⟩
    · obtain ⟨a, b, c⟩ := g
      have hne := (canon_mem h1 hg).2
      cases c with
      | nil => exact absurd rfl hne
      | cons s c =>
        have := hb _ (hmem s (by simp))
        exact ⟨this.1, this.2.1⟩
    · have := hb _ (hmem s hs)
      exact ⟨this.2.2.1, this.2.2.2⟩
  have e1 : areaL (flatG G) = sumL (fun g => (g.2.1 - g.1) * sumN (fun y => ind (rval false g.2.2 (y : Int))) M) G := by
    unfold areaL flatG
    rw [sumL_flatMap]
    refine sumL_congr fun g hg => ?_
    obtain ⟨a, b, c⟩ := g
    have hc := h2 a b c hg
    rw [← sum_runs (w := ind) (e := false) rfl hc (hG _ hg).2, sumL_map, ← sumL_mul]
    refine sumL_congr fun s hs => ?_
    have : s.2.2 = true := by
      have := (canon_mem hc (show (s.1, s.2.1, s.2.2) ∈ c from hs)).2
      cases hv : s.2.2
      · rw [hv] at this; exact absurd rfl this
      · rfl
    rw [this]; simp [ind]
  rw [e1, sum_runs (e := []) (w := fun c : Col => sumN (fun y => ind (rval false c (y : Int))) M) (by simp only [rval]; exact sumN_zero) h1 fun r hr => (hG r hr).1]
  refine sumN_congr fun x _ => sumN_congr fun y _ => ?_
  congr 1
  rw [Bool.eq_iff_iff, h3, decide_eq_true_eq]
theorem area_bound {S : Int → Int → Prop} {out : List Rect} (h : IsForm S out) (hb : ∀ r ∈ out, VR r) : 0 ≤ areaL out ∧ areaL out ≤ 1099511627776 := by
  classical
  have hb' : ∀ r ∈ out, 0 ≤ r.X0 ∧ r.X1 ≤ ((1048576 : Nat) : Int) ∧ 0 ≤ r.Y0 ∧ r.Y1 ≤ ((1048576 : Nat) : Int) := fun r hr => by
    have := hb r hr
    unfold VR at this
    omega
  rw [area_form h hb']
  generalize hM : (1048576 : Nat) = M
  have h1 : ∀ x : Nat, 0 ≤ sumN (fun y : Nat => ind (decide (S (x : Int) (y : Int)))) M ∧ sumN (fun y : Nat => ind (decide (S (x : Int) (y : Int)))) M ≤ M * 1 := fun x =>
    ⟨sumN_nonneg fun i _ => (ind_bounds _).1, sumN_le fun i _ => (ind_bounds _).2⟩
  refine ⟨sumN_nonneg fun i _ => (h1 i).1, ?_⟩
  have h2 := sumN_le (f := fun x : Nat => sumN (fun y : Nat => ind (decide (S (x : Int) (y : Int)))) M) (m := M * 1) (n := M) fun i _ => (h1 i).2
  subst hM
  exact h2
theorem rect_Area_eq {r : Rect} (h : VR r) : rect_Area r = some ((r.X1 - r.X0) * (r.Y1 - r.Y0)) := by
  unfold rect_Area
  rw [rect_checked_eq, if_pos h, Option.bind_some]
  unfold VR at h
  have hm : (r.X1 - r.X0) * (r.Y1 - r.Y0) ≤ 1048576 * 1048576 := Int.mul_le_mul (by omega) (by omega) (by omega) (by omega)
  have hm0 : 0 ≤ (r.X1 - r.X0) * (r.Y1 - r.Y0) := Int.mul_nonneg (by omega) (by omega)
  rw [subI_some (by unfold inI; dsimp only; omega), Option.bind_some, subI_some (by unfold inI; dsimp only; omega), Option.bind_some, mulI_some (by unfold inI; dsimp only; omega), Option.bind_some]
theorem rect_area_bound {r : Rect} (h : VR r) : 0 ≤ (r.X1 - r.X0) * (r.Y1 - r.Y0) ∧ (r.X1 - r.X0) * (r.Y1 - r.Y0) ≤ 1099511627776 := by
  unfold VR at h
  exact ⟨Int.mul_nonneg (by omega) (by omega), Int.mul_le_mul (c := 1048576) (d := 1048576) (by omega) (by omega) (by omega) (by omega)⟩
theorem sumL_prefix {α : Type} {f : α → Int} {l : List α} (h : ∀ x ∈ l, 0 ≤ f x) (i : Nat) : 0 ≤ sumL f (l.take i) ∧ sumL f (l.take i) ≤ sumL f l := by
  have h1 := sumL_nonneg (l := l.take i) fun x hx => h x (List.mem_of_mem_take hx)
  have h2 := sumL_nonneg (l := l.drop i) fun x hx => h x (List.mem_of_mem_drop hx)
  have h3 : sumL f l = sumL f (l.take i) + sumL f (l.drop i) := by rw [← sumL_append, List.take_append_drop]
  omega
theorem sumL_snoc {α : Type} {f : α → Int} {l : List α} {i : Nat} (hi : i < l.length) : sumL f (l.take (i + 1)) = sumL f (l.take i) + f l[i] := by
  rw [List.take_succ_eq_append_getElem hi, sumL_append]; simp [sumL]
theorem region_Area_fine {a : List Rect} (h : RR a) : region_Area a = some (areaL a) := by
  unfold region_Area
  rw [region_Right_true h, Option.bind_some, if_neg (by simp)]
  have hl := h.2.1
  have hb := area_bound h.2.2 h.1
  have hn : ∀ r ∈ a, 0 ≤ (r.X1 - r.X0) * (r.Y1 - r.Y0) := fun r hr => (rect_area_bound (h.1 r hr)).1
  obtain ⟨h1, h2⟩ := iter_range (k := 0) (l := a) (body := region_Area_L0 a) (fun (s : Int) i => (s, i)) (fun s r => s + (r.X1 - r.X0) * (r.Y1 - r.Y0)) (fun i s => s = sumL (fun r => (r.X1 - r.X0) * (r.Y1 - r.Y0)) (a.take i)) (by
    intro i hi s hI
    have hp := sumL_prefix hn (i + 1)
    rw [sumL_snoc hi, ← hI] at hp
    unfold areaL at hb
    constructor
    · unfold region_Area_L0
      dsimp only
      rw [if_pos (by simpa using hi), getI_nat hi, Option.bind_some, rect_Area_eq (h.1 _ (List.getElem_mem hi)), Option.bind_some, addI_some (by unfold inI; omega), Option.bind_some, addI_one (by omega), Option.bind_some]
    · rw [sumL_snoc hi, ← hI]) (by
    intro s _
    unfold region_Area_L0
    dsimp only
    rw [if_neg (by simp)]) (s0 := 0) rfl (fuel := a.length + 1) (by omega)
  rw [h1, Option.bind_some]
  dsimp only
  rw [h2, List.take_length]
  rfl
theorem region_Area_bad {a : List Rect} (hl : a.length ≤ 100000) (h : ¬ RR a) : region_Area a = some 0 := by
  unfold region_Area
  rw [region_Right_false hl h, Option.bind_some, if_pos (by simp)]

/-! What is asked of a solid -/
def boxesOf (s : List Slab) : List Box := s.flatMap fun x => x.Area.map fun r => ⟨r, x.Z0, x.Z1⟩
theorem Boxes_L1 {x : Slab} (hx : x.Area.length ≤ 1000000) {o : List Box} (ho : o.length ≤ 100000000) :
    iterL (solid_Boxes_L1 x) (x.Area.length + 1) (o, 0) = some (.ex 2 (o ++ x.Area.map (fun r => ⟨r, x.Z0, x.Z1⟩), (x.Area.length : Int))) := by
  refine (iter_range (k := 2) (l := x.Area) (body := solid_Boxes_L1 x) (fun (s : List Box) i => (s, i)) (fun s r => s ++ [⟨r, x.Z0, x.Z1⟩]) (fun i s => s.length ≤ 100000000 + i) (by
    intro i hi s hI
    constructor
    · unfold solid_Boxes_L1
      dsimp only
      rw [if_pos (by simpa using hi), getI_nat hi, Option.bind_some, appI_some (by simp; omega), Option.bind_some, addI_one (by omega), Option.bind_some]
    · simp; omega) (by
    intro s _
    unfold solid_Boxes_L1
    dsimp only
    rw [if_neg (by simp)]) (s0 := o) (by omega) (by omega)).1.trans ?_
  rw [foldl_flatMap (fun r : Rect => [(⟨r, x.Z0, x.Z1⟩ : Box)]), List.map_eq_flatMap]
theorem solid_Boxes_fine {s : List Slab} (h : SS s) : solid_Boxes s = some (boxesOf s) := by
  unfold solid_Boxes
  rw [solid_Right_true h, Option.bind_some, if_neg (by simp)]
  have hl := h.len
  obtain ⟨h1, h2⟩ := iter_range (k := 0) (l := s) (body := solid_Boxes_L0 s) (fun (s : List Box) i => (s, i)) (fun o x => o ++ x.Area.map fun r => ⟨r, x.Z0, x.Z1⟩) (fun i o => o.length ≤ 200 * i) (by
    intro i hi o hI
    have hx := (h.ok _ (List.getElem_mem hi)).2.2.2.1
    constructor
    · unfold solid_Boxes_L0
      dsimp only
      rw [if_pos (by simpa using hi), getI_nat hi, Option.bind_some, Boxes_L1 (by omega) (by omega), Option.bind_some]
      dsimp only
      rw [addI_one (by omega), Option.bind_some]
    · simp; omega) (by
    intro o _
    unfold solid_Boxes_L0
    dsimp only
    rw [if_neg (by simp)]) (s0 := []) (by simp) (fuel := s.length + 1) (by omega)
  rw [h1, Option.bind_some, foldl_flatMap (fun x : Slab => x.Area.map fun r => (⟨r, x.Z0, x.Z1⟩ : Box))]
  rfl
theorem solid_Boxes_bad {s : List Slab} (ha : ∀ b ∈ s, b.Area.length ≤ 100000) (h : ¬ SS s) : solid_Boxes s = some [] := by
  unfold solid_Boxes
  rw [solid_Right_false ha h, Option.bind_some, if_pos (by simp)]
theorem boxesOf_length {s : List Slab} (h : SS s) : (boxesOf s).length ≤ 16000 := by
  have hl := h.len
  have key : ∀ l : List Slab, (∀ b ∈ l, b.Area.length ≤ 200) → (boxesOf l).length ≤ 200 * l.length := by
    intro l
    induction l with
    | nil => intro _; simp [boxesOf]
    | cons a l ih =>
      intro hb
      have h1 := ih fun b hb' => hb b (by simp [hb'])
      have h2 := hb a (by simp)
      unfold boxesOf at h1 ⊢
      simp only [List.flatMap_cons, List.length_append, List.length_map, List.length_cons]
      omega
  have := key s fun b hb => (h.ok b hb).2.2.2.1
  omega
theorem boxesOf_VB {s : List Slab} (h : SS s) : ∀ b ∈ boxesOf s, VB b := by
  intro b hb
  obtain ⟨x, hx, hb⟩ := List.mem_flatMap.1 hb
  obtain ⟨r, hr, rfl⟩ := List.mem_map.1 hb
  have h1 := h.ok x hx
  have h2 := slab_pos h.canon hx
  exact ⟨h1.2.2.1 r hr, h1.1, h2.1, h1.2.1⟩
theorem bcells_boxesOf {s : List Slab} (h : Canon [] (slabRuns s)) (x y z : Int) : bcells (boxesOf s) x y z ↔ scells s x y z := by
  constructor
  · rintro ⟨b, hb, h1, h2⟩
    obtain ⟨q, hq, hb⟩ := List.mem_flatMap.1 hb
    obtain ⟨r, hr, rfl⟩ := List.mem_map.1 hb
    unfold scells
    rw [sect_mem h hq h2.1 h2.2]
    exact ⟨r, hr, h1⟩
  · intro hc
    unfold scells at hc
    rcases rval_mem (e := []) (l := slabRuns s) (x := z) with h1 | ⟨p, q, h1, h2⟩
    · unfold sect at hc; rw [h1] at hc; simp [cells] at hc
    · obtain ⟨b, hb, he⟩ := List.mem_map.1 h1
      simp only [Prod.mk.injEq] at he
      obtain ⟨r, hr, hr'⟩ := hc
      refine ⟨⟨r, b.Z0, b.Z1⟩, List.mem_flatMap.2 ⟨b, hb, List.mem_map.2 ⟨r, ?_, rfl⟩⟩, hr', by dsimp only; omega⟩
      have : sect s z = b.Area := by unfold sect; rw [← he.2.2]
      rw [← this]; exact hr
/-- The number of cubes. -/
def boxVol (b : Box) : Int := (b.Z1 - b.Z0) * ((b.Base.X1 - b.Base.X0) * (b.Base.Y1 - b.Base.Y0))
def vol (s : List Slab) : Int := sumL boxVol (boxesOf s)
theorem vol_slabs (s : List Slab) : vol s = sumL (fun x => (x.Z1 - x.Z0) * areaL x.Area) s := by
  unfold vol boxesOf
  rw [sumL_flatMap]
  refine sumL_congr fun x _ => ?_
  rw [sumL_map, areaL, ← sumL_mul]
  rfl
theorem vol_sect {s : List Slab} (h : SS s) {N : Nat} (hN : N = 4096) : vol s = sumN (fun z => areaL (sect s (z : Int))) N := by
  rw [vol_slabs]
  have := sum_runs (e := []) (w := areaL) rfl (l := slabRuns s) (N := N) h.canon (fun r hr => by
    obtain ⟨b, hb, rfl⟩ := List.mem_map.1 hr
    have := h.ok b hb
    subst hN
    exact ⟨this.1, this.2.1⟩)
  rw [← show _ = sumN (fun z => areaL (sect s (z : Int))) N from this]
  unfold slabRuns
  rw [sumL_map]
theorem sect_RR_bound {s : List Slab} (h : SS s) (z : Int) : 0 ≤ areaL (sect s z) ∧ areaL (sect s z) ≤ 1099511627776 := area_bound (h.sect z).2.2 (h.sect z).1
theorem vol_bound {s : List Slab} (h : SS s) : 0 ≤ vol s ∧ vol s ≤ 4503599627370496 := by
  obtain ⟨N, hN⟩ : ∃ N : Nat, N = 4096 := ⟨_, rfl⟩
  rw [vol_sect h hN]
  refine ⟨sumN_nonneg fun i _ => (sect_RR_bound h _).1, ?_⟩
  have := sumN_le (f := fun z : Nat => areaL (sect s (z : Int))) (m := 1099511627776) (n := N) fun i _ => (sect_RR_bound h _).2
  subst hN
  exact this
/-- The number of cubes of a set. -/
noncomputable def cnt (M N : Nat) (S : Int → Int → Int → Bool) : Int := sumN (fun z => sumN (fun x => sumN (fun y => ind (S x y z)) M) M) N
theorem vol_cnt {s : List Slab} (h : SS s) : vol s = cnt 1048576 4096 fun x y z => decide (scells s x y z) := by
  rw [vol_sect h rfl]
  unfold cnt
  refine sumN_congr fun z _ => ?_
  have hz := h.sect (z : Int)
  have := area_form (S := fun x y => scells s x y z) (hz.2.2.congr fun x y => Iff.rfl) (M := 1048576) (fun r hr => by
    have := hz.1 r hr
    unfold VR at this
    omega)
  exact this
theorem cnt_add {M N : Nat} {S T U V : Int → Int → Int → Bool} (h : ∀ x y z, ind (S x y z) + ind (T x y z) = ind (U x y z) + ind (V x y z)) : cnt M N S + cnt M N T = cnt M N U + cnt M N V := by
  unfold cnt
  rw [← sumN_add, ← sumN_add]
  refine sumN_congr fun z _ => ?_
  rw [← sumN_add, ← sumN_add]
  refine sumN_congr fun x _ => ?_
  rw [← sumN_add, ← sumN_add]
  exact sumN_congr fun y _ => h _ _ _
theorem boxVol_bound {b : Box} (h : VB b) : 0 ≤ boxVol b ∧ boxVol b ≤ 4503599627370496 := by
  obtain ⟨h1, h2, h3, h4⟩ := h
  have := rect_area_bound h1
  unfold boxVol
  exact ⟨Int.mul_nonneg (by omega) this.1, Int.mul_le_mul (c := 4096) (d := 1099511627776) (by omega) this.2 this.1 (by omega)⟩
theorem solid_Volume_fine {s : List Slab} (h : SS s) : solid_Volume s = some (vol s) := by
  unfold solid_Volume
  rw [solid_Boxes_fine h, Option.bind_some]
  have hl := boxesOf_length h
  have hv := boxesOf_VB h
  have hb := vol_bound h
  unfold vol at hb ⊢
  generalize boxesOf s = l at hl hv hb
  obtain ⟨h1, h2⟩ := iter_range (k := 0) (l := l) (body := solid_Volume_L0 l) (fun (s : Int) i => (s, i)) (fun s b => s + boxVol b) (fun i s => s = sumL boxVol (l.take i)) (by
    intro i hi s hI
    have hbi := hv _ (List.getElem_mem hi)
    have hp := sumL_prefix (fun b hb => (boxVol_bound (hv b hb)).1) (i + 1)
    rw [sumL_snoc hi, ← hI] at hp
    have hbb := boxVol_bound hbi
    constructor
    · unfold solid_Volume_L0
      dsimp only
      obtain ⟨g1, g2, g3, g4⟩ := hbi
      rw [if_pos (by simpa using hi), getI_nat hi, Option.bind_some, subI_some (by unfold inI; omega), Option.bind_some, rect_Area_eq g1, Option.bind_some, mulI_some (by unfold boxVol at hbb; unfold inI; omega), Option.bind_some,
        addI_some (by have e : boxVol l[i] = (l[i].Z1 - l[i].Z0) * ((l[i].Base.X1 - l[i].Base.X0) * (l[i].Base.Y1 - l[i].Base.Y0)) := rfl
                      rw [← e]; unfold inI; omega), Option.bind_some, addI_one (by omega), Option.bind_some]
      rfl
    · rw [sumL_snoc hi, ← hI]) (by
    intro s _
    unfold solid_Volume_L0
    dsimp only
    rw [if_neg (by simp)]) (s0 := 0) rfl (fuel := l.length + 1) (by omega)
  rw [h1, Option.bind_some]
  dsimp only
  rw [h2, List.take_length]
theorem solid_Volume_bad {s : List Slab} (ha : ∀ b ∈ s, b.Area.length ≤ 100000) (h : ¬ SS s) : solid_Volume s = some 0 := by
  unfold solid_Volume
  rw [solid_Boxes_bad ha h, Option.bind_some]
  have e : solid_Volume_L0 [] (0, 0) = some (.ex 0 (0, 0)) := by
    unfold solid_Volume_L0
    dsimp only
    rw [if_neg (by simp)]
  simp only [List.length_nil, Nat.zero_add, iterL, e, Option.bind_some]
theorem clone_Rect {a : List Rect} (h : a.length ≤ 1000000) : slices_Clone_Rect a = some a := by
  unfold slices_Clone_Rect
  rw [appI_some (by simp; omega), Option.bind_some, List.nil_append]
theorem solid_Section_fine {s : List Slab} (h : SS s) (z : Int) : solid_Section s z = some (sect s z) := by
  unfold solid_Section
  rw [solid_Right_true h, Option.bind_some, if_neg (by simp), at_eq (by have := h.len; omega), Option.bind_some, clone_Rect (by have := (h.sect z).2.1; omega), Option.bind_some]
theorem solid_Section_bad {s : List Slab} (ha : ∀ b ∈ s, b.Area.length ≤ 100000) (h : ¬ SS s) (z : Int) : solid_Section s z = some [] := by
  unfold solid_Section
  rw [solid_Right_false ha h, Option.bind_some, if_pos (by simp)]
theorem solid_Has_fine {s : List Slab} (h : SS s) (x y z : Int) : solid_Has s x y z = some (decide (scells s x y z)) := by
  unfold solid_Has
  rw [solid_Section_fine h, Option.bind_some, region_Has_fine (h.sect z), Option.bind_some]
  exact rfl
theorem solid_Has_bad {s : List Slab} (ha : ∀ b ∈ s, b.Area.length ≤ 100000) (h : ¬ SS s) (x y z : Int) : solid_Has s x y z = some false := by
  unfold solid_Has
  rw [solid_Section_bad ha h, Option.bind_some, region_Has_fine RR_nil, Option.bind_some]
  congr 1
/-- The height over a cell. -/
def IsTop (s : List Slab) (x y t : Int) : Prop := 0 ≤ t ∧ (∀ z, scells s x y z → z < t) ∧ (t = 0 ∨ scells s x y (t - 1))
theorem IsTop.unique {s : List Slab} {x y t t' : Int} (h : IsTop s x y t) (h' : IsTop s x y t') : t = t' := by
  obtain ⟨a1, a2, a3⟩ := h
  obtain ⟨b1, b2, b3⟩ := h'
  rcases a3 with rfl | a3
  · rcases b3 with rfl | b3
    · rfl
    · have := a2 _ b3; omega
  · have := b2 _ a3
    rcases b3 with rfl | b3
    · omega
    · have := a2 _ b3; omega
theorem scells_slab {s : List Slab} (h : Canon [] (slabRuns s)) {x y z : Int} : scells s x y z ↔ ∃ b ∈ s, cells b.Area x y ∧ b.Z0 ≤ z ∧ z < b.Z1 := by
  constructor
  · intro hc
    unfold scells at hc
    rcases rval_mem (e := []) (l := slabRuns s) (x := z) with h1 | ⟨p, q, h1, h2⟩
    · unfold sect at hc; rw [h1] at hc; simp [cells] at hc
    · obtain ⟨b, hb, he⟩ := List.mem_map.1 h1
      simp only [Prod.mk.injEq] at he
      have : sect s z = b.Area := by unfold sect; rw [← he.2.2]
      exact ⟨b, hb, by rw [← this]; exact hc, by omega⟩
  · rintro ⟨b, hb, h1, h2, h3⟩
    unfold scells
    rw [sect_mem h hb h2 h3]; exact h1
theorem slab_order {s : List Slab} (h : Canon [] (slabRuns s)) {i j : Nat} (hij : i < j) (hj : j < s.length) : (s[i]'(by omega)).Z1 ≤ s[j].Z0 := by
  have := List.pairwise_iff_getElem.1 (canon_pairwise h) i j (by rw [slabRuns_length]; omega) (by rw [slabRuns_length]; exact hj) hij
  simpa [slabRuns] using this
theorem solid_Top_fine {s : List Slab} (h : SS s) (x y : Int) : ∃ t, solid_Top s x y = some t ∧ IsTop s x y t := by
  unfold solid_Top
  have hl := h.len
  rw [solid_Right_true h, Option.bind_some, if_neg (by simp), subI_some (by unfold inI; omega), Option.bind_some]
  have key : ∀ m : Nat, m ≤ s.length → (∀ j (hj : j < s.length), m ≤ j → ¬ cells s[j].Area x y) → ∀ fuel, m < fuel →
      ∃ f, iterL (solid_Top_L0 s x y) fuel ((m : Int) - 1) = some f ∧ ((∃ n, f = .ex 0 n ∧ IsTop s x y 0) ∨ ∃ t, f = .ret t ∧ IsTop s x y t) := by
    intro m
    induction m with
    | zero =>
      intro _ hno fuel hf
      obtain ⟨fuel, rfl⟩ : ∃ m, fuel = m + 1 := ⟨fuel - 1, by omega⟩
      refine ⟨.ex 0 (((0 : Nat) : Int) - 1), ?_, .inl ⟨_, rfl, Int.le_refl _, fun z hz => ?_, .inl rfl⟩⟩
      · have e : solid_Top_L0 s x y (((0 : Nat) : Int) - 1) = some (.ex 0 (((0 : Nat) : Int) - 1)) := by
          unfold solid_Top_L0
          rw [if_neg (by decide)]
        simp only [iterL, e]
      · obtain ⟨b, hb, hc, _⟩ := (scells_slab h.canon).1 hz
        obtain ⟨j, hj, rfl⟩ := List.getElem_of_mem hb
        exact absurd hc (hno j hj (Nat.zero_le _))
    | succ m ih =>
      intro hm hno fuel hf
      obtain ⟨fuel, rfl⟩ : ∃ m, fuel = m + 1 := ⟨fuel - 1, by omega⟩
      have em : ((m + 1 : Nat) : Int) - 1 = (m : Int) := by omega
      have hml : m < s.length := by omega
      have hRR := (h.ok _ (List.getElem_mem hml)).2.2
      rw [em]
      by_cases hc : cells s[m].Area x y
      · refine ⟨.ret s[m].Z1, ?_, .inr ⟨_, rfl, ?_, fun z hz => ?_, .inr ?_⟩⟩
        · have e : solid_Top_L0 s x y (m : Int) = some (.ret s[m].Z1) := by
            unfold solid_Top_L0
            rw [if_pos (by simp), getI_nat hml, Option.bind_some, region_Has_fine hRR, Option.bind_some, if_pos (by simpa using hc), Option.bind_some]
          simp only [iterL, e]
        · have h1 := (h.ok _ (List.getElem_mem hml)).1
          have h2 := (slab_pos h.canon (List.getElem_mem hml)).1
          omega
        · obtain ⟨b, hb, hc', h2, h3⟩ := (scells_slab h.canon).1 hz
          obtain ⟨j, hj, rfl⟩ := List.getElem_of_mem hb
          rcases Nat.lt_trichotomy j m with h' | h' | h'
          · have := slab_order h.canon h' hml
            have h2 := (slab_pos h.canon (List.getElem_mem hml)).1
            omega
          · subst h'; exact h3
          · exact absurd hc' (hno j hj (by omega))
        · have h2 := (slab_pos h.canon (List.getElem_mem hml)).1
          exact (scells_slab h.canon).2 ⟨_, List.getElem_mem hml, hc, by omega, by omega⟩
      · have e : solid_Top_L0 s x y (m : Int) = some (.go ((m : Int) - 1)) := by
          unfold solid_Top_L0
          rw [if_pos (by simp), getI_nat hml, Option.bind_some, region_Has_fine hRR, Option.bind_some, if_neg (by simpa using hc), subI_some (by unfold inI; omega), Option.bind_some]
        simp only [iterL, e]
        exact ih (by omega) (fun j hj hmj => by
          rcases Nat.lt_or_ge m j with h' | h'
          · exact hno j hj (by omega)
          · have : j = m := by omega
            subst this; exact hc) fuel (by omega)
  obtain ⟨f, h1, h2⟩ := key s.length (Nat.le_refl _) (fun j hj h' => absurd hj (by omega)) (s.length + 1) (by omega)
  rw [h1, Option.bind_some]
  rcases h2 with ⟨n, rfl, h2⟩ | ⟨t, rfl, h2⟩
  · exact ⟨0, rfl, h2⟩
  · exact ⟨t, rfl, h2⟩
theorem solid_Top_bad {s : List Slab} (ha : ∀ b ∈ s, b.Area.length ≤ 100000) (h : ¬ SS s) (x y : Int) : solid_Top s x y = some 0 := by
  unfold solid_Top
  rw [solid_Right_false ha h, Option.bind_some, if_pos (by simp)]
theorem solid_Same_eq {a b : List Slab} (hl : a.length ≤ 1000000) (ha : ∀ s ∈ a, s.Area.length ≤ 1000000) : solid_Same a b = some (decide (a = b)) := by
  unfold solid_Same slices_EqualFunc_Slab_Slab_Slab
  by_cases hlen : a.length = b.length
  · rw [if_neg (by simp [hlen])]
    have heq : ∀ x ∈ a, ∀ y : Slab, solid_Same_1 x y = some (decide (x = y)) := by
      intro x hx y
      unfold solid_Same_1
      obtain ⟨x0, x1, xa⟩ := x
      obtain ⟨y0, y1, ya⟩ := y
      have hxa := ha _ hx
      dsimp only at hxa ⊢
      by_cases h0 : x0 = y0
      · by_cases h1 : x1 = y1
        · rw [if_pos (by simp [h0, h1]), region_Same_eq hxa, Option.bind_some, Option.bind_some]; simp [h0, h1]
        · rw [if_neg (by simp [h1]), Option.bind_some]; simp [h1]
      · rw [if_neg (by simp [h0]), Option.bind_some]; simp [h0]
    rcases iter_find (l := a.zip b) (body := slices_EqualFunc_Slab_Slab_Slab_L0 a b solid_Same_1) (k := 0) (fun p => p.1 ≠ p.2) (fun _ => false) (by
      intro i hi
      simp only [List.length_zip] at hi
      have h1 : i < a.length := by omega
      have h2 : i < b.length := by omega
      unfold slices_EqualFunc_Slab_Slab_Slab_L0
      rw [if_pos (by simpa using h1), getI_nat h1, Option.bind_some, getI_nat h2, Option.bind_some, heq _ (List.getElem_mem h1), Option.bind_some]
      simp only [List.getElem_zip]
      by_cases he : a[i] = b[i]
      · right
        rw [if_neg (by simpa using he), addI_one (show i < 4611686018427387904 by omega), Option.bind_some]
        exact ⟨by simpa using he, rfl⟩
      · left
        rw [if_pos (by simpa using he)]
        exact ⟨he, rfl⟩) (by
      have e : ((a.zip b).length : Int) = (a.length : Int) := by simp; omega
      rw [e]
      unfold slices_EqualFunc_Slab_Slab_Slab_L0
      rw [if_neg (by simp)]) (fuel := a.length + 1) (by simp; omega) with ⟨i, hi, hp, _, h⟩ | ⟨hp, h⟩
    · rw [h, Option.bind_some]
      dsimp only
      rw [Option.bind_some]
      congr 1
      symm
      rw [decide_eq_false_iff_not]
      intro e; subst e; simp at hp
    · rw [h, Option.bind_some]
      dsimp only
      rw [Option.bind_some]
      congr 1
      symm
      rw [decide_eq_true_iff]
      refine List.ext_getElem hlen fun i h1 h2 => ?_
      have := hp (a[i], b[i]) (by
        rw [List.mem_iff_getElem]
        exact ⟨i, by simp; omega, by simp⟩)
      simpa using this
  · rw [if_pos (by simp; omega), Option.bind_some]
    congr 1
    symm
    rw [decide_eq_false_iff_not]
    intro e; exact hlen (by rw [e])
end Go.Proofs.Ytmniloampanhfaa
