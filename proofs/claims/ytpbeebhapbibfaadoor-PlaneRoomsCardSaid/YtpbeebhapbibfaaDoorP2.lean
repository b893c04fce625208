/- The plain part of the proof (no program in sight), part 2 -/
import Derived.Test.YtpbeebhapbibfaaDoorP1
namespace Go.Proofs.YtpbeebhapbibfaaDoor
open Go.Gb
set_option linter.unusedVariables false
set_option linter.unusedSimpArgs false
set_option linter.unusedSectionVars false
set_option linter.unusedVariables false
set_option linter.unusedSimpArgs false

theorem room_tops {b : Rect} {l : List Plane} {x y z : Int} (hv : ∀ p ∈ l, VP p) (hz : z < 4096) : roomS b l (z + 1) x y ↔ grd x y ∧ z < tops b l x y := and_congr_right fun _ => allowed_tops hv hz
theorem cells_grd {a : List Rect} (h : ∀ r ∈ a, VR r) {x y : Int} (hc : cells a x y) : grd x y := by
  obtain ⟨r, hr, hx⟩ := hc
  have := h r hr
  unfold VR at this
  unfold rin at hx
  unfold grd
  omega
/-- All cubes of the first slabs are allowed. -/
def okTo (b : Rect) (l : List Plane) (s : List Slab) (i : Nat) : Prop := ∀ j (hj : j < i) (h : j < s.length), ∀ x y, cells s[j].Area x y → s[j].Z1 ≤ tops b l x y
theorem okTo.zero {b : Rect} {l : List Plane} {s : List Slab} : okTo b l s 0 := fun j hj => absurd hj (Nat.not_lt_zero j)
theorem okTo.succ {b : Rect} {l : List Plane} {s : List Slab} {i : Nat} (h : okTo b l s i) (hi : i < s.length) (g : ∀ x y, cells s[i].Area x y → s[i].Z1 ≤ tops b l x y) : okTo b l s (i + 1) := by
  intro j hj hl
  rcases Nat.lt_or_ge j i with c | c
  · exact h j c hl
  · obtain rfl : j = i := by omega
    exact g
theorem okTo.all {b : Rect} {l : List Plane} {s : List Slab} (hs : SS s) (h : okTo b l s s.length) : Alw b l s := by
  intro x y z hc
  obtain ⟨q, hq, h1, h2, h3⟩ := (scells_slab hs.canon).1 hc
  obtain ⟨j, hj, rfl⟩ := List.getElem_of_mem hq
  have := h j hj hj x y h1
  omega
theorem first_of {b : Rect} {l : List Plane} {s : List Slab} {i : Nat} {z : Int} {p : Point3} (hv : VL b l) (hs : SS s) (h : okTo b l s i) (hi : i < s.length) (h1 : s[i].Z0 ≤ z) (h2 : z < s[i].Z1)
    (hb : ∀ x y, cells s[i].Area x y → ∀ z', s[i].Z0 ≤ z' → z' < z → z' < tops b l x y) (hp : p.Z = z) (hl : IsLeast2 (fun x y => cells s[i].Area x y ∧ ¬ roomS b l (z + 1) x y) p) : IsFirst b l s p := by
  obtain ⟨g1, g2, g3⟩ := hs.ok _ (List.getElem_mem hi)
  have rt : ∀ x y, cells s[i].Area x y → (¬ roomS b l (z + 1) x y ↔ tops b l x y ≤ z) := by
    intro x y hc
    rw [room_tops hv.2 (by omega)]
    have := cells_grd g3.1 hc
    constructor
    · intro h'
      refine Classical.byContradiction fun c => h' ⟨this, by omega⟩
    · rintro h' ⟨_, h''⟩
      omega
  obtain ⟨m1, m2⟩ := hl.mem
  subst hp
  refine ⟨(scells_slab hs.canon).2 ⟨_, List.getElem_mem hi, m1, h1, h2⟩, (rt _ _ m1).1 m2, fun x y z' hc ht => ?_⟩
  obtain ⟨q, hq, f1, f2, f3⟩ := (scells_slab hs.canon).1 hc
  obtain ⟨j, hj, rfl⟩ := List.getElem_of_mem hq
  rcases Nat.lt_trichotomy j i with c | c | c
  · have := h j c hj x y f1
    omega
  · subst c
    by_cases hz : z' < p.Z
    · have := hb x y f1 z' f2 hz
      omega
    · by_cases hz' : p.Z = z'
      · subst hz'
        right
        exact ⟨rfl, hl.le x y ⟨f1, (rt x y f1).2 ht⟩⟩
      · left; omega
  · have := slab_order hs.canon c hj
    left; omega
theorem plane_First_eq {b : Rect} {l : List Plane} {s : List Slab} (hv : VL b l) (hl : l.length ≤ 1000000) (hs : SS s) :
    (Alw b l s ∧ plane_First b l s = some (⟨0, 0, 0⟩, false)) ∨ ∃ p, IsFirst b l s p ∧ plane_First b l s = some (p, true) := by
  have hsl := hs.len
  unfold plane_First
  rw [planeValid_eq hl, Option.bind_some, decide_eq_true hv, if_neg (by simp), solid_Right_true hs, Option.bind_some, Option.bind_some, if_neg (by simp)]
  rcases iter_fromR (k := 0) (body := plane_First_L0 b l s) (fun (p : Point3) i => (i, p)) 0 s.length (Nat.zero_le _) (fun i _ => okTo b l s i) (fun r => r.2 = true ∧ IsFirst b l s r.1) (by
    intro i _ hi p hI
    obtain ⟨g1, g2, g3⟩ := hs.ok _ (List.getElem_mem hi)
    have gp := slab_pos hs.canon (List.getElem_mem hi)
    obtain ⟨h, e1, hm, hlow⟩ := plane_lowest_eq (a := s[i].Area) hv hl g3.1 (by have := g3.2.1; omega)
    unfold plane_First_L0
    dsimp only
    rw [if_pos (by simpa using hi), getI_nat hi, Option.bind_some, e1, Option.bind_some]
    by_cases hc : s[i].Z1 ≤ max s[i].Z0 h
    · left
      rw [if_pos (by simpa using hc), addI_one (by omega), Option.bind_some]
      exact ⟨p, rfl, hI.succ hi ((hlow s[i].Z1).1 (by omega)).2⟩
    · right
      rw [if_neg (by simpa using hc)]
      generalize hz : max s[i].Z0 h = z at hc
      have hbad : ∃ x y, cells s[i].Area x y ∧ ¬ roomS b l (z + 1) x y := by
        refine Classical.byContradiction fun hn => ?_
        have := (hlow (z + 1)).2 ⟨by omega, fun x y hxy => ?_⟩
        · omega
        · refine Classical.byContradiction fun c => hn ⟨x, y, hxy, fun hr => ?_⟩
          have := ((room_tops hv.2 (by omega)).1 hr).2
          omega
      have hbelow : ∀ x y, cells s[i].Area x y → ∀ z', s[i].Z0 ≤ z' → z' < z → z' < tops b l x y := by
        intro x y hxy z' h1 h2
        have := ((hlow h).1 (Int.le_refl h)).2 x y hxy
        omega
      obtain ⟨r, ok, f1, f2⟩ := plane_room_eq hv hl (z := z + 1) (by omega)
      have hR := f2.list
      obtain ⟨o, o1, o2⟩ := minus_eq g3 hR.rr
      have o1 : IsForm (fun x y => cells s[i].Area x y ∧ ¬ roomS b l (z + 1) x y) o := o1.congr fun x y => by rw [hR.2.2]
      rw [addI_some (by unfold inI; omega), Option.bind_some, f1, Option.bind_some, app_room, Option.bind_some, o2, Option.bind_some]
      obtain ⟨bx, by', hb1⟩ := hbad
      have h0 : 0 < o.length := form_some o1 hb1
      unfold lim
      by_cases h200 : 200 < o.length
      · rw [if_pos h200]
        dsimp only
        rw [if_neg (by decide)]
        obtain ⟨q, q1, q2, q3⟩ := plane_first_eq (a := s[i].Area) hv hl g3.1 (by have := g3.2.1; omega) (z := z) (by omega) ⟨bx, by', hb1⟩
        rw [q1, Option.bind_some]
        exact ⟨_, rfl, rfl, first_of hv hs hI hi (by omega) (by omega) hbelow q2 q3⟩
      · rw [if_neg h200]
        dsimp only
        rw [if_pos (by simpa using h0), show getI o 0 = some o[0] from getI_nat (i := 0) h0, Option.bind_some, Option.bind_some]
        exact ⟨_, rfl, rfl, first_of hv hs hI hi (by omega) (by omega) hbelow rfl (form_least o1 h0)⟩) (by
    intro p _
    unfold plane_First_L0
    dsimp only
    rw [if_neg (by simp)]) (s0 := ⟨0, 0, 0⟩) okTo.zero (fuel := s.length + 1) (by omega) with ⟨p, h1, h2⟩ | ⟨r, h1, h2, h3⟩
  · left
    have h1' : iterL (plane_First_L0 b l s) (s.length + 1) (0, (⟨0, 0, 0⟩ : Point3)) = _ := h1
    rw [h1', Option.bind_some]
    exact ⟨h2.all hs, rfl⟩
  · right
    have h1' : iterL (plane_First_L0 b l s) (s.length + 1) (0, (⟨0, 0, 0⟩ : Point3)) = _ := h1
    rw [h1', Option.bind_some]
    refine ⟨r.1, h3, ?_⟩
    rw [← h2]
theorem contains_Slab {a : List Slab} {f : Slab → Option Bool} {p : Slab → Bool} (hf : ∀ r ∈ a, f r = some (p r)) (hl : a.length ≤ 1000000) : slices_ContainsFunc_Slab a f = some (a.any p) := by
  unfold slices_ContainsFunc_Slab slices_IndexFunc_Slab
  rcases iter_find (l := a) (body := slices_IndexFunc_Slab_L0 a f) (k := 0) (fun r => p r = true) (fun i => (i : Int)) (by
    intro i hi
    unfold slices_IndexFunc_Slab_L0
    rw [if_pos (by simpa using hi), getI_nat hi, Option.bind_some, hf _ (List.getElem_mem hi), Option.bind_some]
    cases hp : p a[i]
    · right
      rw [if_neg (by simp), addI_one (by omega), Option.bind_some]
      exact ⟨by simp, rfl⟩
    · left
      exact ⟨rfl, if_pos rfl⟩) (by
    unfold slices_IndexFunc_Slab_L0
    rw [if_neg (by simp)]) (fuel := a.length + 1) (by omega) with ⟨i, hi, hp, _, h⟩ | ⟨hp, h⟩
  · rw [h, Option.bind_some]
    dsimp only
    rw [Option.bind_some]
    congr 1
    rw [decide_eq_true (by omega)]
    symm
    rw [List.any_eq_true]
    exact ⟨_, List.getElem_mem hi, hp⟩
  · rw [h, Option.bind_some]
    dsimp only
    rw [Option.bind_some]
    congr 1
    rw [decide_eq_false (by omega)]
    symm
    rw [List.any_eq_false]
    exact hp
theorem alw_slabs {b : Rect} {l : List Plane} {s : List Slab} (hs : SS s) : Alw b l s ↔ ∀ c ∈ s, ∀ x y, cells c.Area x y → c.Z1 ≤ tops b l x y := by
  constructor
  · intro h c hc x y hx
    have gp := slab_pos hs.canon hc
    have := h x y (c.Z1 - 1) ((scells_slab hs.canon).2 ⟨c, hc, hx, by omega, by omega⟩)
    omega
  · intro h x y z hx
    obtain ⟨c, hc, h1, h2, h3⟩ := (scells_slab hs.canon).1 hx
    have := h c hc x y h1
    omega
theorem plane_Allows_eq {b : Rect} {l : List Plane} {s : List Slab} (hv : VL b l) (hl : l.length ≤ 1000000) (hs : SS s) : ∃ c, plane_Allows b l s = some c ∧ (c = true ↔ Alw b l s) := by
  have hsl := hs.len
  unfold plane_Allows
  rw [planeValid_eq hl, Option.bind_some, decide_eq_true hv, if_neg (by simp), solid_Right_true hs, Option.bind_some, Option.bind_some, if_neg (by simp)]
  have key : ∀ c ∈ s, ∃ v, plane_Allows_1 c b l = some v ∧ (v = false ↔ ∀ x y, cells c.Area x y → c.Z1 ≤ tops b l x y) := by
    intro c hc
    obtain ⟨g1, g2, g3⟩ := hs.ok _ hc
    obtain ⟨h, e1, hm, hlow⟩ := plane_lowest_eq (a := c.Area) hv hl g3.1 (by have := g3.2.1; omega)
    unfold plane_Allows_1
    rw [e1, Option.bind_some]
    refine ⟨_, rfl, ?_⟩
    rw [decide_eq_false_iff_not, Int.not_lt, hlow]
    exact ⟨fun g => g.2, fun g => ⟨g2, g⟩⟩
  rw [contains_Slab (p := fun c => (plane_Allows_1 c b l).getD false) (fun c hc => by obtain ⟨v, e, _⟩ := key c hc; rw [e]; rfl) (by omega), Option.bind_some]
  refine ⟨_, rfl, ?_⟩
  rw [alw_slabs hs, Bool.not_eq_true', List.any_eq_false]
  constructor
  · intro h c hc
    obtain ⟨v, e, g⟩ := key c hc
    have := h c hc
    rw [e] at this
    exact g.1 (by simpa using this)
  · intro h c hc
    obtain ⟨v, e, g⟩ := key c hc
    rw [e]
    simpa using g.2 (h c hc)
end Go.Proofs.YtpbeebhapbibfaaDoor

namespace Go.Proofs.YtpbeebhapbibfaaDoor
open Go.Gb
set_option linter.unusedVariables false
set_option linter.unusedSimpArgs false
set_option linter.unusedSectionVars false
set_option linter.unusedVariables false
set_option linter.unusedSimpArgs false

theorem first_alw {b : Rect} {l : List Plane} {s : List Slab} {p : Point3} (h : IsFirst b l s p) : ¬ Alw b l s := fun g => by
  have := g _ _ _ h.mem
  have := h.bad
  omega
theorem grid_has (x y : Int) : rect_Has ⟨0, 0, 1048576, 1048576⟩ x y = some (decide (grd x y)) := by
  rw [rect_Has_eq]
  congr 1
  rw [decide_eq_decide]
  exact ⟨fun h => grid_rin.1 h.2, fun h => ⟨by unfold VR; decide, grid_rin.2 h⟩⟩
theorem plane_Top_fine {b : Rect} {l : List Plane} {x y : Int} (hv : VL b l) (hl : l.length ≤ 1000000) (hg : grd x y) : plane_Top b l x y = some (max 0 (tops b l x y)) := by
  have hg' := hg
  unfold grd at hg'
  unfold plane_Top
  rw [planeValid_eq hl, Option.bind_some, decide_eq_true hv, if_neg (by simp), grid_has, Option.bind_some, Option.bind_some, decide_eq_true hg, if_neg (by simp), plane_top_eq hv hl (by omega) (by omega), Option.bind_some]
theorem within_eq (n lo hi : Int) : plane_within n lo hi = some (decide (lo ≤ n ∧ n ≤ hi)) := by
  unfold plane_within
  congr 1
  rw [Bool.eq_iff_iff]
  simp
theorem Room_bad {b : Rect} {l : List Plane} {z : Int} (hl : l.length ≤ 1000000) (h : ¬ VL b l) : plane_Room b l z = some ([], 1) := by
  unfold plane_Room
  rw [planeValid_eq hl, Option.bind_some, decide_eq_false h, if_pos (by simp)]
theorem Room_range {b : Rect} {l : List Plane} {z : Int} (hl : l.length ≤ 1000000) (h : VL b l) (hz : ¬ (0 ≤ z ∧ z ≤ 4096)) : plane_Room b l z = some ([], 3) := by
  unfold plane_Room
  rw [planeValid_eq hl, Option.bind_some, decide_eq_true h, if_neg (by simp), within_eq, Option.bind_some, decide_eq_false hz, if_pos (by simp)]
theorem Room_fine {b : Rect} {l : List Plane} {z : Int} (hl : l.length ≤ 1000000) (h : VL b l) (hz : 0 ≤ z ∧ z ≤ 4096) :
    ∃ a, plane_Room b l z = some (a, 0) ∧ (∀ r ∈ a, VR r) ∧ a.length ≤ 1 ∧ ∀ x y, cells a x y ↔ grd x y ∧ z ≤ max 0 (tops b l x y) := by
  unfold plane_Room
  rw [planeValid_eq hl, Option.bind_some, decide_eq_true h, if_neg (by simp), within_eq, Option.bind_some, decide_eq_true hz, if_neg (by simp)]
  by_cases h0 : z = 0
  · rw [if_pos (beq_of h0)]
    refine ⟨_, rfl, by simp [VR], by simp, fun x y => ?_⟩
    rw [← grid_rin]
    simp only [cells, List.mem_singleton, exists_eq_left]
    exact ⟨fun g => ⟨g, by omega⟩, fun g => g.1⟩
  · obtain ⟨r, ok, h1, h2⟩ := plane_room_eq h hl hz
    have hR := h2.list
    rw [if_neg (beq_ofn h0), h1, Option.bind_some]
    refine ⟨if ok then [r] else [], by cases ok <;> rfl, hR.1, hR.2.1, fun x y => ?_⟩
    rw [hR.2.2]
    refine and_congr_right fun _ => ?_
    have := tops_le (b := b) (l := l) (x := x) (y := y) (z := z) h.2
    exact ⟨fun g => by have := this.2 ⟨hz.2, g⟩; omega, fun g => (this.1 (by omega)).2⟩
end Go.Proofs.YtpbeebhapbibfaaDoor

namespace Go.Proofs.YtpbeebhapbibfaaDoor
open Go.Gb
set_option linter.unusedVariables false
set_option linter.unusedSimpArgs false
set_option linter.unusedSectionVars false
set_option linter.unusedVariables false
set_option linter.unusedSimpArgs false
set_option maxRecDepth 100000

def ex10B : Rect := ⟨0, 0, 10, 10⟩
def ex10L : List Plane := [⟨0, 9, 3, 2⟩]
def ex10S : List Slab := [⟨0, 10, [⟨0, 0, 2, 2⟩]⟩]
theorem ex10V : VL ex10B ex10L := by decide
theorem ex10SS : SS ex10S := ssB_spec (by decide)
theorem ex10_tops (x y : Int) : tops ex10B ex10L x y = min 4096 (9 + 3 * x / 2) := by
  unfold tops ex10L
  simp only [List.foldl_cons, List.foldl_nil]
  unfold hgt dst ex10B
  simp
theorem ex10_of : solid_Of [⟨⟨0, 0, 2, 2⟩, 0, 10⟩] = some (ex10S, 0) := by
  refine Of_is (by decide) (by decide) (by decide) fun x y z => ?_
  unfold ex10S
  rw [scells_iff, sect_cons, sect_nil, cells_if]
  simp only [bcells, cells, List.mem_singleton, exists_eq_left, List.not_mem_nil, false_and, exists_false, and_false, or_false, rin]
  omega
theorem ex10_first : plane_First ex10B ex10L ex10S = some (⟨0, 0, 9⟩, true) := by
  have hc : ∀ x y z, scells ex10S x y z ↔ (0 ≤ z ∧ z < 10) ∧ (0 ≤ x ∧ x < 2) ∧ 0 ≤ y ∧ y < 2 := by
    intro x y z
    unfold ex10S
    rw [scells_iff, sect_cons, sect_nil, cells_if]
    simp only [cells, List.mem_singleton, exists_eq_left, List.not_mem_nil, false_and, exists_false, and_false, or_false, rin]
  have h1 : IsFirst ex10B ex10L ex10S ⟨0, 0, 9⟩ := by
    refine ⟨(hc _ _ _).2 (by decide), by rw [ex10_tops]; decide, fun x y z h ht => ?_⟩
    rw [hc] at h
    rw [ex10_tops] at ht
    dsimp only
    omega
  rcases plane_First_eq ex10V (by decide) ex10SS with ⟨a1, _⟩ | ⟨p, a1, a2⟩
  · exact absurd a1 (first_alw h1)
  · rw [a2, a1.unique h1]
theorem ex10_allows : plane_Allows ex10B ex10L ex10S = some false := by
  obtain ⟨c, c1, c2⟩ := plane_Allows_eq ex10V (by decide) ex10SS
  rw [c1]
  cases c
  · rfl
  · have := c2.1 rfl 0 0 9 (by decide)
    rw [ex10_tops] at this
    exact absurd this (by decide)
theorem ex10_room9 : plane_Room ex10B ex10L 9 = some ([⟨0, 0, 1048576, 1048576⟩], 0) := by rfl
theorem ex10_room12 : plane_Room ex10B ex10L 12 = some ([⟨2, 0, 1048576, 1048576⟩], 0) := by rfl
theorem small10_true : law10_small = some true := by
  unfold law10_small
  have e1 := ex10_first
  have e2 := ex10_allows
  have e3 := ex10_room9
  have e4 := ex10_room12
  have t1 : plane_Top ex10B ex10L 0 0 = some 9 := by rfl
  have t2 : plane_Top ex10B ex10L 1 0 = some 10 := by rfl
  have t3 : plane_Top ex10B ex10L 2 5 = some 12 := by rfl
  have t4 : plane_Top ex10B ex10L 10 0 = some 24 := by rfl
  have t5 : plane_Top ex10B [⟨0, 9, 3, 2⟩, ⟨1, 0, 1, 1⟩] 0 0 = some 9 := by rfl
  have d1 : plane_Distance ex10B 3 0 3 = some 6 := by rfl
  unfold ex10B ex10L at *
  rw [ex10_of, Option.bind_some]
  dsimp only
  rw [e1, Option.bind_some, e3, Option.bind_some, e4, Option.bind_some]
  dsimp only
  rw [if_neg (by decide), t1, Option.bind_some, if_pos (by decide), t2, Option.bind_some, Option.bind_some, if_pos (by decide), t3, Option.bind_some, Option.bind_some, if_pos (by decide), t4, Option.bind_some, Option.bind_some]
  rw [show getI [(⟨0, 0, 1048576, 1048576⟩ : Rect)] 0 = some ⟨0, 0, 1048576, 1048576⟩ from rfl, show getI [(⟨2, 0, 1048576, 1048576⟩ : Rect)] 0 = some ⟨2, 0, 1048576, 1048576⟩ from rfl, Option.bind_some, if_pos (by decide), Option.bind_some, Option.bind_some, if_pos (by decide), e2, Option.bind_some, Option.bind_some, if_pos (by decide)]
  rw [show appI [(⟨0, 9, 3, 2⟩ : Plane)] [⟨1, 0, 1, 1⟩] = some [⟨0, 9, 3, 2⟩, ⟨1, 0, 1, 1⟩] from rfl, Option.bind_some, t5, Option.bind_some, Option.bind_some, if_pos (by decide), d1, Option.bind_some, Option.bind_some]
  rfl
theorem law10_valid_eq {b : Rect} {l : List Plane} (hl : l.length ≤ 1000000) : law10_valid b l = some (decide (VL b l)) := by
  unfold law10_valid
  rcases iter_find (l := l) (body := law10_valid_L0 l) (k := 0) (fun p => ¬ VP p) (fun _ => false) (by
    intro i hi
    unfold law10_valid_L0
    rw [if_pos (by simpa using hi), getI_nat hi, Option.bind_some, planeRight_eq, Option.bind_some]
    by_cases hc : VP l[i]
    · right
      rw [if_neg (by simp [hc]), addI_one (by omega), Option.bind_some]
      exact ⟨fun g => g hc, rfl⟩
    · left
      rw [if_pos (by simp [hc])]
      exact ⟨hc, rfl⟩) (by
    unfold law10_valid_L0
    rw [if_neg (by simp)]) (fuel := l.length + 1) (by omega) with ⟨i, hi, hp, _, h⟩ | ⟨hp, h⟩
  · rw [h, Option.bind_some]
    dsimp only
    rw [decide_eq_false fun g => hp (g.2 _ (List.getElem_mem hi))]
  · rw [h, Option.bind_some]
    dsimp only
    rw [rect_Right_eq, Option.bind_some]
    congr 1
    rw [Bool.eq_iff_iff, decide_eq_true_iff, decide_eq_true_iff]
    exact ⟨fun g => ⟨g, fun d hd => Classical.byContradiction fun c => hp d hd c⟩, fun g => g.1⟩
theorem Alw.mono {b : Rect} {l : List Plane} {s t : List Slab} (h : Alw b l s) (hs : ∀ x y z, scells t x y z → scells s x y z) : Alw b l t := fun x y z hx => h x y z (hs x y z hx)
theorem tops_take {b : Rect} {l : List Plane} {n : Nat} {x y : Int} (hv : ∀ p ∈ l, VP p) : tops b l x y ≤ tops b (l.take n) x y := by
  have h1 := (tops_le (b := b) (x := x) (y := y) (z := tops b l x y) hv).1 (Int.le_refl _)
  exact (tops_le fun p hp => hv p (List.mem_of_mem_take hp)).2 ⟨h1.1, fun p hp => h1.2 p (List.mem_of_mem_take hp)⟩
theorem VL.take {b : Rect} {l : List Plane} (h : VL b l) (n : Nat) : VL b (l.take n) := ⟨h.1, fun p hp => h.2 p (List.mem_of_mem_take hp)⟩
theorem slice_take {α : Type} {l : List α} {m : Int} (hl : l.length ≤ 1000000) : ∃ n : Nat, sliceI l 0 (max 0 (min m (l.length : Int))) = some (l.take n) := by
  refine ⟨(max 0 (min m (l.length : Int))).toNat, ?_⟩
  rw [sliceI_some (by omega) (by omega) (by omega)]
  simp
end Go.Proofs.YtpbeebhapbibfaaDoor

namespace Go.Proofs.YtpbeebhapbibfaaDoor
open Go.Gb
set_option linter.unusedVariables false
set_option linter.unusedSimpArgs false
set_option linter.unusedSectionVars false
set_option linter.unusedVariables false
set_option linter.unusedSimpArgs false
set_option maxRecDepth 100000

theorem rr_one {a : List Rect} (h : ∀ r ∈ a, VR r) (hl : a.length ≤ 1) : RR a := by
  match a, hl with
  | [], _ => exact RR_nil
  | [r], _ => exact ⟨h, by simp, one_form (h r (by simp))⟩
theorem minus_nil {a c : List Rect} (ha : RR a) (hc : RR c) (h : ∀ x y, cells a x y → cells c x y) : region_Minus a c = some ([], 0) := by
  obtain ⟨o, h1, h2⟩ := minus_eq ha hc
  have : o = [] := (form_empty h1).2 fun x y g => g.2 (h x y g.1)
  subst this
  rw [h2]
  rfl
theorem law_PlaneRooms (b : Rect) (l : List Plane) (x y z w many : Int) : law10_PlaneRooms b l x y z w many = some true := by
  unfold law10_PlaneRooms
  rw [small10_true, Option.bind_some]
  by_cases h : l.length ≤ 12
  rotate_left
  · rw [if_pos (by simp; omega)]
  have hl : l.length ≤ 1000000 := by omega
  rw [if_neg (by simp; omega)]
  by_cases hv : VL b l
  rotate_left
  · rw [Room_bad hl hv, Option.bind_some, law10_valid_eq hl, Option.bind_some, decide_eq_false hv]; rfl
  by_cases hz : 0 ≤ z ∧ z ≤ 4096
  rotate_left
  · rw [Room_range hl hv hz, Option.bind_some, law10_valid_eq hl, Option.bind_some, decide_eq_true hv, if_neg (by simp), if_pos (by simp; omega)]; rfl
  obtain ⟨a, a1, a2, a3, a4⟩ := Room_fine hl hv hz
  obtain ⟨c, c1, c2, c3, c4⟩ := Room_fine hl hv (z := min (max z w) 4096) (by omega)
  obtain ⟨n, n1⟩ := slice_take (l := l) (m := many) hl
  obtain ⟨d, d1, d2, d3, d4⟩ := Room_fine (b := b) (l := l.take n) (by simp; omega) (hv.take n) hz
  have ra := rr_one a2 a3
  have rc := rr_one c2 c3
  have rd := rr_one d2 d3
  rw [a1, Option.bind_some, law10_valid_eq hl, Option.bind_some, decide_eq_true hv, if_neg (by simp), if_neg (by simp; omega), if_neg (by simp; omega), region_Right_true ra, Option.bind_some, Option.bind_some, if_neg (by simp), c1, Option.bind_some, n1, Option.bind_some, d1, Option.bind_some]
  dsimp only
  rw [minus_nil rc ra (fun x y g => (a4 x y).2 ⟨((c4 x y).1 g).1, by have := ((c4 x y).1 g).2; omega⟩), Option.bind_some,
    minus_nil ra rd (fun x y g => (d4 x y).2 ⟨((a4 x y).1 g).1, by have := ((a4 x y).1 g).2; have := tops_take (b := b) (n := n) (x := x) (y := y) hv.2; omega⟩), Option.bind_some,
    if_neg (by simp), region_Right_true rc, Option.bind_some, Option.bind_some, if_neg (by simp), region_Right_true rd, Option.bind_some, Option.bind_some, if_neg (by simp), if_pos rfl, region_Has_fine ra, Option.bind_some]
  by_cases hg : grd x y
  · have hg' := hg
    unfold grd at hg'
    rw [if_pos (by simp; omega), plane_Top_fine hv hl hg, Option.bind_some, Option.bind_some, Option.bind_some]
    have : decide (cells a x y) = decide (z ≤ max 0 (tops b l x y)) := by rw [decide_eq_decide, a4]; exact ⟨fun g => g.2, fun g => ⟨hg, g⟩⟩
    rw [this]; simp
  · rw [if_neg (by simp; unfold grd at hg; omega), Option.bind_some, Option.bind_some, decide_eq_false fun g => hg ((a4 x y).1 g).1]; rfl
end Go.Proofs.YtpbeebhapbibfaaDoor

