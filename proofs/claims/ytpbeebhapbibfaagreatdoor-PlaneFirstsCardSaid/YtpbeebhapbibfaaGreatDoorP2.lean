/- The plain part of the proof (no program in sight), part 2 -/
import Derived.Test.YtpbeebhapbibfaaGreatDoorP1
namespace Go.Proofs.YtpbeebhapbibfaaGreatDoor
open Go.Gb
set_option linter.unusedVariables false
set_option linter.unusedSimpArgs false
set_option linter.unusedSectionVars false
set_option linter.unusedVariables false
set_option linter.unusedSimpArgs false

theorem minus_eq {a c : List Rect} (ha : RR a) (hc : RR c) : ∃ out, IsForm (fun x y => cells a x y ∧ ¬ cells c x y) out ∧ region_Minus a c = some (lim out) := by
  obtain ⟨out, h1, h2⟩ := regionOp_fine (op := 2) ha hc
  refine ⟨out, h1.congr fun x y => ?_, by rw [← h2]; unfold regionOp; rw [if_neg (by decide), if_pos rfl]⟩
  unfold opS opB
  simp
theorem minus_hangs {a c l : List Rect} (ha : ∀ r ∈ a, r ∈ l) (hc : ∀ r ∈ c, r ∈ l) : Hangs (fun x y => cells a x y ∧ ¬ cells c x y) l := by
  refine ⟨fun x y x' y' h => ?_, fun x y h => ?_⟩
  · have e1 : cells a x y ↔ cells a x' y' := exists_congr fun r => and_congr_right fun hr => h r (ha r hr)
    have e2 : cells c x y ↔ cells c x' y' := exists_congr fun r => and_congr_right fun hr => h r (hc r hr)
    rw [e1, e2]
  · rintro ⟨⟨r, hr, hx⟩, _⟩
    exact h r (ha r hr) hx
/-- The room is taken away from one rectangle. -/
theorem minus_one {r : Rect} {c : List Rect} (hr : VR r) (hc : RR c) (hl : c.length ≤ 1) : ∃ out, IsForm (fun x y => rin r x y ∧ ¬ cells c x y) out ∧ region_Minus [r] c = some (out, 0) := by
  obtain ⟨out, h1, h2⟩ := minus_eq (a := [r]) (c := c) ⟨by simpa using hr, by simp, one_form hr⟩ hc
  have h3 := form_len (l := r :: c) (minus_hangs (a := [r]) (c := c) (by simp) (by intro r hr; simp [hr])) (by
    intro q hq
    rcases List.mem_cons.1 hq with rfl | hq
    · exact hr
    · exact hc.1 q hq) h1
  have h4 : (r :: c).length ≤ 2 := by simp; omega
  have h5 : (r :: c).length * (r :: c).length ≤ 2 * 2 := Nat.mul_le_mul h4 h4
  refine ⟨out, h1.congr fun x y => by simp [cells], ?_⟩
  rw [h2]
  unfold lim
  rw [if_neg (by omega)]
/-- The least of some cells. -/
def lle (x y x' y' : Int) : Prop := x < x' ∨ (x = x' ∧ y ≤ y')
structure IsLeast2 (S : Int → Int → Prop) (p : Point3) : Prop where
  mem : S p.X p.Y
  le : ∀ x y, S x y → lle p.X p.Y x y
instance (x y x' y' : Int) : Decidable (lle x y x' y') := inferInstanceAs (Decidable (_ ∨ _))
theorem form_least {S : Int → Int → Prop} {out : List Rect} (h : IsForm S out) (h0 : 0 < out.length) {z : Int} : IsLeast2 S ⟨out[0].X0, out[0].Y0, z⟩ :=
  ⟨(form_first h h0).1, (form_first h h0).2⟩
theorem form_some {S : Int → Int → Prop} {out : List Rect} (h : IsForm S out) {x y : Int} (hs : S x y) : 0 < out.length := by
  cases out with
  | nil => exact absurd hs ((form_empty h).1 rfl x y)
  | cons a l => simp
theorem first_cond {o : List Rect} {best : Point3} (h0 : 0 < o.length) :
    ((if decide (0 < (o.length : Int)) = true then
      (getI o 0).bind fun x =>
      (if decide (x.X0 < best.X) = true then some true else
        (getI o 0).bind fun x => (if (x.X0 == best.X) = true then (getI o 0).bind fun x => some (decide (x.Y0 < best.Y)) else some false).bind fun v => some v).bind fun v => some v
     else some false) : Option Bool) = some (decide (¬ lle best.X best.Y o[0].X0 o[0].Y0)) := by
  have e : getI o 0 = some o[0] := getI_nat (i := 0) h0
  rw [if_pos (by simpa using h0), e, Option.bind_some]
  unfold lle
  by_cases h1 : o[0].X0 < best.X
  · rw [if_pos (by simpa using h1), Option.bind_some, decide_eq_true (by omega)]
  · rw [if_neg (by simpa using h1), Option.bind_some]
    by_cases h2 : o[0].X0 = best.X
    · rw [if_pos (beq_of h2), Option.bind_some, Option.bind_some, Option.bind_some]
      congr 1
      rw [decide_eq_decide]
      omega
    · rw [if_neg (beq_ofn h2), Option.bind_some, Option.bind_some, decide_eq_false (by omega)]
theorem app_room {r : Rect} {ok : Bool} : (if ok = true then (appI ([] : List Rect) [r]).bind fun x => some x else some []) = some (if ok then [r] else []) := by
  cases ok
  · rfl
  · rw [if_pos rfl, appI_some (by simp)]; rfl
theorem plane_first_eq {b : Rect} {l : List Plane} {a : List Rect} {z : Int} (hv : VL b l) (hl : l.length ≤ 1000000) (ha : ∀ r ∈ a, VR r) (hal : a.length ≤ 1000000) (hz : 0 ≤ z ∧ z < 4096)
    (hb : ∃ x y, cells a x y ∧ ¬ roomS b l (z + 1) x y) : ∃ p, plane_first b l a z = some p ∧ p.Z = z ∧ IsLeast2 (fun x y => cells a x y ∧ ¬ roomS b l (z + 1) x y) p := by
  obtain ⟨r, ok, h1, h2⟩ := plane_room_eq hv hl (z := z + 1) (by omega)
  have hR := h2.list
  unfold plane_first
  rw [addI_some (by unfold inI; omega), Option.bind_some, h1, Option.bind_some]
  let T : Int → Int → Prop := fun x y => ¬ roomS b l (z + 1) x y
  obtain ⟨s, h3, h4⟩ := iter_rangeE (k := 0) (l := a) (body := plane_first_L0 a (r, ok)) (fun (s : Point3) i => (i, s))
    (fun i s => s.Z = z ∧ (∀ q ∈ a.take i, ∀ x y, rin q x y → T x y → lle s.X s.Y x y) ∧ ((s.X = 1048576) ∨ ∃ q ∈ a.take i, rin q s.X s.Y ∧ T s.X s.Y)) (by
    intro i hi s ⟨hsz, hs1, hs2⟩
    have hr := ha _ (List.getElem_mem hi)
    obtain ⟨o, g1, g2⟩ := minus_one hr hR.rr hR.2.1
    have g1 : IsForm (fun x y => rin a[i] x y ∧ T x y) o := g1.congr fun x y => by rw [hR.2.2]
    unfold plane_first_L0
    dsimp only
    rw [if_pos (by simpa using hi), getI_nat hi, Option.bind_some, app_room, Option.bind_some, g2, Option.bind_some]
    dsimp only
    by_cases h0 : 0 < o.length
    · have e : getI o 0 = some o[0] := getI_nat (i := 0) h0
      obtain ⟨f1, f2⟩ := form_first g1 h0
      have hc := first_cond (best := s) h0
      rw [hc, Option.bind_some]
      by_cases hl : lle s.X s.Y o[0].X0 o[0].Y0
      · refine ⟨s, ?_, hsz, fun q hq x y hx hT => ?_, ?_⟩
        · rw [decide_eq_false (by simpa using hl), if_neg (by simp), Option.bind_some, addI_one (by omega), Option.bind_some]
        · rw [List.take_succ_eq_append_getElem hi] at hq
          simp only [List.mem_append, List.mem_singleton] at hq
          rcases hq with hq | rfl
          · exact hs1 q hq x y hx hT
          · have := f2 x y ⟨hx, hT⟩
            unfold lle at *
            omega
        · refine hs2.imp id fun ⟨q, hq, hh⟩ => ⟨q, ?_, hh⟩
          rw [List.take_succ_eq_append_getElem hi]; exact List.mem_append_left _ hq
      · refine ⟨⟨o[0].X0, o[0].Y0, s.Z⟩, ?_, hsz, fun q hq x y hx hT => ?_, .inr ⟨a[i], ?_, f1⟩⟩
        · rw [decide_eq_true hl, if_pos rfl, e, Option.bind_some, Option.bind_some, Option.bind_some, addI_one (by omega), Option.bind_some]
        · rw [List.take_succ_eq_append_getElem hi] at hq
          simp only [List.mem_append, List.mem_singleton] at hq
          dsimp only
          rcases hq with hq | rfl
          · have := hs1 q hq x y hx hT
            unfold lle at *
            omega
          · exact f2 x y ⟨hx, hT⟩
        · rw [List.take_succ_eq_append_getElem hi]; exact List.mem_append_right _ (List.mem_singleton.2 rfl)
    · have ho : o = [] := List.eq_nil_of_length_eq_zero (by omega)
      refine ⟨s, ?_, hsz, fun q hq x y hx hT => ?_, ?_⟩
      · rw [if_neg (by simpa using h0), Option.bind_some, if_neg (by simp), Option.bind_some, addI_one (by omega), Option.bind_some]
      · rw [List.take_succ_eq_append_getElem hi] at hq
        simp only [List.mem_append, List.mem_singleton] at hq
        rcases hq with hq | rfl
        · exact hs1 q hq x y hx hT
        · exact absurd ⟨hx, hT⟩ ((form_empty g1).1 ho x y)
      · refine hs2.imp id fun ⟨q, hq, hh⟩ => ⟨q, ?_, hh⟩
        rw [List.take_succ_eq_append_getElem hi]; exact List.mem_append_left _ hq) (by
    intro s _
    unfold plane_first_L0
    dsimp only
    rw [if_neg (by simp)]) (s0 := ⟨1048576, 0, z⟩) ⟨rfl, by simp, .inl rfl⟩ (fuel := a.length + 1) (by omega)
  rw [h3, Option.bind_some]
  rw [List.take_length] at h4
  obtain ⟨k1, k2, k3⟩ := h4
  obtain ⟨x, y, ⟨q, hq, hx⟩, hT⟩ := hb
  refine ⟨s, rfl, k1, ?_, fun x y ⟨⟨q, hq, hx⟩, hT⟩ => k2 q hq x y hx hT⟩
  rcases k3 with k3 | ⟨q', hq', hx', hT'⟩
  · have h5 := k2 q hq x y hx hT
    have h6 := ha q hq
    unfold VR at h6
    unfold rin at hx
    unfold lle at h5
    omega
  · exact ⟨⟨q', hq', hx'⟩, hT'⟩
end Go.Proofs.YtpbeebhapbibfaaGreatDoor

namespace Go.Proofs.YtpbeebhapbibfaaGreatDoor
open Go.Gb
set_option linter.unusedVariables false
set_option linter.unusedSimpArgs false
set_option linter.unusedSectionVars false
set_option linter.unusedVariables false
set_option linter.unusedSimpArgs false

theorem room_tops {b : Rect} {l : List Plane} {x y z : Int} (hv : ∀ p ∈ l, VP p) (hz : z < 4096) : roomS b l (z + 1) x y ↔ grd x y ∧ z < tops b l x y := and_congr_right fun _ => allowed_tops hv hz
theorem cells_grd {a : List Rect} (h : ∀ r ∈ a, VR r) {x y : Int} (hc : cells a x y) : grd x y := by
  obtain ⟨r, hr, hx⟩ := hc
  have := h r hr
  unfold VR at this
  unfold rin at hx
  unfold grd
  omega
/-- All cubes of the first slabs are allowed. -/
def okTo (b : Rect) (l : List Plane) (s : List Slab) (i : Nat) : Prop := ∀ j (hj : j < i) (h : j < s.length), ∀ x y, cells s[j].Area x y → s[j].Z1 ≤ tops b l x y
theorem okTo.zero {b : Rect} {l : List Plane} {s : List Slab} : okTo b l s 0 := fun j hj => absurd hj (Nat.not_lt_zero j)
theorem okTo.succ {b : Rect} {l : List Plane} {s : List Slab} {i : Nat} (h : okTo b l s i) (hi : i < s.length) (g : ∀ x y, cells s[i].Area x y → s[i].Z1 ≤ tops b l x y) : okTo b l s (i + 1) := by
  intro j hj hl
  rcases Nat.lt_or_ge j i with c | c
  · exact h j c hl
  · obtain rfl : j = i := by omega
    exact g
theorem okTo.all {b : Rect} {l : List Plane} {s : List Slab} (hs : SS s) (h : okTo b l s s.length) : Alw b l s := by
  intro x y z hc
  obtain ⟨q, hq, h1, h2, h3⟩ := (scells_slab hs.canon).1 hc
  obtain ⟨j, hj, rfl⟩ := List.getElem_of_mem hq
  have := h j hj hj x y h1
  omega
theorem first_of {b : Rect} {l : List Plane} {s : List Slab} {i : Nat} {z : Int} {p : Point3} (hv : VL b l) (hs : SS s) (h : okTo b l s i) (hi : i < s.length) (h1 : s[i].Z0 ≤ z) (h2 : z < s[i].Z1)
    (hb : ∀ x y, cells s[i].Area x y → ∀ z', s[i].Z0 ≤ z' → z' < z → z' < tops b l x y) (hp : p.Z = z) (hl : IsLeast2 (fun x y => cells s[i].Area x y ∧ ¬ roomS b l (z + 1) x y) p) : IsFirst b l s p := by
  obtain ⟨g1, g2, g3⟩ := hs.ok _ (List.getElem_mem hi)
  have rt : ∀ x y, cells s[i].Area x y → (¬ roomS b l (z + 1) x y ↔ tops b l x y ≤ z) := by
    intro x y hc
    rw [room_tops hv.2 (by omega)]
    have := cells_grd g3.1 hc
    constructor
    · intro h'
      refine Classical.byContradiction fun c => h' ⟨this, by omega⟩
    · rintro h' ⟨_, h''⟩
      omega
  obtain ⟨m1, m2⟩ := hl.mem
  subst hp
  refine ⟨(scells_slab hs.canon).2 ⟨_, List.getElem_mem hi, m1, h1, h2⟩, (rt _ _ m1).1 m2, fun x y z' hc ht => ?_⟩
  obtain ⟨q, hq, f1, f2, f3⟩ := (scells_slab hs.canon).1 hc
  obtain ⟨j, hj, rfl⟩ := List.getElem_of_mem hq
  rcases Nat.lt_trichotomy j i with c | c | c
  · have := h j c hj x y f1
    omega
  · subst c
    by_cases hz : z' < p.Z
    · have := hb x y f1 z' f2 hz
      omega
    · by_cases hz' : p.Z = z'
      · subst hz'
        right
        exact ⟨rfl, hl.le x y ⟨f1, (rt x y f1).2 ht⟩⟩
      · left; omega
  · have := slab_order hs.canon c hj
    left; omega
theorem plane_First_eq {b : Rect} {l : List Plane} {s : List Slab} (hv : VL b l) (hl : l.length ≤ 1000000) (hs : SS s) :
    (Alw b l s ∧ plane_First b l s = some (⟨0, 0, 0⟩, false)) ∨ ∃ p, IsFirst b l s p ∧ plane_First b l s = some (p, true) := by
  have hsl := hs.len
  unfold plane_First
  rw [planeValid_eq hl, Option.bind_some, decide_eq_true hv, if_neg (by simp), solid_Right_true hs, Option.bind_some, Option.bind_some, if_neg (by simp)]
  rcases iter_fromR (k := 0) (body := plane_First_L0 b l s) (fun (p : Point3) i => (i, p)) 0 s.length (Nat.zero_le _) (fun i _ => okTo b l s i) (fun r => r.2 = true ∧ IsFirst b l s r.1) (by
    intro i _ hi p hI
    obtain ⟨g1, g2, g3⟩ := hs.ok _ (List.getElem_mem hi)
    have gp := slab_pos hs.canon (List.getElem_mem hi)
    obtain ⟨h, e1, hm, hlow⟩ := plane_lowest_eq (a := s[i].Area) hv hl g3.1 (by have := g3.2.1; omega)
    unfold plane_First_L0
    dsimp only
    rw [if_pos (by simpa using hi), getI_nat hi, Option.bind_some, e1, Option.bind_some]
    by_cases hc : s[i].Z1 ≤ max s[i].Z0 h
    · left
      rw [if_pos (by simpa using hc), addI_one (by omega), Option.bind_some]
      exact ⟨p, rfl, hI.succ hi ((hlow s[i].Z1).1 (by omega)).2⟩
    · right
      rw [if_neg (by simpa using hc)]
      generalize hz : max s[i].Z0 h = z at hc
      have hbad : ∃ x y, cells s[i].Area x y ∧ ¬ roomS b l (z + 1) x y := by
        refine Classical.byContradiction fun hn => ?_
        have := (hlow (z + 1)).2 ⟨by omega, fun x y hxy => ?_⟩
        · omega
        · refine Classical.byContradiction fun c => hn ⟨x, y, hxy, fun hr => ?_⟩
          have := ((room_tops hv.2 (by omega)).1 hr).2
          omega
      have hbelow : ∀ x y, cells s[i].Area x y → ∀ z', s[i].Z0 ≤ z' → z' < z → z' < tops b l x y := by
        intro x y hxy z' h1 h2
        have := ((hlow h).1 (Int.le_refl h)).2 x y hxy
        omega
      obtain ⟨r, ok, f1, f2⟩ := plane_room_eq hv hl (z := z + 1) (by omega)
      have hR := f2.list
      obtain ⟨o, o1, o2⟩ := minus_eq g3 hR.rr
      have o1 : IsForm (fun x y => cells s[i].Area x y ∧ ¬ roomS b l (z + 1) x y) o := o1.congr fun x y => by rw [hR.2.2]
      rw [addI_some (by unfold inI; omega), Option.bind_some, f1, Option.bind_some, app_room, Option.bind_some, o2, Option.bind_some]
      obtain ⟨bx, by', hb1⟩ := hbad
      have h0 : 0 < o.length := form_some o1 hb1
      unfold lim
      by_cases h200 : 200 < o.length
      · rw [if_pos h200]
        dsimp only
        rw [if_neg (by decide)]
        obtain ⟨q, q1, q2, q3⟩ := plane_first_eq (a := s[i].Area) hv hl g3.1 (by have := g3.2.1; omega) (z := z) (by omega) ⟨bx, by', hb1⟩
        rw [q1, Option.bind_some]
        exact ⟨_, rfl, rfl, first_of hv hs hI hi (by omega) (by omega) hbelow q2 q3⟩
      · rw [if_neg h200]
        dsimp only
        rw [if_pos (by simpa using h0), show getI o 0 = some o[0] from getI_nat (i := 0) h0, Option.bind_some, Option.bind_some]
        exact ⟨_, rfl, rfl, first_of hv hs hI hi (by omega) (by omega) hbelow rfl (form_least o1 h0)⟩) (by
    intro p _
    unfold plane_First_L0
    dsimp only
    rw [if_neg (by simp)]) (s0 := ⟨0, 0, 0⟩) okTo.zero (fuel := s.length + 1) (by omega) with ⟨p, h1, h2⟩ | ⟨r, h1, h2, h3⟩
  · left
    have h1' : iterL (plane_First_L0 b l s) (s.length + 1) (0, (⟨0, 0, 0⟩ : Point3)) = _ := h1
    rw [h1', Option.bind_some]
    exact ⟨h2.all hs, rfl⟩
  · right
    have h1' : iterL (plane_First_L0 b l s) (s.length + 1) (0, (⟨0, 0, 0⟩ : Point3)) = _ := h1
    rw [h1', Option.bind_some]
    refine ⟨r.1, h3, ?_⟩
    rw [← h2]
theorem contains_Slab {a : List Slab} {f : Slab → Option Bool} {p : Slab → Bool} (hf : ∀ r ∈ a, f r = some (p r)) (hl : a.length ≤ 1000000) : slices_ContainsFunc_Slab a f = some (a.any p) := by
  unfold slices_ContainsFunc_Slab slices_IndexFunc_Slab
  rcases iter_find (l := a) (body := slices_IndexFunc_Slab_L0 a f) (k := 0) (fun r => p r = true) (fun i => (i : Int)) (by
    intro i hi
    unfold slices_IndexFunc_Slab_L0
    rw [if_pos (by simpa using hi), getI_nat hi, Option.bind_some, hf _ (List.getElem_mem hi), Option.bind_some]
    cases hp : p a[i]
    · right
      rw [if_neg (by simp), addI_one (by omega), Option.bind_some]
      exact ⟨by simp, rfl⟩
    · left
      exact ⟨rfl, if_pos rfl⟩) (by
    unfold slices_IndexFunc_Slab_L0
    rw [if_neg (by simp)]) (fuel := a.length + 1) (by omega) with ⟨i, hi, hp, _, h⟩ | ⟨hp, h⟩
  · rw [h, Option.bind_some]
    dsimp only
    rw [Option.bind_some]
    congr 1
    rw [decide_eq_true (by omega)]
    symm
    rw [List.any_eq_true]
    exact ⟨_, List.getElem_mem hi, hp⟩
  · rw [h, Option.bind_some]
    dsimp only
    rw [Option.bind_some]
    congr 1
    rw [decide_eq_false (by omega)]
    symm
    rw [List.any_eq_false]
    exact hp
theorem alw_slabs {b : Rect} {l : List Plane} {s : List Slab} (hs : SS s) : Alw b l s ↔ ∀ c ∈ s, ∀ x y, cells c.Area x y → c.Z1 ≤ tops b l x y := by
  constructor
  · intro h c hc x y hx
    have gp := slab_pos hs.canon hc
    have := h x y (c.Z1 - 1) ((scells_slab hs.canon).2 ⟨c, hc, hx, by omega, by omega⟩)
    omega
  · intro h x y z hx
    obtain ⟨c, hc, h1, h2, h3⟩ := (scells_slab hs.canon).1 hx
    have := h c hc x y h1
    omega
theorem plane_Allows_eq {b : Rect} {l : List Plane} {s : List Slab} (hv : VL b l) (hl : l.length ≤ 1000000) (hs : SS s) : ∃ c, plane_Allows b l s = some c ∧ (c = true ↔ Alw b l s) := by
  have hsl := hs.len
  unfold plane_Allows
  rw [planeValid_eq hl, Option.bind_some, decide_eq_true hv, if_neg (by simp), solid_Right_true hs, Option.bind_some, Option.bind_some, if_neg (by simp)]
  have key : ∀ c ∈ s, ∃ v, plane_Allows_1 c b l = some v ∧ (v = false ↔ ∀ x y, cells c.Area x y → c.Z1 ≤ tops b l x y) := by
    intro c hc
    obtain ⟨g1, g2, g3⟩ := hs.ok _ hc
    obtain ⟨h, e1, hm, hlow⟩ := plane_lowest_eq (a := c.Area) hv hl g3.1 (by have := g3.2.1; omega)
    unfold plane_Allows_1
    rw [e1, Option.bind_some]
    refine ⟨_, rfl, ?_⟩
    rw [decide_eq_false_iff_not, Int.not_lt, hlow]
    exact ⟨fun g => g.2, fun g => ⟨g2, g⟩⟩
  rw [contains_Slab (p := fun c => (plane_Allows_1 c b l).getD false) (fun c hc => by obtain ⟨v, e, _⟩ := key c hc; rw [e]; rfl) (by omega), Option.bind_some]
  refine ⟨_, rfl, ?_⟩
  rw [alw_slabs hs, Bool.not_eq_true', List.any_eq_false]
  constructor
  · intro h c hc
    obtain ⟨v, e, g⟩ := key c hc
    have := h c hc
    rw [e] at this
    exact g.1 (by simpa using this)
  · intro h c hc
    obtain ⟨v, e, g⟩ := key c hc
    rw [e]
    simpa using g.2 (h c hc)
end Go.Proofs.YtpbeebhapbibfaaGreatDoor

namespace Go.Proofs.YtpbeebhapbibfaaGreatDoor
open Go.Gb
set_option linter.unusedVariables false
set_option linter.unusedSimpArgs false
set_option linter.unusedSectionVars false
set_option linter.unusedVariables false
set_option linter.unusedSimpArgs false

theorem first_alw {b : Rect} {l : List Plane} {s : List Slab} {p : Point3} (h : IsFirst b l s p) : ¬ Alw b l s := fun g => by
  have := g _ _ _ h.mem
  have := h.bad
  omega
theorem grid_has (x y : Int) : rect_Has ⟨0, 0, 1048576, 1048576⟩ x y = some (decide (grd x y)) := by
  rw [rect_Has_eq]
  congr 1
  rw [decide_eq_decide]
  exact ⟨fun h => grid_rin.1 h.2, fun h => ⟨by unfold VR; decide, grid_rin.2 h⟩⟩
theorem plane_Top_fine {b : Rect} {l : List Plane} {x y : Int} (hv : VL b l) (hl : l.length ≤ 1000000) (hg : grd x y) : plane_Top b l x y = some (max 0 (tops b l x y)) := by
  have hg' := hg
  unfold grd at hg'
  unfold plane_Top
  rw [planeValid_eq hl, Option.bind_some, decide_eq_true hv, if_neg (by simp), grid_has, Option.bind_some, Option.bind_some, decide_eq_true hg, if_neg (by simp), plane_top_eq hv hl (by omega) (by omega), Option.bind_some]
end Go.Proofs.YtpbeebhapbibfaaGreatDoor

namespace Go.Proofs.YtpbeebhapbibfaaGreatDoor
open Go.Gb
set_option linter.unusedVariables false
set_option linter.unusedSimpArgs false
set_option linter.unusedSectionVars false
set_option linter.unusedVariables false
set_option linter.unusedSimpArgs false
set_option maxRecDepth 100000

def ex10B : Rect := ⟨0, 0, 10, 10⟩
def ex10L : List Plane := [⟨0, 9, 3, 2⟩]
def ex10S : List Slab := [⟨0, 10, [⟨0, 0, 2, 2⟩]⟩]
theorem ex10V : VL ex10B ex10L := by decide
theorem ex10SS : SS ex10S := ssB_spec (by decide)
theorem ex10_tops (x y : Int) : tops ex10B ex10L x y = min 4096 (9 + 3 * x / 2) := by
  unfold tops ex10L
  simp only [List.foldl_cons, List.foldl_nil]
  unfold hgt dst ex10B
  simp
theorem ex10_of : solid_Of [⟨⟨0, 0, 2, 2⟩, 0, 10⟩] = some (ex10S, 0) := by
  refine Of_is (by decide) (by decide) (by decide) fun x y z => ?_
  unfold ex10S
  rw [scells_iff, sect_cons, sect_nil, cells_if]
  simp only [bcells, cells, List.mem_singleton, exists_eq_left, List.not_mem_nil, false_and, exists_false, and_false, or_false, rin]
  omega
theorem ex10_first : plane_First ex10B ex10L ex10S = some (⟨0, 0, 9⟩, true) := by
  have hc : ∀ x y z, scells ex10S x y z ↔ (0 ≤ z ∧ z < 10) ∧ (0 ≤ x ∧ x < 2) ∧ 0 ≤ y ∧ y < 2 := by
    intro x y z
    unfold ex10S
    rw [scells_iff, sect_cons, sect_nil, cells_if]
    simp only [cells, List.mem_singleton, exists_eq_left, List.not_mem_nil, false_and, exists_false, and_false, or_false, rin]
  have h1 : IsFirst ex10B ex10L ex10S ⟨0, 0, 9⟩ := by
    refine ⟨(hc _ _ _).2 (by decide), by rw [ex10_tops]; decide, fun x y z h ht => ?_⟩
    rw [hc] at h
    rw [ex10_tops] at ht
    dsimp only
    omega
  rcases plane_First_eq ex10V (by decide) ex10SS with ⟨a1, _⟩ | ⟨p, a1, a2⟩
  · exact absurd a1 (first_alw h1)
  · rw [a2, a1.unique h1]
theorem ex10_allows : plane_Allows ex10B ex10L ex10S = some false := by
  obtain ⟨c, c1, c2⟩ := plane_Allows_eq ex10V (by decide) ex10SS
  rw [c1]
  cases c
  · rfl
  · have := c2.1 rfl 0 0 9 (by decide)
    rw [ex10_tops] at this
    exact absurd this (by decide)
theorem ex10_room9 : plane_Room ex10B ex10L 9 = some ([⟨0, 0, 1048576, 1048576⟩], 0) := by rfl
theorem ex10_room12 : plane_Room ex10B ex10L 12 = some ([⟨2, 0, 1048576, 1048576⟩], 0) := by rfl
theorem small10_true : law10_small = some true := by
  unfold law10_small
  have e1 := ex10_first
  have e2 := ex10_allows
  have e3 := ex10_room9
  have e4 := ex10_room12
  have t1 : plane_Top ex10B ex10L 0 0 = some 9 := by rfl
  have t2 : plane_Top ex10B ex10L 1 0 = some 10 := by rfl
  have t3 : plane_Top ex10B ex10L 2 5 = some 12 := by rfl
  have t4 : plane_Top ex10B ex10L 10 0 = some 24 := by rfl
  have t5 : plane_Top ex10B [⟨0, 9, 3, 2⟩, ⟨1, 0, 1, 1⟩] 0 0 = some 9 := by rfl
  have d1 : plane_Distance ex10B 3 0 3 = some 6 := by rfl
  unfold ex10B ex10L at *
  rw [ex10_of, Option.bind_some]
  dsimp only
  rw [e1, Option.bind_some, e3, Option.bind_some, e4, Option.bind_some]
  dsimp only
  rw [if_neg (by decide), t1, Option.bind_some, if_pos (by decide), t2, Option.bind_some, Option.bind_some, if_pos (by decide), t3, Option.bind_some, Option.bind_some, if_pos (by decide), t4, Option.bind_some, Option.bind_some]
  rw [show getI [(⟨0, 0, 1048576, 1048576⟩ : Rect)] 0 = some ⟨0, 0, 1048576, 1048576⟩ from rfl, show getI [(⟨2, 0, 1048576, 1048576⟩ : Rect)] 0 = some ⟨2, 0, 1048576, 1048576⟩ from rfl, Option.bind_some, if_pos (by decide), Option.bind_some, Option.bind_some, if_pos (by decide), e2, Option.bind_some, Option.bind_some, if_pos (by decide)]
  rw [show appI [(⟨0, 9, 3, 2⟩ : Plane)] [⟨1, 0, 1, 1⟩] = some [⟨0, 9, 3, 2⟩, ⟨1, 0, 1, 1⟩] from rfl, Option.bind_some, t5, Option.bind_some, Option.bind_some, if_pos (by decide), d1, Option.bind_some, Option.bind_some]
  rfl
theorem few10_eq (l : List Plane) (s : List Box) : law10_few l s = some (decide (l.length ≤ 12 ∧ s.length ≤ 12)) := by
  unfold law10_few
  congr 1
  rw [Bool.eq_iff_iff]
  simp
  omega
theorem law10_valid_eq {b : Rect} {l : List Plane} (hl : l.length ≤ 1000000) : law10_valid b l = some (decide (VL b l)) := by
  unfold law10_valid
  rcases iter_find (l := l) (body := law10_valid_L0 l) (k := 0) (fun p => ¬ VP p) (fun _ => false) (by
    intro i hi
    unfold law10_valid_L0
    rw [if_pos (by simpa using hi), getI_nat hi, Option.bind_some, planeRight_eq, Option.bind_some]
    by_cases hc : VP l[i]
    · right
      rw [if_neg (by simp [hc]), addI_one (by omega), Option.bind_some]
      exact ⟨fun g => g hc, rfl⟩
    · left
      rw [if_pos (by simp [hc])]
      exact ⟨hc, rfl⟩) (by
    unfold law10_valid_L0
    rw [if_neg (by simp)]) (fuel := l.length + 1) (by omega) with ⟨i, hi, hp, _, h⟩ | ⟨hp, h⟩
  · rw [h, Option.bind_some]
    dsimp only
    rw [decide_eq_false fun g => hp (g.2 _ (List.getElem_mem hi))]
  · rw [h, Option.bind_some]
    dsimp only
    rw [rect_Right_eq, Option.bind_some]
    congr 1
    rw [Bool.eq_iff_iff, decide_eq_true_iff, decide_eq_true_iff]
    exact ⟨fun g => ⟨g, fun d hd => Classical.byContradiction fun c => hp d hd c⟩, fun g => g.1⟩
/-- The solid of few boxes. -/
theorem Of_few {s : List Box} (h : s.length ≤ 14) : ((∀ b ∈ s, VB b) ∧ ∃ a, Mk s (bcB s) a ∧ solid_Of s = some (a, 0)) ∨ ((¬ ∀ b ∈ s, VB b) ∧ solid_Of s = some ([], 1)) := by
  by_cases hv : ∀ b ∈ s, VB b
  · obtain ⟨a, h1, h2⟩ := Mk.of (l := s) hv h (fun _ hb => hb) (by omega)
    exact .inl ⟨hv, a, h1, h2⟩
  · exact .inr ⟨hv, solid_Of_bad (by omega) hv⟩
theorem Alw.mono {b : Rect} {l : List Plane} {s t : List Slab} (h : Alw b l s) (hs : ∀ x y z, scells t x y z → scells s x y z) : Alw b l t := fun x y z hx => h x y z (hs x y z hx)
theorem VL.take {b : Rect} {l : List Plane} (h : VL b l) (n : Nat) : VL b (l.take n) := ⟨h.1, fun p hp => h.2 p (List.mem_of_mem_take hp)⟩
theorem op_gen {op : Int} {a c : List Slab} (ha : SS a) (hc : SS c) : ∃ o e, solidOp op a c = some (o, e) ∧ (e = 0 → SS o ∧ ∀ x y z, scells o x y z ↔ sopS op a c x y z) := by
  obtain ⟨out, h1, h2⟩ := solidOp_fine (op := op) ha hc
  rcases slim_or h1 (fun x y z h => by
    by_cases c1 : scells a x y z
    · exact scells_bounds ha c1
    · by_cases c2 : scells c x y z
      · exact scells_bounds hc c2
      · unfold sopS at h
        rw [decide_eq_false c1, decide_eq_false c2, opB_false] at h
        simp at h) with hs | ⟨hs, hSS⟩
  · exact ⟨[], 6, by rw [h2, hs], fun g => by simp at g⟩
  · exact ⟨out, 0, by rw [h2, hs], fun _ => ⟨hSS, fun x y z => h1.cells x y z⟩⟩
end Go.Proofs.YtpbeebhapbibfaaGreatDoor

namespace Go.Proofs.YtpbeebhapbibfaaGreatDoor
open Go.Gb
set_option linter.unusedVariables false
set_option linter.unusedSimpArgs false
set_option linter.unusedSectionVars false
set_option linter.unusedVariables false
set_option linter.unusedSimpArgs false
set_option maxRecDepth 100000

theorem before_boxes (p : Point3) (hp : (0 ≤ p.X ∧ p.X < 1048576) ∧ (0 ≤ p.Y ∧ p.Y < 1048576) ∧ (0 ≤ p.Z ∧ p.Z < 4096)) {s : List Slab} :
    ∃ l : List Box, l.length ≤ 3 ∧ (∀ b ∈ l, VB b) ∧ (∀ x y z, bcells l x y z → z < p.Z ∨ (z = p.Z ∧ (x < p.X ∨ (x = p.X ∧ y < p.Y)))) ∧
      law10_before s p = (solid_Of l).bind fun o => if (o.2 != 0) = true then some ([], o.2) else (solid_Common s o.1).bind fun c => some (c.1, c.2) := by
  let A : List Box := if 0 < p.Z then [⟨⟨0, 0, 1048576, 1048576⟩, 0, p.Z⟩] else []
  let B : List Box := if 0 < p.X then [⟨⟨0, 0, p.X, 1048576⟩, p.Z, p.Z + 1⟩] else []
  let C : List Box := if 0 < p.Y then [⟨⟨p.X, 0, p.X + 1, p.Y⟩, p.Z, p.Z + 1⟩] else []
  have la : A.length ≤ 1 := by unfold A; split <;> simp
  have lb : B.length ≤ 1 := by unfold B; split <;> simp
  have lc : C.length ≤ 1 := by unfold C; split <;> simp
  have ma : ∀ b ∈ A, 0 < p.Z ∧ b = ⟨⟨0, 0, 1048576, 1048576⟩, 0, p.Z⟩ := by unfold A; intro b hb; split at hb <;> simp_all
  have mb : ∀ b ∈ B, 0 < p.X ∧ b = ⟨⟨0, 0, p.X, 1048576⟩, p.Z, p.Z + 1⟩ := by unfold B; intro b hb; split at hb <;> simp_all
  have mc : ∀ b ∈ C, 0 < p.Y ∧ b = ⟨⟨p.X, 0, p.X + 1, p.Y⟩, p.Z, p.Z + 1⟩ := by unfold C; intro b hb; split at hb <;> simp_all
  refine ⟨A ++ B ++ C, by simp only [List.length_append]; omega, fun b hb => ?_, fun x y z ⟨b, hb, h1, h2, h3⟩ => ?_, ?_⟩
  · simp only [List.mem_append] at hb
    unfold VB VR
    rcases hb with (hb | hb) | hb
    · obtain ⟨h, rfl⟩ := ma b hb; dsimp only; omega
    · obtain ⟨h, rfl⟩ := mb b hb; dsimp only; omega
    · obtain ⟨h, rfl⟩ := mc b hb; dsimp only; omega
  · simp only [List.mem_append] at hb
    unfold rin at h1
    rcases hb with (hb | hb) | hb
    · obtain ⟨h, rfl⟩ := ma b hb; dsimp only at h1 h2 h3; omega
    · obtain ⟨h, rfl⟩ := mb b hb; dsimp only at h1 h2 h3; omega
    · obtain ⟨h, rfl⟩ := mc b hb; dsimp only at h1 h2 h3; omega
  · have e1 : (if decide (0 < p.Z) = true then (appI ([] : List Box) [⟨⟨0, 0, 1048576, 1048576⟩, 0, p.Z⟩]).bind fun x => some x else some []) = some A := by
      unfold A
      by_cases h : 0 < p.Z
      · rw [if_pos (by simpa using h), if_pos h, appI_some (by simp)]; rfl
      · rw [if_neg (by simpa using h), if_neg h]
    have e2 : (if decide (0 < p.X) = true then (addI p.Z 1).bind fun v => (appI A [⟨⟨0, 0, p.X, 1048576⟩, p.Z, v⟩]).bind fun x => some x else some A) = some (A ++ B) := by
      unfold B
      by_cases h : 0 < p.X
      · rw [if_pos (by simpa using h), if_pos h, addI_some (by unfold inI; omega), Option.bind_some, appI_some (by simp; omega)]; rfl
      · rw [if_neg (by simpa using h), if_neg h, List.append_nil]
    have e3 : (if decide (0 < p.Y) = true then (addI p.X 1).bind fun u => (addI p.Z 1).bind fun v => (appI (A ++ B) [⟨⟨p.X, 0, u, p.Y⟩, p.Z, v⟩]).bind fun x => some x else some (A ++ B)) = some (A ++ B ++ C) := by
      unfold C
      by_cases h : 0 < p.Y
      · rw [if_pos (by simpa using h), if_pos h, addI_some (by unfold inI; omega), Option.bind_some, addI_some (by unfold inI; omega), Option.bind_some, appI_some (by simp; omega)]; rfl
      · rw [if_neg (by simpa using h), if_neg h, List.append_nil]
    unfold law10_before
    rw [e1, Option.bind_some, e2, Option.bind_some, e3, Option.bind_some]
theorem law_PlaneFirsts (b : Rect) (l : List Plane) (s : List Box) : law10_PlaneFirsts b l s = some true := by
  unfold law10_PlaneFirsts
  rw [small10_true, Option.bind_some, few10_eq, Option.bind_some]
  by_cases h : l.length ≤ 12 ∧ s.length ≤ 12
  rotate_left
  · rw [decide_eq_false h, if_pos (by simp), Option.bind_some, if_pos rfl]
  have hl : l.length ≤ 1000000 := by omega
  rw [decide_eq_true h, if_neg (by simp), law10_valid_eq hl, Option.bind_some, Option.bind_some]
  by_cases hv : VL b l
  rotate_left
  · rw [decide_eq_false hv, if_pos (by simp)]
  rw [decide_eq_true hv, if_neg (by simp)]
  rcases Of_few (s := s) (by omega) with ⟨_, a, m1, h1⟩ | ⟨_, h1⟩
  rotate_left
  · rw [h1, Option.bind_some]
    dsimp only
    have hn : Alw b l [] := fun x y z hx => by obtain ⟨r, hr, _⟩ := hx; simp [sect, slabRuns, rval] at hr
    obtain ⟨c, c1, c2⟩ := plane_Allows_eq (s := []) hv hl SS_nil
    rcases plane_First_eq (s := []) hv hl SS_nil with ⟨a1, a2⟩ | ⟨p, a1, _⟩
    · rw [a2, Option.bind_some, c1, Option.bind_some, c2.2 hn]; rfl
    · exact absurd hn (first_alw a1)
  rw [h1, Option.bind_some]
  dsimp only
  obtain ⟨c, c1, c2⟩ := plane_Allows_eq (s := a) hv hl m1.ss
  rcases plane_First_eq (s := a) hv hl m1.ss with ⟨a1, a2⟩ | ⟨p, a1, a2⟩
  · rw [a2, Option.bind_some, c1, Option.bind_some, c2.2 a1]; rfl
  · have hc : c = false := by
      cases c with
      | false => rfl
      | true => exact absurd (c2.1 rfl) (first_alw a1)
    have hp := scells_bounds m1.ss a1.mem
    obtain ⟨L, l1, l2, l3, l4⟩ := before_boxes p hp (s := a)
    rw [a2, Option.bind_some, c1, Option.bind_some, hc, if_neg (by simp), if_neg (by simp), l4]
    rcases Of_few (s := L) (by omega) with ⟨_, m, m2, h2⟩ | ⟨g, _⟩
    rotate_left
    · exact absurd l2 g
    rw [h2, Option.bind_some, if_neg (by simp)]
    dsimp only
    obtain ⟨o, e, o1, o2⟩ := op_gen (op := 1) m1.ss m2.ss
    rw [op1] at o1
    rw [o1, Option.bind_some, Option.bind_some]
    dsimp only
    by_cases e6 : e = 6
    · rw [if_pos (beq_of e6)]
    rw [if_neg (beq_ofn e6)]
    obtain ⟨out, q1, q2⟩ := solidOp_fine (op := 1) m1.ss m2.ss
    have e0 : e = 0 := by
      rw [op1, o1] at q2
      unfold slim at q2
      split at q2
      · simp at q2; exact absurd q2.2 e6
      · simp at q2; exact q2.2
    obtain ⟨so, sc⟩ := o2 e0
    obtain ⟨d, d1, d2⟩ := plane_Allows_eq (s := o) hv hl so
    have hb := a1.bad
    rw [e0, if_pos (by decide), solid_Has_fine m1.ss, decide_eq_true a1.mem, Option.bind_some, Option.bind_some, if_pos rfl, plane_Top_fine hv hl (by unfold grd; omega), Option.bind_some, Option.bind_some, decide_eq_true (by omega), if_pos rfl, d1, Option.bind_some, Option.bind_some, d2.2 fun x y z hx => ?_]
    have := (sc x y z).1 hx
    simp only [sopS, opB, if_pos, Bool.and_eq_true, decide_eq_true_eq] at this
    have h3 := l3 x y z (bcB_iff.1 ((m2.is.cells x y z).1 this.2))
    refine Classical.byContradiction fun hn => ?_
    have h4 := a1.least x y z this.1 (by omega)
    omega
end Go.Proofs.YtpbeebhapbibfaaGreatDoor

