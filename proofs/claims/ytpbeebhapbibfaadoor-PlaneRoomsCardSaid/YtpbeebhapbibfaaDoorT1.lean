/- What the functions compute that the law reaches, part 1 -/
import Derived.Test.YtpbeebhapbibfaaDoorProg
import Derived.Test.YtpbeebhapbibfaaDoorL5
import Derived.Shelf.Sort.Plain
import Derived.Shelf.Slices.In.SortNone
import Derived.Shelf.Slices.CompactI
import Derived.Shelf.Spec.SlicesGrow
import Derived.Shelf.SlSortCmp.NoneTotal
namespace Go.Proofs.YtpbeebhapbibfaaDoor
open Go.Gb
set_option linter.unusedVariables false
set_option linter.unusedSimpArgs false
set_option maxRecDepth 100000
structure Rect where
  X0 : Int
  Y0 : Int
  X1 : Int
  Y1 : Int
  deriving DecidableEq, Inhabited
instance : Enc Rect := Enc.ofMap fun x => (x.X0, x.Y0, x.X1, x.Y1)
structure Slab where
  Z0 : Int
  Z1 : Int
  Area : (List Rect)
  deriving DecidableEq, Inhabited
instance : Enc Slab := Enc.ofMap fun x => (x.Z0, x.Z1, x.Area)
structure RegionSpan where
  from_ : Int
  to_ : Int
  deriving DecidableEq, Inhabited
instance : Enc RegionSpan := Enc.ofMap fun x => (x.from_, x.to_)
structure RegionStrip where
  x0 : Int
  x1 : Int
  column : (List RegionSpan)
  deriving DecidableEq, Inhabited
instance : Enc RegionStrip := Enc.ofMap fun x => (x.x0, x.x1, x.column)
structure Box where
  Base : Rect
  Z0 : Int
  Z1 : Int
  deriving DecidableEq, Inhabited
instance : Enc Box := Enc.ofMap fun x => (x.Base, x.Z0, x.Z1)
structure Plane where
  Side : Int
  Base : Int
  Num : Int
  Den : Int
  deriving DecidableEq, Inhabited
instance : Enc Plane := Enc.ofMap fun x => (x.Side, x.Base, x.Num, x.Den)
structure Point3 where
  X : Int
  Y : Int
  Z : Int
  deriving DecidableEq, Inhabited
instance : Enc Point3 := Enc.ofMap fun x => (x.X, x.Y, x.Z)
theorem hmix : Tryd.prog.follows .mixedOrders = true := by kernel_rfl
theorem fo23_0 : FieldOk Tryd.prog 23 0 0 := ⟨_, _, 0, Tryd.underlying23, rfl, rfl, by kernel_rfl⟩
theorem at_Rect_0 (y : Rect) (ad : Addr) (k : K) (h : At y ad k) : At y.X0 (ad.add 0) k :=
  have h0 : At (y.X0, y.Y0, y.X1, y.Y1) ad k := h
  At.fst (At.zero h0)
theorem ty3 : Ty Tryd.prog 3 Int := ⟨⟨_, Tryd.underlying3, rfl⟩, by kernel_rfl⟩
theorem fo23_2 : FieldOk Tryd.prog 23 2 2 := ⟨_, _, 0, Tryd.underlying23, rfl, rfl, by kernel_rfl⟩
theorem at_Rect_2 (y : Rect) (ad : Addr) (k : K) (h : At y ad k) : At y.X1 (ad.add 2) k :=
  have h0 : At (y.X0, y.Y0, y.X1, y.Y1) ad k := h
  At.fst (At.snd' (At.snd' (At.zero h0)))
theorem fo23_1 : FieldOk Tryd.prog 23 1 1 := ⟨_, _, 0, Tryd.underlying23, rfl, rfl, by kernel_rfl⟩
theorem at_Rect_1 (y : Rect) (ad : Addr) (k : K) (h : At y ad k) : At y.Y0 (ad.add 1) k :=
  have h0 : At (y.X0, y.Y0, y.X1, y.Y1) ad k := h
  At.fst (At.snd' (At.zero h0))
theorem fo23_3 : FieldOk Tryd.prog 23 3 3 := ⟨_, _, 0, Tryd.underlying23, rfl, rfl, by kernel_rfl⟩
theorem at_Rect_3 (y : Rect) (ad : Addr) (k : K) (h : At y ad k) : At y.Y1 (ad.add 3) k :=
  have h0 : At (y.X0, y.Y0, y.X1, y.Y1) ad k := h
  At.snd' (At.snd' (At.snd' (At.zero h0)))
theorem szf3 : (Tryd.prog.info? 3).map (·.size) = some (Enc.sz Int) := by kernel_rfl
theorem ty26 : Ty Tryd.prog 26 (List Slab) := ⟨⟨_, Tryd.underlying26, rfl⟩, by kernel_rfl⟩
theorem ty54 : Ty Tryd.prog 54 Slab := ⟨⟨_, Tryd.underlying54, rfl⟩, by kernel_rfl⟩
theorem z54 : Zero Tryd.prog 54 ((⟨0, 0, []⟩ : Slab) : Slab) := ⟨_, Tryd.zeroValue54, fun _ => ⟨_, rfl, ⟨rfl, rfl, ⟨rfl, rfl, ⟨_, rfl, .inl ⟨rfl, rfl⟩⟩⟩⟩⟩⟩
theorem szf54 : (Tryd.prog.info? 54).map (·.size) = some (Enc.sz Slab) := by kernel_rfl
theorem fo54_0 : FieldOk Tryd.prog 54 0 0 := ⟨_, _, 0, Tryd.underlying54, rfl, rfl, by kernel_rfl⟩
theorem at_Slab_0 (y : Slab) (ad : Addr) (k : K) (h : At y ad k) : At y.Z0 (ad.add 0) k :=
  have h0 : At (y.Z0, y.Z1, y.Area) ad k := h
  At.fst (At.zero h0)
theorem fo54_1 : FieldOk Tryd.prog 54 1 1 := ⟨_, _, 0, Tryd.underlying54, rfl, rfl, by kernel_rfl⟩
theorem at_Slab_1 (y : Slab) (ad : Addr) (k : K) (h : At y ad k) : At y.Z1 (ad.add 1) k :=
  have h0 : At (y.Z0, y.Z1, y.Area) ad k := h
  At.fst (At.snd' (At.zero h0))
theorem eo3 : ElemOk Tryd.prog 3 Int := ⟨_, _, rfl, rfl, rfl, rfl, by decide, by decide⟩
theorem eo23 : ElemOk Tryd.prog 23 Rect := ⟨_, _, rfl, rfl, rfl, rfl, by decide, by decide⟩
theorem szf23 : (Tryd.prog.info? 23).map (·.size) = some (Enc.sz Rect) := by kernel_rfl
theorem ty45 : Ty Tryd.prog 45 (List Rect) := ⟨⟨_, Tryd.underlying45, rfl⟩, by kernel_rfl⟩
theorem fo96_0 : FieldOk Tryd.prog 96 0 0 := ⟨_, _, 0, Tryd.underlying96, rfl, rfl, by kernel_rfl⟩
theorem at_RegionSpan_0 (y : RegionSpan) (ad : Addr) (k : K) (h : At y ad k) : At y.from_ (ad.add 0) k :=
  have h0 : At (y.from_, y.to_) ad k := h
  At.fst (At.zero h0)
theorem ty96 : Ty Tryd.prog 96 RegionSpan := ⟨⟨_, Tryd.underlying96, rfl⟩, by kernel_rfl⟩
theorem szf96 : (Tryd.prog.info? 96).map (·.size) = some (Enc.sz RegionSpan) := by kernel_rfl
theorem ty23 : Ty Tryd.prog 23 Rect := ⟨⟨_, Tryd.underlying23, rfl⟩, by kernel_rfl⟩
theorem z23 : Zero Tryd.prog 23 ((⟨0, 0, 0, 0⟩ : Rect) : Rect) := ⟨_, Tryd.zeroValue23, fun _ => ⟨_, rfl, ⟨rfl, rfl, ⟨rfl, rfl, ⟨rfl, rfl, rfl⟩⟩⟩⟩⟩
theorem bld96_0_1 {k : K} {v0 v1 : Value} {x0 : Int} {x1 : Int} (h0 : IsV x0 v0 k) (h1 : IsV x1 v1 k) : ∃ v, (∀ w, (Instr.build 96 #[(0, v0), (1, v1)]).run Tryd.prog w = .ok v w) ∧ IsV (⟨x0, x1⟩ : RegionSpan) v k := by
  obtain ⟨l0, e0, r0, n0⟩ := isV_cellsL h0
  obtain ⟨u0_0, rfl⟩ := len1 n0
  obtain ⟨l1, e1, r1, n1⟩ := isV_cellsL h1
  obtain ⟨u1_0, rfl⟩ := len1 n1
  refine ⟨.agg #[u0_0, u1_0], fun w => ?_, [u0_0, u1_0], rfl, ⟨rfl, r0, r1⟩⟩
  simp [Instr.build, Instr.fill, cells_agg, e0, e1]
theorem eo96 : ElemOk Tryd.prog 96 RegionSpan := ⟨_, _, rfl, rfl, rfl, rfl, by decide, by decide⟩
theorem z96 : Zero Tryd.prog 96 ((⟨0, 0⟩ : RegionSpan) : RegionSpan) := ⟨_, Tryd.zeroValue96, fun _ => ⟨_, rfl, ⟨rfl, rfl, rfl⟩⟩⟩
theorem fo96_1 : FieldOk Tryd.prog 96 1 1 := ⟨_, _, 0, Tryd.underlying96, rfl, rfl, by kernel_rfl⟩
theorem at_RegionSpan_1 (y : RegionSpan) (ad : Addr) (k : K) (h : At y ad k) : At y.to_ (ad.add 1) k :=
  have h0 : At (y.from_, y.to_) ad k := h
  At.snd' (At.zero h0)
theorem upd_F96_1 : Upd (α := RegionSpan) (β := Int) (0 + 1) (fun x y => { x with to_ := y }) := fun k cs cy x y hx hy => (Upd.snd Upd.self) k cs cy (x.from_, x.to_) y hx hy
theorem bld87_0_1_2 {k : K} {v0 v1 v2 : Value} {x0 : Int} {x1 : Int} {x2 : (List RegionSpan)} (h0 : IsV x0 v0 k) (h1 : IsV x1 v1 k) (h2 : IsV x2 v2 k) : ∃ v, (∀ w, (Instr.build 87 #[(0, v0), (1, v1), (2, v2)]).run Tryd.prog w = .ok v w) ∧ IsV (⟨x0, x1, x2⟩ : RegionStrip) v k := by
  obtain ⟨l0, e0, r0, n0⟩ := isV_cellsL h0
  obtain ⟨u0_0, rfl⟩ := len1 n0
  obtain ⟨l1, e1, r1, n1⟩ := isV_cellsL h1
  obtain ⟨u1_0, rfl⟩ := len1 n1
  obtain ⟨l2, e2, r2, n2⟩ := isV_cellsL h2
  obtain ⟨u2_0, rfl⟩ := len1 n2
  refine ⟨.agg #[u0_0, u1_0, u2_0], fun w => ?_, [u0_0, u1_0, u2_0], rfl, ⟨rfl, r0, ⟨rfl, r1, r2⟩⟩⟩
  simp [Instr.build, Instr.fill, cells_agg, e0, e1, e2]
theorem eo87 : ElemOk Tryd.prog 87 RegionStrip := ⟨_, _, rfl, rfl, rfl, rfl, by decide, by decide⟩
theorem eq96 : EqOk Tryd.prog 96 RegionSpan := by
  refine ⟨by kernel_rfl, fun k x y u v hx hy => ?_⟩
  obtain ⟨csx, ex, rx⟩ := hx
  have fx : csx = [.int .i64 x.from_, .int .i64 x.to_] := by
    have hl := Enc.len rx
    obtain ⟨u0, u1, rfl⟩ := len2 hl
    obtain ⟨_, qx0, qx1⟩ := rx
    have qx0 : u0 = .int .i64 x.from_ := hd1 (show [u0] = [.int .i64 x.from_] from qx0)
    have qx1 : u1 = .int .i64 x.to_ := hd1 (show [u1] = [.int .i64 x.to_] from qx1)
    rw [qx0, qx1]
  obtain ⟨csy, ey, ry⟩ := hy
  have fy : csy = [.int .i64 y.from_, .int .i64 y.to_] := by
    have hl := Enc.len ry
    obtain ⟨u0, u1, rfl⟩ := len2 hl
    obtain ⟨_, qy0, qy1⟩ := ry
    have qy0 : u0 = .int .i64 y.from_ := hd1 (show [u0] = [.int .i64 y.from_] from qy0)
    have qy1 : u1 = .int .i64 y.to_ := hd1 (show [u1] = [.int .i64 y.to_] from qy1)
    rw [qy0, qy1]
  subst fx; subst fy; subst ex; subst ey
  refine ⟨⟨_, rfl⟩, ⟨_, rfl⟩, fun w => ?_⟩
  show (Op.equalIn (9998 + 1 + 1) 96 (.agg #[.int .i64 x.from_, .int .i64 x.to_]) (.agg #[.int .i64 y.from_, .int .i64 y.to_])).run Tryd.prog w = _
  rw [run_equalIn_struct w _ 96 _ _ (by kernel_rfl) Tryd.stoodInHeld96]
  generalize 9998 = d
  simp [Program.fieldsOf, Op.eqFields, part, aggOf, ← beq_toListBytes, run_isAgg Tryd.underlying3, run_equalIn_int w d 3 .i64 .i64 _ _ Tryd.underlying3]
  obtain ⟨a0, a1⟩ := x
  obtain ⟨b0, b1⟩ := y
  simp only [RegionSpan.mk.injEq]
  by_cases h0 : a0 = b0 <;> by_cases h1 : a1 = b1 <;> simp [h0, h1]
theorem ty87 : Ty Tryd.prog 87 RegionStrip := ⟨⟨_, Tryd.underlying87, rfl⟩, by kernel_rfl⟩
theorem fo87_2 : FieldOk Tryd.prog 87 2 2 := ⟨_, _, 0, Tryd.underlying87, rfl, rfl, by kernel_rfl⟩
theorem at_RegionStrip_2 (y : RegionStrip) (ad : Addr) (k : K) (h : At y ad k) : At y.column (ad.add 2) k :=
  have h0 : At (y.x0, y.x1, y.column) ad k := h
  At.snd' (At.snd' (At.zero h0))
theorem ty85 : Ty Tryd.prog 85 (List RegionSpan) := ⟨⟨_, Tryd.underlying85, rfl⟩, by kernel_rfl⟩
theorem fo87_0 : FieldOk Tryd.prog 87 0 0 := ⟨_, _, 0, Tryd.underlying87, rfl, rfl, by kernel_rfl⟩
theorem at_RegionStrip_0 (y : RegionStrip) (ad : Addr) (k : K) (h : At y ad k) : At y.x0 (ad.add 0) k :=
  have h0 : At (y.x0, y.x1, y.column) ad k := h
  At.fst (At.zero h0)
theorem eo45 : ElemOk Tryd.prog 45 (List Rect) := ⟨_, _, rfl, rfl, rfl, rfl, by decide, by decide⟩
theorem eq23 : EqOk Tryd.prog 23 Rect := by
  refine ⟨by kernel_rfl, fun k x y u v hx hy => ?_⟩
  obtain ⟨csx, ex, rx⟩ := hx
  have fx : csx = [.int .i64 x.X0, .int .i64 x.Y0, .int .i64 x.X1, .int .i64 x.Y1] := by
    have hl := Enc.len rx
    obtain ⟨u0, u1, u2, u3, rfl⟩ := len4 hl
    obtain ⟨_, qx0, ⟨_, qx1, ⟨_, qx2, qx3⟩⟩⟩ := rx
    have qx0 : u0 = .int .i64 x.X0 := hd1 (show [u0] = [.int .i64 x.X0] from qx0)
    have qx1 : u1 = .int .i64 x.Y0 := hd1 (show [u1] = [.int .i64 x.Y0] from qx1)
    have qx2 : u2 = .int .i64 x.X1 := hd1 (show [u2] = [.int .i64 x.X1] from qx2)
    have qx3 : u3 = .int .i64 x.Y1 := hd1 (show [u3] = [.int .i64 x.Y1] from qx3)
    rw [qx0, qx1, qx2, qx3]
  obtain ⟨csy, ey, ry⟩ := hy
  have fy : csy = [.int .i64 y.X0, .int .i64 y.Y0, .int .i64 y.X1, .int .i64 y.Y1] := by
    have hl := Enc.len ry
    obtain ⟨u0, u1, u2, u3, rfl⟩ := len4 hl
    obtain ⟨_, qy0, ⟨_, qy1, ⟨_, qy2, qy3⟩⟩⟩ := ry
    have qy0 : u0 = .int .i64 y.X0 := hd1 (show [u0] = [.int .i64 y.X0] from qy0)
    have qy1 : u1 = .int .i64 y.Y0 := hd1 (show [u1] = [.int .i64 y.Y0] from qy1)
    have qy2 : u2 = .int .i64 y.X1 := hd1 (show [u2] = [.int .i64 y.X1] from qy2)
    have qy3 : u3 = .int .i64 y.Y1 := hd1 (show [u3] = [.int .i64 y.Y1] from qy3)
    rw [qy0, qy1, qy2, qy3]
  subst fx; subst fy; subst ex; subst ey
  refine ⟨⟨_, rfl⟩, ⟨_, rfl⟩, fun w => ?_⟩
  show (Op.equalIn (9998 + 1 + 1) 23 (.agg #[.int .i64 x.X0, .int .i64 x.Y0, .int .i64 x.X1, .int .i64 x.Y1]) (.agg #[.int .i64 y.X0, .int .i64 y.Y0, .int .i64 y.X1, .int .i64 y.Y1])).run Tryd.prog w = _
  rw [run_equalIn_struct w _ 23 _ _ (by kernel_rfl) Tryd.stoodInHeld23]
  generalize 9998 = d
  simp [Program.fieldsOf, Op.eqFields, part, aggOf, ← beq_toListBytes, run_isAgg Tryd.underlying3, run_equalIn_int w d 3 .i64 .i64 _ _ Tryd.underlying3]
  obtain ⟨a0, a1, a2, a3⟩ := x
  obtain ⟨b0, b1, b2, b3⟩ := y
  simp only [Rect.mk.injEq]
  by_cases h0 : a0 = b0 <;> by_cases h1 : a1 = b1 <;> by_cases h2 : a2 = b2 <;> by_cases h3 : a3 = b3 <;> simp [h0, h1, h2, h3]
theorem fo54_2 : FieldOk Tryd.prog 54 2 2 := ⟨_, _, 0, Tryd.underlying54, rfl, rfl, by kernel_rfl⟩
theorem at_Slab_2 (y : Slab) (ad : Addr) (k : K) (h : At y ad k) : At y.Area (ad.add 2) k :=
  have h0 : At (y.Z0, y.Z1, y.Area) ad k := h
  At.snd' (At.snd' (At.zero h0))
theorem upd_F54_1 : Upd (α := Slab) (β := Int) (0 + 1) (fun x y => { x with Z1 := y }) := fun k cs cy x y hx hy => (Upd.snd (Upd.fst Upd.self)) k cs cy (x.Z0, x.Z1, x.Area) y hx hy
theorem eo54 : ElemOk Tryd.prog 54 Slab := ⟨_, _, rfl, rfl, rfl, rfl, by decide, by decide⟩
theorem ty31 : Ty Tryd.prog 31 Box := ⟨⟨_, Tryd.underlying31, rfl⟩, by kernel_rfl⟩
theorem z31 : Zero Tryd.prog 31 ((⟨(⟨0, 0, 0, 0⟩ : Rect), 0, 0⟩ : Box) : Box) := ⟨_, Tryd.zeroValue31, fun _ => ⟨_, rfl, ⟨rfl, ⟨rfl, rfl, ⟨rfl, rfl, ⟨rfl, rfl, rfl⟩⟩⟩, ⟨rfl, rfl, rfl⟩⟩⟩⟩
theorem szf31 : (Tryd.prog.info? 31).map (·.size) = some (Enc.sz Box) := by kernel_rfl
theorem fo31_0 : FieldOk Tryd.prog 31 0 0 := ⟨_, _, 3, Tryd.underlying31, rfl, rfl, by kernel_rfl⟩
theorem at_Box_0 (y : Box) (ad : Addr) (k : K) (h : At y ad k) : At y.Base (ad.add 0) k :=
  have h0 : At (y.Base, y.Z0, y.Z1) ad k := h
  At.fst (At.zero h0)
theorem fo31_1 : FieldOk Tryd.prog 31 1 4 := ⟨_, _, 0, Tryd.underlying31, rfl, rfl, by kernel_rfl⟩
theorem at_Box_1 (y : Box) (ad : Addr) (k : K) (h : At y ad k) : At y.Z0 (ad.add 4) k :=
  have h0 : At (y.Base, y.Z0, y.Z1) ad k := h
  At.fst (At.snd' (At.zero h0))
theorem fo31_2 : FieldOk Tryd.prog 31 2 5 := ⟨_, _, 0, Tryd.underlying31, rfl, rfl, by kernel_rfl⟩
theorem at_Box_2 (y : Box) (ad : Addr) (k : K) (h : At y ad k) : At y.Z1 (ad.add 5) k :=
  have h0 : At (y.Base, y.Z0, y.Z1) ad k := h
  At.snd' (At.snd' (At.zero h0))
theorem bld54_0_1 {k : K} {v0 v1 : Value} {x0 : Int} {x1 : Int} (h0 : IsV x0 v0 k) (h1 : IsV x1 v1 k) : ∃ v, (∀ w, (Instr.build 54 #[(0, v0), (1, v1)]).run Tryd.prog w = .ok v w) ∧ IsV (⟨x0, x1, []⟩ : Slab) v k := by
  obtain ⟨l0, e0, r0, n0⟩ := isV_cellsL h0
  obtain ⟨u0_0, rfl⟩ := len1 n0
  obtain ⟨l1, e1, r1, n1⟩ := isV_cellsL h1
  obtain ⟨u1_0, rfl⟩ := len1 n1
  refine ⟨.agg #[u0_0, u1_0, .slice none 0 0], fun w => ?_, [u0_0, u1_0, .slice none 0 0], rfl, ⟨rfl, r0, ⟨rfl, r1, ⟨_, rfl, .inl ⟨rfl, rfl⟩⟩⟩⟩⟩
  simp [Instr.build, Instr.fill, cells_agg, e0, e1]
theorem eo26 : ElemOk Tryd.prog 26 (List Slab) := ⟨_, _, rfl, rfl, rfl, rfl, by decide, by decide⟩
theorem bld54_0_1_2 {k : K} {v0 v1 v2 : Value} {x0 : Int} {x1 : Int} {x2 : (List Rect)} (h0 : IsV x0 v0 k) (h1 : IsV x1 v1 k) (h2 : IsV x2 v2 k) : ∃ v, (∀ w, (Instr.build 54 #[(0, v0), (1, v1), (2, v2)]).run Tryd.prog w = .ok v w) ∧ IsV (⟨x0, x1, x2⟩ : Slab) v k := by
  obtain ⟨l0, e0, r0, n0⟩ := isV_cellsL h0
  obtain ⟨u0_0, rfl⟩ := len1 n0
  obtain ⟨l1, e1, r1, n1⟩ := isV_cellsL h1
  obtain ⟨u1_0, rfl⟩ := len1 n1
  obtain ⟨l2, e2, r2, n2⟩ := isV_cellsL h2
  obtain ⟨u2_0, rfl⟩ := len1 n2
  refine ⟨.agg #[u0_0, u1_0, u2_0], fun w => ?_, [u0_0, u1_0, u2_0], rfl, ⟨rfl, r0, ⟨rfl, r1, r2⟩⟩⟩
  simp [Instr.build, Instr.fill, cells_agg, e0, e1, e2]
theorem ty42 : Ty Tryd.prog 42 Plane := ⟨⟨_, Tryd.underlying42, rfl⟩, by kernel_rfl⟩
theorem fo42_0 : FieldOk Tryd.prog 42 0 0 := ⟨_, _, 0, Tryd.underlying42, rfl, rfl, by kernel_rfl⟩
theorem at_Plane_0 (y : Plane) (ad : Addr) (k : K) (h : At y ad k) : At y.Side (ad.add 0) k :=
  have h0 : At (y.Side, y.Base, y.Num, y.Den) ad k := h
  At.fst (At.zero h0)
theorem fo42_1 : FieldOk Tryd.prog 42 1 1 := ⟨_, _, 0, Tryd.underlying42, rfl, rfl, by kernel_rfl⟩
theorem at_Plane_1 (y : Plane) (ad : Addr) (k : K) (h : At y ad k) : At y.Base (ad.add 1) k :=
  have h0 : At (y.Side, y.Base, y.Num, y.Den) ad k := h
  At.fst (At.snd' (At.zero h0))
theorem fo42_2 : FieldOk Tryd.prog 42 2 2 := ⟨_, _, 0, Tryd.underlying42, rfl, rfl, by kernel_rfl⟩
theorem at_Plane_2 (y : Plane) (ad : Addr) (k : K) (h : At y ad k) : At y.Num (ad.add 2) k :=
  have h0 : At (y.Side, y.Base, y.Num, y.Den) ad k := h
  At.fst (At.snd' (At.snd' (At.zero h0)))
theorem fo42_3 : FieldOk Tryd.prog 42 3 3 := ⟨_, _, 0, Tryd.underlying42, rfl, rfl, by kernel_rfl⟩
theorem at_Plane_3 (y : Plane) (ad : Addr) (k : K) (h : At y ad k) : At y.Den (ad.add 3) k :=
  have h0 : At (y.Side, y.Base, y.Num, y.Den) ad k := h
  At.snd' (At.snd' (At.snd' (At.zero h0)))
theorem z69 : Zero Tryd.prog 69 (((0, 0, 0, 0) : (Int × Int × Int × Int)) : (Int × Int × Int × Int)) := ⟨_, Tryd.zeroValue69, fun _ => ⟨_, rfl, ⟨rfl, rfl, ⟨rfl, rfl, ⟨rfl, rfl, rfl⟩⟩⟩⟩⟩
theorem bld69_0_1_2_3 {k : K} {v0 v1 v2 v3 : Value} {x0 : Int} {x1 : Int} {x2 : Int} {x3 : Int} (h0 : IsV x0 v0 k) (h1 : IsV x1 v1 k) (h2 : IsV x2 v2 k) (h3 : IsV x3 v3 k) : ∃ v, (∀ w, (Instr.build 69 #[(0, v0), (1, v1), (2, v2), (3, v3)]).run Tryd.prog w = .ok v w) ∧ IsV ((x0, x1, x2, x3) : (Int × Int × Int × Int)) v k := by
  obtain ⟨l0, e0, r0, n0⟩ := isV_cellsL h0
  obtain ⟨u0_0, rfl⟩ := len1 n0
  obtain ⟨l1, e1, r1, n1⟩ := isV_cellsL h1
  obtain ⟨u1_0, rfl⟩ := len1 n1
  obtain ⟨l2, e2, r2, n2⟩ := isV_cellsL h2
  obtain ⟨u2_0, rfl⟩ := len1 n2
  obtain ⟨l3, e3, r3, n3⟩ := isV_cellsL h3
  obtain ⟨u3_0, rfl⟩ := len1 n3
  refine ⟨.agg #[u0_0, u1_0, u2_0, u3_0], fun w => ?_, [u0_0, u1_0, u2_0, u3_0], rfl, ⟨rfl, r0, ⟨rfl, r1, ⟨rfl, r2, r3⟩⟩⟩⟩
  simp [Instr.build, Instr.fill, cells_agg, e0, e1, e2, e3]
theorem szf69 : (Tryd.prog.info? 69).map (·.size) = some (Enc.sz (Int × Int × Int × Int)) := by kernel_rfl
theorem ty69 : Ty Tryd.prog 69 (Int × Int × Int × Int) := ⟨⟨_, Tryd.underlying69, rfl⟩, by kernel_rfl⟩
theorem z42 : Zero Tryd.prog 42 ((⟨0, 0, 0, 0⟩ : Plane) : Plane) := ⟨_, Tryd.zeroValue42, fun _ => ⟨_, rfl, ⟨rfl, rfl, ⟨rfl, rfl, ⟨rfl, rfl, rfl⟩⟩⟩⟩⟩
theorem szf42 : (Tryd.prog.info? 42).map (·.size) = some (Enc.sz Plane) := by kernel_rfl
theorem aat69_0 (y : (Int × Int × Int × Int)) (ad : Addr) (k : K) (h : At y ad k) : At y.1 (ad.add (0 * Enc.sz Int)) k := At.fst (At.zero h)
theorem aat69_1 (y : (Int × Int × Int × Int)) (ad : Addr) (k : K) (h : At y ad k) : At y.2.1 (ad.add (1 * Enc.sz Int)) k := At.fst (At.snd' (At.zero h))
theorem aat69_2 (y : (Int × Int × Int × Int)) (ad : Addr) (k : K) (h : At y ad k) : At y.2.2.1 (ad.add (2 * Enc.sz Int)) k := At.fst (At.snd' (At.snd' (At.zero h)))
theorem aat69_3 (y : (Int × Int × Int × Int)) (ad : Addr) (k : K) (h : At y ad k) : At y.2.2.2 (ad.add (3 * Enc.sz Int)) k := At.snd' (At.snd' (At.snd' (At.zero h)))
theorem ao69 : ArrOk Tryd.prog 69 3 4 Int := ⟨Tryd.underlying69, by kernel_rfl⟩
theorem eo85 : ElemOk Tryd.prog 85 (List RegionSpan) := ⟨_, _, rfl, rfl, rfl, rfl, by decide, by decide⟩
theorem z87 : Zero Tryd.prog 87 ((⟨0, 0, []⟩ : RegionStrip) : RegionStrip) := ⟨_, Tryd.zeroValue87, fun _ => ⟨_, rfl, ⟨rfl, rfl, ⟨rfl, rfl, ⟨_, rfl, .inl ⟨rfl, rfl⟩⟩⟩⟩⟩⟩
theorem szf87 : (Tryd.prog.info? 87).map (·.size) = some (Enc.sz RegionStrip) := by kernel_rfl
theorem upd_F87_2 : Upd (α := RegionStrip) (β := (List RegionSpan)) (0 + 2) (fun x y => { x with column := y }) := fun k cs cy x y hx hy => (Upd.snd (Upd.snd Upd.self)) k cs cy (x.x0, x.x1, x.column) y hx hy
theorem szf85 : (Tryd.prog.info? 85).map (·.size) = some (Enc.sz (List RegionSpan)) := by kernel_rfl
theorem ty24 : Ty Tryd.prog 24 (List Plane) := ⟨⟨_, Tryd.underlying24, rfl⟩, by kernel_rfl⟩
theorem eq35 : EqOk Tryd.prog 35 Point3 := by
  refine ⟨by kernel_rfl, fun k x y u v hx hy => ?_⟩
  obtain ⟨csx, ex, rx⟩ := hx
  have fx : csx = [.int .i64 x.X, .int .i64 x.Y, .int .i64 x.Z] := by
    have hl := Enc.len rx
    obtain ⟨u0, u1, u2, rfl⟩ := len3 hl
    obtain ⟨_, qx0, ⟨_, qx1, qx2⟩⟩ := rx
    have qx0 : u0 = .int .i64 x.X := hd1 (show [u0] = [.int .i64 x.X] from qx0)
    have qx1 : u1 = .int .i64 x.Y := hd1 (show [u1] = [.int .i64 x.Y] from qx1)
    have qx2 : u2 = .int .i64 x.Z := hd1 (show [u2] = [.int .i64 x.Z] from qx2)
    rw [qx0, qx1, qx2]
  obtain ⟨csy, ey, ry⟩ := hy
  have fy : csy = [.int .i64 y.X, .int .i64 y.Y, .int .i64 y.Z] := by
    have hl := Enc.len ry
    obtain ⟨u0, u1, u2, rfl⟩ := len3 hl
    obtain ⟨_, qy0, ⟨_, qy1, qy2⟩⟩ := ry
    have qy0 : u0 = .int .i64 y.X := hd1 (show [u0] = [.int .i64 y.X] from qy0)
    have qy1 : u1 = .int .i64 y.Y := hd1 (show [u1] = [.int .i64 y.Y] from qy1)
    have qy2 : u2 = .int .i64 y.Z := hd1 (show [u2] = [.int .i64 y.Z] from qy2)
    rw [qy0, qy1, qy2]
  subst fx; subst fy; subst ex; subst ey
  refine ⟨⟨_, rfl⟩, ⟨_, rfl⟩, fun w => ?_⟩
  show (Op.equalIn (9998 + 1 + 1) 35 (.agg #[.int .i64 x.X, .int .i64 x.Y, .int .i64 x.Z]) (.agg #[.int .i64 y.X, .int .i64 y.Y, .int .i64 y.Z])).run Tryd.prog w = _
  rw [run_equalIn_struct w _ 35 _ _ (by kernel_rfl) Tryd.stoodInHeld35]
  generalize 9998 = d
  simp [Program.fieldsOf, Op.eqFields, part, aggOf, ← beq_toListBytes, run_isAgg Tryd.underlying3, run_equalIn_int w d 3 .i64 .i64 _ _ Tryd.underlying3]
  obtain ⟨a0, a1, a2⟩ := x
  obtain ⟨b0, b1, b2⟩ := y
  simp only [Point3.mk.injEq]
  by_cases h0 : a0 = b0 <;> by_cases h1 : a1 = b1 <;> by_cases h2 : a2 = b2 <;> simp [h0, h1, h2]
theorem rd3 : Rd Tryd.prog 3 Int := rd_int Tryd.underlying3
instance : Rg Rect := Rg.ofMap fun x => (x.X0, x.Y0, x.X1, x.Y1)
theorem rd23 : Rd Tryd.prog 23 Rect := rd_struct (f := fun x => (x.X0, x.Y0, x.X1, x.Y1)) (fun y => ⟨y.1, y.2.1, y.2.2.1, y.2.2.2⟩) Tryd.underlying23 (by kernel_rfl) rfl (fun _ _ _ h => h) (fun _ h => h) (RdF.cons rfl (by kernel_rfl) rd3 (RdF.cons rfl (by kernel_rfl) rd3 (RdF.cons rfl (by kernel_rfl) rd3 (RdF.one rfl (by kernel_rfl) rd3)))) (fun _ => rfl)
instance : Rg Plane := Rg.ofMap fun x => (x.Side, x.Base, x.Num, x.Den)
theorem rd42 : Rd Tryd.prog 42 Plane := rd_struct (f := fun x => (x.Side, x.Base, x.Num, x.Den)) (fun y => ⟨y.1, y.2.1, y.2.2.1, y.2.2.2⟩) Tryd.underlying42 (by kernel_rfl) rfl (fun _ _ _ h => h) (fun _ h => h) (RdF.cons rfl (by kernel_rfl) rd3 (RdF.cons rfl (by kernel_rfl) rd3 (RdF.cons rfl (by kernel_rfl) rd3 (RdF.one rfl (by kernel_rfl) rd3)))) (fun _ => rfl)
theorem rd24 : Rd Tryd.prog 24 (List Plane) := rd_slice Tryd.underlying24 (by kernel_rfl) (by decide) rd42
noncomputable def tb : Tb where
  S := fun n => match n with
    | 0 => Rect
    | 1 => RegionSpan
    | 2 => RegionStrip
    | 3 => Slab
    | 4 => Point3
    | 5 => Box
    | 6 => Plane
    | 7 => (Int × Int × Int × Int)
    | _ + 8 => Unit
  fs := fun n => match n with
    | 0 => [.int, .int, .int, .int]
    | 1 => [.int, .int]
    | 2 => [.int, .int, .list (.st 1)]
    | 3 => [.int, .int, .list (.st 0)]
    | 4 => [.int, .int, .int]
    | 5 => [.st 0, .int, .int]
    | 6 => [.int, .int, .int, .int]
    | 7 => [.int, .int, .int, .int]
    | _ + 8 => []
  to := fun n => match n with
    | 0 => fun x => (x.X0, x.Y0, x.X1, x.Y1)
    | 1 => fun x => (x.from_, x.to_)
    | 2 => fun x => (x.x0, x.x1, x.column)
    | 3 => fun x => (x.Z0, x.Z1, x.Area)
    | 4 => fun x => (x.X, x.Y, x.Z)
    | 5 => fun x => (x.Base, x.Z0, x.Z1)
    | 6 => fun x => (x.Side, x.Base, x.Num, x.Den)
    | 7 => fun x => x
    | _ + 8 => fun _ => ()
  of := fun n => match n with
    | 0 => fun x => ⟨x.1, x.2.1, x.2.2.1, x.2.2.2⟩
    | 1 => fun x => ⟨x.1, x.2⟩
    | 2 => fun x => ⟨x.1, x.2.1, x.2.2⟩
    | 3 => fun x => ⟨x.1, x.2.1, x.2.2⟩
    | 4 => fun x => ⟨x.1, x.2.1, x.2.2⟩
    | 5 => fun x => ⟨x.1, x.2.1, x.2.2⟩
    | 6 => fun x => ⟨x.1, x.2.1, x.2.2.1, x.2.2.2⟩
    | 7 => fun x => x
    | _ + 8 => fun _ => ()
  zero := fun n => match n with
    | 0 => (default : Rect)
    | 1 => (default : RegionSpan)
    | 2 => (default : RegionStrip)
    | 3 => (default : Slab)
    | 4 => (default : Point3)
    | 5 => (default : Box)
    | 6 => (default : Plane)
    | 7 => (default : (Int × Int × Int × Int))
    | _ + 8 => ()
  deq := fun n => match n with
    | 0 => (inferInstance : DecidableEq Rect)
    | 1 => (inferInstance : DecidableEq RegionSpan)
    | 2 => (inferInstance : DecidableEq RegionStrip)
    | 3 => (inferInstance : DecidableEq Slab)
    | 4 => (inferInstance : DecidableEq Point3)
    | 5 => (inferInstance : DecidableEq Box)
    | 6 => (inferInstance : DecidableEq Plane)
    | 7 => (inferInstance : DecidableEq (Int × Int × Int × Int))
    | _ + 8 => (inferInstance : DecidableEq Unit)
  enc := fun n => match n with
    | 0 => (inferInstance : Enc Rect)
    | 1 => (inferInstance : Enc RegionSpan)
    | 2 => (inferInstance : Enc RegionStrip)
    | 3 => (inferInstance : Enc Slab)
    | 4 => (inferInstance : Enc Point3)
    | 5 => (inferInstance : Enc Box)
    | 6 => (inferInstance : Enc Plane)
    | 7 => (inferInstance : Enc (Int × Int × Int × Int))
    | _ + 8 => Enc.ofMap (σ := Unit) (β := Unit) fun x => x
  to_of := fun n => match n with
    | 0 => fun _ => rfl
    | 1 => fun _ => rfl
    | 2 => fun _ => rfl
    | 3 => fun _ => rfl
    | 4 => fun _ => rfl
    | 5 => fun _ => rfl
    | 6 => fun _ => rfl
    | 7 => fun _ => rfl
    | _ + 8 => fun _ => rfl
  zero_eq := fun n => match n with
    | 0 => rfl
    | 1 => rfl
    | 2 => rfl
    | 3 => rfl
    | 4 => rfl
    | 5 => rfl
    | 6 => rfl
    | 7 => rfl
    | _ + 8 => rfl
  enc_eq := fun n => match n with
    | 0 => rfl
    | 1 => rfl
    | 2 => rfl
    | 3 => rfl
    | 4 => rfl
    | 5 => rfl
    | 6 => rfl
    | 7 => rfl
    | _ + 8 => rfl
def tid : TypeId → Option Tp := tidL [(3, .int), (23, .st 0), (31, .st 5), (35, .st 4), (42, .st 6), (45, .list (.st 0)), (54, .st 3), (96, .st 1)]
def eqs : List (TypeId × Nat) := [(96, 1), (23, 0), (35, 4)]
theorem eqsOk : EqsOk Tryd.prog tb eqs := ⟨eq96, eq23, eq35, trivial⟩
noncomputable def mk (f : FuncId) (dom cod : List Tp) (run : HL tb.S dom → Option (HL tb.S cod)) (ks : List (Fk tb Tryd.prog)) (own : List Nat) (fn : Func) (h : Hn tb) (hf : Tryd.prog.funcs[f]? = some fn)
  (hc : ∀ args w, (callFunc f args).run Tryd.prog w = .ok (.enter f args) w) (hb : fn.body = some (body fn)) (hl : Nat.ble dom.length fn.ntmps = true)
  (he : ∀ x, evF ⟨Tryd.prog, tid, eqs, depsOf ks, own, fn.results.toList, fn.ntmps⟩ (body fn) h dom cod x = run x) : Fk tb Tryd.prog := ⟨f, ⟨dom, cod, run⟩, fnOk ks own fn h eqsOk hmix hf hc hb hl he⟩
noncomputable def mkO (f : FuncId) (dom cod : List Tp) (run : HL tb.S dom → Option (HL tb.S cod)) (hc : ∀ args w, (callFunc f args).run Tryd.prog w = .ok (.enter f args) w)
  (ok : ∀ (k0 : K) (vs : List Value) (x : HL tb.S dom) (r : HL tb.S cod), GOk tb k0 → HIs dom x vs k0 → run x = some r → Calls Tryd.prog f vs.toArray k0.w (Ret k0 fun u k => (resV cod r).is ⟨#[], []⟩ u k)) : Fk tb Tryd.prog := ⟨f, ⟨dom, cod, run⟩, hc, ok⟩
def glv : Nat → Option (Σ t : Tp, t.den tb.S) := fun g => match g with
  | 0 => some ⟨.st 0, ((⟨0, 0, 1048576, 1048576⟩ : Rect) : Rect)⟩
  | _ => none
theorem gl0 : ∀ g, tb.gl g = none := fun _ => rfl
noncomputable def tbg : Tb := tb.withG glv
theorem eqsOkG : EqsOk Tryd.prog tbg eqs := ⟨eq96, eq23, eq35, trivial⟩
noncomputable def mkg (f : FuncId) (dom cod : List Tp) (run : HL tbg.S dom → Option (HL tbg.S cod)) (ks : List (Fk tbg Tryd.prog)) (own : List Nat) (fn : Func) (h : Hn tbg) (hf : Tryd.prog.funcs[f]? = some fn)
  (hc : ∀ args w, (callFunc f args).run Tryd.prog w = .ok (.enter f args) w) (hb : fn.body = some (body fn)) (hl : Nat.ble dom.length fn.ntmps = true)
  (he : ∀ x, evF ⟨Tryd.prog, tid, eqs, depsOf ks, own, fn.results.toList, fn.ntmps⟩ (body fn) h dom cod x = run x) : Fk tbg Tryd.prog := ⟨f, ⟨dom, cod, run⟩, fnOk ks own fn h (T := tbg) eqsOkG hmix hf hc hb hl he⟩
end Go.Proofs.YtpbeebhapbibfaaDoor
