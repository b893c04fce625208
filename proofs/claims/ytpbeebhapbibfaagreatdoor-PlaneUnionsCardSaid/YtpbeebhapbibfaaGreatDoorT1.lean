/- What the functions compute that the law reaches, part 1 -/
import Derived.Test.YtpbeebhapbibfaaGreatDoorProg
import Derived.Test.YtpbeebhapbibfaaGreatDoorL5
import Derived.Shelf.Sort.Plain
import Derived.Shelf.Slices.In.SortNone
import Derived.Shelf.Slices.CompactI
import Derived.Shelf.Spec.SlicesGrow
import Derived.Shelf.SlSortCmp.NoneTotal
namespace Go.Proofs.YtpbeebhapbibfaaGreatDoor
open Go.Gb
set_option linter.unusedVariables false
set_option linter.unusedSimpArgs false
set_option maxRecDepth 100000
structure Rect where
  X0 : Int
  Y0 : Int
  X1 : Int
  Y1 : Int
  deriving DecidableEq, Inhabited
instance : Enc Rect := Enc.ofMap fun x => (x.X0, x.Y0, x.X1, x.Y1)
structure Slab where
  Z0 : Int
  Z1 : Int
  Area : (List Rect)
  deriving DecidableEq, Inhabited
instance : Enc Slab := Enc.ofMap fun x => (x.Z0, x.Z1, x.Area)
structure RegionSpan where
  from_ : Int
  to_ : Int
  deriving DecidableEq, Inhabited
instance : Enc RegionSpan := Enc.ofMap fun x => (x.from_, x.to_)
structure RegionStrip where
  x0 : Int
  x1 : Int
  column : (List RegionSpan)
  deriving DecidableEq, Inhabited
instance : Enc RegionStrip := Enc.ofMap fun x => (x.x0, x.x1, x.column)
structure Box where
  Base : Rect
  Z0 : Int
  Z1 : Int
  deriving DecidableEq, Inhabited
instance : Enc Box := Enc.ofMap fun x => (x.Base, x.Z0, x.Z1)
structure Plane where
  Side : Int
  Base : Int
  Num : Int
  Den : Int
  deriving DecidableEq, Inhabited
instance : Enc Plane := Enc.ofMap fun x => (x.Side, x.Base, x.Num, x.Den)
structure Point3 where
  X : Int
  Y : Int
  Z : Int
  deriving DecidableEq, Inhabited
instance : Enc Point3 := Enc.ofMap fun x => (x.X, x.Y, x.Z)
theorem hmix : Tryz.prog.follows .mixedOrders = true := by kernel_rfl
theorem fo23_0 : FieldOk Tryz.prog 23 0 0 := ⟨_, _, 0, Tryz.underlying23, rfl, rfl, by kernel_rfl⟩
theorem at_Rect_0 (y : Rect) (ad : Addr) (k : K) (h : At y ad k) : At y.X0 (ad.add 0) k :=
  have h0 : At (y.X0, y.Y0, y.X1, y.Y1) ad k := h
  At.fst (At.zero h0)
theorem ty3 : Ty Tryz.prog 3 Int := ⟨⟨_, Tryz.underlying3, rfl⟩, by kernel_rfl⟩
theorem fo23_2 : FieldOk Tryz.prog 23 2 2 := ⟨_, _, 0, Tryz.underlying23, rfl, rfl, by kernel_rfl⟩
theorem at_Rect_2 (y : Rect) (ad : Addr) (k : K) (h : At y ad k) : At y.X1 (ad.add 2) k :=
  have h0 : At (y.X0, y.Y0, y.X1, y.Y1) ad k := h
  At.fst (At.snd' (At.snd' (At.zero h0)))
theorem fo23_1 : FieldOk Tryz.prog 23 1 1 := ⟨_, _, 0, Tryz.underlying23, rfl, rfl, by kernel_rfl⟩
theorem at_Rect_1 (y : Rect) (ad : Addr) (k : K) (h : At y ad k) : At y.Y0 (ad.add 1) k :=
  have h0 : At (y.X0, y.Y0, y.X1, y.Y1) ad k := h
  At.fst (At.snd' (At.zero h0))
theorem fo23_3 : FieldOk Tryz.prog 23 3 3 := ⟨_, _, 0, Tryz.underlying23, rfl, rfl, by kernel_rfl⟩
theorem at_Rect_3 (y : Rect) (ad : Addr) (k : K) (h : At y ad k) : At y.Y1 (ad.add 3) k :=
  have h0 : At (y.X0, y.Y0, y.X1, y.Y1) ad k := h
  At.snd' (At.snd' (At.snd' (At.zero h0)))
theorem szf3 : (Tryz.prog.info? 3).map (·.size) = some (Enc.sz Int) := by kernel_rfl
theorem ty28 : Ty Tryz.prog 28 (List Slab) := ⟨⟨_, Tryz.underlying28, rfl⟩, by kernel_rfl⟩
theorem ty57 : Ty Tryz.prog 57 Slab := ⟨⟨_, Tryz.underlying57, rfl⟩, by kernel_rfl⟩
theorem z57 : Zero Tryz.prog 57 ((⟨0, 0, []⟩ : Slab) : Slab) := ⟨_, Tryz.zeroValue57, fun _ => ⟨_, rfl, ⟨rfl, rfl, ⟨rfl, rfl, ⟨_, rfl, .inl ⟨rfl, rfl⟩⟩⟩⟩⟩⟩
theorem szf57 : (Tryz.prog.info? 57).map (·.size) = some (Enc.sz Slab) := by kernel_rfl
theorem fo57_0 : FieldOk Tryz.prog 57 0 0 := ⟨_, _, 0, Tryz.underlying57, rfl, rfl, by kernel_rfl⟩
theorem at_Slab_0 (y : Slab) (ad : Addr) (k : K) (h : At y ad k) : At y.Z0 (ad.add 0) k :=
  have h0 : At (y.Z0, y.Z1, y.Area) ad k := h
  At.fst (At.zero h0)
theorem fo57_1 : FieldOk Tryz.prog 57 1 1 := ⟨_, _, 0, Tryz.underlying57, rfl, rfl, by kernel_rfl⟩
theorem at_Slab_1 (y : Slab) (ad : Addr) (k : K) (h : At y ad k) : At y.Z1 (ad.add 1) k :=
  have h0 : At (y.Z0, y.Z1, y.Area) ad k := h
  At.fst (At.snd' (At.zero h0))
theorem eo3 : ElemOk Tryz.prog 3 Int := ⟨_, _, rfl, rfl, rfl, rfl, by decide, by decide⟩
theorem eo23 : ElemOk Tryz.prog 23 Rect := ⟨_, _, rfl, rfl, rfl, rfl, by decide, by decide⟩
theorem szf23 : (Tryz.prog.info? 23).map (·.size) = some (Enc.sz Rect) := by kernel_rfl
theorem ty36 : Ty Tryz.prog 36 (List Rect) := ⟨⟨_, Tryz.underlying36, rfl⟩, by kernel_rfl⟩
theorem fo108_0 : FieldOk Tryz.prog 108 0 0 := ⟨_, _, 0, Tryz.underlying108, rfl, rfl, by kernel_rfl⟩
theorem at_RegionSpan_0 (y : RegionSpan) (ad : Addr) (k : K) (h : At y ad k) : At y.from_ (ad.add 0) k :=
  have h0 : At (y.from_, y.to_) ad k := h
  At.fst (At.zero h0)
theorem ty108 : Ty Tryz.prog 108 RegionSpan := ⟨⟨_, Tryz.underlying108, rfl⟩, by kernel_rfl⟩
theorem szf108 : (Tryz.prog.info? 108).map (·.size) = some (Enc.sz RegionSpan) := by kernel_rfl
theorem ty23 : Ty Tryz.prog 23 Rect := ⟨⟨_, Tryz.underlying23, rfl⟩, by kernel_rfl⟩
theorem z23 : Zero Tryz.prog 23 ((⟨0, 0, 0, 0⟩ : Rect) : Rect) := ⟨_, Tryz.zeroValue23, fun _ => ⟨_, rfl, ⟨rfl, rfl, ⟨rfl, rfl, ⟨rfl, rfl, rfl⟩⟩⟩⟩⟩
theorem bld108_0_1 {k : K} {v0 v1 : Value} {x0 : Int} {x1 : Int} (h0 : IsV x0 v0 k) (h1 : IsV x1 v1 k) : ∃ v, (∀ w, (Instr.build 108 #[(0, v0), (1, v1)]).run Tryz.prog w = .ok v w) ∧ IsV (⟨x0, x1⟩ : RegionSpan) v k := by
  obtain ⟨l0, e0, r0, n0⟩ := isV_cellsL h0
  obtain ⟨u0_0, rfl⟩ := len1 n0
  obtain ⟨l1, e1, r1, n1⟩ := isV_cellsL h1
  obtain ⟨u1_0, rfl⟩ := len1 n1
  refine ⟨.agg #[u0_0, u1_0], fun w => ?_, [u0_0, u1_0], rfl, ⟨rfl, r0, r1⟩⟩
  simp [Instr.build, Instr.fill, cells_agg, e0, e1]
theorem eo108 : ElemOk Tryz.prog 108 RegionSpan := ⟨_, _, rfl, rfl, rfl, rfl, by decide, by decide⟩
theorem z108 : Zero Tryz.prog 108 ((⟨0, 0⟩ : RegionSpan) : RegionSpan) := ⟨_, Tryz.zeroValue108, fun _ => ⟨_, rfl, ⟨rfl, rfl, rfl⟩⟩⟩
theorem fo108_1 : FieldOk Tryz.prog 108 1 1 := ⟨_, _, 0, Tryz.underlying108, rfl, rfl, by kernel_rfl⟩
theorem at_RegionSpan_1 (y : RegionSpan) (ad : Addr) (k : K) (h : At y ad k) : At y.to_ (ad.add 1) k :=
  have h0 : At (y.from_, y.to_) ad k := h
  At.snd' (At.zero h0)
theorem upd_F108_1 : Upd (α := RegionSpan) (β := Int) (0 + 1) (fun x y => { x with to_ := y }) := fun k cs cy x y hx hy => (Upd.snd Upd.self) k cs cy (x.from_, x.to_) y hx hy
theorem bld110_0_1_2 {k : K} {v0 v1 v2 : Value} {x0 : Int} {x1 : Int} {x2 : (List RegionSpan)} (h0 : IsV x0 v0 k) (h1 : IsV x1 v1 k) (h2 : IsV x2 v2 k) : ∃ v, (∀ w, (Instr.build 110 #[(0, v0), (1, v1), (2, v2)]).run Tryz.prog w = .ok v w) ∧ IsV (⟨x0, x1, x2⟩ : RegionStrip) v k := by
  obtain ⟨l0, e0, r0, n0⟩ := isV_cellsL h0
  obtain ⟨u0_0, rfl⟩ := len1 n0
  obtain ⟨l1, e1, r1, n1⟩ := isV_cellsL h1
  obtain ⟨u1_0, rfl⟩ := len1 n1
  obtain ⟨l2, e2, r2, n2⟩ := isV_cellsL h2
  obtain ⟨u2_0, rfl⟩ := len1 n2
  refine ⟨.agg #[u0_0, u1_0, u2_0], fun w => ?_, [u0_0, u1_0, u2_0], rfl, ⟨rfl, r0, ⟨rfl, r1, r2⟩⟩⟩
  simp [Instr.build, Instr.fill, cells_agg, e0, e1, e2]
theorem eo110 : ElemOk Tryz.prog 110 RegionStrip := ⟨_, _, rfl, rfl, rfl, rfl, by decide, by decide⟩
theorem eq108 : EqOk Tryz.prog 108 RegionSpan := by
  refine ⟨by kernel_rfl, fun k x y u v hx hy => ?_⟩
  obtain ⟨csx, ex, rx⟩ := hx
  have fx : csx = [.int .i64 x.from_, .int .i64 x.to_] := by
    have hl := Enc.len rx
    obtain ⟨u0, u1, rfl⟩ := len2 hl
    obtain ⟨_, qx0, qx1⟩ := rx
    have qx0 : u0 = .int .i64 x.from_ := hd1 (show [u0] = [.int .i64 x.from_] from qx0)
    have qx1 : u1 = .int .i64 x.to_ := hd1 (show [u1] = [.int .i64 x.to_] from qx1)
    rw [qx0, qx1]
  obtain ⟨csy, ey, ry⟩ := hy
  have fy : csy = [.int .i64 y.from_, .int .i64 y.to_] := by
    have hl := Enc.len ry
    obtain ⟨u0, u1, rfl⟩ := len2 hl
    obtain ⟨_, qy0, qy1⟩ := ry
    have qy0 : u0 = .int .i64 y.from_ := hd1 (show [u0] = [.int .i64 y.from_] from qy0)
    have qy1 : u1 = .int .i64 y.to_ := hd1 (show [u1] = [.int .i64 y.to_] from qy1)
    rw [qy0, qy1]
  subst fx; subst fy; subst ex; subst ey
  refine ⟨⟨_, rfl⟩, ⟨_, rfl⟩, fun w => ?_⟩
  show (Op.equalIn (9998 + 1 + 1) 108 (.agg #[.int .i64 x.from_, .int .i64 x.to_]) (.agg #[.int .i64 y.from_, .int .i64 y.to_])).run Tryz.prog w = _
  rw [run_equalIn_struct w _ 108 _ _ (by kernel_rfl) Tryz.stoodInHeld108]
  generalize 9998 = d
  simp [Program.fieldsOf, Op.eqFields, part, aggOf, ← beq_toListBytes, run_isAgg Tryz.underlying3, run_equalIn_int w d 3 .i64 .i64 _ _ Tryz.underlying3]
  obtain ⟨a0, a1⟩ := x
  obtain ⟨b0, b1⟩ := y
  simp only [RegionSpan.mk.injEq]
  by_cases h0 : a0 = b0 <;> by_cases h1 : a1 = b1 <;> simp [h0, h1]
theorem ty110 : Ty Tryz.prog 110 RegionStrip := ⟨⟨_, Tryz.underlying110, rfl⟩, by kernel_rfl⟩
theorem fo110_2 : FieldOk Tryz.prog 110 2 2 := ⟨_, _, 0, Tryz.underlying110, rfl, rfl, by kernel_rfl⟩
theorem at_RegionStrip_2 (y : RegionStrip) (ad : Addr) (k : K) (h : At y ad k) : At y.column (ad.add 2) k :=
  have h0 : At (y.x0, y.x1, y.column) ad k := h
  At.snd' (At.snd' (At.zero h0))
theorem ty106 : Ty Tryz.prog 106 (List RegionSpan) := ⟨⟨_, Tryz.underlying106, rfl⟩, by kernel_rfl⟩
theorem fo110_0 : FieldOk Tryz.prog 110 0 0 := ⟨_, _, 0, Tryz.underlying110, rfl, rfl, by kernel_rfl⟩
theorem at_RegionStrip_0 (y : RegionStrip) (ad : Addr) (k : K) (h : At y ad k) : At y.x0 (ad.add 0) k :=
  have h0 : At (y.x0, y.x1, y.column) ad k := h
  At.fst (At.zero h0)
theorem eo36 : ElemOk Tryz.prog 36 (List Rect) := ⟨_, _, rfl, rfl, rfl, rfl, by decide, by decide⟩
theorem eq23 : EqOk Tryz.prog 23 Rect := by
  refine ⟨by kernel_rfl, fun k x y u v hx hy => ?_⟩
  obtain ⟨csx, ex, rx⟩ := hx
  have fx : csx = [.int .i64 x.X0, .int .i64 x.Y0, .int .i64 x.X1, .int .i64 x.Y1] := by
    have hl := Enc.len rx
    obtain ⟨u0, u1, u2, u3, rfl⟩ := len4 hl
    obtain ⟨_, qx0, ⟨_, qx1, ⟨_, qx2, qx3⟩⟩⟩ := rx
    have qx0 : u0 = .int .i64 x.X0 := hd1 (show [u0] = [.int .i64 x.X0] from qx0)
    have qx1 : u1 = .int .i64 x.Y0 := hd1 (show [u1] = [.int .i64 x.Y0] from qx1)
    have qx2 : u2 = .int .i64 x.X1 := hd1 (show [u2] = [.int .i64 x.X1] from qx2)
    have qx3 : u3 = .int .i64 x.Y1 := hd1 (show [u3] = [.int .i64 x.Y1] from qx3)
    rw [qx0, qx1, qx2, qx3]
  obtain ⟨csy, ey, ry⟩ := hy
  have fy : csy = [.int .i64 y.X0, .int .i64 y.Y0, .int .i64 y.X1, .int .i64 y.Y1] := by
    have hl := Enc.len ry
    obtain ⟨u0, u1, u2, u3, rfl⟩ := len4 hl
    obtain ⟨_, qy0, ⟨_, qy1, ⟨_, qy2, qy3⟩⟩⟩ := ry
    have qy0 : u0 = .int .i64 y.X0 := hd1 (show [u0] = [.int .i64 y.X0] from qy0)
    have qy1 : u1 = .int .i64 y.Y0 := hd1 (show [u1] = [.int .i64 y.Y0] from qy1)
    have qy2 : u2 = .int .i64 y.X1 := hd1 (show [u2] = [.int .i64 y.X1] from qy2)
    have qy3 : u3 = .int .i64 y.Y1 := hd1 (show [u3] = [.int .i64 y.Y1] from qy3)
    rw [qy0, qy1, qy2, qy3]
  subst fx; subst fy; subst ex; subst ey
  refine ⟨⟨_, rfl⟩, ⟨_, rfl⟩, fun w => ?_⟩
  show (Op.equalIn (9998 + 1 + 1) 23 (.agg #[.int .i64 x.X0, .int .i64 x.Y0, .int .i64 x.X1, .int .i64 x.Y1]) (.agg #[.int .i64 y.X0, .int .i64 y.Y0, .int .i64 y.X1, .int .i64 y.Y1])).run Tryz.prog w = _
  rw [run_equalIn_struct w _ 23 _ _ (by kernel_rfl) Tryz.stoodInHeld23]
  generalize 9998 = d
  simp [Program.fieldsOf, Op.eqFields, part, aggOf, ← beq_toListBytes, run_isAgg Tryz.underlying3, run_equalIn_int w d 3 .i64 .i64 _ _ Tryz.underlying3]
  obtain ⟨a0, a1, a2, a3⟩ := x
  obtain ⟨b0, b1, b2, b3⟩ := y
  simp only [Rect.mk.injEq]
  by_cases h0 : a0 = b0 <;> by_cases h1 : a1 = b1 <;> by_cases h2 : a2 = b2 <;> by_cases h3 : a3 = b3 <;> simp [h0, h1, h2, h3]
theorem fo57_2 : FieldOk Tryz.prog 57 2 2 := ⟨_, _, 0, Tryz.underlying57, rfl, rfl, by kernel_rfl⟩
theorem at_Slab_2 (y : Slab) (ad : Addr) (k : K) (h : At y ad k) : At y.Area (ad.add 2) k :=
  have h0 : At (y.Z0, y.Z1, y.Area) ad k := h
  At.snd' (At.snd' (At.zero h0))
theorem upd_F57_1 : Upd (α := Slab) (β := Int) (0 + 1) (fun x y => { x with Z1 := y }) := fun k cs cy x y hx hy => (Upd.snd (Upd.fst Upd.self)) k cs cy (x.Z0, x.Z1, x.Area) y hx hy
theorem eo57 : ElemOk Tryz.prog 57 Slab := ⟨_, _, rfl, rfl, rfl, rfl, by decide, by decide⟩
theorem ty54 : Ty Tryz.prog 54 Box := ⟨⟨_, Tryz.underlying54, rfl⟩, by kernel_rfl⟩
theorem z54 : Zero Tryz.prog 54 ((⟨(⟨0, 0, 0, 0⟩ : Rect), 0, 0⟩ : Box) : Box) := ⟨_, Tryz.zeroValue54, fun _ => ⟨_, rfl, ⟨rfl, ⟨rfl, rfl, ⟨rfl, rfl, ⟨rfl, rfl, rfl⟩⟩⟩, ⟨rfl, rfl, rfl⟩⟩⟩⟩
theorem szf54 : (Tryz.prog.info? 54).map (·.size) = some (Enc.sz Box) := by kernel_rfl
theorem fo54_0 : FieldOk Tryz.prog 54 0 0 := ⟨_, _, 3, Tryz.underlying54, rfl, rfl, by kernel_rfl⟩
theorem at_Box_0 (y : Box) (ad : Addr) (k : K) (h : At y ad k) : At y.Base (ad.add 0) k :=
  have h0 : At (y.Base, y.Z0, y.Z1) ad k := h
  At.fst (At.zero h0)
theorem fo54_1 : FieldOk Tryz.prog 54 1 4 := ⟨_, _, 0, Tryz.underlying54, rfl, rfl, by kernel_rfl⟩
theorem at_Box_1 (y : Box) (ad : Addr) (k : K) (h : At y ad k) : At y.Z0 (ad.add 4) k :=
  have h0 : At (y.Base, y.Z0, y.Z1) ad k := h
  At.fst (At.snd' (At.zero h0))
theorem fo54_2 : FieldOk Tryz.prog 54 2 5 := ⟨_, _, 0, Tryz.underlying54, rfl, rfl, by kernel_rfl⟩
theorem at_Box_2 (y : Box) (ad : Addr) (k : K) (h : At y ad k) : At y.Z1 (ad.add 5) k :=
  have h0 : At (y.Base, y.Z0, y.Z1) ad k := h
  At.snd' (At.snd' (At.zero h0))
theorem bld57_0_1 {k : K} {v0 v1 : Value} {x0 : Int} {x1 : Int} (h0 : IsV x0 v0 k) (h1 : IsV x1 v1 k) : ∃ v, (∀ w, (Instr.build 57 #[(0, v0), (1, v1)]).run Tryz.prog w = .ok v w) ∧ IsV (⟨x0, x1, []⟩ : Slab) v k := by
  obtain ⟨l0, e0, r0, n0⟩ := isV_cellsL h0
  obtain ⟨u0_0, rfl⟩ := len1 n0
  obtain ⟨l1, e1, r1, n1⟩ := isV_cellsL h1
  obtain ⟨u1_0, rfl⟩ := len1 n1
  refine ⟨.agg #[u0_0, u1_0, .slice none 0 0], fun w => ?_, [u0_0, u1_0, .slice none 0 0], rfl, ⟨rfl, r0, ⟨rfl, r1, ⟨_, rfl, .inl ⟨rfl, rfl⟩⟩⟩⟩⟩
  simp [Instr.build, Instr.fill, cells_agg, e0, e1]
theorem eo28 : ElemOk Tryz.prog 28 (List Slab) := ⟨_, _, rfl, rfl, rfl, rfl, by decide, by decide⟩
theorem bld57_0_1_2 {k : K} {v0 v1 v2 : Value} {x0 : Int} {x1 : Int} {x2 : (List Rect)} (h0 : IsV x0 v0 k) (h1 : IsV x1 v1 k) (h2 : IsV x2 v2 k) : ∃ v, (∀ w, (Instr.build 57 #[(0, v0), (1, v1), (2, v2)]).run Tryz.prog w = .ok v w) ∧ IsV (⟨x0, x1, x2⟩ : Slab) v k := by
  obtain ⟨l0, e0, r0, n0⟩ := isV_cellsL h0
  obtain ⟨u0_0, rfl⟩ := len1 n0
  obtain ⟨l1, e1, r1, n1⟩ := isV_cellsL h1
  obtain ⟨u1_0, rfl⟩ := len1 n1
  obtain ⟨l2, e2, r2, n2⟩ := isV_cellsL h2
  obtain ⟨u2_0, rfl⟩ := len1 n2
  refine ⟨.agg #[u0_0, u1_0, u2_0], fun w => ?_, [u0_0, u1_0, u2_0], rfl, ⟨rfl, r0, ⟨rfl, r1, r2⟩⟩⟩
  simp [Instr.build, Instr.fill, cells_agg, e0, e1, e2]
theorem ty43 : Ty Tryz.prog 43 Plane := ⟨⟨_, Tryz.underlying43, rfl⟩, by kernel_rfl⟩
theorem fo43_0 : FieldOk Tryz.prog 43 0 0 := ⟨_, _, 0, Tryz.underlying43, rfl, rfl, by kernel_rfl⟩
theorem at_Plane_0 (y : Plane) (ad : Addr) (k : K) (h : At y ad k) : At y.Side (ad.add 0) k :=
  have h0 : At (y.Side, y.Base, y.Num, y.Den) ad k := h
  At.fst (At.zero h0)
theorem fo43_1 : FieldOk Tryz.prog 43 1 1 := ⟨_, _, 0, Tryz.underlying43, rfl, rfl, by kernel_rfl⟩
theorem at_Plane_1 (y : Plane) (ad : Addr) (k : K) (h : At y ad k) : At y.Base (ad.add 1) k :=
  have h0 : At (y.Side, y.Base, y.Num, y.Den) ad k := h
  At.fst (At.snd' (At.zero h0))
theorem fo43_2 : FieldOk Tryz.prog 43 2 2 := ⟨_, _, 0, Tryz.underlying43, rfl, rfl, by kernel_rfl⟩
theorem at_Plane_2 (y : Plane) (ad : Addr) (k : K) (h : At y ad k) : At y.Num (ad.add 2) k :=
  have h0 : At (y.Side, y.Base, y.Num, y.Den) ad k := h
  At.fst (At.snd' (At.snd' (At.zero h0)))
theorem fo43_3 : FieldOk Tryz.prog 43 3 3 := ⟨_, _, 0, Tryz.underlying43, rfl, rfl, by kernel_rfl⟩
theorem at_Plane_3 (y : Plane) (ad : Addr) (k : K) (h : At y ad k) : At y.Den (ad.add 3) k :=
  have h0 : At (y.Side, y.Base, y.Num, y.Den) ad k := h
  At.snd' (At.snd' (At.snd' (At.zero h0)))
theorem z76 : Zero Tryz.prog 76 (((0, 0, 0, 0) : (Int × Int × Int × Int)) : (Int × Int × Int × Int)) := ⟨_, Tryz.zeroValue76, fun _ => ⟨_, rfl, ⟨rfl, rfl, ⟨rfl, rfl, ⟨rfl, rfl, rfl⟩⟩⟩⟩⟩
theorem bld76_0_1_2_3 {k : K} {v0 v1 v2 v3 : Value} {x0 : Int} {x1 : Int} {x2 : Int} {x3 : Int} (h0 : IsV x0 v0 k) (h1 : IsV x1 v1 k) (h2 : IsV x2 v2 k) (h3 : IsV x3 v3 k) : ∃ v, (∀ w, (Instr.build 76 #[(0, v0), (1, v1), (2, v2), (3, v3)]).run Tryz.prog w = .ok v w) ∧ IsV ((x0, x1, x2, x3) : (Int × Int × Int × Int)) v k := by
  obtain ⟨l0, e0, r0, n0⟩ := isV_cellsL h0
  obtain ⟨u0_0, rfl⟩ := len1 n0
  obtain ⟨l1, e1, r1, n1⟩ := isV_cellsL h1
  obtain ⟨u1_0, rfl⟩ := len1 n1
  obtain ⟨l2, e2, r2, n2⟩ := isV_cellsL h2
  obtain ⟨u2_0, rfl⟩ := len1 n2
  obtain ⟨l3, e3, r3, n3⟩ := isV_cellsL h3
  obtain ⟨u3_0, rfl⟩ := len1 n3
  refine ⟨.agg #[u0_0, u1_0, u2_0, u3_0], fun w => ?_, [u0_0, u1_0, u2_0, u3_0], rfl, ⟨rfl, r0, ⟨rfl, r1, ⟨rfl, r2, r3⟩⟩⟩⟩
  simp [Instr.build, Instr.fill, cells_agg, e0, e1, e2, e3]
theorem szf76 : (Tryz.prog.info? 76).map (·.size) = some (Enc.sz (Int × Int × Int × Int)) := by kernel_rfl
theorem ty76 : Ty Tryz.prog 76 (Int × Int × Int × Int) := ⟨⟨_, Tryz.underlying76, rfl⟩, by kernel_rfl⟩
theorem z43 : Zero Tryz.prog 43 ((⟨0, 0, 0, 0⟩ : Plane) : Plane) := ⟨_, Tryz.zeroValue43, fun _ => ⟨_, rfl, ⟨rfl, rfl, ⟨rfl, rfl, ⟨rfl, rfl, rfl⟩⟩⟩⟩⟩
theorem szf43 : (Tryz.prog.info? 43).map (·.size) = some (Enc.sz Plane) := by kernel_rfl
theorem aat76_0 (y : (Int × Int × Int × Int)) (ad : Addr) (k : K) (h : At y ad k) : At y.1 (ad.add (0 * Enc.sz Int)) k := At.fst (At.zero h)
theorem aat76_1 (y : (Int × Int × Int × Int)) (ad : Addr) (k : K) (h : At y ad k) : At y.2.1 (ad.add (1 * Enc.sz Int)) k := At.fst (At.snd' (At.zero h))
theorem aat76_2 (y : (Int × Int × Int × Int)) (ad : Addr) (k : K) (h : At y ad k) : At y.2.2.1 (ad.add (2 * Enc.sz Int)) k := At.fst (At.snd' (At.snd' (At.zero h)))
theorem aat76_3 (y : (Int × Int × Int × Int)) (ad : Addr) (k : K) (h : At y ad k) : At y.2.2.2 (ad.add (3 * Enc.sz Int)) k := At.snd' (At.snd' (At.snd' (At.zero h)))
theorem ao76 : ArrOk Tryz.prog 76 3 4 Int := ⟨Tryz.underlying76, by kernel_rfl⟩
theorem eo106 : ElemOk Tryz.prog 106 (List RegionSpan) := ⟨_, _, rfl, rfl, rfl, rfl, by decide, by decide⟩
theorem z110 : Zero Tryz.prog 110 ((⟨0, 0, []⟩ : RegionStrip) : RegionStrip) := ⟨_, Tryz.zeroValue110, fun _ => ⟨_, rfl, ⟨rfl, rfl, ⟨rfl, rfl, ⟨_, rfl, .inl ⟨rfl, rfl⟩⟩⟩⟩⟩⟩
theorem szf110 : (Tryz.prog.info? 110).map (·.size) = some (Enc.sz RegionStrip) := by kernel_rfl
theorem upd_F110_2 : Upd (α := RegionStrip) (β := (List RegionSpan)) (0 + 2) (fun x y => { x with column := y }) := fun k cs cy x y hx hy => (Upd.snd (Upd.snd Upd.self)) k cs cy (x.x0, x.x1, x.column) y hx hy
theorem szf106 : (Tryz.prog.info? 106).map (·.size) = some (Enc.sz (List RegionSpan)) := by kernel_rfl
theorem ty24 : Ty Tryz.prog 24 (List Plane) := ⟨⟨_, Tryz.underlying24, rfl⟩, by kernel_rfl⟩
theorem eq33 : EqOk Tryz.prog 33 Point3 := by
  refine ⟨by kernel_rfl, fun k x y u v hx hy => ?_⟩
  obtain ⟨csx, ex, rx⟩ := hx
  have fx : csx = [.int .i64 x.X, .int .i64 x.Y, .int .i64 x.Z] := by
    have hl := Enc.len rx
    obtain ⟨u0, u1, u2, rfl⟩ := len3 hl
    obtain ⟨_, qx0, ⟨_, qx1, qx2⟩⟩ := rx
    have qx0 : u0 = .int .i64 x.X := hd1 (show [u0] = [.int .i64 x.X] from qx0)
    have qx1 : u1 = .int .i64 x.Y := hd1 (show [u1] = [.int .i64 x.Y] from qx1)
    have qx2 : u2 = .int .i64 x.Z := hd1 (show [u2] = [.int .i64 x.Z] from qx2)
    rw [qx0, qx1, qx2]
  obtain ⟨csy, ey, ry⟩ := hy
  have fy : csy = [.int .i64 y.X, .int .i64 y.Y, .int .i64 y.Z] := by
    have hl := Enc.len ry
    obtain ⟨u0, u1, u2, rfl⟩ := len3 hl
    obtain ⟨_, qy0, ⟨_, qy1, qy2⟩⟩ := ry
    have qy0 : u0 = .int .i64 y.X := hd1 (show [u0] = [.int .i64 y.X] from qy0)
    have qy1 : u1 = .int .i64 y.Y := hd1 (show [u1] = [.int .i64 y.Y] from qy1)
    have qy2 : u2 = .int .i64 y.Z := hd1 (show [u2] = [.int .i64 y.Z] from qy2)
    rw [qy0, qy1, qy2]
  subst fx; subst fy; subst ex; subst ey
  refine ⟨⟨_, rfl⟩, ⟨_, rfl⟩, fun w => ?_⟩
  show (Op.equalIn (9998 + 1 + 1) 33 (.agg #[.int .i64 x.X, .int .i64 x.Y, .int .i64 x.Z]) (.agg #[.int .i64 y.X, .int .i64 y.Y, .int .i64 y.Z])).run Tryz.prog w = _
  rw [run_equalIn_struct w _ 33 _ _ (by kernel_rfl) Tryz.stoodInHeld33]
  generalize 9998 = d
  simp [Program.fieldsOf, Op.eqFields, part, aggOf, ← beq_toListBytes, run_isAgg Tryz.underlying3, run_equalIn_int w d 3 .i64 .i64 _ _ Tryz.underlying3]
  obtain ⟨a0, a1, a2⟩ := x
  obtain ⟨b0, b1, b2⟩ := y
  simp only [Point3.mk.injEq]
  by_cases h0 : a0 = b0 <;> by_cases h1 : a1 = b1 <;> by_cases h2 : a2 = b2 <;> simp [h0, h1, h2]
theorem rd3 : Rd Tryz.prog 3 Int := rd_int Tryz.underlying3
instance : Rg Rect := Rg.ofMap fun x => (x.X0, x.Y0, x.X1, x.Y1)
theorem rd23 : Rd Tryz.prog 23 Rect := rd_struct (f := fun x => (x.X0, x.Y0, x.X1, x.Y1)) (fun y => ⟨y.1, y.2.1, y.2.2.1, y.2.2.2⟩) Tryz.underlying23 (by kernel_rfl) rfl (fun _ _ _ h => h) (fun _ h => h) (RdF.cons rfl (by kernel_rfl) rd3 (RdF.cons rfl (by kernel_rfl) rd3 (RdF.cons rfl (by kernel_rfl) rd3 (RdF.one rfl (by kernel_rfl) rd3)))) (fun _ => rfl)
instance : Rg Plane := Rg.ofMap fun x => (x.Side, x.Base, x.Num, x.Den)
theorem rd43 : Rd Tryz.prog 43 Plane := rd_struct (f := fun x => (x.Side, x.Base, x.Num, x.Den)) (fun y => ⟨y.1, y.2.1, y.2.2.1, y.2.2.2⟩) Tryz.underlying43 (by kernel_rfl) rfl (fun _ _ _ h => h) (fun _ h => h) (RdF.cons rfl (by kernel_rfl) rd3 (RdF.cons rfl (by kernel_rfl) rd3 (RdF.cons rfl (by kernel_rfl) rd3 (RdF.one rfl (by kernel_rfl) rd3)))) (fun _ => rfl)
theorem rd24 : Rd Tryz.prog 24 (List Plane) := rd_slice Tryz.underlying24 (by kernel_rfl) (by decide) rd43
instance : Rg Box := Rg.ofMap fun x => (x.Base, x.Z0, x.Z1)
theorem rd54 : Rd Tryz.prog 54 Box := rd_struct (f := fun x => (x.Base, x.Z0, x.Z1)) (fun y => ⟨y.1, y.2.1, y.2.2⟩) Tryz.underlying54 (by kernel_rfl) rfl (fun _ _ _ h => h) (fun _ h => h) (RdF.cons rfl (by kernel_rfl) rd23 (RdF.cons rfl (by kernel_rfl) rd3 (RdF.one rfl (by kernel_rfl) rd3))) (fun _ => rfl)
theorem rd25 : Rd Tryz.prog 25 (List Box) := rd_slice Tryz.underlying25 (by kernel_rfl) (by decide) rd54
noncomputable def tb : Tb where
  S := fun n => match n with
    | 0 => Rect
    | 1 => RegionSpan
    | 2 => RegionStrip
    | 3 => Slab
    | 4 => Point3
    | 5 => Box
    | 6 => Plane
    | 7 => (Int × Int × Int × Int)
    | _ + 8 => Unit
  fs := fun n => match n with
    | 0 => [.int, .int, .int, .int]
    | 1 => [.int, .int]
    | 2 => [.int, .int, .list (.st 1)]
    | 3 => [.int, .int, .list (.st 0)]
    | 4 => [.int, .int, .int]
    | 5 => [.st 0, .int, .int]
    | 6 => [.int, .int, .int, .int]
    | 7 => [.int, .int, .int, .int]
    | _ + 8 => []
  to := fun n => match n with
    | 0 => fun x => (x.X0, x.Y0, x.X1, x.Y1)
    | 1 => fun x => (x.from_, x.to_)
    | 2 => fun x => (x.x0, x.x1, x.column)
    | 3 => fun x => (x.Z0, x.Z1, x.Area)
    | 4 => fun x => (x.X, x.Y, x.Z)
    | 5 => fun x => (x.Base, x.Z0, x.Z1)
    | 6 => fun x => (x.Side, x.Base, x.Num, x.Den)
    | 7 => fun x => x
    | _ + 8 => fun _ => ()
  of := fun n => match n with
    | 0 => fun x => ⟨x.1, x.2.1, x.2.2.1, x.2.2.2⟩
    | 1 => fun x => ⟨x.1, x.2⟩
    | 2 => fun x => ⟨x.1, x.2.1, x.2.2⟩
    | 3 => fun x => ⟨x.1, x.2.1, x.2.2⟩
    | 4 => fun x => ⟨x.1, x.2.1, x.2.2⟩
    | 5 => fun x => ⟨x.1, x.2.1, x.2.2⟩
    | 6 => fun x => ⟨x.1, x.2.1, x.2.2.1, x.2.2.2⟩
    | 7 => fun x => x
    | _ + 8 => fun _ => ()
  zero := fun n => match n with
    | 0 => (default : Rect)
    | 1 => (default : RegionSpan)
    | 2 => (default : RegionStrip)
    | 3 => (default : Slab)
    | 4 => (default : Point3)
    | 5 => (default : Box)
    | 6 => (default : Plane)
    | 7 => (default : (Int × Int × Int × Int))
    | _ + 8 => ()
  deq := fun n => match n with
    | 0 => (inferInstance : DecidableEq Rect)
    | 1 => (inferInstance : DecidableEq RegionSpan)
    | 2 => (inferInstance : DecidableEq RegionStrip)
    | 3 => (inferInstance : DecidableEq Slab)
    | 4 => (inferInstance : DecidableEq Point3)
    | 5 => (inferInstance : DecidableEq Box)
    | 6 => (inferInstance : DecidableEq Plane)
    | 7 => (inferInstance : DecidableEq (Int × Int × Int × Int))
    | _ + 8 => (inferInstance : DecidableEq Unit)
  enc := fun n => match n with
    | 0 => (inferInstance : Enc Rect)
    | 1 => (inferInstance : Enc RegionSpan)
    | 2 => (inferInstance : Enc RegionStrip)
    | 3 => (inferInstance : Enc Slab)
    | 4 => (inferInstance : Enc Point3)
    | 5 => (inferInstance : Enc Box)
    | 6 => (inferInstance : Enc Plane)
    | 7 => (inferInstance : Enc (Int × Int × Int × Int))
    | _ + 8 => Enc.ofMap (σ := Unit) (β := Unit) fun x => x
  to_of := fun n => match n with
    | 0 => fun _ => rfl
    | 1 => fun _ => rfl
    | 2 => fun _ => rfl
    | 3 => fun _ => rfl
    | 4 => fun _ => rfl
    | 5 => fun _ => rfl
    | 6 => fun _ => rfl
    | 7 => fun _ => rfl
    | _ + 8 => fun _ => rfl
  zero_eq := fun n => match n with
    | 0 => rfl
    | 1 => rfl
    | 2 => rfl
    | 3 => rfl
    | 4 => rfl
    | 5 => rfl
    | 6 => rfl
    | 7 => rfl
    | _ + 8 => rfl
  enc_eq := fun n => match n with
    | 0 => rfl
    | 1 => rfl
    | 2 => rfl
    | 3 => rfl
    | 4 => rfl
    | 5 => rfl
    | 6 => rfl
    | 7 => rfl
    | _ + 8 => rfl
def tid : TypeId → Option Tp := tidL [(3, .int), (23, .st 0), (33, .st 4), (36, .list (.st 0)), (43, .st 6), (54, .st 5), (57, .st 3), (108, .st 1)]
def eqs : List (TypeId × Nat) := [(108, 1), (23, 0), (33, 4)]
theorem eqsOk : EqsOk Tryz.prog tb eqs := ⟨eq108, eq23, eq33, trivial⟩
noncomputable def mk (f : FuncId) (dom cod : List Tp) (run : HL tb.S dom → Option (HL tb.S cod)) (ks : List (Fk tb Tryz.prog)) (own : List Nat) (fn : Func) (h : Hn tb) (hf : Tryz.prog.funcs[f]? = some fn)
  (hc : ∀ args w, (callFunc f args).run Tryz.prog w = .ok (.enter f args) w) (hb : fn.body = some (body fn)) (hl : Nat.ble dom.length fn.ntmps = true)
  (he : ∀ x, evF ⟨Tryz.prog, tid, eqs, depsOf ks, own, fn.results.toList, fn.ntmps⟩ (body fn) h dom cod x = run x) : Fk tb Tryz.prog := ⟨f, ⟨dom, cod, run⟩, fnOk ks own fn h eqsOk hmix hf hc hb hl he⟩
noncomputable def mkO (f : FuncId) (dom cod : List Tp) (run : HL tb.S dom → Option (HL tb.S cod)) (hc : ∀ args w, (callFunc f args).run Tryz.prog w = .ok (.enter f args) w)
  (ok : ∀ (k0 : K) (vs : List Value) (x : HL tb.S dom) (r : HL tb.S cod), GOk tb k0 → HIs dom x vs k0 → run x = some r → Calls Tryz.prog f vs.toArray k0.w (Ret k0 fun u k => (resV cod r).is ⟨#[], []⟩ u k)) : Fk tb Tryz.prog := ⟨f, ⟨dom, cod, run⟩, hc, ok⟩
def glv : Nat → Option (Σ t : Tp, t.den tb.S) := fun g => match g with
  | 0 => some ⟨.st 0, ((⟨0, 0, 1048576, 1048576⟩ : Rect) : Rect)⟩
  | _ => none
theorem gl0 : ∀ g, tb.gl g = none := fun _ => rfl
noncomputable def tbg : Tb := tb.withG glv
theorem eqsOkG : EqsOk Tryz.prog tbg eqs := ⟨eq108, eq23, eq33, trivial⟩
noncomputable def mkg (f : FuncId) (dom cod : List Tp) (run : HL tbg.S dom → Option (HL tbg.S cod)) (ks : List (Fk tbg Tryz.prog)) (own : List Nat) (fn : Func) (h : Hn tbg) (hf : Tryz.prog.funcs[f]? = some fn)
  (hc : ∀ args w, (callFunc f args).run Tryz.prog w = .ok (.enter f args) w) (hb : fn.body = some (body fn)) (hl : Nat.ble dom.length fn.ntmps = true)
  (he : ∀ x, evF ⟨Tryz.prog, tid, eqs, depsOf ks, own, fn.results.toList, fn.ntmps⟩ (body fn) h dom cod x = run x) : Fk tbg Tryz.prog := ⟨f, ⟨dom, cod, run⟩, fnOk ks own fn h (T := tbg) eqsOkG hmix hf hc hb hl he⟩
end Go.Proofs.YtpbeebhapbibfaaGreatDoor
