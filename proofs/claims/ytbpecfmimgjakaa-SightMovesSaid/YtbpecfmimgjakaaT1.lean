/- What the functions compute that the law reaches, part 1 -/
import Derived.Test.YtbpecfmimgjakaaProg
import Derived.Test.YtbpecfmimgjakaaL2
import Derived.Shelf.Sort.Plain
import Derived.Shelf.Slices.In.SortNone
import Derived.Shelf.Slices.CompactI
import Derived.Shelf.Spec.SlicesGrow
import Derived.Shelf.SlSortCmp.NoneTotal
namespace Go.Proofs.Ytbpecfmimgjakaa
open Go.Gb
set_option linter.unusedVariables false
set_option linter.unusedSimpArgs false
set_option maxRecDepth 100000
structure Rect where
  X0 : Int
  Y0 : Int
  X1 : Int
  Y1 : Int
  deriving DecidableEq, Inhabited
instance : Enc Rect := Enc.ofMap fun x => (x.X0, x.Y0, x.X1, x.Y1)
structure Box where
  Base : Rect
  Z0 : Int
  Z1 : Int
  deriving DecidableEq, Inhabited
instance : Enc Box := Enc.ofMap fun x => (x.Base, x.Z0, x.Z1)
structure Slab where
  Z0 : Int
  Z1 : Int
  Area : (List Rect)
  deriving DecidableEq, Inhabited
instance : Enc Slab := Enc.ofMap fun x => (x.Z0, x.Z1, x.Area)
structure Point3 where
  X : Int
  Y : Int
  Z : Int
  deriving DecidableEq, Inhabited
instance : Enc Point3 := Enc.ofMap fun x => (x.X, x.Y, x.Z)
structure RegionSpan where
  from_ : Int
  to_ : Int
  deriving DecidableEq, Inhabited
instance : Enc RegionSpan := Enc.ofMap fun x => (x.from_, x.to_)
structure RegionStrip where
  x0 : Int
  x1 : Int
  column : (List RegionSpan)
  deriving DecidableEq, Inhabited
instance : Enc RegionStrip := Enc.ofMap fun x => (x.x0, x.x1, x.column)
structure SightBound where
  n : Int
  d : Int
  open_ : Bool
  deriving DecidableEq, Inhabited
instance : Enc SightBound := Enc.ofMap fun x => (x.n, x.d, x.open_)
structure SightInterval where
  lo : SightBound
  hi : SightBound
  top : Bool
  none_ : Bool
  deriving DecidableEq, Inhabited
instance : Enc SightInterval := Enc.ofMap fun x => (x.lo, x.hi, x.top, x.none_)
theorem hmix : Try.prog.follows .mixedOrders = true := by kernel_rfl
theorem fo35_0 : FieldOk Try.prog 35 0 0 := ⟨_, _, 0, Try.underlying35, rfl, rfl, by kernel_rfl⟩
theorem at_Rect_0 (y : Rect) (ad : Addr) (k : K) (h : At y ad k) : At y.X0 (ad.add 0) k :=
  have h0 : At (y.X0, y.Y0, y.X1, y.Y1) ad k := h
  At.fst (At.zero h0)
theorem ty3 : Ty Try.prog 3 Int := ⟨⟨_, Try.underlying3, rfl⟩, by kernel_rfl⟩
theorem fo35_2 : FieldOk Try.prog 35 2 2 := ⟨_, _, 0, Try.underlying35, rfl, rfl, by kernel_rfl⟩
theorem at_Rect_2 (y : Rect) (ad : Addr) (k : K) (h : At y ad k) : At y.X1 (ad.add 2) k :=
  have h0 : At (y.X0, y.Y0, y.X1, y.Y1) ad k := h
  At.fst (At.snd' (At.snd' (At.zero h0)))
theorem fo35_1 : FieldOk Try.prog 35 1 1 := ⟨_, _, 0, Try.underlying35, rfl, rfl, by kernel_rfl⟩
theorem at_Rect_1 (y : Rect) (ad : Addr) (k : K) (h : At y ad k) : At y.Y0 (ad.add 1) k :=
  have h0 : At (y.X0, y.Y0, y.X1, y.Y1) ad k := h
  At.fst (At.snd' (At.zero h0))
theorem fo35_3 : FieldOk Try.prog 35 3 3 := ⟨_, _, 0, Try.underlying35, rfl, rfl, by kernel_rfl⟩
theorem at_Rect_3 (y : Rect) (ad : Addr) (k : K) (h : At y ad k) : At y.Y1 (ad.add 3) k :=
  have h0 : At (y.X0, y.Y0, y.X1, y.Y1) ad k := h
  At.snd' (At.snd' (At.snd' (At.zero h0)))
theorem fo37_0 : FieldOk Try.prog 37 0 0 := ⟨_, _, 3, Try.underlying37, rfl, rfl, by kernel_rfl⟩
theorem at_Box_0 (y : Box) (ad : Addr) (k : K) (h : At y ad k) : At y.Base (ad.add 0) k :=
  have h0 : At (y.Base, y.Z0, y.Z1) ad k := h
  At.fst (At.zero h0)
theorem ty35 : Ty Try.prog 35 Rect := ⟨⟨_, Try.underlying35, rfl⟩, by kernel_rfl⟩
theorem fo37_1 : FieldOk Try.prog 37 1 4 := ⟨_, _, 0, Try.underlying37, rfl, rfl, by kernel_rfl⟩
theorem at_Box_1 (y : Box) (ad : Addr) (k : K) (h : At y ad k) : At y.Z0 (ad.add 4) k :=
  have h0 : At (y.Base, y.Z0, y.Z1) ad k := h
  At.fst (At.snd' (At.zero h0))
theorem fo37_2 : FieldOk Try.prog 37 2 5 := ⟨_, _, 0, Try.underlying37, rfl, rfl, by kernel_rfl⟩
theorem at_Box_2 (y : Box) (ad : Addr) (k : K) (h : At y ad k) : At y.Z1 (ad.add 5) k :=
  have h0 : At (y.Base, y.Z0, y.Z1) ad k := h
  At.snd' (At.snd' (At.zero h0))
theorem eo3 : ElemOk Try.prog 3 Int := ⟨_, _, rfl, rfl, rfl, rfl, by decide, by decide⟩
theorem szf3 : (Try.prog.info? 3).map (·.size) = some (Enc.sz Int) := by kernel_rfl
theorem upd_F35_2 : Upd (α := Rect) (β := Int) (0 + 2) (fun x y => { x with X1 := y }) := fun k cs cy x y hx hy => (Upd.snd (Upd.snd (Upd.fst Upd.self))) k cs cy (x.X0, x.Y0, x.X1, x.Y1) y hx hy
theorem bld35_0_1_2_3 {k : K} {v0 v1 v2 v3 : Value} {x0 : Int} {x1 : Int} {x2 : Int} {x3 : Int} (h0 : IsV x0 v0 k) (h1 : IsV x1 v1 k) (h2 : IsV x2 v2 k) (h3 : IsV x3 v3 k) : ∃ v, (∀ w, (Instr.build 35 #[(0, v0), (1, v1), (2, v2), (3, v3)]).run Try.prog w = .ok v w) ∧ IsV (⟨x0, x1, x2, x3⟩ : Rect) v k := by
  obtain ⟨l0, e0, r0, n0⟩ := isV_cellsL h0
  obtain ⟨u0_0, rfl⟩ := len1 n0
  obtain ⟨l1, e1, r1, n1⟩ := isV_cellsL h1
  obtain ⟨u1_0, rfl⟩ := len1 n1
  obtain ⟨l2, e2, r2, n2⟩ := isV_cellsL h2
  obtain ⟨u2_0, rfl⟩ := len1 n2
  obtain ⟨l3, e3, r3, n3⟩ := isV_cellsL h3
  obtain ⟨u3_0, rfl⟩ := len1 n3
  refine ⟨.agg #[u0_0, u1_0, u2_0, u3_0], fun w => ?_, [u0_0, u1_0, u2_0, u3_0], rfl, ⟨rfl, r0, ⟨rfl, r1, ⟨rfl, r2, r3⟩⟩⟩⟩
  simp [Instr.build, Instr.fill, cells_agg, e0, e1, e2, e3]
theorem eo35 : ElemOk Try.prog 35 Rect := ⟨_, _, rfl, rfl, rfl, rfl, by decide, by decide⟩
theorem eq35 : EqOk Try.prog 35 Rect := by
  refine ⟨by kernel_rfl, fun k x y u v hx hy => ?_⟩
  obtain ⟨csx, ex, rx⟩ := hx
  have fx : csx = [.int .i64 x.X0, .int .i64 x.Y0, .int .i64 x.X1, .int .i64 x.Y1] := by
    have hl := Enc.len rx
    obtain ⟨u0, u1, u2, u3, rfl⟩ := len4 hl
    obtain ⟨_, qx0, ⟨_, qx1, ⟨_, qx2, qx3⟩⟩⟩ := rx
    have qx0 : u0 = .int .i64 x.X0 := hd1 (show [u0] = [.int .i64 x.X0] from qx0)
    have qx1 : u1 = .int .i64 x.Y0 := hd1 (show [u1] = [.int .i64 x.Y0] from qx1)
    have qx2 : u2 = .int .i64 x.X1 := hd1 (show [u2] = [.int .i64 x.X1] from qx2)
    have qx3 : u3 = .int .i64 x.Y1 := hd1 (show [u3] = [.int .i64 x.Y1] from qx3)
    rw [qx0, qx1, qx2, qx3]
  obtain ⟨csy, ey, ry⟩ := hy
  have fy : csy = [.int .i64 y.X0, .int .i64 y.Y0, .int .i64 y.X1, .int .i64 y.Y1] := by
    have hl := Enc.len ry
    obtain ⟨u0, u1, u2, u3, rfl⟩ := len4 hl
    obtain ⟨_, qy0, ⟨_, qy1, ⟨_, qy2, qy3⟩⟩⟩ := ry
    have qy0 : u0 = .int .i64 y.X0 := hd1 (show [u0] = [.int .i64 y.X0] from qy0)
    have qy1 : u1 = .int .i64 y.Y0 := hd1 (show [u1] = [.int .i64 y.Y0] from qy1)
    have qy2 : u2 = .int .i64 y.X1 := hd1 (show [u2] = [.int .i64 y.X1] from qy2)
    have qy3 : u3 = .int .i64 y.Y1 := hd1 (show [u3] = [.int .i64 y.Y1] from qy3)
    rw [qy0, qy1, qy2, qy3]
  subst fx; subst fy; subst ex; subst ey
  refine ⟨⟨_, rfl⟩, ⟨_, rfl⟩, fun w => ?_⟩
  show (Op.equalIn (9998 + 1 + 1) 35 (.agg #[.int .i64 x.X0, .int .i64 x.Y0, .int .i64 x.X1, .int .i64 x.Y1]) (.agg #[.int .i64 y.X0, .int .i64 y.Y0, .int .i64 y.X1, .int .i64 y.Y1])).run Try.prog w = _
  rw [run_equalIn_struct w _ 35 _ _ (by kernel_rfl) Try.stoodInHeld35]
  generalize 9998 = d
  simp [Program.fieldsOf, Op.eqFields, part, aggOf, ← beq_toListBytes, run_isAgg Try.underlying3, run_equalIn_int w d 3 .i64 .i64 _ _ Try.underlying3]
  obtain ⟨a0, a1, a2, a3⟩ := x
  obtain ⟨b0, b1, b2, b3⟩ := y
  simp only [Rect.mk.injEq]
  by_cases h0 : a0 = b0 <;> by_cases h1 : a1 = b1 <;> by_cases h2 : a2 = b2 <;> by_cases h3 : a3 = b3 <;> simp [h0, h1, h2, h3]
theorem ty51 : Ty Try.prog 51 Slab := ⟨⟨_, Try.underlying51, rfl⟩, by kernel_rfl⟩
theorem fo51_1 : FieldOk Try.prog 51 1 1 := ⟨_, _, 0, Try.underlying51, rfl, rfl, by kernel_rfl⟩
theorem at_Slab_1 (y : Slab) (ad : Addr) (k : K) (h : At y ad k) : At y.Z1 (ad.add 1) k :=
  have h0 : At (y.Z0, y.Z1, y.Area) ad k := h
  At.fst (At.snd' (At.zero h0))
theorem fo51_2 : FieldOk Try.prog 51 2 2 := ⟨_, _, 0, Try.underlying51, rfl, rfl, by kernel_rfl⟩
theorem at_Slab_2 (y : Slab) (ad : Addr) (k : K) (h : At y ad k) : At y.Area (ad.add 2) k :=
  have h0 : At (y.Z0, y.Z1, y.Area) ad k := h
  At.snd' (At.snd' (At.zero h0))
theorem ty49 : Ty Try.prog 49 (List Rect) := ⟨⟨_, Try.underlying49, rfl⟩, by kernel_rfl⟩
theorem upd_F51_1 : Upd (α := Slab) (β := Int) (0 + 1) (fun x y => { x with Z1 := y }) := fun k cs cy x y hx hy => (Upd.snd (Upd.fst Upd.self)) k cs cy (x.Z0, x.Z1, x.Area) y hx hy
theorem bld51_0_1_2 {k : K} {v0 v1 v2 : Value} {x0 : Int} {x1 : Int} {x2 : (List Rect)} (h0 : IsV x0 v0 k) (h1 : IsV x1 v1 k) (h2 : IsV x2 v2 k) : ∃ v, (∀ w, (Instr.build 51 #[(0, v0), (1, v1), (2, v2)]).run Try.prog w = .ok v w) ∧ IsV (⟨x0, x1, x2⟩ : Slab) v k := by
  obtain ⟨l0, e0, r0, n0⟩ := isV_cellsL h0
  obtain ⟨u0_0, rfl⟩ := len1 n0
  obtain ⟨l1, e1, r1, n1⟩ := isV_cellsL h1
  obtain ⟨u1_0, rfl⟩ := len1 n1
  obtain ⟨l2, e2, r2, n2⟩ := isV_cellsL h2
  obtain ⟨u2_0, rfl⟩ := len1 n2
  refine ⟨.agg #[u0_0, u1_0, u2_0], fun w => ?_, [u0_0, u1_0, u2_0], rfl, ⟨rfl, r0, ⟨rfl, r1, r2⟩⟩⟩
  simp [Instr.build, Instr.fill, cells_agg, e0, e1, e2]
theorem eo51 : ElemOk Try.prog 51 Slab := ⟨_, _, rfl, rfl, rfl, rfl, by decide, by decide⟩
theorem ty37 : Ty Try.prog 37 Box := ⟨⟨_, Try.underlying37, rfl⟩, by kernel_rfl⟩
theorem z24 : Zero Try.prog 24 ((⟨0, 0, 0⟩ : Point3) : Point3) := ⟨_, Try.zeroValue24, fun _ => ⟨_, rfl, ⟨rfl, rfl, ⟨rfl, rfl, rfl⟩⟩⟩⟩
theorem bld24_0_1_2 {k : K} {v0 v1 v2 : Value} {x0 : Int} {x1 : Int} {x2 : Int} (h0 : IsV x0 v0 k) (h1 : IsV x1 v1 k) (h2 : IsV x2 v2 k) : ∃ v, (∀ w, (Instr.build 24 #[(0, v0), (1, v1), (2, v2)]).run Try.prog w = .ok v w) ∧ IsV (⟨x0, x1, x2⟩ : Point3) v k := by
  obtain ⟨l0, e0, r0, n0⟩ := isV_cellsL h0
  obtain ⟨u0_0, rfl⟩ := len1 n0
  obtain ⟨l1, e1, r1, n1⟩ := isV_cellsL h1
  obtain ⟨u1_0, rfl⟩ := len1 n1
  obtain ⟨l2, e2, r2, n2⟩ := isV_cellsL h2
  obtain ⟨u2_0, rfl⟩ := len1 n2
  refine ⟨.agg #[u0_0, u1_0, u2_0], fun w => ?_, [u0_0, u1_0, u2_0], rfl, ⟨rfl, r0, ⟨rfl, r1, r2⟩⟩⟩
  simp [Instr.build, Instr.fill, cells_agg, e0, e1, e2]
theorem szf24 : (Try.prog.info? 24).map (·.size) = some (Enc.sz Point3) := by kernel_rfl
theorem ty24 : Ty Try.prog 24 Point3 := ⟨⟨_, Try.underlying24, rfl⟩, by kernel_rfl⟩
theorem fo24_0 : FieldOk Try.prog 24 0 0 := ⟨_, _, 0, Try.underlying24, rfl, rfl, by kernel_rfl⟩
theorem at_Point3_0 (y : Point3) (ad : Addr) (k : K) (h : At y ad k) : At y.X (ad.add 0) k :=
  have h0 : At (y.X, y.Y, y.Z) ad k := h
  At.fst (At.zero h0)
theorem fo24_1 : FieldOk Try.prog 24 1 1 := ⟨_, _, 0, Try.underlying24, rfl, rfl, by kernel_rfl⟩
theorem at_Point3_1 (y : Point3) (ad : Addr) (k : K) (h : At y ad k) : At y.Y (ad.add 1) k :=
  have h0 : At (y.X, y.Y, y.Z) ad k := h
  At.fst (At.snd' (At.zero h0))
theorem fo24_2 : FieldOk Try.prog 24 2 2 := ⟨_, _, 0, Try.underlying24, rfl, rfl, by kernel_rfl⟩
theorem at_Point3_2 (y : Point3) (ad : Addr) (k : K) (h : At y ad k) : At y.Z (ad.add 2) k :=
  have h0 : At (y.X, y.Y, y.Z) ad k := h
  At.snd' (At.snd' (At.zero h0))
theorem szf35 : (Try.prog.info? 35).map (·.size) = some (Enc.sz Rect) := by kernel_rfl
theorem fo109_0 : FieldOk Try.prog 109 0 0 := ⟨_, _, 0, Try.underlying109, rfl, rfl, by kernel_rfl⟩
theorem at_RegionSpan_0 (y : RegionSpan) (ad : Addr) (k : K) (h : At y ad k) : At y.from_ (ad.add 0) k :=
  have h0 : At (y.from_, y.to_) ad k := h
  At.fst (At.zero h0)
theorem ty109 : Ty Try.prog 109 RegionSpan := ⟨⟨_, Try.underlying109, rfl⟩, by kernel_rfl⟩
theorem szf109 : (Try.prog.info? 109).map (·.size) = some (Enc.sz RegionSpan) := by kernel_rfl
theorem z35 : Zero Try.prog 35 ((⟨0, 0, 0, 0⟩ : Rect) : Rect) := ⟨_, Try.zeroValue35, fun _ => ⟨_, rfl, ⟨rfl, rfl, ⟨rfl, rfl, ⟨rfl, rfl, rfl⟩⟩⟩⟩⟩
theorem bld109_0_1 {k : K} {v0 v1 : Value} {x0 : Int} {x1 : Int} (h0 : IsV x0 v0 k) (h1 : IsV x1 v1 k) : ∃ v, (∀ w, (Instr.build 109 #[(0, v0), (1, v1)]).run Try.prog w = .ok v w) ∧ IsV (⟨x0, x1⟩ : RegionSpan) v k := by
  obtain ⟨l0, e0, r0, n0⟩ := isV_cellsL h0
  obtain ⟨u0_0, rfl⟩ := len1 n0
  obtain ⟨l1, e1, r1, n1⟩ := isV_cellsL h1
  obtain ⟨u1_0, rfl⟩ := len1 n1
  refine ⟨.agg #[u0_0, u1_0], fun w => ?_, [u0_0, u1_0], rfl, ⟨rfl, r0, r1⟩⟩
  simp [Instr.build, Instr.fill, cells_agg, e0, e1]
theorem eo109 : ElemOk Try.prog 109 RegionSpan := ⟨_, _, rfl, rfl, rfl, rfl, by decide, by decide⟩
theorem z109 : Zero Try.prog 109 ((⟨0, 0⟩ : RegionSpan) : RegionSpan) := ⟨_, Try.zeroValue109, fun _ => ⟨_, rfl, ⟨rfl, rfl, rfl⟩⟩⟩
theorem fo109_1 : FieldOk Try.prog 109 1 1 := ⟨_, _, 0, Try.underlying109, rfl, rfl, by kernel_rfl⟩
theorem at_RegionSpan_1 (y : RegionSpan) (ad : Addr) (k : K) (h : At y ad k) : At y.to_ (ad.add 1) k :=
  have h0 : At (y.from_, y.to_) ad k := h
  At.snd' (At.zero h0)
theorem upd_F109_1 : Upd (α := RegionSpan) (β := Int) (0 + 1) (fun x y => { x with to_ := y }) := fun k cs cy x y hx hy => (Upd.snd Upd.self) k cs cy (x.from_, x.to_) y hx hy
theorem bld111_0_1_2 {k : K} {v0 v1 v2 : Value} {x0 : Int} {x1 : Int} {x2 : (List RegionSpan)} (h0 : IsV x0 v0 k) (h1 : IsV x1 v1 k) (h2 : IsV x2 v2 k) : ∃ v, (∀ w, (Instr.build 111 #[(0, v0), (1, v1), (2, v2)]).run Try.prog w = .ok v w) ∧ IsV (⟨x0, x1, x2⟩ : RegionStrip) v k := by
  obtain ⟨l0, e0, r0, n0⟩ := isV_cellsL h0
  obtain ⟨u0_0, rfl⟩ := len1 n0
  obtain ⟨l1, e1, r1, n1⟩ := isV_cellsL h1
  obtain ⟨u1_0, rfl⟩ := len1 n1
  obtain ⟨l2, e2, r2, n2⟩ := isV_cellsL h2
  obtain ⟨u2_0, rfl⟩ := len1 n2
  refine ⟨.agg #[u0_0, u1_0, u2_0], fun w => ?_, [u0_0, u1_0, u2_0], rfl, ⟨rfl, r0, ⟨rfl, r1, r2⟩⟩⟩
  simp [Instr.build, Instr.fill, cells_agg, e0, e1, e2]
theorem eo111 : ElemOk Try.prog 111 RegionStrip := ⟨_, _, rfl, rfl, rfl, rfl, by decide, by decide⟩
theorem eq109 : EqOk Try.prog 109 RegionSpan := by
  refine ⟨by kernel_rfl, fun k x y u v hx hy => ?_⟩
  obtain ⟨csx, ex, rx⟩ := hx
  have fx : csx = [.int .i64 x.from_, .int .i64 x.to_] := by
    have hl := Enc.len rx
    obtain ⟨u0, u1, rfl⟩ := len2 hl
    obtain ⟨_, qx0, qx1⟩ := rx
    have qx0 : u0 = .int .i64 x.from_ := hd1 (show [u0] = [.int .i64 x.from_] from qx0)
    have qx1 : u1 = .int .i64 x.to_ := hd1 (show [u1] = [.int .i64 x.to_] from qx1)
    rw [qx0, qx1]
  obtain ⟨csy, ey, ry⟩ := hy
  have fy : csy = [.int .i64 y.from_, .int .i64 y.to_] := by
    have hl := Enc.len ry
    obtain ⟨u0, u1, rfl⟩ := len2 hl
    obtain ⟨_, qy0, qy1⟩ := ry
    have qy0 : u0 = .int .i64 y.from_ := hd1 (show [u0] = [.int .i64 y.from_] from qy0)
    have qy1 : u1 = .int .i64 y.to_ := hd1 (show [u1] = [.int .i64 y.to_] from qy1)
    rw [qy0, qy1]
  subst fx; subst fy; subst ex; subst ey
  refine ⟨⟨_, rfl⟩, ⟨_, rfl⟩, fun w => ?_⟩
  show (Op.equalIn (9998 + 1 + 1) 109 (.agg #[.int .i64 x.from_, .int .i64 x.to_]) (.agg #[.int .i64 y.from_, .int .i64 y.to_])).run Try.prog w = _
  rw [run_equalIn_struct w _ 109 _ _ (by kernel_rfl) Try.stoodInHeld109]
  generalize 9998 = d
  simp [Program.fieldsOf, Op.eqFields, part, aggOf, ← beq_toListBytes, run_isAgg Try.underlying3, run_equalIn_int w d 3 .i64 .i64 _ _ Try.underlying3]
  obtain ⟨a0, a1⟩ := x
  obtain ⟨b0, b1⟩ := y
  simp only [RegionSpan.mk.injEq]
  by_cases h0 : a0 = b0 <;> by_cases h1 : a1 = b1 <;> simp [h0, h1]
theorem ty111 : Ty Try.prog 111 RegionStrip := ⟨⟨_, Try.underlying111, rfl⟩, by kernel_rfl⟩
theorem fo111_2 : FieldOk Try.prog 111 2 2 := ⟨_, _, 0, Try.underlying111, rfl, rfl, by kernel_rfl⟩
theorem at_RegionStrip_2 (y : RegionStrip) (ad : Addr) (k : K) (h : At y ad k) : At y.column (ad.add 2) k :=
  have h0 : At (y.x0, y.x1, y.column) ad k := h
  At.snd' (At.snd' (At.zero h0))
theorem ty107 : Ty Try.prog 107 (List RegionSpan) := ⟨⟨_, Try.underlying107, rfl⟩, by kernel_rfl⟩
theorem fo111_0 : FieldOk Try.prog 111 0 0 := ⟨_, _, 0, Try.underlying111, rfl, rfl, by kernel_rfl⟩
theorem at_RegionStrip_0 (y : RegionStrip) (ad : Addr) (k : K) (h : At y ad k) : At y.x0 (ad.add 0) k :=
  have h0 : At (y.x0, y.x1, y.column) ad k := h
  At.fst (At.zero h0)
theorem fo111_1 : FieldOk Try.prog 111 1 1 := ⟨_, _, 0, Try.underlying111, rfl, rfl, by kernel_rfl⟩
theorem at_RegionStrip_1 (y : RegionStrip) (ad : Addr) (k : K) (h : At y ad k) : At y.x1 (ad.add 1) k :=
  have h0 : At (y.x0, y.x1, y.column) ad k := h
  At.fst (At.snd' (At.zero h0))
theorem eo49 : ElemOk Try.prog 49 (List Rect) := ⟨_, _, rfl, rfl, rfl, rfl, by decide, by decide⟩
theorem z51 : Zero Try.prog 51 ((⟨0, 0, []⟩ : Slab) : Slab) := ⟨_, Try.zeroValue51, fun _ => ⟨_, rfl, ⟨rfl, rfl, ⟨rfl, rfl, ⟨_, rfl, .inl ⟨rfl, rfl⟩⟩⟩⟩⟩⟩
theorem szf51 : (Try.prog.info? 51).map (·.size) = some (Enc.sz Slab) := by kernel_rfl
theorem fo51_0 : FieldOk Try.prog 51 0 0 := ⟨_, _, 0, Try.underlying51, rfl, rfl, by kernel_rfl⟩
theorem at_Slab_0 (y : Slab) (ad : Addr) (k : K) (h : At y ad k) : At y.Z0 (ad.add 0) k :=
  have h0 : At (y.Z0, y.Z1, y.Area) ad k := h
  At.fst (At.zero h0)
theorem bld37_0_1_2 {k : K} {v0 v1 v2 : Value} {x0 : Rect} {x1 : Int} {x2 : Int} (h0 : IsV x0 v0 k) (h1 : IsV x1 v1 k) (h2 : IsV x2 v2 k) : ∃ v, (∀ w, (Instr.build 37 #[(0, v0), (1, v1), (2, v2)]).run Try.prog w = .ok v w) ∧ IsV (⟨x0, x1, x2⟩ : Box) v k := by
  obtain ⟨l0, e0, r0, n0⟩ := isV_cellsL h0
  obtain ⟨u0_0, u0_1, u0_2, u0_3, rfl⟩ := len4 n0
  obtain ⟨l1, e1, r1, n1⟩ := isV_cellsL h1
  obtain ⟨u1_0, rfl⟩ := len1 n1
  obtain ⟨l2, e2, r2, n2⟩ := isV_cellsL h2
  obtain ⟨u2_0, rfl⟩ := len1 n2
  refine ⟨.agg #[u0_0, u0_1, u0_2, u0_3, u1_0, u2_0], fun w => ?_, [u0_0, u0_1, u0_2, u0_3, u1_0, u2_0], rfl, ⟨rfl, r0, ⟨rfl, r1, r2⟩⟩⟩
  simp [Instr.build, Instr.fill, cells_agg, e0, e1, e2]
theorem eo37 : ElemOk Try.prog 37 Box := ⟨_, _, rfl, rfl, rfl, rfl, by decide, by decide⟩
theorem fo53_0 : FieldOk Try.prog 53 0 0 := ⟨_, _, 0, Try.underlying53, rfl, rfl, by kernel_rfl⟩
theorem at_SightBound_0 (y : SightBound) (ad : Addr) (k : K) (h : At y ad k) : At y.n (ad.add 0) k :=
  have h0 : At (y.n, y.d, y.open_) ad k := h
  At.fst (At.zero h0)
theorem fo53_1 : FieldOk Try.prog 53 1 1 := ⟨_, _, 0, Try.underlying53, rfl, rfl, by kernel_rfl⟩
theorem at_SightBound_1 (y : SightBound) (ad : Addr) (k : K) (h : At y ad k) : At y.d (ad.add 1) k :=
  have h0 : At (y.n, y.d, y.open_) ad k := h
  At.fst (At.snd' (At.zero h0))
theorem ty53 : Ty Try.prog 53 SightBound := ⟨⟨_, Try.underlying53, rfl⟩, by kernel_rfl⟩
theorem fo55_0 : FieldOk Try.prog 55 0 0 := ⟨_, _, 2, Try.underlying55, rfl, rfl, by kernel_rfl⟩
theorem at_SightInterval_0 (y : SightInterval) (ad : Addr) (k : K) (h : At y ad k) : At y.lo (ad.add 0) k :=
  have h0 : At (y.lo, y.hi, y.top, y.none_) ad k := h
  At.fst (At.zero h0)
theorem upd_F55_0 : Upd (α := SightInterval) (β := SightBound) (0 + 0) (fun x y => { x with lo := y }) := fun k cs cy x y hx hy => (Upd.fst Upd.self) k cs cy (x.lo, x.hi, x.top, x.none_) y hx hy
theorem szf53 : (Try.prog.info? 53).map (·.size) = some (Enc.sz SightBound) := by kernel_rfl
theorem fo53_2 : FieldOk Try.prog 53 2 2 := ⟨_, _, 0, Try.underlying53, rfl, rfl, by kernel_rfl⟩
theorem at_SightBound_2 (y : SightBound) (ad : Addr) (k : K) (h : At y ad k) : At y.open_ (ad.add 2) k :=
  have h0 : At (y.n, y.d, y.open_) ad k := h
  At.snd' (At.snd' (At.zero h0))
theorem ty4 : Ty Try.prog 4 Bool := ⟨⟨_, Try.underlying4, rfl⟩, by kernel_rfl⟩
theorem upd_F53_2 : Upd (α := SightBound) (β := Bool) (0 + 2) (fun x y => { x with open_ := y }) := fun k cs cy x y hx hy => (Upd.snd (Upd.snd Upd.self)) k cs cy (x.n, x.d, x.open_) y hx hy
theorem upd_F55_0_F53_2 : Upd (α := SightInterval) (β := Bool) (0 + 0 + 2) (fun x y => { x with lo := { x.lo with open_ := y } }) := fun k cs cy x y hx hy => (Upd.fst upd_F53_2) k cs cy (x.lo, x.hi, x.top, x.none_) y hx hy
theorem szf4 : (Try.prog.info? 4).map (·.size) = some (Enc.sz Bool) := by kernel_rfl
theorem fo55_2 : FieldOk Try.prog 55 2 6 := ⟨_, _, 0, Try.underlying55, rfl, rfl, by kernel_rfl⟩
theorem at_SightInterval_2 (y : SightInterval) (ad : Addr) (k : K) (h : At y ad k) : At y.top (ad.add 6) k :=
  have h0 : At (y.lo, y.hi, y.top, y.none_) ad k := h
  At.fst (At.snd' (At.snd' (At.zero h0)))
theorem fo55_1 : FieldOk Try.prog 55 1 3 := ⟨_, _, 2, Try.underlying55, rfl, rfl, by kernel_rfl⟩
theorem at_SightInterval_1 (y : SightInterval) (ad : Addr) (k : K) (h : At y ad k) : At y.hi (ad.add 3) k :=
  have h0 : At (y.lo, y.hi, y.top, y.none_) ad k := h
  At.fst (At.snd' (At.zero h0))
theorem upd_F55_1 : Upd (α := SightInterval) (β := SightBound) (0 + 3) (fun x y => { x with hi := y }) := fun k cs cy x y hx hy => (Upd.snd (Upd.fst Upd.self)) k cs cy (x.lo, x.hi, x.top, x.none_) y hx hy
theorem upd_F55_2 : Upd (α := SightInterval) (β := Bool) (0 + 6) (fun x y => { x with top := y }) := fun k cs cy x y hx hy => (Upd.snd (Upd.snd (Upd.fst Upd.self))) k cs cy (x.lo, x.hi, x.top, x.none_) y hx hy
theorem upd_F55_1_F53_2 : Upd (α := SightInterval) (β := Bool) (0 + 3 + 2) (fun x y => { x with hi := { x.hi with open_ := y } }) := fun k cs cy x y hx hy => (Upd.snd (Upd.fst upd_F53_2)) k cs cy (x.lo, x.hi, x.top, x.none_) y hx hy
theorem bld53_0_1_2 {k : K} {v0 v1 v2 : Value} {x0 : Int} {x1 : Int} {x2 : Bool} (h0 : IsV x0 v0 k) (h1 : IsV x1 v1 k) (h2 : IsV x2 v2 k) : ∃ v, (∀ w, (Instr.build 53 #[(0, v0), (1, v1), (2, v2)]).run Try.prog w = .ok v w) ∧ IsV (⟨x0, x1, x2⟩ : SightBound) v k := by
  obtain ⟨l0, e0, r0, n0⟩ := isV_cellsL h0
  obtain ⟨u0_0, rfl⟩ := len1 n0
  obtain ⟨l1, e1, r1, n1⟩ := isV_cellsL h1
  obtain ⟨u1_0, rfl⟩ := len1 n1
  obtain ⟨l2, e2, r2, n2⟩ := isV_cellsL h2
  obtain ⟨u2_0, rfl⟩ := len1 n2
  refine ⟨.agg #[u0_0, u1_0, u2_0], fun w => ?_, [u0_0, u1_0, u2_0], rfl, ⟨rfl, r0, ⟨rfl, r1, r2⟩⟩⟩
  simp [Instr.build, Instr.fill, cells_agg, e0, e1, e2]
theorem fo55_3 : FieldOk Try.prog 55 3 7 := ⟨_, _, 0, Try.underlying55, rfl, rfl, by kernel_rfl⟩
theorem upd_F55_3 : Upd (α := SightInterval) (β := Bool) (0 + 7) (fun x y => { x with none_ := y }) := fun k cs cy x y hx hy => (Upd.snd (Upd.snd (Upd.snd Upd.self))) k cs cy (x.lo, x.hi, x.top, x.none_) y hx hy
theorem at_SightInterval_3 (y : SightInterval) (ad : Addr) (k : K) (h : At y ad k) : At y.none_ (ad.add 7) k :=
  have h0 : At (y.lo, y.hi, y.top, y.none_) ad k := h
  At.snd' (At.snd' (At.snd' (At.zero h0)))
theorem z37 : Zero Try.prog 37 ((⟨(⟨0, 0, 0, 0⟩ : Rect), 0, 0⟩ : Box) : Box) := ⟨_, Try.zeroValue37, fun _ => ⟨_, rfl, ⟨rfl, ⟨rfl, rfl, ⟨rfl, rfl, ⟨rfl, rfl, rfl⟩⟩⟩, ⟨rfl, rfl, rfl⟩⟩⟩⟩
theorem szf37 : (Try.prog.info? 37).map (·.size) = some (Enc.sz Box) := by kernel_rfl
theorem ty55 : Ty Try.prog 55 SightInterval := ⟨⟨_, Try.underlying55, rfl⟩, by kernel_rfl⟩
theorem z55 : Zero Try.prog 55 ((⟨(⟨0, 0, false⟩ : SightBound), (⟨0, 0, false⟩ : SightBound), false, false⟩ : SightInterval) : SightInterval) := ⟨_, Try.zeroValue55, fun _ => ⟨_, rfl, ⟨rfl, ⟨rfl, rfl, ⟨rfl, rfl, rfl⟩⟩, ⟨rfl, ⟨rfl, rfl, ⟨rfl, rfl, rfl⟩⟩, ⟨rfl, rfl, rfl⟩⟩⟩⟩⟩
theorem szf55 : (Try.prog.info? 55).map (·.size) = some (Enc.sz SightInterval) := by kernel_rfl
theorem bld55_0_1_2 {k : K} {v0 v1 v2 : Value} {x0 : SightBound} {x1 : SightBound} {x2 : Bool} (h0 : IsV x0 v0 k) (h1 : IsV x1 v1 k) (h2 : IsV x2 v2 k) : ∃ v, (∀ w, (Instr.build 55 #[(0, v0), (1, v1), (2, v2)]).run Try.prog w = .ok v w) ∧ IsV (⟨x0, x1, x2, false⟩ : SightInterval) v k := by
  obtain ⟨l0, e0, r0, n0⟩ := isV_cellsL h0
  obtain ⟨u0_0, u0_1, u0_2, rfl⟩ := len3 n0
  obtain ⟨l1, e1, r1, n1⟩ := isV_cellsL h1
  obtain ⟨u1_0, u1_1, u1_2, rfl⟩ := len3 n1
  obtain ⟨l2, e2, r2, n2⟩ := isV_cellsL h2
  obtain ⟨u2_0, rfl⟩ := len1 n2
  refine ⟨.agg #[u0_0, u0_1, u0_2, u1_0, u1_1, u1_2, u2_0, .bool false], fun w => ?_, [u0_0, u0_1, u0_2, u1_0, u1_1, u1_2, u2_0, .bool false], rfl, ⟨rfl, r0, ⟨rfl, r1, ⟨rfl, r2, rfl⟩⟩⟩⟩
  simp [Instr.build, Instr.fill, cells_agg, e0, e1, e2]
theorem bld24_ {k : K}   : ∃ v, (∀ w, (Instr.build 24 #[]).run Try.prog w = .ok v w) ∧ IsV (⟨0, 0, 0⟩ : Point3) v k := by
  refine ⟨.agg #[.int .i64 0, .int .i64 0, .int .i64 0], fun w => ?_, [.int .i64 0, .int .i64 0, .int .i64 0], rfl, ⟨rfl, rfl, ⟨rfl, rfl, rfl⟩⟩⟩
  simp [Instr.build, Instr.fill, cells_agg]
theorem eq24 : EqOk Try.prog 24 Point3 := by
  refine ⟨by kernel_rfl, fun k x y u v hx hy => ?_⟩
  obtain ⟨csx, ex, rx⟩ := hx
  have fx : csx = [.int .i64 x.X, .int .i64 x.Y, .int .i64 x.Z] := by
    have hl := Enc.len rx
    obtain ⟨u0, u1, u2, rfl⟩ := len3 hl
    obtain ⟨_, qx0, ⟨_, qx1, qx2⟩⟩ := rx
    have qx0 : u0 = .int .i64 x.X := hd1 (show [u0] = [.int .i64 x.X] from qx0)
    have qx1 : u1 = .int .i64 x.Y := hd1 (show [u1] = [.int .i64 x.Y] from qx1)
    have qx2 : u2 = .int .i64 x.Z := hd1 (show [u2] = [.int .i64 x.Z] from qx2)
    rw [qx0, qx1, qx2]
  obtain ⟨csy, ey, ry⟩ := hy
  have fy : csy = [.int .i64 y.X, .int .i64 y.Y, .int .i64 y.Z] := by
    have hl := Enc.len ry
    obtain ⟨u0, u1, u2, rfl⟩ := len3 hl
    obtain ⟨_, qy0, ⟨_, qy1, qy2⟩⟩ := ry
    have qy0 : u0 = .int .i64 y.X := hd1 (show [u0] = [.int .i64 y.X] from qy0)
    have qy1 : u1 = .int .i64 y.Y := hd1 (show [u1] = [.int .i64 y.Y] from qy1)
    have qy2 : u2 = .int .i64 y.Z := hd1 (show [u2] = [.int .i64 y.Z] from qy2)
    rw [qy0, qy1, qy2]
  subst fx; subst fy; subst ex; subst ey
  refine ⟨⟨_, rfl⟩, ⟨_, rfl⟩, fun w => ?_⟩
  show (Op.equalIn (9998 + 1 + 1) 24 (.agg #[.int .i64 x.X, .int .i64 x.Y, .int .i64 x.Z]) (.agg #[.int .i64 y.X, .int .i64 y.Y, .int .i64 y.Z])).run Try.prog w = _
  rw [run_equalIn_struct w _ 24 _ _ (by kernel_rfl) Try.stoodInHeld24]
  generalize 9998 = d
  simp [Program.fieldsOf, Op.eqFields, part, aggOf, ← beq_toListBytes, run_isAgg Try.underlying3, run_equalIn_int w d 3 .i64 .i64 _ _ Try.underlying3]
  obtain ⟨a0, a1, a2⟩ := x
  obtain ⟨b0, b1, b2⟩ := y
  simp only [Point3.mk.injEq]
  by_cases h0 : a0 = b0 <;> by_cases h1 : a1 = b1 <;> by_cases h2 : a2 = b2 <;> simp [h0, h1, h2]
theorem bld55_0 {k : K} {v0 : Value} {x0 : SightBound} (h0 : IsV x0 v0 k) : ∃ v, (∀ w, (Instr.build 55 #[(0, v0)]).run Try.prog w = .ok v w) ∧ IsV (⟨x0, (⟨0, 0, false⟩ : SightBound), false, false⟩ : SightInterval) v k := by
  obtain ⟨l0, e0, r0, n0⟩ := isV_cellsL h0
  obtain ⟨u0_0, u0_1, u0_2, rfl⟩ := len3 n0
  refine ⟨.agg #[u0_0, u0_1, u0_2, .int .i64 0, .int .i64 0, .bool false, .bool false, .bool false], fun w => ?_, [u0_0, u0_1, u0_2, .int .i64 0, .int .i64 0, .bool false, .bool false, .bool false], rfl, ⟨rfl, r0, ⟨rfl, ⟨rfl, rfl, ⟨rfl, rfl, rfl⟩⟩, ⟨rfl, rfl, rfl⟩⟩⟩⟩
  simp [Instr.build, Instr.fill, cells_agg, e0]
theorem bld35_0_2_3 {k : K} {v0 v2 v3 : Value} {x0 : Int} {x2 : Int} {x3 : Int} (h0 : IsV x0 v0 k) (h2 : IsV x2 v2 k) (h3 : IsV x3 v3 k) : ∃ v, (∀ w, (Instr.build 35 #[(0, v0), (2, v2), (3, v3)]).run Try.prog w = .ok v w) ∧ IsV (⟨x0, 0, x2, x3⟩ : Rect) v k := by
  obtain ⟨l0, e0, r0, n0⟩ := isV_cellsL h0
  obtain ⟨u0_0, rfl⟩ := len1 n0
  obtain ⟨l2, e2, r2, n2⟩ := isV_cellsL h2
  obtain ⟨u2_0, rfl⟩ := len1 n2
  obtain ⟨l3, e3, r3, n3⟩ := isV_cellsL h3
  obtain ⟨u3_0, rfl⟩ := len1 n3
  refine ⟨.agg #[u0_0, .int .i64 0, u2_0, u3_0], fun w => ?_, [u0_0, .int .i64 0, u2_0, u3_0], rfl, ⟨rfl, r0, ⟨rfl, rfl, ⟨rfl, r2, r3⟩⟩⟩⟩
  simp [Instr.build, Instr.fill, cells_agg, e0, e2, e3]
theorem bld37_0_2 {k : K} {v0 v2 : Value} {x0 : Rect} {x2 : Int} (h0 : IsV x0 v0 k) (h2 : IsV x2 v2 k) : ∃ v, (∀ w, (Instr.build 37 #[(0, v0), (2, v2)]).run Try.prog w = .ok v w) ∧ IsV (⟨x0, 0, x2⟩ : Box) v k := by
  obtain ⟨l0, e0, r0, n0⟩ := isV_cellsL h0
  obtain ⟨u0_0, u0_1, u0_2, u0_3, rfl⟩ := len4 n0
  obtain ⟨l2, e2, r2, n2⟩ := isV_cellsL h2
  obtain ⟨u2_0, rfl⟩ := len1 n2
  refine ⟨.agg #[u0_0, u0_1, u0_2, u0_3, .int .i64 0, u2_0], fun w => ?_, [u0_0, u0_1, u0_2, u0_3, .int .i64 0, u2_0], rfl, ⟨rfl, r0, ⟨rfl, rfl, r2⟩⟩⟩
  simp [Instr.build, Instr.fill, cells_agg, e0, e2]
theorem ty22 : Ty Try.prog 22 (List Slab) := ⟨⟨_, Try.underlying22, rfl⟩, by kernel_rfl⟩
theorem bld51_0_1 {k : K} {v0 v1 : Value} {x0 : Int} {x1 : Int} (h0 : IsV x0 v0 k) (h1 : IsV x1 v1 k) : ∃ v, (∀ w, (Instr.build 51 #[(0, v0), (1, v1)]).run Try.prog w = .ok v w) ∧ IsV (⟨x0, x1, []⟩ : Slab) v k := by
  obtain ⟨l0, e0, r0, n0⟩ := isV_cellsL h0
  obtain ⟨u0_0, rfl⟩ := len1 n0
  obtain ⟨l1, e1, r1, n1⟩ := isV_cellsL h1
  obtain ⟨u1_0, rfl⟩ := len1 n1
  refine ⟨.agg #[u0_0, u1_0, .slice none 0 0], fun w => ?_, [u0_0, u1_0, .slice none 0 0], rfl, ⟨rfl, r0, ⟨rfl, r1, ⟨_, rfl, .inl ⟨rfl, rfl⟩⟩⟩⟩⟩
  simp [Instr.build, Instr.fill, cells_agg, e0, e1]
theorem eo22 : ElemOk Try.prog 22 (List Slab) := ⟨_, _, rfl, rfl, rfl, rfl, by decide, by decide⟩
theorem rd3 : Rd Try.prog 3 Int := rd_int Try.underlying3
instance : Rg Rect := Rg.ofMap fun x => (x.X0, x.Y0, x.X1, x.Y1)
theorem rd35 : Rd Try.prog 35 Rect := rd_struct (f := fun x => (x.X0, x.Y0, x.X1, x.Y1)) (fun y => ⟨y.1, y.2.1, y.2.2.1, y.2.2.2⟩) Try.underlying35 (by kernel_rfl) rfl (fun _ _ _ h => h) (fun _ h => h) (RdF.cons rfl (by kernel_rfl) rd3 (RdF.cons rfl (by kernel_rfl) rd3 (RdF.cons rfl (by kernel_rfl) rd3 (RdF.one rfl (by kernel_rfl) rd3)))) (fun _ => rfl)
instance : Rg Box := Rg.ofMap fun x => (x.Base, x.Z0, x.Z1)
theorem rd37 : Rd Try.prog 37 Box := rd_struct (f := fun x => (x.Base, x.Z0, x.Z1)) (fun y => ⟨y.1, y.2.1, y.2.2⟩) Try.underlying37 (by kernel_rfl) rfl (fun _ _ _ h => h) (fun _ h => h) (RdF.cons rfl (by kernel_rfl) rd35 (RdF.cons rfl (by kernel_rfl) rd3 (RdF.one rfl (by kernel_rfl) rd3))) (fun _ => rfl)
theorem rd31 : Rd Try.prog 31 (List Box) := rd_slice Try.underlying31 (by kernel_rfl) (by decide) rd37
instance : Rg Point3 := Rg.ofMap fun x => (x.X, x.Y, x.Z)
theorem rd24 : Rd Try.prog 24 Point3 := rd_struct (f := fun x => (x.X, x.Y, x.Z)) (fun y => ⟨y.1, y.2.1, y.2.2⟩) Try.underlying24 (by kernel_rfl) rfl (fun _ _ _ h => h) (fun _ h => h) (RdF.cons rfl (by kernel_rfl) rd3 (RdF.cons rfl (by kernel_rfl) rd3 (RdF.one rfl (by kernel_rfl) rd3))) (fun _ => rfl)
end Go.Proofs.Ytbpecfmimgjakaa
