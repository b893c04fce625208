/- What the functions compute that the law reaches, part 1 -/
import Derived.Test.YtmniloampanhfaaProg
import Derived.Test.YtmniloampanhfaaL2
import Derived.Shelf.Sort.Plain
import Derived.Shelf.Slices.In.SortNone
import Derived.Shelf.Slices.CompactI
import Derived.Shelf.Spec.SlicesGrow
import Derived.Shelf.SlSortCmp.NoneTotal
namespace Go.Proofs.Ytmniloampanhfaa
open Go.Gb
set_option linter.unusedVariables false
set_option linter.unusedSimpArgs false
set_option maxRecDepth 100000
structure Rect where
  X0 : Int
  Y0 : Int
  X1 : Int
  Y1 : Int
  deriving DecidableEq, Inhabited
instance : Enc Rect := Enc.ofMap fun x => (x.X0, x.Y0, x.X1, x.Y1)
structure Slab where
  Z0 : Int
  Z1 : Int
  Area : (List Rect)
  deriving DecidableEq, Inhabited
instance : Enc Slab := Enc.ofMap fun x => (x.Z0, x.Z1, x.Area)
structure RegionSpan where
  from_ : Int
  to_ : Int
  deriving DecidableEq, Inhabited
instance : Enc RegionSpan := Enc.ofMap fun x => (x.from_, x.to_)
structure RegionStrip where
  x0 : Int
  x1 : Int
  column : (List RegionSpan)
  deriving DecidableEq, Inhabited
instance : Enc RegionStrip := Enc.ofMap fun x => (x.x0, x.x1, x.column)
structure Box where
  Base : Rect
  Z0 : Int
  Z1 : Int
  deriving DecidableEq, Inhabited
instance : Enc Box := Enc.ofMap fun x => (x.Base, x.Z0, x.Z1)
theorem hmix : Try.prog.follows .mixedOrders = true := by kernel_rfl
theorem fo30_0 : FieldOk Try.prog 30 0 0 := ⟨_, _, 0, Try.underlying30, rfl, rfl, by kernel_rfl⟩
theorem at_Rect_0 (y : Rect) (ad : Addr) (k : K) (h : At y ad k) : At y.X0 (ad.add 0) k :=
  have h0 : At (y.X0, y.Y0, y.X1, y.Y1) ad k := h
  At.fst (At.zero h0)
theorem ty3 : Ty Try.prog 3 Int := ⟨⟨_, Try.underlying3, rfl⟩, by kernel_rfl⟩
theorem fo30_2 : FieldOk Try.prog 30 2 2 := ⟨_, _, 0, Try.underlying30, rfl, rfl, by kernel_rfl⟩
theorem at_Rect_2 (y : Rect) (ad : Addr) (k : K) (h : At y ad k) : At y.X1 (ad.add 2) k :=
  have h0 : At (y.X0, y.Y0, y.X1, y.Y1) ad k := h
  At.fst (At.snd' (At.snd' (At.zero h0)))
theorem fo30_1 : FieldOk Try.prog 30 1 1 := ⟨_, _, 0, Try.underlying30, rfl, rfl, by kernel_rfl⟩
theorem at_Rect_1 (y : Rect) (ad : Addr) (k : K) (h : At y ad k) : At y.Y0 (ad.add 1) k :=
  have h0 : At (y.X0, y.Y0, y.X1, y.Y1) ad k := h
  At.fst (At.snd' (At.zero h0))
theorem fo30_3 : FieldOk Try.prog 30 3 3 := ⟨_, _, 0, Try.underlying30, rfl, rfl, by kernel_rfl⟩
theorem at_Rect_3 (y : Rect) (ad : Addr) (k : K) (h : At y ad k) : At y.Y1 (ad.add 3) k :=
  have h0 : At (y.X0, y.Y0, y.X1, y.Y1) ad k := h
  At.snd' (At.snd' (At.snd' (At.zero h0)))
theorem szf3 : (Try.prog.info? 3).map (·.size) = some (Enc.sz Int) := by kernel_rfl
theorem ty24 : Ty Try.prog 24 (List Slab) := ⟨⟨_, Try.underlying24, rfl⟩, by kernel_rfl⟩
theorem ty47 : Ty Try.prog 47 Slab := ⟨⟨_, Try.underlying47, rfl⟩, by kernel_rfl⟩
theorem z47 : Zero Try.prog 47 ((⟨0, 0, []⟩ : Slab) : Slab) := ⟨_, Try.zeroValue47, fun _ => ⟨_, rfl, ⟨rfl, rfl, ⟨rfl, rfl, ⟨_, rfl, .inl ⟨rfl, rfl⟩⟩⟩⟩⟩⟩
theorem szf47 : (Try.prog.info? 47).map (·.size) = some (Enc.sz Slab) := by kernel_rfl
theorem fo47_0 : FieldOk Try.prog 47 0 0 := ⟨_, _, 0, Try.underlying47, rfl, rfl, by kernel_rfl⟩
theorem at_Slab_0 (y : Slab) (ad : Addr) (k : K) (h : At y ad k) : At y.Z0 (ad.add 0) k :=
  have h0 : At (y.Z0, y.Z1, y.Area) ad k := h
  At.fst (At.zero h0)
theorem fo47_1 : FieldOk Try.prog 47 1 1 := ⟨_, _, 0, Try.underlying47, rfl, rfl, by kernel_rfl⟩
theorem at_Slab_1 (y : Slab) (ad : Addr) (k : K) (h : At y ad k) : At y.Z1 (ad.add 1) k :=
  have h0 : At (y.Z0, y.Z1, y.Area) ad k := h
  At.fst (At.snd' (At.zero h0))
theorem eo3 : ElemOk Try.prog 3 Int := ⟨_, _, rfl, rfl, rfl, rfl, by decide, by decide⟩
theorem eo30 : ElemOk Try.prog 30 Rect := ⟨_, _, rfl, rfl, rfl, rfl, by decide, by decide⟩
theorem szf30 : (Try.prog.info? 30).map (·.size) = some (Enc.sz Rect) := by kernel_rfl
theorem ty44 : Ty Try.prog 44 (List Rect) := ⟨⟨_, Try.underlying44, rfl⟩, by kernel_rfl⟩
theorem fo83_0 : FieldOk Try.prog 83 0 0 := ⟨_, _, 0, Try.underlying83, rfl, rfl, by kernel_rfl⟩
theorem at_RegionSpan_0 (y : RegionSpan) (ad : Addr) (k : K) (h : At y ad k) : At y.from_ (ad.add 0) k :=
  have h0 : At (y.from_, y.to_) ad k := h
  At.fst (At.zero h0)
theorem ty83 : Ty Try.prog 83 RegionSpan := ⟨⟨_, Try.underlying83, rfl⟩, by kernel_rfl⟩
theorem szf83 : (Try.prog.info? 83).map (·.size) = some (Enc.sz RegionSpan) := by kernel_rfl
theorem ty30 : Ty Try.prog 30 Rect := ⟨⟨_, Try.underlying30, rfl⟩, by kernel_rfl⟩
theorem z30 : Zero Try.prog 30 ((⟨0, 0, 0, 0⟩ : Rect) : Rect) := ⟨_, Try.zeroValue30, fun _ => ⟨_, rfl, ⟨rfl, rfl, ⟨rfl, rfl, ⟨rfl, rfl, rfl⟩⟩⟩⟩⟩
theorem bld83_0_1 {k : K} {v0 v1 : Value} {x0 : Int} {x1 : Int} (h0 : IsV x0 v0 k) (h1 : IsV x1 v1 k) : ∃ v, (∀ w, (Instr.build 83 #[(0, v0), (1, v1)]).run Try.prog w = .ok v w) ∧ IsV (⟨x0, x1⟩ : RegionSpan) v k := by
  obtain ⟨l0, e0, r0, n0⟩ := isV_cellsL h0
  obtain ⟨u0_0, rfl⟩ := len1 n0
  obtain ⟨l1, e1, r1, n1⟩ := isV_cellsL h1
  obtain ⟨u1_0, rfl⟩ := len1 n1
  refine ⟨.agg #[u0_0, u1_0], fun w => ?_, [u0_0, u1_0], rfl, ⟨rfl, r0, r1⟩⟩
  simp [Instr.build, Instr.fill, cells_agg, e0, e1]
theorem eo83 : ElemOk Try.prog 83 RegionSpan := ⟨_, _, rfl, rfl, rfl, rfl, by decide, by decide⟩
theorem z83 : Zero Try.prog 83 ((⟨0, 0⟩ : RegionSpan) : RegionSpan) := ⟨_, Try.zeroValue83, fun _ => ⟨_, rfl, ⟨rfl, rfl, rfl⟩⟩⟩
theorem fo83_1 : FieldOk Try.prog 83 1 1 := ⟨_, _, 0, Try.underlying83, rfl, rfl, by kernel_rfl⟩
theorem at_RegionSpan_1 (y : RegionSpan) (ad : Addr) (k : K) (h : At y ad k) : At y.to_ (ad.add 1) k :=
  have h0 : At (y.from_, y.to_) ad k := h
  At.snd' (At.zero h0)
theorem upd_F83_1 : Upd (α := RegionSpan) (β := Int) (0 + 1) (fun x y => { x with to_ := y }) := fun k cs cy x y hx hy => (Upd.snd Upd.self) k cs cy (x.from_, x.to_) y hx hy
theorem bld85_0_1_2 {k : K} {v0 v1 v2 : Value} {x0 : Int} {x1 : Int} {x2 : (List RegionSpan)} (h0 : IsV x0 v0 k) (h1 : IsV x1 v1 k) (h2 : IsV x2 v2 k) : ∃ v, (∀ w, (Instr.build 85 #[(0, v0), (1, v1), (2, v2)]).run Try.prog w = .ok v w) ∧ IsV (⟨x0, x1, x2⟩ : RegionStrip) v k := by
  obtain ⟨l0, e0, r0, n0⟩ := isV_cellsL h0
  obtain ⟨u0_0, rfl⟩ := len1 n0
  obtain ⟨l1, e1, r1, n1⟩ := isV_cellsL h1
  obtain ⟨u1_0, rfl⟩ := len1 n1
  obtain ⟨l2, e2, r2, n2⟩ := isV_cellsL h2
  obtain ⟨u2_0, rfl⟩ := len1 n2
  refine ⟨.agg #[u0_0, u1_0, u2_0], fun w => ?_, [u0_0, u1_0, u2_0], rfl, ⟨rfl, r0, ⟨rfl, r1, r2⟩⟩⟩
  simp [Instr.build, Instr.fill, cells_agg, e0, e1, e2]
theorem eo85 : ElemOk Try.prog 85 RegionStrip := ⟨_, _, rfl, rfl, rfl, rfl, by decide, by decide⟩
theorem eq83 : EqOk Try.prog 83 RegionSpan := by
  refine ⟨by kernel_rfl, fun k x y u v hx hy => ?_⟩
  obtain ⟨csx, ex, rx⟩ := hx
  have fx : csx = [.int .i64 x.from_, .int .i64 x.to_] := by
    have hl := Enc.len rx
    obtain ⟨u0, u1, rfl⟩ := len2 hl
    obtain ⟨_, qx0, qx1⟩ := rx
    have qx0 : u0 = .int .i64 x.from_ := hd1 (show [u0] = [.int .i64 x.from_] from qx0)
    have qx1 : u1 = .int .i64 x.to_ := hd1 (show [u1] = [.int .i64 x.to_] from qx1)
    rw [qx0, qx1]
  obtain ⟨csy, ey, ry⟩ := hy
  have fy : csy = [.int .i64 y.from_, .int .i64 y.to_] := by
    have hl := Enc.len ry
    obtain ⟨u0, u1, rfl⟩ := len2 hl
    obtain ⟨_, qy0, qy1⟩ := ry
    have qy0 : u0 = .int .i64 y.from_ := hd1 (show [u0] = [.int .i64 y.from_] from qy0)
    have qy1 : u1 = .int .i64 y.to_ := hd1 (show [u1] = [.int .i64 y.to_] from qy1)
    rw [qy0, qy1]
  subst fx; subst fy; subst ex; subst ey
  refine ⟨⟨_, rfl⟩, ⟨_, rfl⟩, fun w => ?_⟩
  show (Op.equalIn (9998 + 1 + 1) 83 (.agg #[.int .i64 x.from_, .int .i64 x.to_]) (.agg #[.int .i64 y.from_, .int .i64 y.to_])).run Try.prog w = _
  rw [run_equalIn_struct w _ 83 _ _ (by kernel_rfl) Try.stoodInHeld83]
  generalize 9998 = d
  simp [Program.fieldsOf, Op.eqFields, part, aggOf, ← beq_toListBytes, run_isAgg Try.underlying3, run_equalIn_int w d 3 .i64 .i64 _ _ Try.underlying3]
  obtain ⟨a0, a1⟩ := x
  obtain ⟨b0, b1⟩ := y
  simp only [RegionSpan.mk.injEq]
  by_cases h0 : a0 = b0 <;> by_cases h1 : a1 = b1 <;> simp [h0, h1]
theorem ty85 : Ty Try.prog 85 RegionStrip := ⟨⟨_, Try.underlying85, rfl⟩, by kernel_rfl⟩
theorem fo85_2 : FieldOk Try.prog 85 2 2 := ⟨_, _, 0, Try.underlying85, rfl, rfl, by kernel_rfl⟩
theorem at_RegionStrip_2 (y : RegionStrip) (ad : Addr) (k : K) (h : At y ad k) : At y.column (ad.add 2) k :=
  have h0 : At (y.x0, y.x1, y.column) ad k := h
  At.snd' (At.snd' (At.zero h0))
theorem ty81 : Ty Try.prog 81 (List RegionSpan) := ⟨⟨_, Try.underlying81, rfl⟩, by kernel_rfl⟩
theorem fo85_0 : FieldOk Try.prog 85 0 0 := ⟨_, _, 0, Try.underlying85, rfl, rfl, by kernel_rfl⟩
theorem at_RegionStrip_0 (y : RegionStrip) (ad : Addr) (k : K) (h : At y ad k) : At y.x0 (ad.add 0) k :=
  have h0 : At (y.x0, y.x1, y.column) ad k := h
  At.fst (At.zero h0)
theorem fo85_1 : FieldOk Try.prog 85 1 1 := ⟨_, _, 0, Try.underlying85, rfl, rfl, by kernel_rfl⟩
theorem at_RegionStrip_1 (y : RegionStrip) (ad : Addr) (k : K) (h : At y ad k) : At y.x1 (ad.add 1) k :=
  have h0 : At (y.x0, y.x1, y.column) ad k := h
  At.fst (At.snd' (At.zero h0))
theorem bld30_0_1_2_3 {k : K} {v0 v1 v2 v3 : Value} {x0 : Int} {x1 : Int} {x2 : Int} {x3 : Int} (h0 : IsV x0 v0 k) (h1 : IsV x1 v1 k) (h2 : IsV x2 v2 k) (h3 : IsV x3 v3 k) : ∃ v, (∀ w, (Instr.build 30 #[(0, v0), (1, v1), (2, v2), (3, v3)]).run Try.prog w = .ok v w) ∧ IsV (⟨x0, x1, x2, x3⟩ : Rect) v k := by
  obtain ⟨l0, e0, r0, n0⟩ := isV_cellsL h0
  obtain ⟨u0_0, rfl⟩ := len1 n0
  obtain ⟨l1, e1, r1, n1⟩ := isV_cellsL h1
  obtain ⟨u1_0, rfl⟩ := len1 n1
  obtain ⟨l2, e2, r2, n2⟩ := isV_cellsL h2
  obtain ⟨u2_0, rfl⟩ := len1 n2
  obtain ⟨l3, e3, r3, n3⟩ := isV_cellsL h3
  obtain ⟨u3_0, rfl⟩ := len1 n3
  refine ⟨.agg #[u0_0, u1_0, u2_0, u3_0], fun w => ?_, [u0_0, u1_0, u2_0, u3_0], rfl, ⟨rfl, r0, ⟨rfl, r1, ⟨rfl, r2, r3⟩⟩⟩⟩
  simp [Instr.build, Instr.fill, cells_agg, e0, e1, e2, e3]
theorem eo44 : ElemOk Try.prog 44 (List Rect) := ⟨_, _, rfl, rfl, rfl, rfl, by decide, by decide⟩
theorem eq30 : EqOk Try.prog 30 Rect := by
  refine ⟨by kernel_rfl, fun k x y u v hx hy => ?_⟩
  obtain ⟨csx, ex, rx⟩ := hx
  have fx : csx = [.int .i64 x.X0, .int .i64 x.Y0, .int .i64 x.X1, .int .i64 x.Y1] := by
    have hl := Enc.len rx
    obtain ⟨u0, u1, u2, u3, rfl⟩ := len4 hl
    obtain ⟨_, qx0, ⟨_, qx1, ⟨_, qx2, qx3⟩⟩⟩ := rx
    have qx0 : u0 = .int .i64 x.X0 := hd1 (show [u0] = [.int .i64 x.X0] from qx0)
    have qx1 : u1 = .int .i64 x.Y0 := hd1 (show [u1] = [.int .i64 x.Y0] from qx1)
    have qx2 : u2 = .int .i64 x.X1 := hd1 (show [u2] = [.int .i64 x.X1] from qx2)
    have qx3 : u3 = .int .i64 x.Y1 := hd1 (show [u3] = [.int .i64 x.Y1] from qx3)
    rw [qx0, qx1, qx2, qx3]
  obtain ⟨csy, ey, ry⟩ := hy
  have fy : csy = [.int .i64 y.X0, .int .i64 y.Y0, .int .i64 y.X1, .int .i64 y.Y1] := by
    have hl := Enc.len ry
    obtain ⟨u0, u1, u2, u3, rfl⟩ := len4 hl
    obtain ⟨_, qy0, ⟨_, qy1, ⟨_, qy2, qy3⟩⟩⟩ := ry
    have qy0 : u0 = .int .i64 y.X0 := hd1 (show [u0] = [.int .i64 y.X0] from qy0)
    have qy1 : u1 = .int .i64 y.Y0 := hd1 (show [u1] = [.int .i64 y.Y0] from qy1)
    have qy2 : u2 = .int .i64 y.X1 := hd1 (show [u2] = [.int .i64 y.X1] from qy2)
    have qy3 : u3 = .int .i64 y.Y1 := hd1 (show [u3] = [.int .i64 y.Y1] from qy3)
    rw [qy0, qy1, qy2, qy3]
  subst fx; subst fy; subst ex; subst ey
  refine ⟨⟨_, rfl⟩, ⟨_, rfl⟩, fun w => ?_⟩
  show (Op.equalIn (9998 + 1 + 1) 30 (.agg #[.int .i64 x.X0, .int .i64 x.Y0, .int .i64 x.X1, .int .i64 x.Y1]) (.agg #[.int .i64 y.X0, .int .i64 y.Y0, .int .i64 y.X1, .int .i64 y.Y1])).run Try.prog w = _
  rw [run_equalIn_struct w _ 30 _ _ (by kernel_rfl) Try.stoodInHeld30]
  generalize 9998 = d
  simp [Program.fieldsOf, Op.eqFields, part, aggOf, ← beq_toListBytes, run_isAgg Try.underlying3, run_equalIn_int w d 3 .i64 .i64 _ _ Try.underlying3]
  obtain ⟨a0, a1, a2, a3⟩ := x
  obtain ⟨b0, b1, b2, b3⟩ := y
  simp only [Rect.mk.injEq]
  by_cases h0 : a0 = b0 <;> by_cases h1 : a1 = b1 <;> by_cases h2 : a2 = b2 <;> by_cases h3 : a3 = b3 <;> simp [h0, h1, h2, h3]
theorem fo47_2 : FieldOk Try.prog 47 2 2 := ⟨_, _, 0, Try.underlying47, rfl, rfl, by kernel_rfl⟩
theorem at_Slab_2 (y : Slab) (ad : Addr) (k : K) (h : At y ad k) : At y.Area (ad.add 2) k :=
  have h0 : At (y.Z0, y.Z1, y.Area) ad k := h
  At.snd' (At.snd' (At.zero h0))
theorem upd_F47_1 : Upd (α := Slab) (β := Int) (0 + 1) (fun x y => { x with Z1 := y }) := fun k cs cy x y hx hy => (Upd.snd (Upd.fst Upd.self)) k cs cy (x.Z0, x.Z1, x.Area) y hx hy
theorem eo47 : ElemOk Try.prog 47 Slab := ⟨_, _, rfl, rfl, rfl, rfl, by decide, by decide⟩
theorem ty32 : Ty Try.prog 32 Box := ⟨⟨_, Try.underlying32, rfl⟩, by kernel_rfl⟩
theorem z32 : Zero Try.prog 32 ((⟨(⟨0, 0, 0, 0⟩ : Rect), 0, 0⟩ : Box) : Box) := ⟨_, Try.zeroValue32, fun _ => ⟨_, rfl, ⟨rfl, ⟨rfl, rfl, ⟨rfl, rfl, ⟨rfl, rfl, rfl⟩⟩⟩, ⟨rfl, rfl, rfl⟩⟩⟩⟩
theorem szf32 : (Try.prog.info? 32).map (·.size) = some (Enc.sz Box) := by kernel_rfl
theorem fo32_0 : FieldOk Try.prog 32 0 0 := ⟨_, _, 3, Try.underlying32, rfl, rfl, by kernel_rfl⟩
theorem at_Box_0 (y : Box) (ad : Addr) (k : K) (h : At y ad k) : At y.Base (ad.add 0) k :=
  have h0 : At (y.Base, y.Z0, y.Z1) ad k := h
  At.fst (At.zero h0)
theorem fo32_1 : FieldOk Try.prog 32 1 4 := ⟨_, _, 0, Try.underlying32, rfl, rfl, by kernel_rfl⟩
theorem at_Box_1 (y : Box) (ad : Addr) (k : K) (h : At y ad k) : At y.Z0 (ad.add 4) k :=
  have h0 : At (y.Base, y.Z0, y.Z1) ad k := h
  At.fst (At.snd' (At.zero h0))
theorem fo32_2 : FieldOk Try.prog 32 2 5 := ⟨_, _, 0, Try.underlying32, rfl, rfl, by kernel_rfl⟩
theorem at_Box_2 (y : Box) (ad : Addr) (k : K) (h : At y ad k) : At y.Z1 (ad.add 5) k :=
  have h0 : At (y.Base, y.Z0, y.Z1) ad k := h
  At.snd' (At.snd' (At.zero h0))
theorem bld47_0_1 {k : K} {v0 v1 : Value} {x0 : Int} {x1 : Int} (h0 : IsV x0 v0 k) (h1 : IsV x1 v1 k) : ∃ v, (∀ w, (Instr.build 47 #[(0, v0), (1, v1)]).run Try.prog w = .ok v w) ∧ IsV (⟨x0, x1, []⟩ : Slab) v k := by
  obtain ⟨l0, e0, r0, n0⟩ := isV_cellsL h0
  obtain ⟨u0_0, rfl⟩ := len1 n0
  obtain ⟨l1, e1, r1, n1⟩ := isV_cellsL h1
  obtain ⟨u1_0, rfl⟩ := len1 n1
  refine ⟨.agg #[u0_0, u1_0, .slice none 0 0], fun w => ?_, [u0_0, u1_0, .slice none 0 0], rfl, ⟨rfl, r0, ⟨rfl, r1, ⟨_, rfl, .inl ⟨rfl, rfl⟩⟩⟩⟩⟩
  simp [Instr.build, Instr.fill, cells_agg, e0, e1]
theorem eo24 : ElemOk Try.prog 24 (List Slab) := ⟨_, _, rfl, rfl, rfl, rfl, by decide, by decide⟩
theorem bld47_0_1_2 {k : K} {v0 v1 v2 : Value} {x0 : Int} {x1 : Int} {x2 : (List Rect)} (h0 : IsV x0 v0 k) (h1 : IsV x1 v1 k) (h2 : IsV x2 v2 k) : ∃ v, (∀ w, (Instr.build 47 #[(0, v0), (1, v1), (2, v2)]).run Try.prog w = .ok v w) ∧ IsV (⟨x0, x1, x2⟩ : Slab) v k := by
  obtain ⟨l0, e0, r0, n0⟩ := isV_cellsL h0
  obtain ⟨u0_0, rfl⟩ := len1 n0
  obtain ⟨l1, e1, r1, n1⟩ := isV_cellsL h1
  obtain ⟨u1_0, rfl⟩ := len1 n1
  obtain ⟨l2, e2, r2, n2⟩ := isV_cellsL h2
  obtain ⟨u2_0, rfl⟩ := len1 n2
  refine ⟨.agg #[u0_0, u1_0, u2_0], fun w => ?_, [u0_0, u1_0, u2_0], rfl, ⟨rfl, r0, ⟨rfl, r1, r2⟩⟩⟩
  simp [Instr.build, Instr.fill, cells_agg, e0, e1, e2]
theorem eo81 : ElemOk Try.prog 81 (List RegionSpan) := ⟨_, _, rfl, rfl, rfl, rfl, by decide, by decide⟩
theorem z85 : Zero Try.prog 85 ((⟨0, 0, []⟩ : RegionStrip) : RegionStrip) := ⟨_, Try.zeroValue85, fun _ => ⟨_, rfl, ⟨rfl, rfl, ⟨rfl, rfl, ⟨_, rfl, .inl ⟨rfl, rfl⟩⟩⟩⟩⟩⟩
theorem szf85 : (Try.prog.info? 85).map (·.size) = some (Enc.sz RegionStrip) := by kernel_rfl
theorem upd_F85_2 : Upd (α := RegionStrip) (β := (List RegionSpan)) (0 + 2) (fun x y => { x with column := y }) := fun k cs cy x y hx hy => (Upd.snd (Upd.snd Upd.self)) k cs cy (x.x0, x.x1, x.column) y hx hy
theorem szf81 : (Try.prog.info? 81).map (·.size) = some (Enc.sz (List RegionSpan)) := by kernel_rfl
theorem bld32_0_1_2 {k : K} {v0 v1 v2 : Value} {x0 : Rect} {x1 : Int} {x2 : Int} (h0 : IsV x0 v0 k) (h1 : IsV x1 v1 k) (h2 : IsV x2 v2 k) : ∃ v, (∀ w, (Instr.build 32 #[(0, v0), (1, v1), (2, v2)]).run Try.prog w = .ok v w) ∧ IsV (⟨x0, x1, x2⟩ : Box) v k := by
  obtain ⟨l0, e0, r0, n0⟩ := isV_cellsL h0
  obtain ⟨u0_0, u0_1, u0_2, u0_3, rfl⟩ := len4 n0
  obtain ⟨l1, e1, r1, n1⟩ := isV_cellsL h1
  obtain ⟨u1_0, rfl⟩ := len1 n1
  obtain ⟨l2, e2, r2, n2⟩ := isV_cellsL h2
  obtain ⟨u2_0, rfl⟩ := len1 n2
  refine ⟨.agg #[u0_0, u0_1, u0_2, u0_3, u1_0, u2_0], fun w => ?_, [u0_0, u0_1, u0_2, u0_3, u1_0, u2_0], rfl, ⟨rfl, r0, ⟨rfl, r1, r2⟩⟩⟩
  simp [Instr.build, Instr.fill, cells_agg, e0, e1, e2]
theorem eo32 : ElemOk Try.prog 32 Box := ⟨_, _, rfl, rfl, rfl, rfl, by decide, by decide⟩
theorem bld30_ {k : K}   : ∃ v, (∀ w, (Instr.build 30 #[]).run Try.prog w = .ok v w) ∧ IsV (⟨0, 0, 0, 0⟩ : Rect) v k := by
  refine ⟨.agg #[.int .i64 0, .int .i64 0, .int .i64 0, .int .i64 0], fun w => ?_, [.int .i64 0, .int .i64 0, .int .i64 0, .int .i64 0], rfl, ⟨rfl, rfl, ⟨rfl, rfl, ⟨rfl, rfl, rfl⟩⟩⟩⟩
  simp [Instr.build, Instr.fill, cells_agg]
theorem rd3 : Rd Try.prog 3 Int := rd_int Try.underlying3
instance : Rg Rect := Rg.ofMap fun x => (x.X0, x.Y0, x.X1, x.Y1)
theorem rd30 : Rd Try.prog 30 Rect := rd_struct (f := fun x => (x.X0, x.Y0, x.X1, x.Y1)) (fun y => ⟨y.1, y.2.1, y.2.2.1, y.2.2.2⟩) Try.underlying30 (by kernel_rfl) rfl (fun _ _ _ h => h) (fun _ h => h) (RdF.cons rfl (by kernel_rfl) rd3 (RdF.cons rfl (by kernel_rfl) rd3 (RdF.cons rfl (by kernel_rfl) rd3 (RdF.one rfl (by kernel_rfl) rd3)))) (fun _ => rfl)
instance : Rg Box := Rg.ofMap fun x => (x.Base, x.Z0, x.Z1)
theorem rd32 : Rd Try.prog 32 Box := rd_struct (f := fun x => (x.Base, x.Z0, x.Z1)) (fun y => ⟨y.1, y.2.1, y.2.2⟩) Try.underlying32 (by kernel_rfl) rfl (fun _ _ _ h => h) (fun _ h => h) (RdF.cons rfl (by kernel_rfl) rd30 (RdF.cons rfl (by kernel_rfl) rd3 (RdF.one rfl (by kernel_rfl) rd3))) (fun _ => rfl)
theorem rd22 : Rd Try.prog 22 (List Box) := rd_slice Try.underlying22 (by kernel_rfl) (by decide) rd32
end Go.Proofs.Ytmniloampanhfaa
