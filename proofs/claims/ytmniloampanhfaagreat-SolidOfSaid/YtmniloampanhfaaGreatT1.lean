/- What the functions compute that the law reaches, part 1 -/
import Derived.Test.YtmniloampanhfaaGreatProg
import Derived.Test.YtmniloampanhfaaGreatL5
import Derived.Shelf.Sort.Plain
import Derived.Shelf.Slices.In.SortNone
import Derived.Shelf.Slices.CompactI
import Derived.Shelf.Spec.SlicesGrow
import Derived.Shelf.SlSortCmp.NoneTotal
namespace Go.Proofs.YtmniloampanhfaaGreat
open Go.Gb
set_option linter.unusedVariables false
set_option linter.unusedSimpArgs false
set_option maxRecDepth 100000
structure Rect where
  X0 : Int
  Y0 : Int
  X1 : Int
  Y1 : Int
  deriving DecidableEq, Inhabited
instance : Enc Rect := Enc.ofMap fun x => (x.X0, x.Y0, x.X1, x.Y1)
structure Slab where
  Z0 : Int
  Z1 : Int
  Area : (List Rect)
  deriving DecidableEq, Inhabited
instance : Enc Slab := Enc.ofMap fun x => (x.Z0, x.Z1, x.Area)
structure RegionSpan where
  from_ : Int
  to_ : Int
  deriving DecidableEq, Inhabited
instance : Enc RegionSpan := Enc.ofMap fun x => (x.from_, x.to_)
structure RegionStrip where
  x0 : Int
  x1 : Int
  column : (List RegionSpan)
  deriving DecidableEq, Inhabited
instance : Enc RegionStrip := Enc.ofMap fun x => (x.x0, x.x1, x.column)
structure Box where
  Base : Rect
  Z0 : Int
  Z1 : Int
  deriving DecidableEq, Inhabited
instance : Enc Box := Enc.ofMap fun x => (x.Base, x.Z0, x.Z1)
theorem hmix : Tryz.prog.follows .mixedOrders = true := by kernel_rfl
theorem fo33_0 : FieldOk Tryz.prog 33 0 0 := ⟨_, _, 0, Tryz.underlying33, rfl, rfl, by kernel_rfl⟩
theorem at_Rect_0 (y : Rect) (ad : Addr) (k : K) (h : At y ad k) : At y.X0 (ad.add 0) k :=
  have h0 : At (y.X0, y.Y0, y.X1, y.Y1) ad k := h
  At.fst (At.zero h0)
theorem ty3 : Ty Tryz.prog 3 Int := ⟨⟨_, Tryz.underlying3, rfl⟩, by kernel_rfl⟩
theorem fo33_2 : FieldOk Tryz.prog 33 2 2 := ⟨_, _, 0, Tryz.underlying33, rfl, rfl, by kernel_rfl⟩
theorem at_Rect_2 (y : Rect) (ad : Addr) (k : K) (h : At y ad k) : At y.X1 (ad.add 2) k :=
  have h0 : At (y.X0, y.Y0, y.X1, y.Y1) ad k := h
  At.fst (At.snd' (At.snd' (At.zero h0)))
theorem fo33_1 : FieldOk Tryz.prog 33 1 1 := ⟨_, _, 0, Tryz.underlying33, rfl, rfl, by kernel_rfl⟩
theorem at_Rect_1 (y : Rect) (ad : Addr) (k : K) (h : At y ad k) : At y.Y0 (ad.add 1) k :=
  have h0 : At (y.X0, y.Y0, y.X1, y.Y1) ad k := h
  At.fst (At.snd' (At.zero h0))
theorem fo33_3 : FieldOk Tryz.prog 33 3 3 := ⟨_, _, 0, Tryz.underlying33, rfl, rfl, by kernel_rfl⟩
theorem at_Rect_3 (y : Rect) (ad : Addr) (k : K) (h : At y ad k) : At y.Y1 (ad.add 3) k :=
  have h0 : At (y.X0, y.Y0, y.X1, y.Y1) ad k := h
  At.snd' (At.snd' (At.snd' (At.zero h0)))
theorem szf3 : (Tryz.prog.info? 3).map (·.size) = some (Enc.sz Int) := by kernel_rfl
theorem ty22 : Ty Tryz.prog 22 (List Slab) := ⟨⟨_, Tryz.underlying22, rfl⟩, by kernel_rfl⟩
theorem ty40 : Ty Tryz.prog 40 Slab := ⟨⟨_, Tryz.underlying40, rfl⟩, by kernel_rfl⟩
theorem z40 : Zero Tryz.prog 40 ((⟨0, 0, []⟩ : Slab) : Slab) := ⟨_, Tryz.zeroValue40, fun _ => ⟨_, rfl, ⟨rfl, rfl, ⟨rfl, rfl, ⟨_, rfl, .inl ⟨rfl, rfl⟩⟩⟩⟩⟩⟩
theorem szf40 : (Tryz.prog.info? 40).map (·.size) = some (Enc.sz Slab) := by kernel_rfl
theorem fo40_0 : FieldOk Tryz.prog 40 0 0 := ⟨_, _, 0, Tryz.underlying40, rfl, rfl, by kernel_rfl⟩
theorem at_Slab_0 (y : Slab) (ad : Addr) (k : K) (h : At y ad k) : At y.Z0 (ad.add 0) k :=
  have h0 : At (y.Z0, y.Z1, y.Area) ad k := h
  At.fst (At.zero h0)
theorem fo40_1 : FieldOk Tryz.prog 40 1 1 := ⟨_, _, 0, Tryz.underlying40, rfl, rfl, by kernel_rfl⟩
theorem at_Slab_1 (y : Slab) (ad : Addr) (k : K) (h : At y ad k) : At y.Z1 (ad.add 1) k :=
  have h0 : At (y.Z0, y.Z1, y.Area) ad k := h
  At.fst (At.snd' (At.zero h0))
theorem eo3 : ElemOk Tryz.prog 3 Int := ⟨_, _, rfl, rfl, rfl, rfl, by decide, by decide⟩
theorem eo33 : ElemOk Tryz.prog 33 Rect := ⟨_, _, rfl, rfl, rfl, rfl, by decide, by decide⟩
theorem szf33 : (Tryz.prog.info? 33).map (·.size) = some (Enc.sz Rect) := by kernel_rfl
theorem ty37 : Ty Tryz.prog 37 (List Rect) := ⟨⟨_, Tryz.underlying37, rfl⟩, by kernel_rfl⟩
theorem fo92_0 : FieldOk Tryz.prog 92 0 0 := ⟨_, _, 0, Tryz.underlying92, rfl, rfl, by kernel_rfl⟩
theorem at_RegionSpan_0 (y : RegionSpan) (ad : Addr) (k : K) (h : At y ad k) : At y.from_ (ad.add 0) k :=
  have h0 : At (y.from_, y.to_) ad k := h
  At.fst (At.zero h0)
theorem ty92 : Ty Tryz.prog 92 RegionSpan := ⟨⟨_, Tryz.underlying92, rfl⟩, by kernel_rfl⟩
theorem szf92 : (Tryz.prog.info? 92).map (·.size) = some (Enc.sz RegionSpan) := by kernel_rfl
theorem ty33 : Ty Tryz.prog 33 Rect := ⟨⟨_, Tryz.underlying33, rfl⟩, by kernel_rfl⟩
theorem z33 : Zero Tryz.prog 33 ((⟨0, 0, 0, 0⟩ : Rect) : Rect) := ⟨_, Tryz.zeroValue33, fun _ => ⟨_, rfl, ⟨rfl, rfl, ⟨rfl, rfl, ⟨rfl, rfl, rfl⟩⟩⟩⟩⟩
theorem bld92_0_1 {k : K} {v0 v1 : Value} {x0 : Int} {x1 : Int} (h0 : IsV x0 v0 k) (h1 : IsV x1 v1 k) : ∃ v, (∀ w, (Instr.build 92 #[(0, v0), (1, v1)]).run Tryz.prog w = .ok v w) ∧ IsV (⟨x0, x1⟩ : RegionSpan) v k := by
  obtain ⟨l0, e0, r0, n0⟩ := isV_cellsL h0
  obtain ⟨u0_0, rfl⟩ := len1 n0
  obtain ⟨l1, e1, r1, n1⟩ := isV_cellsL h1
  obtain ⟨u1_0, rfl⟩ := len1 n1
  refine ⟨.agg #[u0_0, u1_0], fun w => ?_, [u0_0, u1_0], rfl, ⟨rfl, r0, r1⟩⟩
  simp [Instr.build, Instr.fill, cells_agg, e0, e1]
theorem eo92 : ElemOk Tryz.prog 92 RegionSpan := ⟨_, _, rfl, rfl, rfl, rfl, by decide, by decide⟩
theorem z92 : Zero Tryz.prog 92 ((⟨0, 0⟩ : RegionSpan) : RegionSpan) := ⟨_, Tryz.zeroValue92, fun _ => ⟨_, rfl, ⟨rfl, rfl, rfl⟩⟩⟩
theorem fo92_1 : FieldOk Tryz.prog 92 1 1 := ⟨_, _, 0, Tryz.underlying92, rfl, rfl, by kernel_rfl⟩
theorem at_RegionSpan_1 (y : RegionSpan) (ad : Addr) (k : K) (h : At y ad k) : At y.to_ (ad.add 1) k :=
  have h0 : At (y.from_, y.to_) ad k := h
  At.snd' (At.zero h0)
theorem upd_F92_1 : Upd (α := RegionSpan) (β := Int) (0 + 1) (fun x y => { x with to_ := y }) := fun k cs cy x y hx hy => (Upd.snd Upd.self) k cs cy (x.from_, x.to_) y hx hy
theorem bld94_0_1_2 {k : K} {v0 v1 v2 : Value} {x0 : Int} {x1 : Int} {x2 : (List RegionSpan)} (h0 : IsV x0 v0 k) (h1 : IsV x1 v1 k) (h2 : IsV x2 v2 k) : ∃ v, (∀ w, (Instr.build 94 #[(0, v0), (1, v1), (2, v2)]).run Tryz.prog w = .ok v w) ∧ IsV (⟨x0, x1, x2⟩ : RegionStrip) v k := by
  obtain ⟨l0, e0, r0, n0⟩ := isV_cellsL h0
  obtain ⟨u0_0, rfl⟩ := len1 n0
  obtain ⟨l1, e1, r1, n1⟩ := isV_cellsL h1
  obtain ⟨u1_0, rfl⟩ := len1 n1
  obtain ⟨l2, e2, r2, n2⟩ := isV_cellsL h2
  obtain ⟨u2_0, rfl⟩ := len1 n2
  refine ⟨.agg #[u0_0, u1_0, u2_0], fun w => ?_, [u0_0, u1_0, u2_0], rfl, ⟨rfl, r0, ⟨rfl, r1, r2⟩⟩⟩
  simp [Instr.build, Instr.fill, cells_agg, e0, e1, e2]
theorem eo94 : ElemOk Tryz.prog 94 RegionStrip := ⟨_, _, rfl, rfl, rfl, rfl, by decide, by decide⟩
theorem eq92 : EqOk Tryz.prog 92 RegionSpan := by
  refine ⟨by kernel_rfl, fun k x y u v hx hy => ?_⟩
  obtain ⟨csx, ex, rx⟩ := hx
  have fx : csx = [.int .i64 x.from_, .int .i64 x.to_] := by
    have hl := Enc.len rx
    obtain ⟨u0, u1, rfl⟩ := len2 hl
    obtain ⟨_, qx0, qx1⟩ := rx
    have qx0 : u0 = .int .i64 x.from_ := hd1 (show [u0] = [.int .i64 x.from_] from qx0)
    have qx1 : u1 = .int .i64 x.to_ := hd1 (show [u1] = [.int .i64 x.to_] from qx1)
    rw [qx0, qx1]
  obtain ⟨csy, ey, ry⟩ := hy
  have fy : csy = [.int .i64 y.from_, .int .i64 y.to_] := by
    have hl := Enc.len ry
    obtain ⟨u0, u1, rfl⟩ := len2 hl
    obtain ⟨_, qy0, qy1⟩ := ry
    have qy0 : u0 = .int .i64 y.from_ := hd1 (show [u0] = [.int .i64 y.from_] from qy0)
    have qy1 : u1 = .int .i64 y.to_ := hd1 (show [u1] = [.int .i64 y.to_] from qy1)
    rw [qy0, qy1]
  subst fx; subst fy; subst ex; subst ey
  refine ⟨⟨_, rfl⟩, ⟨_, rfl⟩, fun w => ?_⟩
  show (Op.equalIn (9998 + 1 + 1) 92 (.agg #[.int .i64 x.from_, .int .i64 x.to_]) (.agg #[.int .i64 y.from_, .int .i64 y.to_])).run Tryz.prog w = _
  rw [run_equalIn_struct w _ 92 _ _ (by kernel_rfl) Tryz.stoodInHeld92]
  generalize 9998 = d
  simp [Program.fieldsOf, Op.eqFields, part, aggOf, ← beq_toListBytes, run_isAgg Tryz.underlying3, run_equalIn_int w d 3 .i64 .i64 _ _ Tryz.underlying3]
  obtain ⟨a0, a1⟩ := x
  obtain ⟨b0, b1⟩ := y
  simp only [RegionSpan.mk.injEq]
  by_cases h0 : a0 = b0 <;> by_cases h1 : a1 = b1 <;> simp [h0, h1]
theorem ty94 : Ty Tryz.prog 94 RegionStrip := ⟨⟨_, Tryz.underlying94, rfl⟩, by kernel_rfl⟩
theorem fo94_2 : FieldOk Tryz.prog 94 2 2 := ⟨_, _, 0, Tryz.underlying94, rfl, rfl, by kernel_rfl⟩
theorem at_RegionStrip_2 (y : RegionStrip) (ad : Addr) (k : K) (h : At y ad k) : At y.column (ad.add 2) k :=
  have h0 : At (y.x0, y.x1, y.column) ad k := h
  At.snd' (At.snd' (At.zero h0))
theorem ty90 : Ty Tryz.prog 90 (List RegionSpan) := ⟨⟨_, Tryz.underlying90, rfl⟩, by kernel_rfl⟩
theorem fo94_0 : FieldOk Tryz.prog 94 0 0 := ⟨_, _, 0, Tryz.underlying94, rfl, rfl, by kernel_rfl⟩
theorem at_RegionStrip_0 (y : RegionStrip) (ad : Addr) (k : K) (h : At y ad k) : At y.x0 (ad.add 0) k :=
  have h0 : At (y.x0, y.x1, y.column) ad k := h
  At.fst (At.zero h0)
theorem eo37 : ElemOk Tryz.prog 37 (List Rect) := ⟨_, _, rfl, rfl, rfl, rfl, by decide, by decide⟩
theorem eq33 : EqOk Tryz.prog 33 Rect := by
  refine ⟨by kernel_rfl, fun k x y u v hx hy => ?_⟩
  obtain ⟨csx, ex, rx⟩ := hx
  have fx : csx = [.int .i64 x.X0, .int .i64 x.Y0, .int .i64 x.X1, .int .i64 x.Y1] := by
    have hl := Enc.len rx
    obtain ⟨u0, u1, u2, u3, rfl⟩ := len4 hl
    obtain ⟨_, qx0, ⟨_, qx1, ⟨_, qx2, qx3⟩⟩⟩ := rx
    have qx0 : u0 = .int .i64 x.X0 := hd1 (show [u0] = [.int .i64 x.X0] from qx0)
    have qx1 : u1 = .int .i64 x.Y0 := hd1 (show [u1] = [.int .i64 x.Y0] from qx1)
    have qx2 : u2 = .int .i64 x.X1 := hd1 (show [u2] = [.int .i64 x.X1] from qx2)
    have qx3 : u3 = .int .i64 x.Y1 := hd1 (show [u3] = [.int .i64 x.Y1] from qx3)
    rw [qx0, qx1, qx2, qx3]
  obtain ⟨csy, ey, ry⟩ := hy
  have fy : csy = [.int .i64 y.X0, .int .i64 y.Y0, .int .i64 y.X1, .int .i64 y.Y1] := by
    have hl := Enc.len ry
    obtain ⟨u0, u1, u2, u3, rfl⟩ := len4 hl
    obtain ⟨_, qy0, ⟨_, qy1, ⟨_, qy2, qy3⟩⟩⟩ := ry
    have qy0 : u0 = .int .i64 y.X0 := hd1 (show [u0] = [.int .i64 y.X0] from qy0)
    have qy1 : u1 = .int .i64 y.Y0 := hd1 (show [u1] = [.int .i64 y.Y0] from qy1)
    have qy2 : u2 = .int .i64 y.X1 := hd1 (show [u2] = [.int .i64 y.X1] from qy2)
    have qy3 : u3 = .int .i64 y.Y1 := hd1 (show [u3] = [.int .i64 y.Y1] from qy3)
    rw [qy0, qy1, qy2, qy3]
  subst fx; subst fy; subst ex; subst ey
  refine ⟨⟨_, rfl⟩, ⟨_, rfl⟩, fun w => ?_⟩
  show (Op.equalIn (9998 + 1 + 1) 33 (.agg #[.int .i64 x.X0, .int .i64 x.Y0, .int .i64 x.X1, .int .i64 x.Y1]) (.agg #[.int .i64 y.X0, .int .i64 y.Y0, .int .i64 y.X1, .int .i64 y.Y1])).run Tryz.prog w = _
  rw [run_equalIn_struct w _ 33 _ _ (by kernel_rfl) Tryz.stoodInHeld33]
  generalize 9998 = d
  simp [Program.fieldsOf, Op.eqFields, part, aggOf, ← beq_toListBytes, run_isAgg Tryz.underlying3, run_equalIn_int w d 3 .i64 .i64 _ _ Tryz.underlying3]
  obtain ⟨a0, a1, a2, a3⟩ := x
  obtain ⟨b0, b1, b2, b3⟩ := y
  simp only [Rect.mk.injEq]
  by_cases h0 : a0 = b0 <;> by_cases h1 : a1 = b1 <;> by_cases h2 : a2 = b2 <;> by_cases h3 : a3 = b3 <;> simp [h0, h1, h2, h3]
theorem fo40_2 : FieldOk Tryz.prog 40 2 2 := ⟨_, _, 0, Tryz.underlying40, rfl, rfl, by kernel_rfl⟩
theorem at_Slab_2 (y : Slab) (ad : Addr) (k : K) (h : At y ad k) : At y.Area (ad.add 2) k :=
  have h0 : At (y.Z0, y.Z1, y.Area) ad k := h
  At.snd' (At.snd' (At.zero h0))
theorem upd_F40_1 : Upd (α := Slab) (β := Int) (0 + 1) (fun x y => { x with Z1 := y }) := fun k cs cy x y hx hy => (Upd.snd (Upd.fst Upd.self)) k cs cy (x.Z0, x.Z1, x.Area) y hx hy
theorem eo40 : ElemOk Tryz.prog 40 Slab := ⟨_, _, rfl, rfl, rfl, rfl, by decide, by decide⟩
theorem ty35 : Ty Tryz.prog 35 Box := ⟨⟨_, Tryz.underlying35, rfl⟩, by kernel_rfl⟩
theorem z35 : Zero Tryz.prog 35 ((⟨(⟨0, 0, 0, 0⟩ : Rect), 0, 0⟩ : Box) : Box) := ⟨_, Tryz.zeroValue35, fun _ => ⟨_, rfl, ⟨rfl, ⟨rfl, rfl, ⟨rfl, rfl, ⟨rfl, rfl, rfl⟩⟩⟩, ⟨rfl, rfl, rfl⟩⟩⟩⟩
theorem szf35 : (Tryz.prog.info? 35).map (·.size) = some (Enc.sz Box) := by kernel_rfl
theorem fo35_0 : FieldOk Tryz.prog 35 0 0 := ⟨_, _, 3, Tryz.underlying35, rfl, rfl, by kernel_rfl⟩
theorem at_Box_0 (y : Box) (ad : Addr) (k : K) (h : At y ad k) : At y.Base (ad.add 0) k :=
  have h0 : At (y.Base, y.Z0, y.Z1) ad k := h
  At.fst (At.zero h0)
theorem fo35_1 : FieldOk Tryz.prog 35 1 4 := ⟨_, _, 0, Tryz.underlying35, rfl, rfl, by kernel_rfl⟩
theorem at_Box_1 (y : Box) (ad : Addr) (k : K) (h : At y ad k) : At y.Z0 (ad.add 4) k :=
  have h0 : At (y.Base, y.Z0, y.Z1) ad k := h
  At.fst (At.snd' (At.zero h0))
theorem fo35_2 : FieldOk Tryz.prog 35 2 5 := ⟨_, _, 0, Tryz.underlying35, rfl, rfl, by kernel_rfl⟩
theorem at_Box_2 (y : Box) (ad : Addr) (k : K) (h : At y ad k) : At y.Z1 (ad.add 5) k :=
  have h0 : At (y.Base, y.Z0, y.Z1) ad k := h
  At.snd' (At.snd' (At.zero h0))
theorem bld40_0_1 {k : K} {v0 v1 : Value} {x0 : Int} {x1 : Int} (h0 : IsV x0 v0 k) (h1 : IsV x1 v1 k) : ∃ v, (∀ w, (Instr.build 40 #[(0, v0), (1, v1)]).run Tryz.prog w = .ok v w) ∧ IsV (⟨x0, x1, []⟩ : Slab) v k := by
  obtain ⟨l0, e0, r0, n0⟩ := isV_cellsL h0
  obtain ⟨u0_0, rfl⟩ := len1 n0
  obtain ⟨l1, e1, r1, n1⟩ := isV_cellsL h1
  obtain ⟨u1_0, rfl⟩ := len1 n1
  refine ⟨.agg #[u0_0, u1_0, .slice none 0 0], fun w => ?_, [u0_0, u1_0, .slice none 0 0], rfl, ⟨rfl, r0, ⟨rfl, r1, ⟨_, rfl, .inl ⟨rfl, rfl⟩⟩⟩⟩⟩
  simp [Instr.build, Instr.fill, cells_agg, e0, e1]
theorem eo22 : ElemOk Tryz.prog 22 (List Slab) := ⟨_, _, rfl, rfl, rfl, rfl, by decide, by decide⟩
theorem bld40_0_1_2 {k : K} {v0 v1 v2 : Value} {x0 : Int} {x1 : Int} {x2 : (List Rect)} (h0 : IsV x0 v0 k) (h1 : IsV x1 v1 k) (h2 : IsV x2 v2 k) : ∃ v, (∀ w, (Instr.build 40 #[(0, v0), (1, v1), (2, v2)]).run Tryz.prog w = .ok v w) ∧ IsV (⟨x0, x1, x2⟩ : Slab) v k := by
  obtain ⟨l0, e0, r0, n0⟩ := isV_cellsL h0
  obtain ⟨u0_0, rfl⟩ := len1 n0
  obtain ⟨l1, e1, r1, n1⟩ := isV_cellsL h1
  obtain ⟨u1_0, rfl⟩ := len1 n1
  obtain ⟨l2, e2, r2, n2⟩ := isV_cellsL h2
  obtain ⟨u2_0, rfl⟩ := len1 n2
  refine ⟨.agg #[u0_0, u1_0, u2_0], fun w => ?_, [u0_0, u1_0, u2_0], rfl, ⟨rfl, r0, ⟨rfl, r1, r2⟩⟩⟩
  simp [Instr.build, Instr.fill, cells_agg, e0, e1, e2]
theorem eo90 : ElemOk Tryz.prog 90 (List RegionSpan) := ⟨_, _, rfl, rfl, rfl, rfl, by decide, by decide⟩
theorem z94 : Zero Tryz.prog 94 ((⟨0, 0, []⟩ : RegionStrip) : RegionStrip) := ⟨_, Tryz.zeroValue94, fun _ => ⟨_, rfl, ⟨rfl, rfl, ⟨rfl, rfl, ⟨_, rfl, .inl ⟨rfl, rfl⟩⟩⟩⟩⟩⟩
theorem szf94 : (Tryz.prog.info? 94).map (·.size) = some (Enc.sz RegionStrip) := by kernel_rfl
theorem upd_F94_2 : Upd (α := RegionStrip) (β := (List RegionSpan)) (0 + 2) (fun x y => { x with column := y }) := fun k cs cy x y hx hy => (Upd.snd (Upd.snd Upd.self)) k cs cy (x.x0, x.x1, x.column) y hx hy
theorem szf90 : (Tryz.prog.info? 90).map (·.size) = some (Enc.sz (List RegionSpan)) := by kernel_rfl
theorem eq35 : EqOk Tryz.prog 35 Box := by
  refine ⟨by kernel_rfl, fun k x y u v hx hy => ?_⟩
  obtain ⟨csx, ex, rx⟩ := hx
  have fx : csx = [.int .i64 x.Base.X0, .int .i64 x.Base.Y0, .int .i64 x.Base.X1, .int .i64 x.Base.Y1, .int .i64 x.Z0, .int .i64 x.Z1] := by
    have hl := Enc.len rx
    obtain ⟨u0, u1, u2, u3, u4, u5, rfl⟩ := len6 hl
    obtain ⟨_, ⟨_, qx0, ⟨_, qx1, ⟨_, qx2, qx3⟩⟩⟩, ⟨_, qx4, qx5⟩⟩ := rx
    have qx0 : u0 = .int .i64 x.Base.X0 := hd1 (show [u0] = [.int .i64 x.Base.X0] from qx0)
    have qx1 : u1 = .int .i64 x.Base.Y0 := hd1 (show [u1] = [.int .i64 x.Base.Y0] from qx1)
    have qx2 : u2 = .int .i64 x.Base.X1 := hd1 (show [u2] = [.int .i64 x.Base.X1] from qx2)
    have qx3 : u3 = .int .i64 x.Base.Y1 := hd1 (show [u3] = [.int .i64 x.Base.Y1] from qx3)
    have qx4 : u4 = .int .i64 x.Z0 := hd1 (show [u4] = [.int .i64 x.Z0] from qx4)
    have qx5 : u5 = .int .i64 x.Z1 := hd1 (show [u5] = [.int .i64 x.Z1] from qx5)
    rw [qx0, qx1, qx2, qx3, qx4, qx5]
  obtain ⟨csy, ey, ry⟩ := hy
  have fy : csy = [.int .i64 y.Base.X0, .int .i64 y.Base.Y0, .int .i64 y.Base.X1, .int .i64 y.Base.Y1, .int .i64 y.Z0, .int .i64 y.Z1] := by
    have hl := Enc.len ry
    obtain ⟨u0, u1, u2, u3, u4, u5, rfl⟩ := len6 hl
    obtain ⟨_, ⟨_, qy0, ⟨_, qy1, ⟨_, qy2, qy3⟩⟩⟩, ⟨_, qy4, qy5⟩⟩ := ry
    have qy0 : u0 = .int .i64 y.Base.X0 := hd1 (show [u0] = [.int .i64 y.Base.X0] from qy0)
    have qy1 : u1 = .int .i64 y.Base.Y0 := hd1 (show [u1] = [.int .i64 y.Base.Y0] from qy1)
    have qy2 : u2 = .int .i64 y.Base.X1 := hd1 (show [u2] = [.int .i64 y.Base.X1] from qy2)
    have qy3 : u3 = .int .i64 y.Base.Y1 := hd1 (show [u3] = [.int .i64 y.Base.Y1] from qy3)
    have qy4 : u4 = .int .i64 y.Z0 := hd1 (show [u4] = [.int .i64 y.Z0] from qy4)
    have qy5 : u5 = .int .i64 y.Z1 := hd1 (show [u5] = [.int .i64 y.Z1] from qy5)
    rw [qy0, qy1, qy2, qy3, qy4, qy5]
  subst fx; subst fy; subst ex; subst ey
  refine ⟨⟨_, rfl⟩, ⟨_, rfl⟩, fun w => ?_⟩
  show (Op.equalIn (9997 + 1 + 1 + 1) 35 (.agg #[.int .i64 x.Base.X0, .int .i64 x.Base.Y0, .int .i64 x.Base.X1, .int .i64 x.Base.Y1, .int .i64 x.Z0, .int .i64 x.Z1]) (.agg #[.int .i64 y.Base.X0, .int .i64 y.Base.Y0, .int .i64 y.Base.X1, .int .i64 y.Base.Y1, .int .i64 y.Z0, .int .i64 y.Z1])).run Tryz.prog w = _
  rw [run_equalIn_struct w _ 35 _ _ (by kernel_rfl) Tryz.stoodInHeld35]
  generalize 9997 = d
  simp [Program.fieldsOf, Op.eqFields, part, aggOf, ← beq_toListBytes, run_isAgg Tryz.underlying3, run_equalIn_int w d 3 .i64 .i64 _ _ Tryz.underlying3, run_isAgg Tryz.underlying33, run_equalIn_struct w _ 33 _ _ (by kernel_rfl) Tryz.stoodInHeld33, run_equalIn_int w (d + 1) 3 .i64 .i64 _ _ Tryz.underlying3]
  obtain ⟨⟨a0, a1, a2, a3⟩, a4, a5⟩ := x
  obtain ⟨⟨b0, b1, b2, b3⟩, b4, b5⟩ := y
  simp only [Box.mk.injEq, Rect.mk.injEq]
  by_cases h0 : a0 = b0 <;> by_cases h1 : a1 = b1 <;> by_cases h2 : a2 = b2 <;> by_cases h3 : a3 = b3 <;> by_cases h4 : a4 = b4 <;> by_cases h5 : a5 = b5 <;> simp [h0, h1, h2, h3, h4, h5]
theorem rd3 : Rd Tryz.prog 3 Int := rd_int Tryz.underlying3
instance : Rg Rect := Rg.ofMap fun x => (x.X0, x.Y0, x.X1, x.Y1)
theorem rd33 : Rd Tryz.prog 33 Rect := rd_struct (f := fun x => (x.X0, x.Y0, x.X1, x.Y1)) (fun y => ⟨y.1, y.2.1, y.2.2.1, y.2.2.2⟩) Tryz.underlying33 (by kernel_rfl) rfl (fun _ _ _ h => h) (fun _ h => h) (RdF.cons rfl (by kernel_rfl) rd3 (RdF.cons rfl (by kernel_rfl) rd3 (RdF.cons rfl (by kernel_rfl) rd3 (RdF.one rfl (by kernel_rfl) rd3)))) (fun _ => rfl)
instance : Rg Box := Rg.ofMap fun x => (x.Base, x.Z0, x.Z1)
theorem rd35 : Rd Tryz.prog 35 Box := rd_struct (f := fun x => (x.Base, x.Z0, x.Z1)) (fun y => ⟨y.1, y.2.1, y.2.2⟩) Tryz.underlying35 (by kernel_rfl) rfl (fun _ _ _ h => h) (fun _ h => h) (RdF.cons rfl (by kernel_rfl) rd33 (RdF.cons rfl (by kernel_rfl) rd3 (RdF.one rfl (by kernel_rfl) rd3))) (fun _ => rfl)
theorem rd26 : Rd Tryz.prog 26 (List Box) := rd_slice Tryz.underlying26 (by kernel_rfl) (by decide) rd35
noncomputable def tb : Tb where
  S := fun n => match n with
    | 0 => Rect
    | 1 => RegionSpan
    | 2 => RegionStrip
    | 3 => Slab
    | 4 => Box
    | _ + 5 => Unit
  fs := fun n => match n with
    | 0 => [.int, .int, .int, .int]
    | 1 => [.int, .int]
    | 2 => [.int, .int, .list (.st 1)]
    | 3 => [.int, .int, .list (.st 0)]
    | 4 => [.st 0, .int, .int]
    | _ + 5 => []
  to := fun n => match n with
    | 0 => fun x => (x.X0, x.Y0, x.X1, x.Y1)
    | 1 => fun x => (x.from_, x.to_)
    | 2 => fun x => (x.x0, x.x1, x.column)
    | 3 => fun x => (x.Z0, x.Z1, x.Area)
    | 4 => fun x => (x.Base, x.Z0, x.Z1)
    | _ + 5 => fun _ => ()
  of := fun n => match n with
    | 0 => fun x => ⟨x.1, x.2.1, x.2.2.1, x.2.2.2⟩
    | 1 => fun x => ⟨x.1, x.2⟩
    | 2 => fun x => ⟨x.1, x.2.1, x.2.2⟩
    | 3 => fun x => ⟨x.1, x.2.1, x.2.2⟩
    | 4 => fun x => ⟨x.1, x.2.1, x.2.2⟩
    | _ + 5 => fun _ => ()
  zero := fun n => match n with
    | 0 => (default : Rect)
    | 1 => (default : RegionSpan)
    | 2 => (default : RegionStrip)
    | 3 => (default : Slab)
    | 4 => (default : Box)
    | _ + 5 => ()
  deq := fun n => match n with
    | 0 => (inferInstance : DecidableEq Rect)
    | 1 => (inferInstance : DecidableEq RegionSpan)
    | 2 => (inferInstance : DecidableEq RegionStrip)
    | 3 => (inferInstance : DecidableEq Slab)
    | 4 => (inferInstance : DecidableEq Box)
    | _ + 5 => (inferInstance : DecidableEq Unit)
  enc := fun n => match n with
    | 0 => (inferInstance : Enc Rect)
    | 1 => (inferInstance : Enc RegionSpan)
    | 2 => (inferInstance : Enc RegionStrip)
    | 3 => (inferInstance : Enc Slab)
    | 4 => (inferInstance : Enc Box)
    | _ + 5 => Enc.ofMap (σ := Unit) (β := Unit) fun x => x
  to_of := fun n => match n with
    | 0 => fun _ => rfl
    | 1 => fun _ => rfl
    | 2 => fun _ => rfl
    | 3 => fun _ => rfl
    | 4 => fun _ => rfl
    | _ + 5 => fun _ => rfl
  zero_eq := fun n => match n with
    | 0 => rfl
    | 1 => rfl
    | 2 => rfl
    | 3 => rfl
    | 4 => rfl
    | _ + 5 => rfl
  enc_eq := fun n => match n with
    | 0 => rfl
    | 1 => rfl
    | 2 => rfl
    | 3 => rfl
    | 4 => rfl
    | _ + 5 => rfl
def tid : TypeId → Option Tp := tidL [(3, .int), (33, .st 0), (35, .st 4), (37, .list (.st 0)), (40, .st 3), (92, .st 1)]
def eqs : List (TypeId × Nat) := [(92, 1), (33, 0), (35, 4)]
theorem eqsOk : EqsOk Tryz.prog tb eqs := ⟨eq92, eq33, eq35, trivial⟩
noncomputable def mk (f : FuncId) (dom cod : List Tp) (run : HL tb.S dom → Option (HL tb.S cod)) (ks : List (Fk tb Tryz.prog)) (own : List Nat) (fn : Func) (h : Hn tb) (hf : Tryz.prog.funcs[f]? = some fn)
  (hc : ∀ args w, (callFunc f args).run Tryz.prog w = .ok (.enter f args) w) (hb : fn.body = some (body fn)) (hl : Nat.ble dom.length fn.ntmps = true)
  (he : ∀ x, evF ⟨Tryz.prog, tid, eqs, depsOf ks, own, fn.results.toList, fn.ntmps⟩ (body fn) h dom cod x = run x) : Fk tb Tryz.prog := ⟨f, ⟨dom, cod, run⟩, fnOk ks own fn h eqsOk hmix hf hc hb hl he⟩
noncomputable def mkO (f : FuncId) (dom cod : List Tp) (run : HL tb.S dom → Option (HL tb.S cod)) (hc : ∀ args w, (callFunc f args).run Tryz.prog w = .ok (.enter f args) w)
  (ok : ∀ (k0 : K) (vs : List Value) (x : HL tb.S dom) (r : HL tb.S cod), HIs dom x vs k0 → run x = some r → Calls Tryz.prog f vs.toArray k0.w (Ret k0 fun u k => (resV cod r).is ⟨#[], []⟩ u k)) : Fk tb Tryz.prog := ⟨f, ⟨dom, cod, run⟩, hc, ok⟩
end Go.Proofs.YtmniloampanhfaaGreat
