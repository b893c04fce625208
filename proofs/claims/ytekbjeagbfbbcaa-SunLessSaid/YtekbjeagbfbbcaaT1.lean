/- What the functions compute that the law reaches, part 1 -/
import Derived.Test.YtekbjeagbfbbcaaProg
import Derived.Test.YtekbjeagbfbbcaaL5
import Derived.Shelf.Sort.Plain
import Derived.Shelf.Slices.In.SortNone
import Derived.Shelf.Slices.CompactI
import Derived.Shelf.Spec.SlicesGrow
import Derived.Shelf.SlSortCmp.NoneTotal
namespace Go.Proofs.Ytekbjeagbfbbcaa
open Go.Gb
set_option linter.unusedVariables false
set_option linter.unusedSimpArgs false
set_option maxRecDepth 100000
structure Point3 where
  X : Int
  Y : Int
  Z : Int
  deriving DecidableEq, Inhabited
instance : Enc Point3 := Enc.ofMap fun x => (x.X, x.Y, x.Z)
structure Rect where
  X0 : Int
  Y0 : Int
  X1 : Int
  Y1 : Int
  deriving DecidableEq, Inhabited
instance : Enc Rect := Enc.ofMap fun x => (x.X0, x.Y0, x.X1, x.Y1)
structure RegionSpan where
  from_ : Int
  to_ : Int
  deriving DecidableEq, Inhabited
instance : Enc RegionSpan := Enc.ofMap fun x => (x.from_, x.to_)
structure RegionStrip where
  x0 : Int
  x1 : Int
  column : (List RegionSpan)
  deriving DecidableEq, Inhabited
instance : Enc RegionStrip := Enc.ofMap fun x => (x.x0, x.x1, x.column)
structure Slab where
  Z0 : Int
  Z1 : Int
  Area : (List Rect)
  deriving DecidableEq, Inhabited
instance : Enc Slab := Enc.ofMap fun x => (x.Z0, x.Z1, x.Area)
structure Box where
  Base : Rect
  Z0 : Int
  Z1 : Int
  deriving DecidableEq, Inhabited
instance : Enc Box := Enc.ofMap fun x => (x.Base, x.Z0, x.Z1)
structure SightBound where
  n : Int
  d : Int
  open_ : Bool
  deriving DecidableEq, Inhabited
instance : Enc SightBound := Enc.ofMap fun x => (x.n, x.d, x.open_)
structure SightInterval where
  lo : SightBound
  hi : SightBound
  top : Bool
  none_ : Bool
  deriving DecidableEq, Inhabited
instance : Enc SightInterval := Enc.ofMap fun x => (x.lo, x.hi, x.top, x.none_)
theorem hmix : Try.prog.follows .mixedOrders = true := by kernel_rfl
theorem z25 : Zero Try.prog 25 ((⟨0, 0, 0⟩ : Point3) : Point3) := ⟨_, Try.zeroValue25, fun _ => ⟨_, rfl, ⟨rfl, rfl, ⟨rfl, rfl, rfl⟩⟩⟩⟩
theorem fo25_0 : FieldOk Try.prog 25 0 0 := ⟨_, _, 0, Try.underlying25, rfl, rfl, by kernel_rfl⟩
theorem at_Point3_0 (y : Point3) (ad : Addr) (k : K) (h : At y ad k) : At y.X (ad.add 0) k :=
  have h0 : At (y.X, y.Y, y.Z) ad k := h
  At.fst (At.zero h0)
theorem ty3 : Ty Try.prog 3 Int := ⟨⟨_, Try.underlying3, rfl⟩, by kernel_rfl⟩
theorem fo25_1 : FieldOk Try.prog 25 1 1 := ⟨_, _, 0, Try.underlying25, rfl, rfl, by kernel_rfl⟩
theorem at_Point3_1 (y : Point3) (ad : Addr) (k : K) (h : At y ad k) : At y.Y (ad.add 1) k :=
  have h0 : At (y.X, y.Y, y.Z) ad k := h
  At.fst (At.snd' (At.zero h0))
theorem fo25_2 : FieldOk Try.prog 25 2 2 := ⟨_, _, 0, Try.underlying25, rfl, rfl, by kernel_rfl⟩
theorem at_Point3_2 (y : Point3) (ad : Addr) (k : K) (h : At y ad k) : At y.Z (ad.add 2) k :=
  have h0 : At (y.X, y.Y, y.Z) ad k := h
  At.snd' (At.snd' (At.zero h0))
theorem fo41_0 : FieldOk Try.prog 41 0 0 := ⟨_, _, 0, Try.underlying41, rfl, rfl, by kernel_rfl⟩
theorem at_Rect_0 (y : Rect) (ad : Addr) (k : K) (h : At y ad k) : At y.X0 (ad.add 0) k :=
  have h0 : At (y.X0, y.Y0, y.X1, y.Y1) ad k := h
  At.fst (At.zero h0)
theorem fo41_2 : FieldOk Try.prog 41 2 2 := ⟨_, _, 0, Try.underlying41, rfl, rfl, by kernel_rfl⟩
theorem at_Rect_2 (y : Rect) (ad : Addr) (k : K) (h : At y ad k) : At y.X1 (ad.add 2) k :=
  have h0 : At (y.X0, y.Y0, y.X1, y.Y1) ad k := h
  At.fst (At.snd' (At.snd' (At.zero h0)))
theorem fo41_1 : FieldOk Try.prog 41 1 1 := ⟨_, _, 0, Try.underlying41, rfl, rfl, by kernel_rfl⟩
theorem at_Rect_1 (y : Rect) (ad : Addr) (k : K) (h : At y ad k) : At y.Y0 (ad.add 1) k :=
  have h0 : At (y.X0, y.Y0, y.X1, y.Y1) ad k := h
  At.fst (At.snd' (At.zero h0))
theorem fo41_3 : FieldOk Try.prog 41 3 3 := ⟨_, _, 0, Try.underlying41, rfl, rfl, by kernel_rfl⟩
theorem at_Rect_3 (y : Rect) (ad : Addr) (k : K) (h : At y ad k) : At y.Y1 (ad.add 3) k :=
  have h0 : At (y.X0, y.Y0, y.X1, y.Y1) ad k := h
  At.snd' (At.snd' (At.snd' (At.zero h0)))
theorem eo41 : ElemOk Try.prog 41 Rect := ⟨_, _, rfl, rfl, rfl, rfl, by decide, by decide⟩
theorem szf41 : (Try.prog.info? 41).map (·.size) = some (Enc.sz Rect) := by kernel_rfl
theorem ty48 : Ty Try.prog 48 (List Rect) := ⟨⟨_, Try.underlying48, rfl⟩, by kernel_rfl⟩
theorem szf3 : (Try.prog.info? 3).map (·.size) = some (Enc.sz Int) := by kernel_rfl
theorem fo88_0 : FieldOk Try.prog 88 0 0 := ⟨_, _, 0, Try.underlying88, rfl, rfl, by kernel_rfl⟩
theorem at_RegionSpan_0 (y : RegionSpan) (ad : Addr) (k : K) (h : At y ad k) : At y.from_ (ad.add 0) k :=
  have h0 : At (y.from_, y.to_) ad k := h
  At.fst (At.zero h0)
theorem ty88 : Ty Try.prog 88 RegionSpan := ⟨⟨_, Try.underlying88, rfl⟩, by kernel_rfl⟩
theorem szf88 : (Try.prog.info? 88).map (·.size) = some (Enc.sz RegionSpan) := by kernel_rfl
theorem ty41 : Ty Try.prog 41 Rect := ⟨⟨_, Try.underlying41, rfl⟩, by kernel_rfl⟩
theorem z41 : Zero Try.prog 41 ((⟨0, 0, 0, 0⟩ : Rect) : Rect) := ⟨_, Try.zeroValue41, fun _ => ⟨_, rfl, ⟨rfl, rfl, ⟨rfl, rfl, ⟨rfl, rfl, rfl⟩⟩⟩⟩⟩
theorem bld88_0_1 {k : K} {v0 v1 : Value} {x0 : Int} {x1 : Int} (h0 : IsV x0 v0 k) (h1 : IsV x1 v1 k) : ∃ v, (∀ w, (Instr.build 88 #[(0, v0), (1, v1)]).run Try.prog w = .ok v w) ∧ IsV (⟨x0, x1⟩ : RegionSpan) v k := by
  obtain ⟨l0, e0, r0, n0⟩ := isV_cellsL h0
  obtain ⟨u0_0, rfl⟩ := len1 n0
  obtain ⟨l1, e1, r1, n1⟩ := isV_cellsL h1
  obtain ⟨u1_0, rfl⟩ := len1 n1
  refine ⟨.agg #[u0_0, u1_0], fun w => ?_, [u0_0, u1_0], rfl, ⟨rfl, r0, r1⟩⟩
  simp [Instr.build, Instr.fill, cells_agg, e0, e1]
theorem eo88 : ElemOk Try.prog 88 RegionSpan := ⟨_, _, rfl, rfl, rfl, rfl, by decide, by decide⟩
theorem z88 : Zero Try.prog 88 ((⟨0, 0⟩ : RegionSpan) : RegionSpan) := ⟨_, Try.zeroValue88, fun _ => ⟨_, rfl, ⟨rfl, rfl, rfl⟩⟩⟩
theorem fo88_1 : FieldOk Try.prog 88 1 1 := ⟨_, _, 0, Try.underlying88, rfl, rfl, by kernel_rfl⟩
theorem at_RegionSpan_1 (y : RegionSpan) (ad : Addr) (k : K) (h : At y ad k) : At y.to_ (ad.add 1) k :=
  have h0 : At (y.from_, y.to_) ad k := h
  At.snd' (At.zero h0)
theorem upd_F88_1 : Upd (α := RegionSpan) (β := Int) (0 + 1) (fun x y => { x with to_ := y }) := fun k cs cy x y hx hy => (Upd.snd Upd.self) k cs cy (x.from_, x.to_) y hx hy
theorem eo3 : ElemOk Try.prog 3 Int := ⟨_, _, rfl, rfl, rfl, rfl, by decide, by decide⟩
theorem bld90_0_1_2 {k : K} {v0 v1 v2 : Value} {x0 : Int} {x1 : Int} {x2 : (List RegionSpan)} (h0 : IsV x0 v0 k) (h1 : IsV x1 v1 k) (h2 : IsV x2 v2 k) : ∃ v, (∀ w, (Instr.build 90 #[(0, v0), (1, v1), (2, v2)]).run Try.prog w = .ok v w) ∧ IsV (⟨x0, x1, x2⟩ : RegionStrip) v k := by
  obtain ⟨l0, e0, r0, n0⟩ := isV_cellsL h0
  obtain ⟨u0_0, rfl⟩ := len1 n0
  obtain ⟨l1, e1, r1, n1⟩ := isV_cellsL h1
  obtain ⟨u1_0, rfl⟩ := len1 n1
  obtain ⟨l2, e2, r2, n2⟩ := isV_cellsL h2
  obtain ⟨u2_0, rfl⟩ := len1 n2
  refine ⟨.agg #[u0_0, u1_0, u2_0], fun w => ?_, [u0_0, u1_0, u2_0], rfl, ⟨rfl, r0, ⟨rfl, r1, r2⟩⟩⟩
  simp [Instr.build, Instr.fill, cells_agg, e0, e1, e2]
theorem eo90 : ElemOk Try.prog 90 RegionStrip := ⟨_, _, rfl, rfl, rfl, rfl, by decide, by decide⟩
theorem eq88 : EqOk Try.prog 88 RegionSpan := by
  refine ⟨by kernel_rfl, fun k x y u v hx hy => ?_⟩
  obtain ⟨csx, ex, rx⟩ := hx
  have fx : csx = [.int .i64 x.from_, .int .i64 x.to_] := by
    have hl := Enc.len rx
    obtain ⟨u0, u1, rfl⟩ := len2 hl
    obtain ⟨_, qx0, qx1⟩ := rx
    have qx0 : u0 = .int .i64 x.from_ := hd1 (show [u0] = [.int .i64 x.from_] from qx0)
    have qx1 : u1 = .int .i64 x.to_ := hd1 (show [u1] = [.int .i64 x.to_] from qx1)
    rw [qx0, qx1]
  obtain ⟨csy, ey, ry⟩ := hy
  have fy : csy = [.int .i64 y.from_, .int .i64 y.to_] := by
    have hl := Enc.len ry
    obtain ⟨u0, u1, rfl⟩ := len2 hl
    obtain ⟨_, qy0, qy1⟩ := ry
    have qy0 : u0 = .int .i64 y.from_ := hd1 (show [u0] = [.int .i64 y.from_] from qy0)
    have qy1 : u1 = .int .i64 y.to_ := hd1 (show [u1] = [.int .i64 y.to_] from qy1)
    rw [qy0, qy1]
  subst fx; subst fy; subst ex; subst ey
  refine ⟨⟨_, rfl⟩, ⟨_, rfl⟩, fun w => ?_⟩
  show (Op.equalIn (9998 + 1 + 1) 88 (.agg #[.int .i64 x.from_, .int .i64 x.to_]) (.agg #[.int .i64 y.from_, .int .i64 y.to_])).run Try.prog w = _
  rw [run_equalIn_struct w _ 88 _ _ (by kernel_rfl) Try.stoodInHeld88]
  generalize 9998 = d
  simp [Program.fieldsOf, Op.eqFields, part, aggOf, ← beq_toListBytes, run_isAgg Try.underlying3, run_equalIn_int w d 3 .i64 .i64 _ _ Try.underlying3]
  obtain ⟨a0, a1⟩ := x
  obtain ⟨b0, b1⟩ := y
  simp only [RegionSpan.mk.injEq]
  by_cases h0 : a0 = b0 <;> by_cases h1 : a1 = b1 <;> simp [h0, h1]
theorem eq41 : EqOk Try.prog 41 Rect := by
  refine ⟨by kernel_rfl, fun k x y u v hx hy => ?_⟩
  obtain ⟨csx, ex, rx⟩ := hx
  have fx : csx = [.int .i64 x.X0, .int .i64 x.Y0, .int .i64 x.X1, .int .i64 x.Y1] := by
    have hl := Enc.len rx
    obtain ⟨u0, u1, u2, u3, rfl⟩ := len4 hl
    obtain ⟨_, qx0, ⟨_, qx1, ⟨_, qx2, qx3⟩⟩⟩ := rx
    have qx0 : u0 = .int .i64 x.X0 := hd1 (show [u0] = [.int .i64 x.X0] from qx0)
    have qx1 : u1 = .int .i64 x.Y0 := hd1 (show [u1] = [.int .i64 x.Y0] from qx1)
    have qx2 : u2 = .int .i64 x.X1 := hd1 (show [u2] = [.int .i64 x.X1] from qx2)
    have qx3 : u3 = .int .i64 x.Y1 := hd1 (show [u3] = [.int .i64 x.Y1] from qx3)
    rw [qx0, qx1, qx2, qx3]
  obtain ⟨csy, ey, ry⟩ := hy
  have fy : csy = [.int .i64 y.X0, .int .i64 y.Y0, .int .i64 y.X1, .int .i64 y.Y1] := by
    have hl := Enc.len ry
    obtain ⟨u0, u1, u2, u3, rfl⟩ := len4 hl
    obtain ⟨_, qy0, ⟨_, qy1, ⟨_, qy2, qy3⟩⟩⟩ := ry
    have qy0 : u0 = .int .i64 y.X0 := hd1 (show [u0] = [.int .i64 y.X0] from qy0)
    have qy1 : u1 = .int .i64 y.Y0 := hd1 (show [u1] = [.int .i64 y.Y0] from qy1)
    have qy2 : u2 = .int .i64 y.X1 := hd1 (show [u2] = [.int .i64 y.X1] from qy2)
    have qy3 : u3 = .int .i64 y.Y1 := hd1 (show [u3] = [.int .i64 y.Y1] from qy3)
    rw [qy0, qy1, qy2, qy3]
  subst fx; subst fy; subst ex; subst ey
  refine ⟨⟨_, rfl⟩, ⟨_, rfl⟩, fun w => ?_⟩
  show (Op.equalIn (9998 + 1 + 1) 41 (.agg #[.int .i64 x.X0, .int .i64 x.Y0, .int .i64 x.X1, .int .i64 x.Y1]) (.agg #[.int .i64 y.X0, .int .i64 y.Y0, .int .i64 y.X1, .int .i64 y.Y1])).run Try.prog w = _
  rw [run_equalIn_struct w _ 41 _ _ (by kernel_rfl) Try.stoodInHeld41]
  generalize 9998 = d
  simp [Program.fieldsOf, Op.eqFields, part, aggOf, ← beq_toListBytes, run_isAgg Try.underlying3, run_equalIn_int w d 3 .i64 .i64 _ _ Try.underlying3]
  obtain ⟨a0, a1, a2, a3⟩ := x
  obtain ⟨b0, b1, b2, b3⟩ := y
  simp only [Rect.mk.injEq]
  by_cases h0 : a0 = b0 <;> by_cases h1 : a1 = b1 <;> by_cases h2 : a2 = b2 <;> by_cases h3 : a3 = b3 <;> simp [h0, h1, h2, h3]
theorem ty50 : Ty Try.prog 50 Slab := ⟨⟨_, Try.underlying50, rfl⟩, by kernel_rfl⟩
theorem z50 : Zero Try.prog 50 ((⟨0, 0, []⟩ : Slab) : Slab) := ⟨_, Try.zeroValue50, fun _ => ⟨_, rfl, ⟨rfl, rfl, ⟨rfl, rfl, ⟨_, rfl, .inl ⟨rfl, rfl⟩⟩⟩⟩⟩⟩
theorem szf50 : (Try.prog.info? 50).map (·.size) = some (Enc.sz Slab) := by kernel_rfl
theorem fo50_0 : FieldOk Try.prog 50 0 0 := ⟨_, _, 0, Try.underlying50, rfl, rfl, by kernel_rfl⟩
theorem at_Slab_0 (y : Slab) (ad : Addr) (k : K) (h : At y ad k) : At y.Z0 (ad.add 0) k :=
  have h0 : At (y.Z0, y.Z1, y.Area) ad k := h
  At.fst (At.zero h0)
theorem fo50_1 : FieldOk Try.prog 50 1 1 := ⟨_, _, 0, Try.underlying50, rfl, rfl, by kernel_rfl⟩
theorem at_Slab_1 (y : Slab) (ad : Addr) (k : K) (h : At y ad k) : At y.Z1 (ad.add 1) k :=
  have h0 : At (y.Z0, y.Z1, y.Area) ad k := h
  At.fst (At.snd' (At.zero h0))
theorem fo50_2 : FieldOk Try.prog 50 2 2 := ⟨_, _, 0, Try.underlying50, rfl, rfl, by kernel_rfl⟩
theorem at_Slab_2 (y : Slab) (ad : Addr) (k : K) (h : At y ad k) : At y.Area (ad.add 2) k :=
  have h0 : At (y.Z0, y.Z1, y.Area) ad k := h
  At.snd' (At.snd' (At.zero h0))
theorem ty23 : Ty Try.prog 23 (List Slab) := ⟨⟨_, Try.underlying23, rfl⟩, by kernel_rfl⟩
theorem ty67 : Ty Try.prog 67 SightBound := ⟨⟨_, Try.underlying67, rfl⟩, by kernel_rfl⟩
theorem fo69_0 : FieldOk Try.prog 69 0 0 := ⟨_, _, 2, Try.underlying69, rfl, rfl, by kernel_rfl⟩
theorem at_SightInterval_0 (y : SightInterval) (ad : Addr) (k : K) (h : At y ad k) : At y.lo (ad.add 0) k :=
  have h0 : At (y.lo, y.hi, y.top, y.none_) ad k := h
  At.fst (At.zero h0)
theorem upd_F69_0 : Upd (α := SightInterval) (β := SightBound) (0 + 0) (fun x y => { x with lo := y }) := fun k cs cy x y hx hy => (Upd.fst Upd.self) k cs cy (x.lo, x.hi, x.top, x.none_) y hx hy
theorem szf67 : (Try.prog.info? 67).map (·.size) = some (Enc.sz SightBound) := by kernel_rfl
theorem fo67_2 : FieldOk Try.prog 67 2 2 := ⟨_, _, 0, Try.underlying67, rfl, rfl, by kernel_rfl⟩
theorem at_SightBound_2 (y : SightBound) (ad : Addr) (k : K) (h : At y ad k) : At y.open_ (ad.add 2) k :=
  have h0 : At (y.n, y.d, y.open_) ad k := h
  At.snd' (At.snd' (At.zero h0))
theorem ty4 : Ty Try.prog 4 Bool := ⟨⟨_, Try.underlying4, rfl⟩, by kernel_rfl⟩
theorem upd_F67_2 : Upd (α := SightBound) (β := Bool) (0 + 2) (fun x y => { x with open_ := y }) := fun k cs cy x y hx hy => (Upd.snd (Upd.snd Upd.self)) k cs cy (x.n, x.d, x.open_) y hx hy
theorem upd_F69_0_F67_2 : Upd (α := SightInterval) (β := Bool) (0 + 0 + 2) (fun x y => { x with lo := { x.lo with open_ := y } }) := fun k cs cy x y hx hy => (Upd.fst upd_F67_2) k cs cy (x.lo, x.hi, x.top, x.none_) y hx hy
theorem szf4 : (Try.prog.info? 4).map (·.size) = some (Enc.sz Bool) := by kernel_rfl
theorem fo69_2 : FieldOk Try.prog 69 2 6 := ⟨_, _, 0, Try.underlying69, rfl, rfl, by kernel_rfl⟩
theorem at_SightInterval_2 (y : SightInterval) (ad : Addr) (k : K) (h : At y ad k) : At y.top (ad.add 6) k :=
  have h0 : At (y.lo, y.hi, y.top, y.none_) ad k := h
  At.fst (At.snd' (At.snd' (At.zero h0)))
theorem fo69_1 : FieldOk Try.prog 69 1 3 := ⟨_, _, 2, Try.underlying69, rfl, rfl, by kernel_rfl⟩
theorem at_SightInterval_1 (y : SightInterval) (ad : Addr) (k : K) (h : At y ad k) : At y.hi (ad.add 3) k :=
  have h0 : At (y.lo, y.hi, y.top, y.none_) ad k := h
  At.fst (At.snd' (At.zero h0))
theorem upd_F69_1 : Upd (α := SightInterval) (β := SightBound) (0 + 3) (fun x y => { x with hi := y }) := fun k cs cy x y hx hy => (Upd.snd (Upd.fst Upd.self)) k cs cy (x.lo, x.hi, x.top, x.none_) y hx hy
theorem upd_F69_2 : Upd (α := SightInterval) (β := Bool) (0 + 6) (fun x y => { x with top := y }) := fun k cs cy x y hx hy => (Upd.snd (Upd.snd (Upd.fst Upd.self))) k cs cy (x.lo, x.hi, x.top, x.none_) y hx hy
theorem upd_F69_1_F67_2 : Upd (α := SightInterval) (β := Bool) (0 + 3 + 2) (fun x y => { x with hi := { x.hi with open_ := y } }) := fun k cs cy x y hx hy => (Upd.snd (Upd.fst upd_F67_2)) k cs cy (x.lo, x.hi, x.top, x.none_) y hx hy
theorem bld67_0_1_2 {k : K} {v0 v1 v2 : Value} {x0 : Int} {x1 : Int} {x2 : Bool} (h0 : IsV x0 v0 k) (h1 : IsV x1 v1 k) (h2 : IsV x2 v2 k) : ∃ v, (∀ w, (Instr.build 67 #[(0, v0), (1, v1), (2, v2)]).run Try.prog w = .ok v w) ∧ IsV (⟨x0, x1, x2⟩ : SightBound) v k := by
  obtain ⟨l0, e0, r0, n0⟩ := isV_cellsL h0
  obtain ⟨u0_0, rfl⟩ := len1 n0
  obtain ⟨l1, e1, r1, n1⟩ := isV_cellsL h1
  obtain ⟨u1_0, rfl⟩ := len1 n1
  obtain ⟨l2, e2, r2, n2⟩ := isV_cellsL h2
  obtain ⟨u2_0, rfl⟩ := len1 n2
  refine ⟨.agg #[u0_0, u1_0, u2_0], fun w => ?_, [u0_0, u1_0, u2_0], rfl, ⟨rfl, r0, ⟨rfl, r1, r2⟩⟩⟩
  simp [Instr.build, Instr.fill, cells_agg, e0, e1, e2]
theorem fo69_3 : FieldOk Try.prog 69 3 7 := ⟨_, _, 0, Try.underlying69, rfl, rfl, by kernel_rfl⟩
theorem upd_F69_3 : Upd (α := SightInterval) (β := Bool) (0 + 7) (fun x y => { x with none_ := y }) := fun k cs cy x y hx hy => (Upd.snd (Upd.snd (Upd.snd Upd.self))) k cs cy (x.lo, x.hi, x.top, x.none_) y hx hy
theorem at_SightInterval_3 (y : SightInterval) (ad : Addr) (k : K) (h : At y ad k) : At y.none_ (ad.add 7) k :=
  have h0 : At (y.lo, y.hi, y.top, y.none_) ad k := h
  At.snd' (At.snd' (At.snd' (At.zero h0)))
theorem ty43 : Ty Try.prog 43 Box := ⟨⟨_, Try.underlying43, rfl⟩, by kernel_rfl⟩
theorem z43 : Zero Try.prog 43 ((⟨(⟨0, 0, 0, 0⟩ : Rect), 0, 0⟩ : Box) : Box) := ⟨_, Try.zeroValue43, fun _ => ⟨_, rfl, ⟨rfl, ⟨rfl, rfl, ⟨rfl, rfl, ⟨rfl, rfl, rfl⟩⟩⟩, ⟨rfl, rfl, rfl⟩⟩⟩⟩
theorem szf43 : (Try.prog.info? 43).map (·.size) = some (Enc.sz Box) := by kernel_rfl
theorem ty69 : Ty Try.prog 69 SightInterval := ⟨⟨_, Try.underlying69, rfl⟩, by kernel_rfl⟩
theorem z69 : Zero Try.prog 69 ((⟨(⟨0, 0, false⟩ : SightBound), (⟨0, 0, false⟩ : SightBound), false, false⟩ : SightInterval) : SightInterval) := ⟨_, Try.zeroValue69, fun _ => ⟨_, rfl, ⟨rfl, ⟨rfl, rfl, ⟨rfl, rfl, rfl⟩⟩, ⟨rfl, ⟨rfl, rfl, ⟨rfl, rfl, rfl⟩⟩, ⟨rfl, rfl, rfl⟩⟩⟩⟩⟩
theorem szf69 : (Try.prog.info? 69).map (·.size) = some (Enc.sz SightInterval) := by kernel_rfl
theorem fo43_0 : FieldOk Try.prog 43 0 0 := ⟨_, _, 3, Try.underlying43, rfl, rfl, by kernel_rfl⟩
theorem at_Box_0 (y : Box) (ad : Addr) (k : K) (h : At y ad k) : At y.Base (ad.add 0) k :=
  have h0 : At (y.Base, y.Z0, y.Z1) ad k := h
  At.fst (At.zero h0)
theorem fo43_1 : FieldOk Try.prog 43 1 4 := ⟨_, _, 0, Try.underlying43, rfl, rfl, by kernel_rfl⟩
theorem at_Box_1 (y : Box) (ad : Addr) (k : K) (h : At y ad k) : At y.Z0 (ad.add 4) k :=
  have h0 : At (y.Base, y.Z0, y.Z1) ad k := h
  At.fst (At.snd' (At.zero h0))
theorem fo43_2 : FieldOk Try.prog 43 2 5 := ⟨_, _, 0, Try.underlying43, rfl, rfl, by kernel_rfl⟩
theorem at_Box_2 (y : Box) (ad : Addr) (k : K) (h : At y ad k) : At y.Z1 (ad.add 5) k :=
  have h0 : At (y.Base, y.Z0, y.Z1) ad k := h
  At.snd' (At.snd' (At.zero h0))
theorem eq25 : EqOk Try.prog 25 Point3 := by
  refine ⟨by kernel_rfl, fun k x y u v hx hy => ?_⟩
  obtain ⟨csx, ex, rx⟩ := hx
  have fx : csx = [.int .i64 x.X, .int .i64 x.Y, .int .i64 x.Z] := by
    have hl := Enc.len rx
    obtain ⟨u0, u1, u2, rfl⟩ := len3 hl
    obtain ⟨_, qx0, ⟨_, qx1, qx2⟩⟩ := rx
    have qx0 : u0 = .int .i64 x.X := hd1 (show [u0] = [.int .i64 x.X] from qx0)
    have qx1 : u1 = .int .i64 x.Y := hd1 (show [u1] = [.int .i64 x.Y] from qx1)
    have qx2 : u2 = .int .i64 x.Z := hd1 (show [u2] = [.int .i64 x.Z] from qx2)
    rw [qx0, qx1, qx2]
  obtain ⟨csy, ey, ry⟩ := hy
  have fy : csy = [.int .i64 y.X, .int .i64 y.Y, .int .i64 y.Z] := by
    have hl := Enc.len ry
    obtain ⟨u0, u1, u2, rfl⟩ := len3 hl
    obtain ⟨_, qy0, ⟨_, qy1, qy2⟩⟩ := ry
    have qy0 : u0 = .int .i64 y.X := hd1 (show [u0] = [.int .i64 y.X] from qy0)
    have qy1 : u1 = .int .i64 y.Y := hd1 (show [u1] = [.int .i64 y.Y] from qy1)
    have qy2 : u2 = .int .i64 y.Z := hd1 (show [u2] = [.int .i64 y.Z] from qy2)
    rw [qy0, qy1, qy2]
  subst fx; subst fy; subst ex; subst ey
  refine ⟨⟨_, rfl⟩, ⟨_, rfl⟩, fun w => ?_⟩
  show (Op.equalIn (9998 + 1 + 1) 25 (.agg #[.int .i64 x.X, .int .i64 x.Y, .int .i64 x.Z]) (.agg #[.int .i64 y.X, .int .i64 y.Y, .int .i64 y.Z])).run Try.prog w = _
  rw [run_equalIn_struct w _ 25 _ _ (by kernel_rfl) Try.stoodInHeld25]
  generalize 9998 = d
  simp [Program.fieldsOf, Op.eqFields, part, aggOf, ← beq_toListBytes, run_isAgg Try.underlying3, run_equalIn_int w d 3 .i64 .i64 _ _ Try.underlying3]
  obtain ⟨a0, a1, a2⟩ := x
  obtain ⟨b0, b1, b2⟩ := y
  simp only [Point3.mk.injEq]
  by_cases h0 : a0 = b0 <;> by_cases h1 : a1 = b1 <;> by_cases h2 : a2 = b2 <;> simp [h0, h1, h2]
theorem eo23 : ElemOk Try.prog 23 (List Slab) := ⟨_, _, rfl, rfl, rfl, rfl, by decide, by decide⟩
theorem bld50_0_1_2 {k : K} {v0 v1 v2 : Value} {x0 : Int} {x1 : Int} {x2 : (List Rect)} (h0 : IsV x0 v0 k) (h1 : IsV x1 v1 k) (h2 : IsV x2 v2 k) : ∃ v, (∀ w, (Instr.build 50 #[(0, v0), (1, v1), (2, v2)]).run Try.prog w = .ok v w) ∧ IsV (⟨x0, x1, x2⟩ : Slab) v k := by
  obtain ⟨l0, e0, r0, n0⟩ := isV_cellsL h0
  obtain ⟨u0_0, rfl⟩ := len1 n0
  obtain ⟨l1, e1, r1, n1⟩ := isV_cellsL h1
  obtain ⟨u1_0, rfl⟩ := len1 n1
  obtain ⟨l2, e2, r2, n2⟩ := isV_cellsL h2
  obtain ⟨u2_0, rfl⟩ := len1 n2
  refine ⟨.agg #[u0_0, u1_0, u2_0], fun w => ?_, [u0_0, u1_0, u2_0], rfl, ⟨rfl, r0, ⟨rfl, r1, r2⟩⟩⟩
  simp [Instr.build, Instr.fill, cells_agg, e0, e1, e2]
theorem eo50 : ElemOk Try.prog 50 Slab := ⟨_, _, rfl, rfl, rfl, rfl, by decide, by decide⟩
theorem upd_F50_1 : Upd (α := Slab) (β := Int) (0 + 1) (fun x y => { x with Z1 := y }) := fun k cs cy x y hx hy => (Upd.snd (Upd.fst Upd.self)) k cs cy (x.Z0, x.Z1, x.Area) y hx hy
theorem bld50_0_1 {k : K} {v0 v1 : Value} {x0 : Int} {x1 : Int} (h0 : IsV x0 v0 k) (h1 : IsV x1 v1 k) : ∃ v, (∀ w, (Instr.build 50 #[(0, v0), (1, v1)]).run Try.prog w = .ok v w) ∧ IsV (⟨x0, x1, []⟩ : Slab) v k := by
  obtain ⟨l0, e0, r0, n0⟩ := isV_cellsL h0
  obtain ⟨u0_0, rfl⟩ := len1 n0
  obtain ⟨l1, e1, r1, n1⟩ := isV_cellsL h1
  obtain ⟨u1_0, rfl⟩ := len1 n1
  refine ⟨.agg #[u0_0, u1_0, .slice none 0 0], fun w => ?_, [u0_0, u1_0, .slice none 0 0], rfl, ⟨rfl, r0, ⟨rfl, r1, ⟨_, rfl, .inl ⟨rfl, rfl⟩⟩⟩⟩⟩
  simp [Instr.build, Instr.fill, cells_agg, e0, e1]
theorem rd3 : Rd Try.prog 3 Int := rd_int Try.underlying3
instance : Rg Point3 := Rg.ofMap fun x => (x.X, x.Y, x.Z)
theorem rd25 : Rd Try.prog 25 Point3 := rd_struct (f := fun x => (x.X, x.Y, x.Z)) (fun y => ⟨y.1, y.2.1, y.2.2⟩) Try.underlying25 (by kernel_rfl) rfl (fun _ _ _ h => h) (fun _ h => h) (RdF.cons rfl (by kernel_rfl) rd3 (RdF.cons rfl (by kernel_rfl) rd3 (RdF.one rfl (by kernel_rfl) rd3))) (fun _ => rfl)
theorem rd22 : Rd Try.prog 22 (List Point3) := rd_slice Try.underlying22 (by kernel_rfl) (by decide) rd25
instance : Rg Rect := Rg.ofMap fun x => (x.X0, x.Y0, x.X1, x.Y1)
theorem rd41 : Rd Try.prog 41 Rect := rd_struct (f := fun x => (x.X0, x.Y0, x.X1, x.Y1)) (fun y => ⟨y.1, y.2.1, y.2.2.1, y.2.2.2⟩) Try.underlying41 (by kernel_rfl) rfl (fun _ _ _ h => h) (fun _ h => h) (RdF.cons rfl (by kernel_rfl) rd3 (RdF.cons rfl (by kernel_rfl) rd3 (RdF.cons rfl (by kernel_rfl) rd3 (RdF.one rfl (by kernel_rfl) rd3)))) (fun _ => rfl)
instance : Rg Box := Rg.ofMap fun x => (x.Base, x.Z0, x.Z1)
theorem rd43 : Rd Try.prog 43 Box := rd_struct (f := fun x => (x.Base, x.Z0, x.Z1)) (fun y => ⟨y.1, y.2.1, y.2.2⟩) Try.underlying43 (by kernel_rfl) rfl (fun _ _ _ h => h) (fun _ h => h) (RdF.cons rfl (by kernel_rfl) rd41 (RdF.cons rfl (by kernel_rfl) rd3 (RdF.one rfl (by kernel_rfl) rd3))) (fun _ => rfl)
theorem rd35 : Rd Try.prog 35 (List Box) := rd_slice Try.underlying35 (by kernel_rfl) (by decide) rd43
noncomputable def tb : Tb where
  S := fun n => match n with
    | 0 => Rect
    | 1 => RegionSpan
    | 2 => RegionStrip
    | 3 => Box
    | 4 => SightInterval
    | 5 => SightBound
    | 6 => Slab
    | 7 => Point3
    | _ + 8 => Unit
  fs := fun n => match n with
    | 0 => [.int, .int, .int, .int]
    | 1 => [.int, .int]
    | 2 => [.int, .int, .list (.st 1)]
    | 3 => [.st 0, .int, .int]
    | 4 => [.st 5, .st 5, .bool, .bool]
    | 5 => [.int, .int, .bool]
    | 6 => [.int, .int, .list (.st 0)]
    | 7 => [.int, .int, .int]
    | _ + 8 => []
  to := fun n => match n with
    | 0 => fun x => (x.X0, x.Y0, x.X1, x.Y1)
    | 1 => fun x => (x.from_, x.to_)
    | 2 => fun x => (x.x0, x.x1, x.column)
    | 3 => fun x => (x.Base, x.Z0, x.Z1)
    | 4 => fun x => (x.lo, x.hi, x.top, x.none_)
    | 5 => fun x => (x.n, x.d, x.open_)
    | 6 => fun x => (x.Z0, x.Z1, x.Area)
    | 7 => fun x => (x.X, x.Y, x.Z)
    | _ + 8 => fun _ => ()
  of := fun n => match n with
    | 0 => fun x => ⟨x.1, x.2.1, x.2.2.1, x.2.2.2⟩
    | 1 => fun x => ⟨x.1, x.2⟩
    | 2 => fun x => ⟨x.1, x.2.1, x.2.2⟩
    | 3 => fun x => ⟨x.1, x.2.1, x.2.2⟩
    | 4 => fun x => ⟨x.1, x.2.1, x.2.2.1, x.2.2.2⟩
    | 5 => fun x => ⟨x.1, x.2.1, x.2.2⟩
    | 6 => fun x => ⟨x.1, x.2.1, x.2.2⟩
    | 7 => fun x => ⟨x.1, x.2.1, x.2.2⟩
    | _ + 8 => fun _ => ()
  zero := fun n => match n with
    | 0 => (default : Rect)
    | 1 => (default : RegionSpan)
    | 2 => (default : RegionStrip)
    | 3 => (default : Box)
    | 4 => (default : SightInterval)
    | 5 => (default : SightBound)
    | 6 => (default : Slab)
    | 7 => (default : Point3)
    | _ + 8 => ()
  deq := fun n => match n with
    | 0 => (inferInstance : DecidableEq Rect)
    | 1 => (inferInstance : DecidableEq RegionSpan)
    | 2 => (inferInstance : DecidableEq RegionStrip)
    | 3 => (inferInstance : DecidableEq Box)
    | 4 => (inferInstance : DecidableEq SightInterval)
    | 5 => (inferInstance : DecidableEq SightBound)
    | 6 => (inferInstance : DecidableEq Slab)
    | 7 => (inferInstance : DecidableEq Point3)
    | _ + 8 => (inferInstance : DecidableEq Unit)
  enc := fun n => match n with
    | 0 => (inferInstance : Enc Rect)
    | 1 => (inferInstance : Enc RegionSpan)
    | 2 => (inferInstance : Enc RegionStrip)
    | 3 => (inferInstance : Enc Box)
    | 4 => (inferInstance : Enc SightInterval)
    | 5 => (inferInstance : Enc SightBound)
    | 6 => (inferInstance : Enc Slab)
    | 7 => (inferInstance : Enc Point3)
    | _ + 8 => Enc.ofMap (σ := Unit) (β := Unit) fun x => x
  to_of := fun n => match n with
    | 0 => fun _ => rfl
    | 1 => fun _ => rfl
    | 2 => fun _ => rfl
    | 3 => fun _ => rfl
    | 4 => fun _ => rfl
    | 5 => fun _ => rfl
    | 6 => fun _ => rfl
    | 7 => fun _ => rfl
    | _ + 8 => fun _ => rfl
  zero_eq := fun n => match n with
    | 0 => rfl
    | 1 => rfl
    | 2 => rfl
    | 3 => rfl
    | 4 => rfl
    | 5 => rfl
    | 6 => rfl
    | 7 => rfl
    | _ + 8 => rfl
  enc_eq := fun n => match n with
    | 0 => rfl
    | 1 => rfl
    | 2 => rfl
    | 3 => rfl
    | 4 => rfl
    | 5 => rfl
    | 6 => rfl
    | 7 => rfl
    | _ + 8 => rfl
def tid : TypeId → Option Tp := tidL [(23, .list (.st 6)), (25, .st 7), (41, .st 0), (43, .st 3), (48, .list (.st 0)), (50, .st 6), (67, .st 5), (69, .st 4), (88, .st 1)]
def eqs : List (TypeId × Nat) := [(88, 1), (41, 0), (25, 7)]
theorem eqsOk : EqsOk Try.prog tb eqs := ⟨eq88, eq41, eq25, trivial⟩
noncomputable def mk (f : FuncId) (dom cod : List Tp) (run : HL tb.S dom → Option (HL tb.S cod)) (ks : List (Fk tb Try.prog)) (own : List Nat) (fn : Func) (h : Hn tb) (hf : Try.prog.funcs[f]? = some fn)
  (hc : ∀ args w, (callFunc f args).run Try.prog w = .ok (.enter f args) w) (hb : fn.body = some (body fn)) (hl : Nat.ble dom.length fn.ntmps = true)
  (he : ∀ x, evF ⟨Try.prog, tid, eqs, depsOf ks, own, fn.results.toList, fn.ntmps⟩ (body fn) h dom cod x = run x) : Fk tb Try.prog := ⟨f, ⟨dom, cod, run⟩, fnOk ks own fn h eqsOk hmix hf hc hb hl he⟩
noncomputable def mkO (f : FuncId) (dom cod : List Tp) (run : HL tb.S dom → Option (HL tb.S cod)) (hc : ∀ args w, (callFunc f args).run Try.prog w = .ok (.enter f args) w)
  (ok : ∀ (k0 : K) (vs : List Value) (x : HL tb.S dom) (r : HL tb.S cod), HIs dom x vs k0 → run x = some r → Calls Try.prog f vs.toArray k0.w (Ret k0 fun u k => (resV cod r).is ⟨#[], []⟩ u k)) : Fk tb Try.prog := ⟨f, ⟨dom, cod, run⟩, hc, ok⟩
end Go.Proofs.Ytekbjeagbfbbcaa
