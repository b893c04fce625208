/- What the functions compute that the law reaches, part 1 -/
import Derived.Test.YtbanncpkgbiklaaProg
import Derived.Test.YtbanncpkgbiklaaL4
import Derived.Shelf.Spec.SlicesInsert
import Derived.Lib.AppendZerosOnto
namespace Go.Proofs.Ytbanncpkgbiklaa
open Go.Gb
set_option linter.unusedVariables false
set_option linter.unusedSimpArgs false
set_option maxRecDepth 100000
structure Account where
  Lot : Int
  Units : Int
  Receives : Bool
  deriving DecidableEq, Inhabited
instance : Enc Account := Enc.ofMap fun x => (x.Lot, x.Units, x.Receives)
structure Move where
  Kind : Int
  From : Int
  To : Int
  N : Int
  deriving DecidableEq, Inhabited
instance : Enc Move := Enc.ofMap fun x => (x.Kind, x.From, x.To, x.N)
theorem hmix : Try.prog.follows .mixedOrders = true := by kernel_rfl
theorem key3 : KeyOk Try.prog 3 (KeyV.kv (κ := Int)) := keyInt Try.underlying3
theorem ty3 : Ty Try.prog 3 Int := ⟨⟨_, Try.underlying3, rfl⟩, by kernel_rfl⟩
theorem ty37 : Ty Try.prog 37 (Int × Int) := ⟨⟨_, Try.underlying37, rfl⟩, by kernel_rfl⟩
theorem eo37 : ElemOk Try.prog 37 (Int × Int) := ⟨_, _, rfl, rfl, rfl, rfl, by decide, by decide⟩
theorem ao37 : ArrOk Try.prog 37 3 2 Int := ⟨Try.underlying37, by kernel_rfl⟩
theorem aat37_0 (y : (Int × Int)) (ad : Addr) (k : K) (h : At y ad k) : At y.1 (ad.add (0 * Enc.sz Int)) k := At.fst (At.zero h)
theorem aat37_1 (y : (Int × Int)) (ad : Addr) (k : K) (h : At y ad k) : At y.2 (ad.add (1 * Enc.sz Int)) k := At.snd' (At.zero h)
theorem upd_I37_1 : Upd (α := (Int × Int)) (β := Int) (0 + 1 * Enc.sz Int) (fun x y => (x.1, y)) := fun k cs cy x y hx hy => (Upd.snd Upd.self) k cs cy x y hx hy
theorem bld37_0_1 {k : K} {v0 v1 : Value} {x0 : Int} {x1 : Int} (h0 : IsV x0 v0 k) (h1 : IsV x1 v1 k) : ∃ v, (∀ w, (Instr.build 37 #[(0, v0), (1, v1)]).run Try.prog w = .ok v w) ∧ IsV ((x0, x1) : (Int × Int)) v k := by
  obtain ⟨l0, e0, r0, n0⟩ := isV_cellsL h0
  obtain ⟨u0_0, rfl⟩ := len1 n0
  obtain ⟨l1, e1, r1, n1⟩ := isV_cellsL h1
  obtain ⟨u1_0, rfl⟩ := len1 n1
  refine ⟨.agg #[u0_0, u1_0], fun w => ?_, [u0_0, u1_0], rfl, ⟨rfl, r0, r1⟩⟩
  simp [Instr.build, Instr.fill, cells_agg, e0, e1]
theorem szf3 : (Try.prog.info? 3).map (·.size) = some (Enc.sz Int) := by kernel_rfl
theorem szf37 : (Try.prog.info? 37).map (·.size) = some (Enc.sz (Int × Int)) := by kernel_rfl
theorem z37 : Zero Try.prog 37 (((0, 0) : (Int × Int)) : (Int × Int)) := ⟨_, Try.zeroValue37, fun _ => ⟨_, rfl, ⟨rfl, rfl, rfl⟩⟩⟩
theorem ty35 : Ty Try.prog 35 Account := ⟨⟨_, Try.underlying35, rfl⟩, by kernel_rfl⟩
theorem z35 : Zero Try.prog 35 ((⟨0, 0, false⟩ : Account) : Account) := ⟨_, Try.zeroValue35, fun _ => ⟨_, rfl, ⟨rfl, rfl, ⟨rfl, rfl, rfl⟩⟩⟩⟩
theorem szf35 : (Try.prog.info? 35).map (·.size) = some (Enc.sz Account) := by kernel_rfl
theorem fo35_0 : FieldOk Try.prog 35 0 0 := ⟨_, _, 0, Try.underlying35, rfl, rfl, by kernel_rfl⟩
theorem at_Account_0 (y : Account) (ad : Addr) (k : K) (h : At y ad k) : At y.Lot (ad.add 0) k :=
  have h0 : At (y.Lot, y.Units, y.Receives) ad k := h
  At.fst (At.zero h0)
theorem fo35_1 : FieldOk Try.prog 35 1 1 := ⟨_, _, 0, Try.underlying35, rfl, rfl, by kernel_rfl⟩
theorem at_Account_1 (y : Account) (ad : Addr) (k : K) (h : At y ad k) : At y.Units (ad.add 1) k :=
  have h0 : At (y.Lot, y.Units, y.Receives) ad k := h
  At.fst (At.snd' (At.zero h0))
theorem fo33_0 : FieldOk Try.prog 33 0 0 := ⟨_, _, 0, Try.underlying33, rfl, rfl, by kernel_rfl⟩
theorem at_Move_0 (y : Move) (ad : Addr) (k : K) (h : At y ad k) : At y.Kind (ad.add 0) k :=
  have h0 : At (y.Kind, y.From, y.To, y.N) ad k := h
  At.fst (At.zero h0)
theorem fo33_2 : FieldOk Try.prog 33 2 2 := ⟨_, _, 0, Try.underlying33, rfl, rfl, by kernel_rfl⟩
theorem at_Move_2 (y : Move) (ad : Addr) (k : K) (h : At y ad k) : At y.To (ad.add 2) k :=
  have h0 : At (y.Kind, y.From, y.To, y.N) ad k := h
  At.fst (At.snd' (At.snd' (At.zero h0)))
theorem fo33_1 : FieldOk Try.prog 33 1 1 := ⟨_, _, 0, Try.underlying33, rfl, rfl, by kernel_rfl⟩
theorem at_Move_1 (y : Move) (ad : Addr) (k : K) (h : At y ad k) : At y.From (ad.add 1) k :=
  have h0 : At (y.Kind, y.From, y.To, y.N) ad k := h
  At.fst (At.snd' (At.zero h0))
theorem fo33_3 : FieldOk Try.prog 33 3 3 := ⟨_, _, 0, Try.underlying33, rfl, rfl, by kernel_rfl⟩
theorem at_Move_3 (y : Move) (ad : Addr) (k : K) (h : At y ad k) : At y.N (ad.add 3) k :=
  have h0 : At (y.Kind, y.From, y.To, y.N) ad k := h
  At.snd' (At.snd' (At.snd' (At.zero h0)))
theorem eq35 : EqOk Try.prog 35 Account := by
  refine ⟨by kernel_rfl, fun k x y u v hx hy => ?_⟩
  obtain ⟨csx, ex, rx⟩ := hx
  have fx : csx = [.int .i64 x.Lot, .int .i64 x.Units, .bool x.Receives] := by
    have hl := Enc.len rx
    obtain ⟨u0, u1, u2, rfl⟩ := len3 hl
    obtain ⟨_, qx0, ⟨_, qx1, qx2⟩⟩ := rx
    have qx0 : u0 = .int .i64 x.Lot := hd1 (show [u0] = [.int .i64 x.Lot] from qx0)
    have qx1 : u1 = .int .i64 x.Units := hd1 (show [u1] = [.int .i64 x.Units] from qx1)
    have qx2 : u2 = .bool x.Receives := hd1 (show [u2] = [.bool x.Receives] from qx2)
    rw [qx0, qx1, qx2]
  obtain ⟨csy, ey, ry⟩ := hy
  have fy : csy = [.int .i64 y.Lot, .int .i64 y.Units, .bool y.Receives] := by
    have hl := Enc.len ry
    obtain ⟨u0, u1, u2, rfl⟩ := len3 hl
    obtain ⟨_, qy0, ⟨_, qy1, qy2⟩⟩ := ry
    have qy0 : u0 = .int .i64 y.Lot := hd1 (show [u0] = [.int .i64 y.Lot] from qy0)
    have qy1 : u1 = .int .i64 y.Units := hd1 (show [u1] = [.int .i64 y.Units] from qy1)
    have qy2 : u2 = .bool y.Receives := hd1 (show [u2] = [.bool y.Receives] from qy2)
    rw [qy0, qy1, qy2]
  subst fx; subst fy; subst ex; subst ey
  refine ⟨⟨_, rfl⟩, ⟨_, rfl⟩, fun w => ?_⟩
  show (Op.equalIn (9998 + 1 + 1) 35 (.agg #[.int .i64 x.Lot, .int .i64 x.Units, .bool x.Receives]) (.agg #[.int .i64 y.Lot, .int .i64 y.Units, .bool y.Receives])).run Try.prog w = _
  rw [run_equalIn_struct w _ 35 _ _ (by kernel_rfl) Try.stoodInHeld35]
  generalize 9998 = d
  simp [Program.fieldsOf, Op.eqFields, part, aggOf, ← beq_toListBytes, run_isAgg Try.underlying3, run_equalIn_int w d 3 .i64 .i64 _ _ Try.underlying3, run_isAgg Try.underlying4, run_equalIn_bool w d 4 _ _ Try.underlying4]
  obtain ⟨a0, a1, a2⟩ := x
  obtain ⟨b0, b1, b2⟩ := y
  simp only [Account.mk.injEq]
  by_cases h0 : a0 = b0
  rotate_left
  · simp [h0]
  subst h0
  by_cases h1 : a1 = b1
  rotate_left
  · simp [h1]
  subst h1
  by_cases h2 : a2 = b2
  rotate_left
  · simp [h2]
  subst h2
  simp
theorem eq37 : EqOk Try.prog 37 (Int × Int) := by
  refine ⟨by kernel_rfl, fun k x y u v hx hy => ?_⟩
  obtain ⟨csx, ex, rx⟩ := hx
  have fx : csx = [.int .i64 x.1, .int .i64 x.2] := by
    have hl := Enc.len rx
    obtain ⟨u0, u1, rfl⟩ := len2 hl
    obtain ⟨_, qx0, qx1⟩ := rx
    have qx0 : u0 = .int .i64 x.1 := hd1 (show [u0] = [.int .i64 x.1] from qx0)
    have qx1 : u1 = .int .i64 x.2 := hd1 (show [u1] = [.int .i64 x.2] from qx1)
    rw [qx0, qx1]
  obtain ⟨csy, ey, ry⟩ := hy
  have fy : csy = [.int .i64 y.1, .int .i64 y.2] := by
    have hl := Enc.len ry
    obtain ⟨u0, u1, rfl⟩ := len2 hl
    obtain ⟨_, qy0, qy1⟩ := ry
    have qy0 : u0 = .int .i64 y.1 := hd1 (show [u0] = [.int .i64 y.1] from qy0)
    have qy1 : u1 = .int .i64 y.2 := hd1 (show [u1] = [.int .i64 y.2] from qy1)
    rw [qy0, qy1]
  subst fx; subst fy; subst ex; subst ey
  refine ⟨⟨_, rfl⟩, ⟨_, rfl⟩, fun w => ?_⟩
  show (Op.equalIn (9998 + 1 + 1) 37 (.agg #[.int .i64 x.1, .int .i64 x.2]) (.agg #[.int .i64 y.1, .int .i64 y.2])).run Try.prog w = _
  generalize 9998 = d
  rw [Op.equalIn]
  simp [run_underlying Try.underlying37, part, aggOf, ← beq_toListBytes, Try.sizeOf3, run_isAgg Try.underlying3, run_equalIn_int w d 3 .i64 .i64 _ _ Try.underlying3, show List.range' 0 2 = [0, 1] from rfl]
  obtain ⟨a0, a1⟩ := x
  obtain ⟨b0, b1⟩ := y
  simp only [Prod.mk.injEq]
  by_cases h0 : a0 = b0
  rotate_left
  · simp [h0]
  subst h0
  by_cases h1 : a1 = b1
  rotate_left
  · simp [h1]
  subst h1
  simp
theorem ty33 : Ty Try.prog 33 Move := ⟨⟨_, Try.underlying33, rfl⟩, by kernel_rfl⟩
theorem eo35 : ElemOk Try.prog 35 Account := ⟨_, _, rfl, rfl, rfl, rfl, by decide, by decide⟩
theorem bld35_ {k : K}   : ∃ v, (∀ w, (Instr.build 35 #[]).run Try.prog w = .ok v w) ∧ IsV (⟨0, 0, false⟩ : Account) v k := by
  refine ⟨.agg #[.int .i64 0, .int .i64 0, .bool false], fun w => ?_, [.int .i64 0, .int .i64 0, .bool false], rfl, ⟨rfl, rfl, ⟨rfl, rfl, rfl⟩⟩⟩
  simp [Instr.build, Instr.fill, cells_agg]
theorem bld35_0_1_2 {k : K} {v0 v1 v2 : Value} {x0 : Int} {x1 : Int} {x2 : Bool} (h0 : IsV x0 v0 k) (h1 : IsV x1 v1 k) (h2 : IsV x2 v2 k) : ∃ v, (∀ w, (Instr.build 35 #[(0, v0), (1, v1), (2, v2)]).run Try.prog w = .ok v w) ∧ IsV (⟨x0, x1, x2⟩ : Account) v k := by
  obtain ⟨l0, e0, r0, n0⟩ := isV_cellsL h0
  obtain ⟨u0_0, rfl⟩ := len1 n0
  obtain ⟨l1, e1, r1, n1⟩ := isV_cellsL h1
  obtain ⟨u1_0, rfl⟩ := len1 n1
  obtain ⟨l2, e2, r2, n2⟩ := isV_cellsL h2
  obtain ⟨u2_0, rfl⟩ := len1 n2
  refine ⟨.agg #[u0_0, u1_0, u2_0], fun w => ?_, [u0_0, u1_0, u2_0], rfl, ⟨rfl, r0, ⟨rfl, r1, r2⟩⟩⟩
  simp [Instr.build, Instr.fill, cells_agg, e0, e1, e2]
theorem fo35_2 : FieldOk Try.prog 35 2 2 := ⟨_, _, 0, Try.underlying35, rfl, rfl, by kernel_rfl⟩
theorem at_Account_2 (y : Account) (ad : Addr) (k : K) (h : At y ad k) : At y.Receives (ad.add 2) k :=
  have h0 : At (y.Lot, y.Units, y.Receives) ad k := h
  At.snd' (At.snd' (At.zero h0))
theorem ty4 : Ty Try.prog 4 Bool := ⟨⟨_, Try.underlying4, rfl⟩, by kernel_rfl⟩
theorem upd_F35_1 : Upd (α := Account) (β := Int) (0 + 1) (fun x y => { x with Units := y }) := fun k cs cy x y hx hy => (Upd.snd (Upd.fst Upd.self)) k cs cy (x.Lot, x.Units, x.Receives) y hx hy
theorem z33 : Zero Try.prog 33 ((⟨0, 0, 0, 0⟩ : Move) : Move) := ⟨_, Try.zeroValue33, fun _ => ⟨_, rfl, ⟨rfl, rfl, ⟨rfl, rfl, ⟨rfl, rfl, rfl⟩⟩⟩⟩⟩
theorem szf33 : (Try.prog.info? 33).map (·.size) = some (Enc.sz Move) := by kernel_rfl
theorem z29 : Zero Try.prog 29 ([] : (List (Int × Int))) := ⟨_, Try.zeroValue29, fun _ => ⟨_, rfl, ⟨_, rfl, .inl ⟨rfl, rfl⟩⟩⟩⟩
theorem bld35_0_1 {k : K} {v0 v1 : Value} {x0 : Int} {x1 : Int} (h0 : IsV x0 v0 k) (h1 : IsV x1 v1 k) : ∃ v, (∀ w, (Instr.build 35 #[(0, v0), (1, v1)]).run Try.prog w = .ok v w) ∧ IsV (⟨x0, x1, false⟩ : Account) v k := by
  obtain ⟨l0, e0, r0, n0⟩ := isV_cellsL h0
  obtain ⟨u0_0, rfl⟩ := len1 n0
  obtain ⟨l1, e1, r1, n1⟩ := isV_cellsL h1
  obtain ⟨u1_0, rfl⟩ := len1 n1
  refine ⟨.agg #[u0_0, u1_0, .bool false], fun w => ?_, [u0_0, u1_0, .bool false], rfl, ⟨rfl, r0, ⟨rfl, r1, rfl⟩⟩⟩
  simp [Instr.build, Instr.fill, cells_agg, e0, e1]
theorem bld33_0_1_2_3 {k : K} {v0 v1 v2 v3 : Value} {x0 : Int} {x1 : Int} {x2 : Int} {x3 : Int} (h0 : IsV x0 v0 k) (h1 : IsV x1 v1 k) (h2 : IsV x2 v2 k) (h3 : IsV x3 v3 k) : ∃ v, (∀ w, (Instr.build 33 #[(0, v0), (1, v1), (2, v2), (3, v3)]).run Try.prog w = .ok v w) ∧ IsV (⟨x0, x1, x2, x3⟩ : Move) v k := by
  obtain ⟨l0, e0, r0, n0⟩ := isV_cellsL h0
  obtain ⟨u0_0, rfl⟩ := len1 n0
  obtain ⟨l1, e1, r1, n1⟩ := isV_cellsL h1
  obtain ⟨u1_0, rfl⟩ := len1 n1
  obtain ⟨l2, e2, r2, n2⟩ := isV_cellsL h2
  obtain ⟨u2_0, rfl⟩ := len1 n2
  obtain ⟨l3, e3, r3, n3⟩ := isV_cellsL h3
  obtain ⟨u3_0, rfl⟩ := len1 n3
  refine ⟨.agg #[u0_0, u1_0, u2_0, u3_0], fun w => ?_, [u0_0, u1_0, u2_0, u3_0], rfl, ⟨rfl, r0, ⟨rfl, r1, ⟨rfl, r2, r3⟩⟩⟩⟩
  simp [Instr.build, Instr.fill, cells_agg, e0, e1, e2, e3]
theorem bld33_0_1_3 {k : K} {v0 v1 v3 : Value} {x0 : Int} {x1 : Int} {x3 : Int} (h0 : IsV x0 v0 k) (h1 : IsV x1 v1 k) (h3 : IsV x3 v3 k) : ∃ v, (∀ w, (Instr.build 33 #[(0, v0), (1, v1), (3, v3)]).run Try.prog w = .ok v w) ∧ IsV (⟨x0, x1, 0, x3⟩ : Move) v k := by
  obtain ⟨l0, e0, r0, n0⟩ := isV_cellsL h0
  obtain ⟨u0_0, rfl⟩ := len1 n0
  obtain ⟨l1, e1, r1, n1⟩ := isV_cellsL h1
  obtain ⟨u1_0, rfl⟩ := len1 n1
  obtain ⟨l3, e3, r3, n3⟩ := isV_cellsL h3
  obtain ⟨u3_0, rfl⟩ := len1 n3
  refine ⟨.agg #[u0_0, u1_0, .int .i64 0, u3_0], fun w => ?_, [u0_0, u1_0, .int .i64 0, u3_0], rfl, ⟨rfl, r0, ⟨rfl, r1, ⟨rfl, rfl, r3⟩⟩⟩⟩
  simp [Instr.build, Instr.fill, cells_agg, e0, e1, e3]
theorem eo33 : ElemOk Try.prog 33 Move := ⟨_, _, rfl, rfl, rfl, rfl, by decide, by decide⟩
theorem rd3 : Rd Try.prog 3 Int := rd_int Try.underlying3
theorem rd4 : Rd Try.prog 4 Bool := rd_bool Try.underlying4
instance : Rg Account := Rg.ofMap fun x => (x.Lot, x.Units, x.Receives)
theorem rd35 : Rd Try.prog 35 Account := rd_struct (f := fun x => (x.Lot, x.Units, x.Receives)) (fun y => ⟨y.1, y.2.1, y.2.2⟩) Try.underlying35 (by kernel_rfl) rfl (fun _ _ _ h => h) (fun _ h => h) (RdF.cons rfl (by kernel_rfl) rd3 (RdF.cons rfl (by kernel_rfl) rd3 (RdF.one rfl (by kernel_rfl) rd4))) (fun _ => rfl)
theorem rd22 : Rd Try.prog 22 (List Account) := rd_slice Try.underlying22 (by kernel_rfl) (by decide) (by kernel_rfl) rd35
instance : Rg Move := Rg.ofMap fun x => (x.Kind, x.From, x.To, x.N)
theorem rd33 : Rd Try.prog 33 Move := rd_struct (f := fun x => (x.Kind, x.From, x.To, x.N)) (fun y => ⟨y.1, y.2.1, y.2.2.1, y.2.2.2⟩) Try.underlying33 (by kernel_rfl) rfl (fun _ _ _ h => h) (fun _ h => h) (RdF.cons rfl (by kernel_rfl) rd3 (RdF.cons rfl (by kernel_rfl) rd3 (RdF.cons rfl (by kernel_rfl) rd3 (RdF.one rfl (by kernel_rfl) rd3)))) (fun _ => rfl)
theorem rd23 : Rd Try.prog 23 (List Move) := rd_slice Try.underlying23 (by kernel_rfl) (by decide) (by kernel_rfl) rd33
end Go.Proofs.Ytbanncpkgbiklaa
