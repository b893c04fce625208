/- What the functions compute that the law reaches, part 1 -/
import Derived.Test.YtachpkjjlebadaaGreatProg
import Derived.Test.YtachpkjjlebadaaGreatL5
import Derived.Shelf.Sort.Plain
import Derived.Shelf.Slices.In.SortNone
import Derived.Shelf.Slices.CompactI
import Derived.Shelf.Spec.SlicesGrow
import Derived.Shelf.Strings.Search3
import Derived.Shelf.LaysM
import Derived.Shelf.Slices.Reverse
namespace Go.Proofs.YtachpkjjlebadaaGreat
open Go.Gb
set_option linter.unusedVariables false
set_option linter.unusedSimpArgs false
set_option maxRecDepth 100000
structure Rect where
  X0 : Int
  Y0 : Int
  X1 : Int
  Y1 : Int
  deriving DecidableEq, Inhabited
instance : Enc Rect := Enc.ofMap fun x => (x.X0, x.Y0, x.X1, x.Y1)
structure Box where
  Base : Rect
  Z0 : Int
  Z1 : Int
  deriving DecidableEq, Inhabited
instance : Enc Box := Enc.ofMap fun x => (x.Base, x.Z0, x.Z1)
structure Volume where
  Box : Box
  Use : Int
  Units : Int
  Extra : Bool
  deriving DecidableEq, Inhabited
instance : Enc Volume := Enc.ofMap fun x => (x.Box, x.Use, x.Units, x.Extra)
structure Entry where
  Name : ByteArray
  N : Int
  deriving DecidableEq, Inhabited
instance : Enc Entry := Enc.ofMap fun x => (x.Name, x.N)
structure Phase where
  Volumes : (List Volume)
  Gives : (List Entry)
  deriving DecidableEq, Inhabited
instance : Enc Phase := Enc.ofMap fun x => (x.Volumes, x.Gives)
structure Drawing where
  Lot : Int
  Phases : (List Phase)
  deriving DecidableEq, Inhabited
instance : Enc Drawing := Enc.ofMap fun x => (x.Lot, x.Phases)
structure Dossier where
  Id : Int
  Holder : Int
  State : Int
  Day : Int
  Rule : Int
  Drawings : (List Drawing)
  Choice : Int
  Into : Int
  deriving DecidableEq, Inhabited
instance : Enc Dossier := Enc.ofMap fun x => (x.Id, x.Holder, x.State, x.Day, x.Rule, x.Drawings, x.Choice, x.Into)
structure Expr where
  Op : Int
  N : Int
  S : ByteArray
  Key : ByteArray
  Args : Opq
  deriving DecidableEq, Inhabited
instance : Enc Expr := Enc.ofMap fun x => (x.Op, x.N, x.S, x.Key, x.Args)
structure Def where
  Name : ByteArray
  Body : Expr
  deriving DecidableEq, Inhabited
instance : Enc Def := Enc.ofMap fun x => (x.Name, x.Body)
structure Table where
  Name : ByteArray
  Rows : (List Entry)
  Else : Int
  deriving DecidableEq, Inhabited
instance : Enc Table := Enc.ofMap fun x => (x.Name, x.Rows, x.Else)
structure Point where
  X : Int
  Y : Int
  deriving DecidableEq, Inhabited
instance : Enc Point := Enc.ofMap fun x => (x.X, x.Y)
structure Zone where
  Name : ByteArray
  Overlay : Bool
  Corners : (List Point)
  deriving DecidableEq, Inhabited
instance : Enc Zone := Enc.ofMap fun x => (x.Name, x.Overlay, x.Corners)
structure Plane where
  Side : Int
  Base : Int
  Num : Int
  Den : Int
  deriving DecidableEq, Inhabited
instance : Enc Plane := Enc.ofMap fun x => (x.Side, x.Base, x.Num, x.Den)
structure Rule where
  Name : ByteArray
  Zones : (List ByteArray)
  Except : (List ByteArray)
  From : Int
  Until : Int
  Grace : Int
  Vary : Bool
  Kind : Int
  Test : Expr
  Plane : Plane
  Uses : Int
  Other : Int
  N : Int
  deriving DecidableEq, Inhabited
instance : Enc Rule := Enc.ofMap fun x => (x.Name, x.Zones, x.Except, x.From, x.Until, x.Grace, x.Vary, x.Kind, x.Test, x.Plane, x.Uses, x.Other, x.N)
structure Cap where
  Name : ByteArray
  Load : Int
  Limit : Int
  Corners : (List Point)
  deriving DecidableEq, Inhabited
instance : Enc Cap := Enc.ofMap fun x => (x.Name, x.Load, x.Limit, x.Corners)
structure Point3 where
  X : Int
  Y : Int
  Z : Int
  deriving DecidableEq, Inhabited
instance : Enc Point3 := Enc.ofMap fun x => (x.X, x.Y, x.Z)
structure View where
  Name : ByteArray
  Eye : Point3
  Least : Int
  Targets : (List Point3)
  deriving DecidableEq, Inhabited
instance : Enc View := Enc.ofMap fun x => (x.Name, x.Eye, x.Least, x.Targets)
structure Plan where
  Defs : (List Def)
  Tables : (List Table)
  Zones : (List Zone)
  Rules : (List Rule)
  Caps : (List Cap)
  Views : (List View)
  Sun : (List Point3)
  Hours : Int
  deriving DecidableEq, Inhabited
instance : Enc Plan := Enc.ofMap fun x => (x.Defs, x.Tables, x.Zones, x.Rules, x.Caps, x.Views, x.Sun, x.Hours)
structure Act where
  Kind : Int
  Day : Int
  N : Int
  Drawings : (List Drawing)
  deriving DecidableEq, Inhabited
instance : Enc Act := Enc.ofMap fun x => (x.Kind, x.Day, x.N, x.Drawings)
theorem hmix : Tryz.prog.follows .mixedOrders = true := by kernel_rfl
theorem z81 : Zero Tryz.prog 81 ((⟨(⟨(⟨0, 0, 0, 0⟩ : Rect), 0, 0⟩ : Box), 0, 0, false⟩ : Volume) : Volume) := ⟨_, Tryz.zeroValue81, fun _ => ⟨_, rfl, ⟨rfl, ⟨rfl, ⟨rfl, rfl, ⟨rfl, rfl, ⟨rfl, rfl, rfl⟩⟩⟩, ⟨rfl, rfl, rfl⟩⟩, ⟨rfl, rfl, ⟨rfl, rfl, rfl⟩⟩⟩⟩⟩
theorem szf81 : (Tryz.prog.info? 81).map (·.size) = some (Enc.sz Volume) := by kernel_rfl
theorem ty81 : Ty Tryz.prog 81 Volume := ⟨⟨_, Tryz.underlying81, rfl⟩, by kernel_rfl⟩
theorem eo81 : ElemOk Tryz.prog 81 Volume := ⟨_, _, rfl, rfl, rfl, rfl, by decide, by decide⟩
theorem eo73 : ElemOk Tryz.prog 73 Phase := ⟨_, _, rfl, rfl, rfl, rfl, by decide, by decide⟩
theorem eo54 : ElemOk Tryz.prog 54 Drawing := ⟨_, _, rfl, rfl, rfl, rfl, by decide, by decide⟩
theorem ty54 : Ty Tryz.prog 54 Drawing := ⟨⟨_, Tryz.underlying54, rfl⟩, by kernel_rfl⟩
theorem fo54_1 : FieldOk Tryz.prog 54 1 1 := ⟨_, _, 0, Tryz.underlying54, rfl, rfl, by kernel_rfl⟩
theorem at_Drawing_1 (y : Drawing) (ad : Addr) (k : K) (h : At y ad k) : At y.Phases (ad.add 1) k :=
  have h0 : At (y.Lot, y.Phases) ad k := h
  At.snd' (At.zero h0)
theorem ty52 : Ty Tryz.prog 52 (List Phase) := ⟨⟨_, Tryz.underlying52, rfl⟩, by kernel_rfl⟩
theorem ty73 : Ty Tryz.prog 73 Phase := ⟨⟨_, Tryz.underlying73, rfl⟩, by kernel_rfl⟩
theorem z73 : Zero Tryz.prog 73 ((⟨[], []⟩ : Phase) : Phase) := ⟨_, Tryz.zeroValue73, fun _ => ⟨_, rfl, ⟨rfl, ⟨_, rfl, .inl ⟨rfl, rfl⟩⟩, ⟨_, rfl, .inl ⟨rfl, rfl⟩⟩⟩⟩⟩
theorem szf73 : (Tryz.prog.info? 73).map (·.size) = some (Enc.sz Phase) := by kernel_rfl
theorem fo73_0 : FieldOk Tryz.prog 73 0 0 := ⟨_, _, 0, Tryz.underlying73, rfl, rfl, by kernel_rfl⟩
theorem at_Phase_0 (y : Phase) (ad : Addr) (k : K) (h : At y ad k) : At y.Volumes (ad.add 0) k :=
  have h0 : At (y.Volumes, y.Gives) ad k := h
  At.fst (At.zero h0)
theorem ty70 : Ty Tryz.prog 70 (List Volume) := ⟨⟨_, Tryz.underlying70, rfl⟩, by kernel_rfl⟩
theorem ty3 : Ty Tryz.prog 3 Int := ⟨⟨_, Tryz.underlying3, rfl⟩, by kernel_rfl⟩
theorem fo81_0 : FieldOk Tryz.prog 81 0 0 := ⟨_, _, 5, Tryz.underlying81, rfl, rfl, by kernel_rfl⟩
theorem at_Volume_0 (y : Volume) (ad : Addr) (k : K) (h : At y ad k) : At y.Box (ad.add 0) k :=
  have h0 : At (y.Box, y.Use, y.Units, y.Extra) ad k := h
  At.fst (At.zero h0)
theorem ty79 : Ty Tryz.prog 79 Box := ⟨⟨_, Tryz.underlying79, rfl⟩, by kernel_rfl⟩
theorem fo79_2 : FieldOk Tryz.prog 79 2 5 := ⟨_, _, 0, Tryz.underlying79, rfl, rfl, by kernel_rfl⟩
theorem at_Box_2 (y : Box) (ad : Addr) (k : K) (h : At y ad k) : At y.Z1 (ad.add 5) k :=
  have h0 : At (y.Base, y.Z0, y.Z1) ad k := h
  At.snd' (At.snd' (At.zero h0))
theorem fo81_2 : FieldOk Tryz.prog 81 2 7 := ⟨_, _, 0, Tryz.underlying81, rfl, rfl, by kernel_rfl⟩
theorem at_Volume_2 (y : Volume) (ad : Addr) (k : K) (h : At y ad k) : At y.Units (ad.add 7) k :=
  have h0 : At (y.Box, y.Use, y.Units, y.Extra) ad k := h
  At.fst (At.snd' (At.snd' (At.zero h0)))
theorem fo54_0 : FieldOk Tryz.prog 54 0 0 := ⟨_, _, 0, Tryz.underlying54, rfl, rfl, by kernel_rfl⟩
theorem at_Drawing_0 (y : Drawing) (ad : Addr) (k : K) (h : At y ad k) : At y.Lot (ad.add 0) k :=
  have h0 : At (y.Lot, y.Phases) ad k := h
  At.fst (At.zero h0)
theorem fo73_1 : FieldOk Tryz.prog 73 1 1 := ⟨_, _, 0, Tryz.underlying73, rfl, rfl, by kernel_rfl⟩
theorem at_Phase_1 (y : Phase) (ad : Addr) (k : K) (h : At y ad k) : At y.Gives (ad.add 1) k :=
  have h0 : At (y.Volumes, y.Gives) ad k := h
  At.snd' (At.zero h0)
theorem ty71 : Ty Tryz.prog 71 (List Entry) := ⟨⟨_, Tryz.underlying71, rfl⟩, by kernel_rfl⟩
theorem ty87 : Ty Tryz.prog 87 Entry := ⟨⟨_, Tryz.underlying87, rfl⟩, by kernel_rfl⟩
theorem z87 : Zero Tryz.prog 87 ((⟨(⟨#[]⟩ : ByteArray), 0⟩ : Entry) : Entry) := ⟨_, Tryz.zeroValue87, fun _ => ⟨_, rfl, ⟨rfl, rfl, rfl⟩⟩⟩
theorem szf87 : (Tryz.prog.info? 87).map (·.size) = some (Enc.sz Entry) := by kernel_rfl
theorem fo87_0 : FieldOk Tryz.prog 87 0 0 := ⟨_, _, 0, Tryz.underlying87, rfl, rfl, by kernel_rfl⟩
theorem at_Entry_0 (y : Entry) (ad : Addr) (k : K) (h : At y ad k) : At y.Name (ad.add 0) k :=
  have h0 : At (y.Name, y.N) ad k := h
  At.fst (At.zero h0)
theorem ty9 : Ty Tryz.prog 9 ByteArray := ⟨⟨_, Tryz.underlying9, rfl⟩, by kernel_rfl⟩
theorem key9 : KeyOk Tryz.prog 9 (KeyV.kv (κ := ByteArray)) := keyStr Tryz.underlying9
theorem z4 : Zero Tryz.prog 4 (false : Bool) := ⟨_, Tryz.zeroValue4, fun _ => ⟨_, rfl, rfl⟩⟩
theorem fo87_1 : FieldOk Tryz.prog 87 1 1 := ⟨_, _, 0, Tryz.underlying87, rfl, rfl, by kernel_rfl⟩
theorem at_Entry_1 (y : Entry) (ad : Addr) (k : K) (h : At y ad k) : At y.N (ad.add 1) k :=
  have h0 : At (y.Name, y.N) ad k := h
  At.snd' (At.zero h0)
theorem eo3 : ElemOk Tryz.prog 3 Int := ⟨_, _, rfl, rfl, rfl, rfl, by decide, by decide⟩
theorem eo87 : ElemOk Tryz.prog 87 Entry := ⟨_, _, rfl, rfl, rfl, rfl, by decide, by decide⟩
theorem bld73_0_1 {k : K} {v0 v1 : Value} {x0 : (List Volume)} {x1 : (List Entry)} (h0 : IsV x0 v0 k) (h1 : IsV x1 v1 k) : ∃ v, (∀ w, (Instr.build 73 #[(0, v0), (1, v1)]).run Tryz.prog w = .ok v w) ∧ IsV (⟨x0, x1⟩ : Phase) v k := by
  obtain ⟨l0, e0, r0, n0⟩ := isV_cellsL h0
  obtain ⟨u0_0, rfl⟩ := len1 n0
  obtain ⟨l1, e1, r1, n1⟩ := isV_cellsL h1
  obtain ⟨u1_0, rfl⟩ := len1 n1
  refine ⟨.agg #[u0_0, u1_0], fun w => ?_, [u0_0, u1_0], rfl, ⟨rfl, r0, r1⟩⟩
  simp [Instr.build, Instr.fill, cells_agg, e0, e1]
theorem szf3 : (Tryz.prog.info? 3).map (·.size) = some (Enc.sz Int) := by kernel_rfl
theorem fo30_3 : FieldOk Tryz.prog 30 3 3 := ⟨_, _, 0, Tryz.underlying30, rfl, rfl, by kernel_rfl⟩
theorem at_Plan_3 (y : Plan) (ad : Addr) (k : K) (h : At y ad k) : At y.Rules (ad.add 3) k :=
  have h0 : At (y.Defs, y.Tables, y.Zones, y.Rules, y.Caps, y.Views, y.Sun, y.Hours) ad k := h
  At.fst (At.snd' (At.snd' (At.snd' (At.zero h0))))
theorem ty25 : Ty Tryz.prog 25 (List Rule) := ⟨⟨_, Tryz.underlying25, rfl⟩, by kernel_rfl⟩
theorem ty133 : Ty Tryz.prog 133 Rule := ⟨⟨_, Tryz.underlying133, rfl⟩, by kernel_rfl⟩
theorem z133 : Zero Tryz.prog 133 ((⟨(⟨#[]⟩ : ByteArray), [], [], 0, 0, 0, false, 0, (⟨0, 0, (⟨#[]⟩ : ByteArray), (⟨#[]⟩ : ByteArray), (⟨⟩ : Opq)⟩ : Expr), (⟨0, 0, 0, 0⟩ : Plane), 0, 0, 0⟩ : Rule) : Rule) := ⟨_, Tryz.zeroValue133, fun _ => ⟨_, rfl, ⟨rfl, rfl, ⟨rfl, ⟨_, rfl, .inl ⟨rfl, rfl⟩⟩, ⟨rfl, ⟨_, rfl, .inl ⟨rfl, rfl⟩⟩, ⟨rfl, rfl, ⟨rfl, rfl, ⟨rfl, rfl, ⟨rfl, rfl, ⟨rfl, rfl, ⟨rfl, ⟨rfl, rfl, ⟨rfl, rfl, ⟨rfl, rfl, ⟨rfl, rfl, ⟨_, rfl, rfl⟩⟩⟩⟩⟩, ⟨rfl, ⟨rfl, rfl, ⟨rfl, rfl, ⟨rfl, rfl, rfl⟩⟩⟩, ⟨rfl, rfl, ⟨rfl, rfl, rfl⟩⟩⟩⟩⟩⟩⟩⟩⟩⟩⟩⟩⟩⟩
theorem szf133 : (Tryz.prog.info? 133).map (·.size) = some (Enc.sz Rule) := by kernel_rfl
theorem fo133_3 : FieldOk Tryz.prog 133 3 3 := ⟨_, _, 0, Tryz.underlying133, rfl, rfl, by kernel_rfl⟩
theorem at_Rule_3 (y : Rule) (ad : Addr) (k : K) (h : At y ad k) : At y.From (ad.add 3) k :=
  have h0 : At (y.Name, y.Zones, y.Except, y.From, y.Until, y.Grace, y.Vary, y.Kind, y.Test, y.Plane, y.Uses, y.Other, y.N) ad k := h
  At.fst (At.snd' (At.snd' (At.snd' (At.zero h0))))
theorem fo133_5 : FieldOk Tryz.prog 133 5 5 := ⟨_, _, 0, Tryz.underlying133, rfl, rfl, by kernel_rfl⟩
theorem at_Rule_5 (y : Rule) (ad : Addr) (k : K) (h : At y ad k) : At y.Grace (ad.add 5) k :=
  have h0 : At (y.Name, y.Zones, y.Except, y.From, y.Until, y.Grace, y.Vary, y.Kind, y.Test, y.Plane, y.Uses, y.Other, y.N) ad k := h
  At.fst (At.snd' (At.snd' (At.snd' (At.snd' (At.snd' (At.zero h0))))))
theorem z54 : Zero Tryz.prog 54 ((⟨0, []⟩ : Drawing) : Drawing) := ⟨_, Tryz.zeroValue54, fun _ => ⟨_, rfl, ⟨rfl, rfl, ⟨_, rfl, .inl ⟨rfl, rfl⟩⟩⟩⟩⟩
theorem szf54 : (Tryz.prog.info? 54).map (·.size) = some (Enc.sz Drawing) := by kernel_rfl
theorem upd_F79_2 : Upd (α := Box) (β := Int) (0 + 5) (fun x y => { x with Z1 := y }) := fun k cs cy x y hx hy => (Upd.snd (Upd.snd Upd.self)) k cs cy (x.Base, x.Z0, x.Z1) y hx hy
theorem upd_F81_0_F79_2 : Upd (α := Volume) (β := Int) (0 + 0 + 5) (fun x y => { x with Box := { x.Box with Z1 := y } }) := fun k cs cy x y hx hy => (Upd.fst upd_F79_2) k cs cy (x.Box, x.Use, x.Units, x.Extra) y hx hy
theorem upd_F81_2 : Upd (α := Volume) (β := Int) (0 + 7) (fun x y => { x with Units := y }) := fun k cs cy x y hx hy => (Upd.snd (Upd.snd (Upd.fst Upd.self))) k cs cy (x.Box, x.Use, x.Units, x.Extra) y hx hy
theorem eq81 : EqOk Tryz.prog 81 Volume := by
  refine ⟨by kernel_rfl, fun k x y u v hx hy => ?_⟩
  obtain ⟨csx, ex, rx⟩ := hx
  have fx : csx = [.int .i64 x.Box.Base.X0, .int .i64 x.Box.Base.Y0, .int .i64 x.Box.Base.X1, .int .i64 x.Box.Base.Y1, .int .i64 x.Box.Z0, .int .i64 x.Box.Z1, .int .i64 x.Use, .int .i64 x.Units, .bool x.Extra] := by
    have hl := Enc.len rx
    obtain ⟨u0, u1, u2, u3, u4, u5, u6, u7, u8, rfl⟩ := len9 hl
    obtain ⟨_, ⟨_, ⟨_, qx0, ⟨_, qx1, ⟨_, qx2, qx3⟩⟩⟩, ⟨_, qx4, qx5⟩⟩, ⟨_, qx6, ⟨_, qx7, qx8⟩⟩⟩ := rx
    have qx0 : u0 = .int .i64 x.Box.Base.X0 := hd1 (show [u0] = [.int .i64 x.Box.Base.X0] from qx0)
    have qx1 : u1 = .int .i64 x.Box.Base.Y0 := hd1 (show [u1] = [.int .i64 x.Box.Base.Y0] from qx1)
    have qx2 : u2 = .int .i64 x.Box.Base.X1 := hd1 (show [u2] = [.int .i64 x.Box.Base.X1] from qx2)
    have qx3 : u3 = .int .i64 x.Box.Base.Y1 := hd1 (show [u3] = [.int .i64 x.Box.Base.Y1] from qx3)
    have qx4 : u4 = .int .i64 x.Box.Z0 := hd1 (show [u4] = [.int .i64 x.Box.Z0] from qx4)
    have qx5 : u5 = .int .i64 x.Box.Z1 := hd1 (show [u5] = [.int .i64 x.Box.Z1] from qx5)
    have qx6 : u6 = .int .i64 x.Use := hd1 (show [u6] = [.int .i64 x.Use] from qx6)
    have qx7 : u7 = .int .i64 x.Units := hd1 (show [u7] = [.int .i64 x.Units] from qx7)
    have qx8 : u8 = .bool x.Extra := hd1 (show [u8] = [.bool x.Extra] from qx8)
    rw [qx0, qx1, qx2, qx3, qx4, qx5, qx6, qx7, qx8]
  obtain ⟨csy, ey, ry⟩ := hy
  have fy : csy = [.int .i64 y.Box.Base.X0, .int .i64 y.Box.Base.Y0, .int .i64 y.Box.Base.X1, .int .i64 y.Box.Base.Y1, .int .i64 y.Box.Z0, .int .i64 y.Box.Z1, .int .i64 y.Use, .int .i64 y.Units, .bool y.Extra] := by
    have hl := Enc.len ry
    obtain ⟨u0, u1, u2, u3, u4, u5, u6, u7, u8, rfl⟩ := len9 hl
    obtain ⟨_, ⟨_, ⟨_, qy0, ⟨_, qy1, ⟨_, qy2, qy3⟩⟩⟩, ⟨_, qy4, qy5⟩⟩, ⟨_, qy6, ⟨_, qy7, qy8⟩⟩⟩ := ry
    have qy0 : u0 = .int .i64 y.Box.Base.X0 := hd1 (show [u0] = [.int .i64 y.Box.Base.X0] from qy0)
    have qy1 : u1 = .int .i64 y.Box.Base.Y0 := hd1 (show [u1] = [.int .i64 y.Box.Base.Y0] from qy1)
    have qy2 : u2 = .int .i64 y.Box.Base.X1 := hd1 (show [u2] = [.int .i64 y.Box.Base.X1] from qy2)
    have qy3 : u3 = .int .i64 y.Box.Base.Y1 := hd1 (show [u3] = [.int .i64 y.Box.Base.Y1] from qy3)
    have qy4 : u4 = .int .i64 y.Box.Z0 := hd1 (show [u4] = [.int .i64 y.Box.Z0] from qy4)
    have qy5 : u5 = .int .i64 y.Box.Z1 := hd1 (show [u5] = [.int .i64 y.Box.Z1] from qy5)
    have qy6 : u6 = .int .i64 y.Use := hd1 (show [u6] = [.int .i64 y.Use] from qy6)
    have qy7 : u7 = .int .i64 y.Units := hd1 (show [u7] = [.int .i64 y.Units] from qy7)
    have qy8 : u8 = .bool y.Extra := hd1 (show [u8] = [.bool y.Extra] from qy8)
    rw [qy0, qy1, qy2, qy3, qy4, qy5, qy6, qy7, qy8]
  subst fx; subst fy; subst ex; subst ey
  refine ⟨⟨_, rfl⟩, ⟨_, rfl⟩, fun w => ?_⟩
  show (Op.equalIn (9996 + 1 + 1 + 1 + 1) 81 (.agg #[.int .i64 x.Box.Base.X0, .int .i64 x.Box.Base.Y0, .int .i64 x.Box.Base.X1, .int .i64 x.Box.Base.Y1, .int .i64 x.Box.Z0, .int .i64 x.Box.Z1, .int .i64 x.Use, .int .i64 x.Units, .bool x.Extra]) (.agg #[.int .i64 y.Box.Base.X0, .int .i64 y.Box.Base.Y0, .int .i64 y.Box.Base.X1, .int .i64 y.Box.Base.Y1, .int .i64 y.Box.Z0, .int .i64 y.Box.Z1, .int .i64 y.Use, .int .i64 y.Units, .bool y.Extra])).run Tryz.prog w = _
  rw [run_equalIn_struct w _ 81 _ _ (by kernel_rfl) Tryz.stoodInHeld81]
  generalize 9996 = d
  simp [Program.fieldsOf, Op.eqFields, part, aggOf, ← beq_toListBytes, run_isAgg Tryz.underlying3, run_equalIn_int w d 3 .i64 .i64 _ _ Tryz.underlying3, run_equalIn_int w (d + 1) 3 .i64 .i64 _ _ Tryz.underlying3, run_equalIn_int w (d + 2) 3 .i64 .i64 _ _ Tryz.underlying3, run_isAgg Tryz.underlying4, run_equalIn_bool w d 4 _ _ Tryz.underlying4, run_equalIn_bool w (d + 1) 4 _ _ Tryz.underlying4, run_equalIn_bool w (d + 2) 4 _ _ Tryz.underlying4, run_isAgg Tryz.underlying77, run_equalIn_struct w _ 77 _ _ (by kernel_rfl) Tryz.stoodInHeld77, run_isAgg Tryz.underlying79, run_equalIn_struct w _ 79 _ _ (by kernel_rfl) Tryz.stoodInHeld79]
  obtain ⟨⟨⟨a0, a1, a2, a3⟩, a4, a5⟩, a6, a7, a8⟩ := x
  obtain ⟨⟨⟨b0, b1, b2, b3⟩, b4, b5⟩, b6, b7, b8⟩ := y
  simp only [Volume.mk.injEq, Box.mk.injEq, Rect.mk.injEq]
  by_cases h0 : a0 = b0
  rotate_left
  · simp [h0]
  subst h0
  by_cases h1 : a1 = b1
  rotate_left
  · simp [h1]
  subst h1
  by_cases h2 : a2 = b2
  rotate_left
  · simp [h2]
  subst h2
  by_cases h3 : a3 = b3
  rotate_left
  · simp [h3]
  subst h3
  by_cases h4 : a4 = b4
  rotate_left
  · simp [h4]
  subst h4
  by_cases h5 : a5 = b5
  rotate_left
  · simp [h5]
  subst h5
  by_cases h6 : a6 = b6
  rotate_left
  · simp [h6]
  subst h6
  by_cases h7 : a7 = b7
  rotate_left
  · simp [h7]
  subst h7
  by_cases h8 : a8 = b8
  rotate_left
  · simp [h8]
  subst h8
  simp
theorem eq87 : EqOk Tryz.prog 87 Entry := by
  refine ⟨by kernel_rfl, fun k x y u v hx hy => ?_⟩
  obtain ⟨csx, ex, rx⟩ := hx
  have fx : csx = [.string x.Name, .int .i64 x.N] := by
    have hl := Enc.len rx
    obtain ⟨u0, u1, rfl⟩ := len2 hl
    obtain ⟨_, qx0, qx1⟩ := rx
    have qx0 : u0 = .string x.Name := hd1 (show [u0] = [.string x.Name] from qx0)
    have qx1 : u1 = .int .i64 x.N := hd1 (show [u1] = [.int .i64 x.N] from qx1)
    rw [qx0, qx1]
  obtain ⟨csy, ey, ry⟩ := hy
  have fy : csy = [.string y.Name, .int .i64 y.N] := by
    have hl := Enc.len ry
    obtain ⟨u0, u1, rfl⟩ := len2 hl
    obtain ⟨_, qy0, qy1⟩ := ry
    have qy0 : u0 = .string y.Name := hd1 (show [u0] = [.string y.Name] from qy0)
    have qy1 : u1 = .int .i64 y.N := hd1 (show [u1] = [.int .i64 y.N] from qy1)
    rw [qy0, qy1]
  subst fx; subst fy; subst ex; subst ey
  refine ⟨⟨_, rfl⟩, ⟨_, rfl⟩, fun w => ?_⟩
  show (Op.equalIn (9998 + 1 + 1) 87 (.agg #[.string x.Name, .int .i64 x.N]) (.agg #[.string y.Name, .int .i64 y.N])).run Tryz.prog w = _
  rw [run_equalIn_struct w _ 87 _ _ (by kernel_rfl) Tryz.stoodInHeld87]
  generalize 9998 = d
  simp [Program.fieldsOf, Op.eqFields, part, aggOf, ← beq_toListBytes, run_isAgg Tryz.underlying3, run_equalIn_int w d 3 .i64 .i64 _ _ Tryz.underlying3, run_isAgg Tryz.underlying9, run_equalIn_string w d 9 _ _ Tryz.underlying9]
  obtain ⟨a0, a1⟩ := x
  obtain ⟨b0, b1⟩ := y
  simp only [Entry.mk.injEq]
  by_cases h0 : a0 = b0
  rotate_left
  · simp [h0, beqBA]
  subst h0
  by_cases h1 : a1 = b1
  rotate_left
  · simp [h1, beqBA]
  subst h1
  simp [beqBA]
theorem eq77 : EqOk Tryz.prog 77 Rect := by
  refine ⟨by kernel_rfl, fun k x y u v hx hy => ?_⟩
  obtain ⟨csx, ex, rx⟩ := hx
  have fx : csx = [.int .i64 x.X0, .int .i64 x.Y0, .int .i64 x.X1, .int .i64 x.Y1] := by
    have hl := Enc.len rx
    obtain ⟨u0, u1, u2, u3, rfl⟩ := len4 hl
    obtain ⟨_, qx0, ⟨_, qx1, ⟨_, qx2, qx3⟩⟩⟩ := rx
    have qx0 : u0 = .int .i64 x.X0 := hd1 (show [u0] = [.int .i64 x.X0] from qx0)
    have qx1 : u1 = .int .i64 x.Y0 := hd1 (show [u1] = [.int .i64 x.Y0] from qx1)
    have qx2 : u2 = .int .i64 x.X1 := hd1 (show [u2] = [.int .i64 x.X1] from qx2)
    have qx3 : u3 = .int .i64 x.Y1 := hd1 (show [u3] = [.int .i64 x.Y1] from qx3)
    rw [qx0, qx1, qx2, qx3]
  obtain ⟨csy, ey, ry⟩ := hy
  have fy : csy = [.int .i64 y.X0, .int .i64 y.Y0, .int .i64 y.X1, .int .i64 y.Y1] := by
    have hl := Enc.len ry
    obtain ⟨u0, u1, u2, u3, rfl⟩ := len4 hl
    obtain ⟨_, qy0, ⟨_, qy1, ⟨_, qy2, qy3⟩⟩⟩ := ry
    have qy0 : u0 = .int .i64 y.X0 := hd1 (show [u0] = [.int .i64 y.X0] from qy0)
    have qy1 : u1 = .int .i64 y.Y0 := hd1 (show [u1] = [.int .i64 y.Y0] from qy1)
    have qy2 : u2 = .int .i64 y.X1 := hd1 (show [u2] = [.int .i64 y.X1] from qy2)
    have qy3 : u3 = .int .i64 y.Y1 := hd1 (show [u3] = [.int .i64 y.Y1] from qy3)
    rw [qy0, qy1, qy2, qy3]
  subst fx; subst fy; subst ex; subst ey
  refine ⟨⟨_, rfl⟩, ⟨_, rfl⟩, fun w => ?_⟩
  show (Op.equalIn (9998 + 1 + 1) 77 (.agg #[.int .i64 x.X0, .int .i64 x.Y0, .int .i64 x.X1, .int .i64 x.Y1]) (.agg #[.int .i64 y.X0, .int .i64 y.Y0, .int .i64 y.X1, .int .i64 y.Y1])).run Tryz.prog w = _
  rw [run_equalIn_struct w _ 77 _ _ (by kernel_rfl) Tryz.stoodInHeld77]
  generalize 9998 = d
  simp [Program.fieldsOf, Op.eqFields, part, aggOf, ← beq_toListBytes, run_isAgg Tryz.underlying3, run_equalIn_int w d 3 .i64 .i64 _ _ Tryz.underlying3]
  obtain ⟨a0, a1, a2, a3⟩ := x
  obtain ⟨b0, b1, b2, b3⟩ := y
  simp only [Rect.mk.injEq]
  by_cases h0 : a0 = b0
  rotate_left
  · simp [h0]
  subst h0
  by_cases h1 : a1 = b1
  rotate_left
  · simp [h1]
  subst h1
  by_cases h2 : a2 = b2
  rotate_left
  · simp [h2]
  subst h2
  by_cases h3 : a3 = b3
  rotate_left
  · simp [h3]
  subst h3
  simp
theorem rd9 : Rd Tryz.prog 9 ByteArray := rd_string Tryz.underlying9
theorem rd3 : Rd Tryz.prog 3 Int := rd_int Tryz.underlying3
theorem rd127 : Rd Tryz.prog 127 Opq := rd_opq Tryz.underlying127
instance : Rg Expr := Rg.ofMap fun x => (x.Op, x.N, x.S, x.Key, x.Args)
theorem rd129 : Rd Tryz.prog 129 Expr := rd_struct (f := fun x => (x.Op, x.N, x.S, x.Key, x.Args)) (fun y => ⟨y.1, y.2.1, y.2.2.1, y.2.2.2.1, y.2.2.2.2⟩) Tryz.underlying129 (by kernel_rfl) rfl (fun _ _ _ h => h) (fun _ h => h) (RdF.cons rfl (by kernel_rfl) rd3 (RdF.cons rfl (by kernel_rfl) rd3 (RdF.cons rfl (by kernel_rfl) rd9 (RdF.cons rfl (by kernel_rfl) rd9 (RdF.one rfl (by kernel_rfl) rd127))))) (fun _ => rfl)
instance : Rg Def := Rg.ofMap fun x => (x.Name, x.Body)
theorem rd226 : Rd Tryz.prog 226 Def := rd_struct (f := fun x => (x.Name, x.Body)) (fun y => ⟨y.1, y.2⟩) Tryz.underlying226 (by kernel_rfl) rfl (fun _ _ _ h => h) (fun _ h => h) (RdF.cons rfl (by kernel_rfl) rd9 (RdF.one rfl (by kernel_rfl) rd129)) (fun _ => rfl)
theorem rd22 : Rd Tryz.prog 22 (List Def) := rd_slice Tryz.underlying22 (by kernel_rfl) (by decide) rd226
instance : Rg Entry := Rg.ofMap fun x => (x.Name, x.N)
theorem rd87 : Rd Tryz.prog 87 Entry := rd_struct (f := fun x => (x.Name, x.N)) (fun y => ⟨y.1, y.2⟩) Tryz.underlying87 (by kernel_rfl) rfl (fun _ _ _ h => h) (fun _ h => h) (RdF.cons rfl (by kernel_rfl) rd9 (RdF.one rfl (by kernel_rfl) rd3)) (fun _ => rfl)
theorem rd71 : Rd Tryz.prog 71 (List Entry) := rd_slice Tryz.underlying71 (by kernel_rfl) (by decide) rd87
instance : Rg Table := Rg.ofMap fun x => (x.Name, x.Rows, x.Else)
theorem rd228 : Rd Tryz.prog 228 Table := rd_struct (f := fun x => (x.Name, x.Rows, x.Else)) (fun y => ⟨y.1, y.2.1, y.2.2⟩) Tryz.underlying228 (by kernel_rfl) rfl (fun _ _ _ h => h) (fun _ h => h) (RdF.cons rfl (by kernel_rfl) rd9 (RdF.cons rfl (by kernel_rfl) rd71 (RdF.one rfl (by kernel_rfl) rd3))) (fun _ => rfl)
theorem rd23 : Rd Tryz.prog 23 (List Table) := rd_slice Tryz.underlying23 (by kernel_rfl) (by decide) rd228
theorem rd4 : Rd Tryz.prog 4 Bool := rd_bool Tryz.underlying4
instance : Rg Point := Rg.ofMap fun x => (x.X, x.Y)
theorem rd240 : Rd Tryz.prog 240 Point := rd_struct (f := fun x => (x.X, x.Y)) (fun y => ⟨y.1, y.2⟩) Tryz.underlying240 (by kernel_rfl) rfl (fun _ _ _ h => h) (fun _ h => h) (RdF.cons rfl (by kernel_rfl) rd3 (RdF.one rfl (by kernel_rfl) rd3)) (fun _ => rfl)
theorem rd229 : Rd Tryz.prog 229 (List Point) := rd_slice Tryz.underlying229 (by kernel_rfl) (by decide) rd240
instance : Rg Zone := Rg.ofMap fun x => (x.Name, x.Overlay, x.Corners)
theorem rd231 : Rd Tryz.prog 231 Zone := rd_struct (f := fun x => (x.Name, x.Overlay, x.Corners)) (fun y => ⟨y.1, y.2.1, y.2.2⟩) Tryz.underlying231 (by kernel_rfl) rfl (fun _ _ _ h => h) (fun _ h => h) (RdF.cons rfl (by kernel_rfl) rd9 (RdF.cons rfl (by kernel_rfl) rd4 (RdF.one rfl (by kernel_rfl) rd229))) (fun _ => rfl)
theorem rd24 : Rd Tryz.prog 24 (List Zone) := rd_slice Tryz.underlying24 (by kernel_rfl) (by decide) rd231
theorem rd126 : Rd Tryz.prog 126 (List ByteArray) := rd_slice Tryz.underlying126 (by kernel_rfl) (by decide) rd9
instance : Rg Plane := Rg.ofMap fun x => (x.Side, x.Base, x.Num, x.Den)
theorem rd131 : Rd Tryz.prog 131 Plane := rd_struct (f := fun x => (x.Side, x.Base, x.Num, x.Den)) (fun y => ⟨y.1, y.2.1, y.2.2.1, y.2.2.2⟩) Tryz.underlying131 (by kernel_rfl) rfl (fun _ _ _ h => h) (fun _ h => h) (RdF.cons rfl (by kernel_rfl) rd3 (RdF.cons rfl (by kernel_rfl) rd3 (RdF.cons rfl (by kernel_rfl) rd3 (RdF.one rfl (by kernel_rfl) rd3)))) (fun _ => rfl)
instance : Rg Rule := Rg.ofMap fun x => (x.Name, x.Zones, x.Except, x.From, x.Until, x.Grace, x.Vary, x.Kind, x.Test, x.Plane, x.Uses, x.Other, x.N)
theorem rd133 : Rd Tryz.prog 133 Rule := rd_struct (f := fun x => (x.Name, x.Zones, x.Except, x.From, x.Until, x.Grace, x.Vary, x.Kind, x.Test, x.Plane, x.Uses, x.Other, x.N)) (fun y => ⟨y.1, y.2.1, y.2.2.1, y.2.2.2.1, y.2.2.2.2.1, y.2.2.2.2.2.1, y.2.2.2.2.2.2.1, y.2.2.2.2.2.2.2.1, y.2.2.2.2.2.2.2.2.1, y.2.2.2.2.2.2.2.2.2.1, y.2.2.2.2.2.2.2.2.2.2.1, y.2.2.2.2.2.2.2.2.2.2.2.1, y.2.2.2.2.2.2.2.2.2.2.2.2⟩) Tryz.underlying133 (by kernel_rfl) rfl (fun _ _ _ h => h) (fun _ h => h) (RdF.cons rfl (by kernel_rfl) rd9 (RdF.cons rfl (by kernel_rfl) rd126 (RdF.cons rfl (by kernel_rfl) rd126 (RdF.cons rfl (by kernel_rfl) rd3 (RdF.cons rfl (by kernel_rfl) rd3 (RdF.cons rfl (by kernel_rfl) rd3 (RdF.cons rfl (by kernel_rfl) rd4 (RdF.cons rfl (by kernel_rfl) rd3 (RdF.cons rfl (by kernel_rfl) rd129 (RdF.cons rfl (by kernel_rfl) rd131 (RdF.cons rfl (by kernel_rfl) rd3 (RdF.cons rfl (by kernel_rfl) rd3 (RdF.one rfl (by kernel_rfl) rd3))))))))))))) (fun _ => rfl)
theorem rd25 : Rd Tryz.prog 25 (List Rule) := rd_slice Tryz.underlying25 (by kernel_rfl) (by decide) rd133
instance : Rg Cap := Rg.ofMap fun x => (x.Name, x.Load, x.Limit, x.Corners)
theorem rd233 : Rd Tryz.prog 233 Cap := rd_struct (f := fun x => (x.Name, x.Load, x.Limit, x.Corners)) (fun y => ⟨y.1, y.2.1, y.2.2.1, y.2.2.2⟩) Tryz.underlying233 (by kernel_rfl) rfl (fun _ _ _ h => h) (fun _ h => h) (RdF.cons rfl (by kernel_rfl) rd9 (RdF.cons rfl (by kernel_rfl) rd3 (RdF.cons rfl (by kernel_rfl) rd3 (RdF.one rfl (by kernel_rfl) rd229)))) (fun _ => rfl)
theorem rd26 : Rd Tryz.prog 26 (List Cap) := rd_slice Tryz.underlying26 (by kernel_rfl) (by decide) rd233
instance : Rg Point3 := Rg.ofMap fun x => (x.X, x.Y, x.Z)
theorem rd235 : Rd Tryz.prog 235 Point3 := rd_struct (f := fun x => (x.X, x.Y, x.Z)) (fun y => ⟨y.1, y.2.1, y.2.2⟩) Tryz.underlying235 (by kernel_rfl) rfl (fun _ _ _ h => h) (fun _ h => h) (RdF.cons rfl (by kernel_rfl) rd3 (RdF.cons rfl (by kernel_rfl) rd3 (RdF.one rfl (by kernel_rfl) rd3))) (fun _ => rfl)
theorem rd28 : Rd Tryz.prog 28 (List Point3) := rd_slice Tryz.underlying28 (by kernel_rfl) (by decide) rd235
instance : Rg View := Rg.ofMap fun x => (x.Name, x.Eye, x.Least, x.Targets)
theorem rd237 : Rd Tryz.prog 237 View := rd_struct (f := fun x => (x.Name, x.Eye, x.Least, x.Targets)) (fun y => ⟨y.1, y.2.1, y.2.2.1, y.2.2.2⟩) Tryz.underlying237 (by kernel_rfl) rfl (fun _ _ _ h => h) (fun _ h => h) (RdF.cons rfl (by kernel_rfl) rd9 (RdF.cons rfl (by kernel_rfl) rd235 (RdF.cons rfl (by kernel_rfl) rd3 (RdF.one rfl (by kernel_rfl) rd28)))) (fun _ => rfl)
theorem rd27 : Rd Tryz.prog 27 (List View) := rd_slice Tryz.underlying27 (by kernel_rfl) (by decide) rd237
instance : Rg Plan := Rg.ofMap fun x => (x.Defs, x.Tables, x.Zones, x.Rules, x.Caps, x.Views, x.Sun, x.Hours)
theorem rd30 : Rd Tryz.prog 30 Plan := rd_struct (f := fun x => (x.Defs, x.Tables, x.Zones, x.Rules, x.Caps, x.Views, x.Sun, x.Hours)) (fun y => ⟨y.1, y.2.1, y.2.2.1, y.2.2.2.1, y.2.2.2.2.1, y.2.2.2.2.2.1, y.2.2.2.2.2.2.1, y.2.2.2.2.2.2.2⟩) Tryz.underlying30 (by kernel_rfl) rfl (fun _ _ _ h => h) (fun _ h => h) (RdF.cons rfl (by kernel_rfl) rd22 (RdF.cons rfl (by kernel_rfl) rd23 (RdF.cons rfl (by kernel_rfl) rd24 (RdF.cons rfl (by kernel_rfl) rd25 (RdF.cons rfl (by kernel_rfl) rd26 (RdF.cons rfl (by kernel_rfl) rd27 (RdF.cons rfl (by kernel_rfl) rd28 (RdF.one rfl (by kernel_rfl) rd3)))))))) (fun _ => rfl)
instance : Rg Rect := Rg.ofMap fun x => (x.X0, x.Y0, x.X1, x.Y1)
theorem rd77 : Rd Tryz.prog 77 Rect := rd_struct (f := fun x => (x.X0, x.Y0, x.X1, x.Y1)) (fun y => ⟨y.1, y.2.1, y.2.2.1, y.2.2.2⟩) Tryz.underlying77 (by kernel_rfl) rfl (fun _ _ _ h => h) (fun _ h => h) (RdF.cons rfl (by kernel_rfl) rd3 (RdF.cons rfl (by kernel_rfl) rd3 (RdF.cons rfl (by kernel_rfl) rd3 (RdF.one rfl (by kernel_rfl) rd3)))) (fun _ => rfl)
instance : Rg Box := Rg.ofMap fun x => (x.Base, x.Z0, x.Z1)
theorem rd79 : Rd Tryz.prog 79 Box := rd_struct (f := fun x => (x.Base, x.Z0, x.Z1)) (fun y => ⟨y.1, y.2.1, y.2.2⟩) Tryz.underlying79 (by kernel_rfl) rfl (fun _ _ _ h => h) (fun _ h => h) (RdF.cons rfl (by kernel_rfl) rd77 (RdF.cons rfl (by kernel_rfl) rd3 (RdF.one rfl (by kernel_rfl) rd3))) (fun _ => rfl)
instance : Rg Volume := Rg.ofMap fun x => (x.Box, x.Use, x.Units, x.Extra)
theorem rd81 : Rd Tryz.prog 81 Volume := rd_struct (f := fun x => (x.Box, x.Use, x.Units, x.Extra)) (fun y => ⟨y.1, y.2.1, y.2.2.1, y.2.2.2⟩) Tryz.underlying81 (by kernel_rfl) rfl (fun _ _ _ h => h) (fun _ h => h) (RdF.cons rfl (by kernel_rfl) rd79 (RdF.cons rfl (by kernel_rfl) rd3 (RdF.cons rfl (by kernel_rfl) rd3 (RdF.one rfl (by kernel_rfl) rd4)))) (fun _ => rfl)
theorem rd70 : Rd Tryz.prog 70 (List Volume) := rd_slice Tryz.underlying70 (by kernel_rfl) (by decide) rd81
instance : Rg Phase := Rg.ofMap fun x => (x.Volumes, x.Gives)
theorem rd73 : Rd Tryz.prog 73 Phase := rd_struct (f := fun x => (x.Volumes, x.Gives)) (fun y => ⟨y.1, y.2⟩) Tryz.underlying73 (by kernel_rfl) rfl (fun _ _ _ h => h) (fun _ h => h) (RdF.cons rfl (by kernel_rfl) rd70 (RdF.one rfl (by kernel_rfl) rd71)) (fun _ => rfl)
theorem rd52 : Rd Tryz.prog 52 (List Phase) := rd_slice Tryz.underlying52 (by kernel_rfl) (by decide) rd73
instance : Rg Drawing := Rg.ofMap fun x => (x.Lot, x.Phases)
theorem rd54 : Rd Tryz.prog 54 Drawing := rd_struct (f := fun x => (x.Lot, x.Phases)) (fun y => ⟨y.1, y.2⟩) Tryz.underlying54 (by kernel_rfl) rfl (fun _ _ _ h => h) (fun _ h => h) (RdF.cons rfl (by kernel_rfl) rd3 (RdF.one rfl (by kernel_rfl) rd52)) (fun _ => rfl)
theorem rd31 : Rd Tryz.prog 31 (List Drawing) := rd_slice Tryz.underlying31 (by kernel_rfl) (by decide) rd54
instance : Rg Dossier := Rg.ofMap fun x => (x.Id, x.Holder, x.State, x.Day, x.Rule, x.Drawings, x.Choice, x.Into)
theorem rd33 : Rd Tryz.prog 33 Dossier := rd_struct (f := fun x => (x.Id, x.Holder, x.State, x.Day, x.Rule, x.Drawings, x.Choice, x.Into)) (fun y => ⟨y.1, y.2.1, y.2.2.1, y.2.2.2.1, y.2.2.2.2.1, y.2.2.2.2.2.1, y.2.2.2.2.2.2.1, y.2.2.2.2.2.2.2⟩) Tryz.underlying33 (by kernel_rfl) rfl (fun _ _ _ h => h) (fun _ h => h) (RdF.cons rfl (by kernel_rfl) rd3 (RdF.cons rfl (by kernel_rfl) rd3 (RdF.cons rfl (by kernel_rfl) rd3 (RdF.cons rfl (by kernel_rfl) rd3 (RdF.cons rfl (by kernel_rfl) rd3 (RdF.cons rfl (by kernel_rfl) rd31 (RdF.cons rfl (by kernel_rfl) rd3 (RdF.one rfl (by kernel_rfl) rd3)))))))) (fun _ => rfl)
instance : Rg Act := Rg.ofMap fun x => (x.Kind, x.Day, x.N, x.Drawings)
theorem rd48 : Rd Tryz.prog 48 Act := rd_struct (f := fun x => (x.Kind, x.Day, x.N, x.Drawings)) (fun y => ⟨y.1, y.2.1, y.2.2.1, y.2.2.2⟩) Tryz.underlying48 (by kernel_rfl) rfl (fun _ _ _ h => h) (fun _ h => h) (RdF.cons rfl (by kernel_rfl) rd3 (RdF.cons rfl (by kernel_rfl) rd3 (RdF.cons rfl (by kernel_rfl) rd3 (RdF.one rfl (by kernel_rfl) rd31)))) (fun _ => rfl)
theorem rd34 : Rd Tryz.prog 34 (List Act) := rd_slice Tryz.underlying34 (by kernel_rfl) (by decide) rd48
noncomputable def tb : Tb where
  S := fun n => match n with
    | 0 => Volume
    | 1 => Box
    | 2 => Rect
    | 3 => Drawing
    | 4 => Phase
    | 5 => Entry
    | 6 => Dossier
    | 7 => Plan
    | 8 => Def
    | 9 => Expr
    | 10 => Table
    | 11 => Zone
    | 12 => Point
    | 13 => Rule
    | 14 => Plane
    | 15 => Cap
    | 16 => View
    | 17 => Point3
    | 18 => Act
    | _ + 19 => Unit
  fs := fun n => match n with
    | 0 => [.st 1, .int, .int, .bool]
    | 1 => [.st 2, .int, .int]
    | 2 => [.int, .int, .int, .int]
    | 3 => [.int, .list (.st 4)]
    | 4 => [.list (.st 0), .list (.st 5)]
    | 5 => [.str, .int]
    | 6 => [.int, .int, .int, .int, .int, .list (.st 3), .int, .int]
    | 7 => [.list (.st 8), .list (.st 10), .list (.st 11), .list (.st 13), .list (.st 15), .list (.st 16), .list (.st 17), .int]
    | 8 => [.str, .st 9]
    | 9 => [.int, .int, .str, .str, .op]
    | 10 => [.str, .list (.st 5), .int]
    | 11 => [.str, .bool, .list (.st 12)]
    | 12 => [.int, .int]
    | 13 => [.str, .list .str, .list .str, .int, .int, .int, .bool, .int, .st 9, .st 14, .int, .int, .int]
    | 14 => [.int, .int, .int, .int]
    | 15 => [.str, .int, .int, .list (.st 12)]
    | 16 => [.str, .st 17, .int, .list (.st 17)]
    | 17 => [.int, .int, .int]
    | 18 => [.int, .int, .int, .list (.st 3)]
    | _ + 19 => []
  to := fun n => match n with
    | 0 => fun x => (x.Box, x.Use, x.Units, x.Extra)
    | 1 => fun x => (x.Base, x.Z0, x.Z1)
    | 2 => fun x => (x.X0, x.Y0, x.X1, x.Y1)
    | 3 => fun x => (x.Lot, x.Phases)
    | 4 => fun x => (x.Volumes, x.Gives)
    | 5 => fun x => (x.Name, x.N)
    | 6 => fun x => (x.Id, x.Holder, x.State, x.Day, x.Rule, x.Drawings, x.Choice, x.Into)
    | 7 => fun x => (x.Defs, x.Tables, x.Zones, x.Rules, x.Caps, x.Views, x.Sun, x.Hours)
    | 8 => fun x => (x.Name, x.Body)
    | 9 => fun x => (x.Op, x.N, x.S, x.Key, x.Args)
    | 10 => fun x => (x.Name, x.Rows, x.Else)
    | 11 => fun x => (x.Name, x.Overlay, x.Corners)
    | 12 => fun x => (x.X, x.Y)
    | 13 => fun x => (x.Name, x.Zones, x.Except, x.From, x.Until, x.Grace, x.Vary, x.Kind, x.Test, x.Plane, x.Uses, x.Other, x.N)
    | 14 => fun x => (x.Side, x.Base, x.Num, x.Den)
    | 15 => fun x => (x.Name, x.Load, x.Limit, x.Corners)
    | 16 => fun x => (x.Name, x.Eye, x.Least, x.Targets)
    | 17 => fun x => (x.X, x.Y, x.Z)
    | 18 => fun x => (x.Kind, x.Day, x.N, x.Drawings)
    | _ + 19 => fun _ => ()
  of := fun n => match n with
    | 0 => fun x => ⟨x.1, x.2.1, x.2.2.1, x.2.2.2⟩
    | 1 => fun x => ⟨x.1, x.2.1, x.2.2⟩
    | 2 => fun x => ⟨x.1, x.2.1, x.2.2.1, x.2.2.2⟩
    | 3 => fun x => ⟨x.1, x.2⟩
    | 4 => fun x => ⟨x.1, x.2⟩
    | 5 => fun x => ⟨x.1, x.2⟩
    | 6 => fun x => ⟨x.1, x.2.1, x.2.2.1, x.2.2.2.1, x.2.2.2.2.1, x.2.2.2.2.2.1, x.2.2.2.2.2.2.1, x.2.2.2.2.2.2.2⟩
    | 7 => fun x => ⟨x.1, x.2.1, x.2.2.1, x.2.2.2.1, x.2.2.2.2.1, x.2.2.2.2.2.1, x.2.2.2.2.2.2.1, x.2.2.2.2.2.2.2⟩
    | 8 => fun x => ⟨x.1, x.2⟩
    | 9 => fun x => ⟨x.1, x.2.1, x.2.2.1, x.2.2.2.1, x.2.2.2.2⟩
    | 10 => fun x => ⟨x.1, x.2.1, x.2.2⟩
    | 11 => fun x => ⟨x.1, x.2.1, x.2.2⟩
    | 12 => fun x => ⟨x.1, x.2⟩
    | 13 => fun x => ⟨x.1, x.2.1, x.2.2.1, x.2.2.2.1, x.2.2.2.2.1, x.2.2.2.2.2.1, x.2.2.2.2.2.2.1, x.2.2.2.2.2.2.2.1, x.2.2.2.2.2.2.2.2.1, x.2.2.2.2.2.2.2.2.2.1, x.2.2.2.2.2.2.2.2.2.2.1, x.2.2.2.2.2.2.2.2.2.2.2.1, x.2.2.2.2.2.2.2.2.2.2.2.2⟩
    | 14 => fun x => ⟨x.1, x.2.1, x.2.2.1, x.2.2.2⟩
    | 15 => fun x => ⟨x.1, x.2.1, x.2.2.1, x.2.2.2⟩
    | 16 => fun x => ⟨x.1, x.2.1, x.2.2.1, x.2.2.2⟩
    | 17 => fun x => ⟨x.1, x.2.1, x.2.2⟩
    | 18 => fun x => ⟨x.1, x.2.1, x.2.2.1, x.2.2.2⟩
    | _ + 19 => fun _ => ()
  zero := fun n => match n with
    | 0 => (default : Volume)
    | 1 => (default : Box)
    | 2 => (default : Rect)
    | 3 => (default : Drawing)
    | 4 => (default : Phase)
    | 5 => (default : Entry)
    | 6 => (default : Dossier)
    | 7 => (default : Plan)
    | 8 => (default : Def)
    | 9 => (default : Expr)
    | 10 => (default : Table)
    | 11 => (default : Zone)
    | 12 => (default : Point)
    | 13 => (default : Rule)
    | 14 => (default : Plane)
    | 15 => (default : Cap)
    | 16 => (default : View)
    | 17 => (default : Point3)
    | 18 => (default : Act)
    | _ + 19 => ()
  deq := fun n => match n with
    | 0 => (inferInstance : DecidableEq Volume)
    | 1 => (inferInstance : DecidableEq Box)
    | 2 => (inferInstance : DecidableEq Rect)
    | 3 => (inferInstance : DecidableEq Drawing)
    | 4 => (inferInstance : DecidableEq Phase)
    | 5 => (inferInstance : DecidableEq Entry)
    | 6 => (inferInstance : DecidableEq Dossier)
    | 7 => (inferInstance : DecidableEq Plan)
    | 8 => (inferInstance : DecidableEq Def)
    | 9 => (inferInstance : DecidableEq Expr)
    | 10 => (inferInstance : DecidableEq Table)
    | 11 => (inferInstance : DecidableEq Zone)
    | 12 => (inferInstance : DecidableEq Point)
    | 13 => (inferInstance : DecidableEq Rule)
    | 14 => (inferInstance : DecidableEq Plane)
    | 15 => (inferInstance : DecidableEq Cap)
    | 16 => (inferInstance : DecidableEq View)
    | 17 => (inferInstance : DecidableEq Point3)
    | 18 => (inferInstance : DecidableEq Act)
    | _ + 19 => (inferInstance : DecidableEq Unit)
  enc := fun n => match n with
    | 0 => (inferInstance : Enc Volume)
    | 1 => (inferInstance : Enc Box)
    | 2 => (inferInstance : Enc Rect)
    | 3 => (inferInstance : Enc Drawing)
    | 4 => (inferInstance : Enc Phase)
    | 5 => (inferInstance : Enc Entry)
    | 6 => (inferInstance : Enc Dossier)
    | 7 => (inferInstance : Enc Plan)
    | 8 => (inferInstance : Enc Def)
    | 9 => (inferInstance : Enc Expr)
    | 10 => (inferInstance : Enc Table)
    | 11 => (inferInstance : Enc Zone)
    | 12 => (inferInstance : Enc Point)
    | 13 => (inferInstance : Enc Rule)
    | 14 => (inferInstance : Enc Plane)
    | 15 => (inferInstance : Enc Cap)
    | 16 => (inferInstance : Enc View)
    | 17 => (inferInstance : Enc Point3)
    | 18 => (inferInstance : Enc Act)
    | _ + 19 => Enc.ofMap (σ := Unit) (β := Unit) fun x => x
  to_of := fun n => match n with
    | 0 => fun _ => rfl
    | 1 => fun _ => rfl
    | 2 => fun _ => rfl
    | 3 => fun _ => rfl
    | 4 => fun _ => rfl
    | 5 => fun _ => rfl
    | 6 => fun _ => rfl
    | 7 => fun _ => rfl
    | 8 => fun _ => rfl
    | 9 => fun _ => rfl
    | 10 => fun _ => rfl
    | 11 => fun _ => rfl
    | 12 => fun _ => rfl
    | 13 => fun _ => rfl
    | 14 => fun _ => rfl
    | 15 => fun _ => rfl
    | 16 => fun _ => rfl
    | 17 => fun _ => rfl
    | 18 => fun _ => rfl
    | _ + 19 => fun _ => rfl
  zero_eq := fun n => match n with
    | 0 => rfl
    | 1 => rfl
    | 2 => rfl
    | 3 => rfl
    | 4 => rfl
    | 5 => rfl
    | 6 => rfl
    | 7 => rfl
    | 8 => rfl
    | 9 => rfl
    | 10 => rfl
    | 11 => rfl
    | 12 => rfl
    | 13 => rfl
    | 14 => rfl
    | 15 => rfl
    | 16 => rfl
    | 17 => rfl
    | 18 => rfl
    | _ + 19 => rfl
  enc_eq := fun n => match n with
    | 0 => rfl
    | 1 => rfl
    | 2 => rfl
    | 3 => rfl
    | 4 => rfl
    | 5 => rfl
    | 6 => rfl
    | 7 => rfl
    | 8 => rfl
    | 9 => rfl
    | 10 => rfl
    | 11 => rfl
    | 12 => rfl
    | 13 => rfl
    | 14 => rfl
    | 15 => rfl
    | 16 => rfl
    | 17 => rfl
    | 18 => rfl
    | _ + 19 => rfl
def tid : TypeId → Option Tp := tidL [(3, .int), (9, .str), (30, .st 7), (33, .st 6), (48, .st 18), (54, .st 3), (73, .st 4), (77, .st 2), (79, .st 1), (81, .st 0)]
def eqs : List (TypeId × Nat) := [(81, 0), (87, 5), (77, 2)]
theorem eqsOk : EqsOk Tryz.prog tb eqs := ⟨eq81, eq87, eq77, trivial⟩
noncomputable def mk (f : FuncId) (dom cod : List Tp) (run : HL tb.S dom → Option (HL tb.S cod)) (ks : List (Fk tb Tryz.prog)) (own : List Nat) (fn : Func) (h : Hn tb) (hf : Tryz.prog.funcs[f]? = some fn)
  (hc : ∀ args w, (callFunc f args).run Tryz.prog w = .ok (.enter f args) w) (hb : fn.body = some (body fn)) (hl : Nat.ble dom.length fn.ntmps = true)
  (he : ∀ x, evF ⟨Tryz.prog, tid, eqs, depsOf ks, own, fn.results.toList, fn.ntmps⟩ (body fn) h dom cod x = run x) : Fk tb Tryz.prog := ⟨f, ⟨dom, cod, run⟩, fnOk ks own fn h eqsOk hmix hf hc hb hl he⟩
noncomputable def mkO (f : FuncId) (dom cod : List Tp) (run : HL tb.S dom → Option (HL tb.S cod)) (hc : ∀ args w, (callFunc f args).run Tryz.prog w = .ok (.enter f args) w)
  (ok : ∀ (k0 : K) (vs : List Value) (x : HL tb.S dom) (r : HL tb.S cod), GOk tb k0 → HIs dom x vs k0 → run x = some r → Calls Tryz.prog f vs.toArray k0.w (Ret k0 fun u k => (resV cod r).is ⟨#[], []⟩ u k)) : Fk tb Tryz.prog := ⟨f, ⟨dom, cod, run⟩, hc, ok⟩
def glv : Nat → Option (Σ t : Tp, t.den tb.S) := fun g => match g with

  | _ => none
theorem gl0 : (∀ g, tb.gl g = none) ∧ tb.gi = none := ⟨fun _ => rfl, rfl⟩
def giv : Option Nat := some 0
noncomputable def tbg : Tb := tb.withG glv giv
theorem eqsOkG : EqsOk Tryz.prog tbg eqs := ⟨eq81, eq87, eq77, trivial⟩
noncomputable def mkg (f : FuncId) (dom cod : List Tp) (run : HL tbg.S dom → Option (HL tbg.S cod)) (ks : List (Fk tbg Tryz.prog)) (own : List Nat) (fn : Func) (h : Hn tbg) (hf : Tryz.prog.funcs[f]? = some fn)
  (hc : ∀ args w, (callFunc f args).run Tryz.prog w = .ok (.enter f args) w) (hb : fn.body = some (body fn)) (hl : Nat.ble dom.length fn.ntmps = true)
  (he : ∀ x, evF ⟨Tryz.prog, tid, eqs, depsOf ks, own, fn.results.toList, fn.ntmps⟩ (body fn) h dom cod x = run x) : Fk tbg Tryz.prog := ⟨f, ⟨dom, cod, run⟩, fnOk ks own fn h (T := tbg) eqsOkG hmix hf hc hb hl he⟩
noncomputable def mkOg (f : FuncId) (dom cod : List Tp) (run : HL tbg.S dom → Option (HL tbg.S cod)) (hc : ∀ args w, (callFunc f args).run Tryz.prog w = .ok (.enter f args) w)
  (ok : ∀ (k0 : K) (vs : List Value) (x : HL tbg.S dom) (r : HL tbg.S cod), GOk tbg k0 → HIs dom x vs k0 → run x = some r → Calls Tryz.prog f vs.toArray k0.w (Ret k0 fun u k => (resV cod r).is ⟨#[], []⟩ u k)) : Fk tbg Tryz.prog := ⟨f, ⟨dom, cod, run⟩, hc, ok⟩
end Go.Proofs.YtachpkjjlebadaaGreat
