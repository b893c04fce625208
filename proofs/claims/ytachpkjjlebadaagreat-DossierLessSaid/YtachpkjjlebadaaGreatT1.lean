/- What the functions compute that the law reaches, part 1 -/
import Derived.Test.YtachpkjjlebadaaGreatProg
import Derived.Test.YtachpkjjlebadaaGreatL6
import Derived.Shelf.Sort.Plain
import Derived.Shelf.Slices.In.SortNone
import Derived.Shelf.Slices.CompactI
import Derived.Shelf.Spec.SlicesGrow
import Derived.Shelf.SlSortCmp.NoneTotal
import Derived.Shelf.Strings.Search3
import Derived.Shelf.LaysM
import Derived.Shelf.Slices.Reverse
namespace Go.Proofs.YtachpkjjlebadaaGreat
open Go.Gb
set_option linter.unusedVariables false
set_option linter.unusedSimpArgs false
set_option maxRecDepth 100000
structure Rect where
  X0 : Int
  Y0 : Int
  X1 : Int
  Y1 : Int
  deriving DecidableEq, Inhabited
instance : Enc Rect := Enc.ofMap fun x => (x.X0, x.Y0, x.X1, x.Y1)
structure Box where
  Base : Rect
  Z0 : Int
  Z1 : Int
  deriving DecidableEq, Inhabited
instance : Enc Box := Enc.ofMap fun x => (x.Base, x.Z0, x.Z1)
structure Volume where
  Box : Box
  Use : Int
  Units : Int
  Extra : Bool
  deriving DecidableEq, Inhabited
instance : Enc Volume := Enc.ofMap fun x => (x.Box, x.Use, x.Units, x.Extra)
structure Entry where
  Name : ByteArray
  N : Int
  deriving DecidableEq, Inhabited
instance : Enc Entry := Enc.ofMap fun x => (x.Name, x.N)
structure Phase where
  Volumes : (List Volume)
  Gives : (List Entry)
  deriving DecidableEq, Inhabited
instance : Enc Phase := Enc.ofMap fun x => (x.Volumes, x.Gives)
structure Drawing where
  Lot : Int
  Phases : (List Phase)
  deriving DecidableEq, Inhabited
instance : Enc Drawing := Enc.ofMap fun x => (x.Lot, x.Phases)
structure Dossier where
  Id : Int
  Holder : Int
  State : Int
  Day : Int
  Rule : Int
  Drawings : (List Drawing)
  Choice : Int
  Into : Int
  deriving DecidableEq, Inhabited
instance : Enc Dossier := Enc.ofMap fun x => (x.Id, x.Holder, x.State, x.Day, x.Rule, x.Drawings, x.Choice, x.Into)
structure Expr where
  Op : Int
  N : Int
  S : ByteArray
  Key : ByteArray
  Args : Opq
  deriving DecidableEq, Inhabited
instance : Enc Expr := Enc.ofMap fun x => (x.Op, x.N, x.S, x.Key, x.Args)
structure Def where
  Name : ByteArray
  Body : Expr
  deriving DecidableEq, Inhabited
instance : Enc Def := Enc.ofMap fun x => (x.Name, x.Body)
structure Table where
  Name : ByteArray
  Rows : (List Entry)
  Else : Int
  deriving DecidableEq, Inhabited
instance : Enc Table := Enc.ofMap fun x => (x.Name, x.Rows, x.Else)
structure Point where
  X : Int
  Y : Int
  deriving DecidableEq, Inhabited
instance : Enc Point := Enc.ofMap fun x => (x.X, x.Y)
structure Zone where
  Name : ByteArray
  Overlay : Bool
  Corners : (List Point)
  deriving DecidableEq, Inhabited
instance : Enc Zone := Enc.ofMap fun x => (x.Name, x.Overlay, x.Corners)
structure Plane where
  Side : Int
  Base : Int
  Num : Int
  Den : Int
  deriving DecidableEq, Inhabited
instance : Enc Plane := Enc.ofMap fun x => (x.Side, x.Base, x.Num, x.Den)
structure Rule where
  Name : ByteArray
  Zones : (List ByteArray)
  Except : (List ByteArray)
  From : Int
  Until : Int
  Grace : Int
  Vary : Bool
  Kind : Int
  Test : Expr
  Plane : Plane
  Uses : Int
  Other : Int
  N : Int
  deriving DecidableEq, Inhabited
instance : Enc Rule := Enc.ofMap fun x => (x.Name, x.Zones, x.Except, x.From, x.Until, x.Grace, x.Vary, x.Kind, x.Test, x.Plane, x.Uses, x.Other, x.N)
structure Cap where
  Name : ByteArray
  Load : Int
  Limit : Int
  Corners : (List Point)
  deriving DecidableEq, Inhabited
instance : Enc Cap := Enc.ofMap fun x => (x.Name, x.Load, x.Limit, x.Corners)
structure Point3 where
  X : Int
  Y : Int
  Z : Int
  deriving DecidableEq, Inhabited
instance : Enc Point3 := Enc.ofMap fun x => (x.X, x.Y, x.Z)
structure View where
  Name : ByteArray
  Eye : Point3
  Least : Int
  Targets : (List Point3)
  deriving DecidableEq, Inhabited
instance : Enc View := Enc.ofMap fun x => (x.Name, x.Eye, x.Least, x.Targets)
structure Plan where
  Defs : (List Def)
  Tables : (List Table)
  Zones : (List Zone)
  Rules : (List Rule)
  Caps : (List Cap)
  Views : (List View)
  Sun : (List Point3)
  Hours : Int
  deriving DecidableEq, Inhabited
instance : Enc Plan := Enc.ofMap fun x => (x.Defs, x.Tables, x.Zones, x.Rules, x.Caps, x.Views, x.Sun, x.Hours)
structure Act where
  Kind : Int
  Day : Int
  N : Int
  Drawings : (List Drawing)
  deriving DecidableEq, Inhabited
instance : Enc Act := Enc.ofMap fun x => (x.Kind, x.Day, x.N, x.Drawings)
structure Slab where
  Z0 : Int
  Z1 : Int
  Area : (List Rect)
  deriving DecidableEq, Inhabited
instance : Enc Slab := Enc.ofMap fun x => (x.Z0, x.Z1, x.Area)
structure RegionSpan where
  from_ : Int
  to_ : Int
  deriving DecidableEq, Inhabited
instance : Enc RegionSpan := Enc.ofMap fun x => (x.from_, x.to_)
structure RegionStrip where
  x0 : Int
  x1 : Int
  column : (List RegionSpan)
  deriving DecidableEq, Inhabited
instance : Enc RegionStrip := Enc.ofMap fun x => (x.x0, x.x1, x.column)
theorem hmix : Tryz.prog.follows .mixedOrders = true := by kernel_rfl
theorem z81 : Zero Tryz.prog 81 ((⟨(⟨(⟨0, 0, 0, 0⟩ : Rect), 0, 0⟩ : Box), 0, 0, false⟩ : Volume) : Volume) := ⟨_, Tryz.zeroValue81, fun _ => ⟨_, rfl, ⟨rfl, ⟨rfl, ⟨rfl, rfl, ⟨rfl, rfl, ⟨rfl, rfl, rfl⟩⟩⟩, ⟨rfl, rfl, rfl⟩⟩, ⟨rfl, rfl, ⟨rfl, rfl, rfl⟩⟩⟩⟩⟩
theorem szf81 : (Tryz.prog.info? 81).map (·.size) = some (Enc.sz Volume) := by kernel_rfl
theorem ty81 : Ty Tryz.prog 81 Volume := ⟨⟨_, Tryz.underlying81, rfl⟩, by kernel_rfl⟩
theorem eo81 : ElemOk Tryz.prog 81 Volume := ⟨_, _, rfl, rfl, rfl, rfl, by decide, by decide⟩
theorem eo73 : ElemOk Tryz.prog 73 Phase := ⟨_, _, rfl, rfl, rfl, rfl, by decide, by decide⟩
theorem eo54 : ElemOk Tryz.prog 54 Drawing := ⟨_, _, rfl, rfl, rfl, rfl, by decide, by decide⟩
theorem ty54 : Ty Tryz.prog 54 Drawing := ⟨⟨_, Tryz.underlying54, rfl⟩, by kernel_rfl⟩
theorem fo54_1 : FieldOk Tryz.prog 54 1 1 := ⟨_, _, 0, Tryz.underlying54, rfl, rfl, by kernel_rfl⟩
theorem at_Drawing_1 (y : Drawing) (ad : Addr) (k : K) (h : At y ad k) : At y.Phases (ad.add 1) k :=
  have h0 : At (y.Lot, y.Phases) ad k := h
  At.snd' (At.zero h0)
theorem ty52 : Ty Tryz.prog 52 (List Phase) := ⟨⟨_, Tryz.underlying52, rfl⟩, by kernel_rfl⟩
theorem ty73 : Ty Tryz.prog 73 Phase := ⟨⟨_, Tryz.underlying73, rfl⟩, by kernel_rfl⟩
theorem z73 : Zero Tryz.prog 73 ((⟨[], []⟩ : Phase) : Phase) := ⟨_, Tryz.zeroValue73, fun _ => ⟨_, rfl, ⟨rfl, ⟨_, rfl, .inl ⟨rfl, rfl⟩⟩, ⟨_, rfl, .inl ⟨rfl, rfl⟩⟩⟩⟩⟩
theorem szf73 : (Tryz.prog.info? 73).map (·.size) = some (Enc.sz Phase) := by kernel_rfl
theorem fo73_0 : FieldOk Tryz.prog 73 0 0 := ⟨_, _, 0, Tryz.underlying73, rfl, rfl, by kernel_rfl⟩
theorem at_Phase_0 (y : Phase) (ad : Addr) (k : K) (h : At y ad k) : At y.Volumes (ad.add 0) k :=
  have h0 : At (y.Volumes, y.Gives) ad k := h
  At.fst (At.zero h0)
theorem ty70 : Ty Tryz.prog 70 (List Volume) := ⟨⟨_, Tryz.underlying70, rfl⟩, by kernel_rfl⟩
theorem fo77_0 : FieldOk Tryz.prog 77 0 0 := ⟨_, _, 0, Tryz.underlying77, rfl, rfl, by kernel_rfl⟩
theorem at_Rect_0 (y : Rect) (ad : Addr) (k : K) (h : At y ad k) : At y.X0 (ad.add 0) k :=
  have h0 : At (y.X0, y.Y0, y.X1, y.Y1) ad k := h
  At.fst (At.zero h0)
theorem ty3 : Ty Tryz.prog 3 Int := ⟨⟨_, Tryz.underlying3, rfl⟩, by kernel_rfl⟩
theorem fo77_2 : FieldOk Tryz.prog 77 2 2 := ⟨_, _, 0, Tryz.underlying77, rfl, rfl, by kernel_rfl⟩
theorem at_Rect_2 (y : Rect) (ad : Addr) (k : K) (h : At y ad k) : At y.X1 (ad.add 2) k :=
  have h0 : At (y.X0, y.Y0, y.X1, y.Y1) ad k := h
  At.fst (At.snd' (At.snd' (At.zero h0)))
theorem fo77_1 : FieldOk Tryz.prog 77 1 1 := ⟨_, _, 0, Tryz.underlying77, rfl, rfl, by kernel_rfl⟩
theorem at_Rect_1 (y : Rect) (ad : Addr) (k : K) (h : At y ad k) : At y.Y0 (ad.add 1) k :=
  have h0 : At (y.X0, y.Y0, y.X1, y.Y1) ad k := h
  At.fst (At.snd' (At.zero h0))
theorem fo77_3 : FieldOk Tryz.prog 77 3 3 := ⟨_, _, 0, Tryz.underlying77, rfl, rfl, by kernel_rfl⟩
theorem at_Rect_3 (y : Rect) (ad : Addr) (k : K) (h : At y ad k) : At y.Y1 (ad.add 3) k :=
  have h0 : At (y.X0, y.Y0, y.X1, y.Y1) ad k := h
  At.snd' (At.snd' (At.snd' (At.zero h0)))
theorem fo81_0 : FieldOk Tryz.prog 81 0 0 := ⟨_, _, 5, Tryz.underlying81, rfl, rfl, by kernel_rfl⟩
theorem at_Volume_0 (y : Volume) (ad : Addr) (k : K) (h : At y ad k) : At y.Box (ad.add 0) k :=
  have h0 : At (y.Box, y.Use, y.Units, y.Extra) ad k := h
  At.fst (At.zero h0)
theorem ty79 : Ty Tryz.prog 79 Box := ⟨⟨_, Tryz.underlying79, rfl⟩, by kernel_rfl⟩
theorem z79 : Zero Tryz.prog 79 ((⟨(⟨0, 0, 0, 0⟩ : Rect), 0, 0⟩ : Box) : Box) := ⟨_, Tryz.zeroValue79, fun _ => ⟨_, rfl, ⟨rfl, ⟨rfl, rfl, ⟨rfl, rfl, ⟨rfl, rfl, rfl⟩⟩⟩, ⟨rfl, rfl, rfl⟩⟩⟩⟩
theorem szf79 : (Tryz.prog.info? 79).map (·.size) = some (Enc.sz Box) := by kernel_rfl
theorem fo79_0 : FieldOk Tryz.prog 79 0 0 := ⟨_, _, 3, Tryz.underlying79, rfl, rfl, by kernel_rfl⟩
theorem at_Box_0 (y : Box) (ad : Addr) (k : K) (h : At y ad k) : At y.Base (ad.add 0) k :=
  have h0 : At (y.Base, y.Z0, y.Z1) ad k := h
  At.fst (At.zero h0)
theorem ty77 : Ty Tryz.prog 77 Rect := ⟨⟨_, Tryz.underlying77, rfl⟩, by kernel_rfl⟩
theorem fo79_1 : FieldOk Tryz.prog 79 1 4 := ⟨_, _, 0, Tryz.underlying79, rfl, rfl, by kernel_rfl⟩
theorem at_Box_1 (y : Box) (ad : Addr) (k : K) (h : At y ad k) : At y.Z0 (ad.add 4) k :=
  have h0 : At (y.Base, y.Z0, y.Z1) ad k := h
  At.fst (At.snd' (At.zero h0))
theorem fo79_2 : FieldOk Tryz.prog 79 2 5 := ⟨_, _, 0, Tryz.underlying79, rfl, rfl, by kernel_rfl⟩
theorem at_Box_2 (y : Box) (ad : Addr) (k : K) (h : At y ad k) : At y.Z1 (ad.add 5) k :=
  have h0 : At (y.Base, y.Z0, y.Z1) ad k := h
  At.snd' (At.snd' (At.zero h0))
theorem fo81_2 : FieldOk Tryz.prog 81 2 7 := ⟨_, _, 0, Tryz.underlying81, rfl, rfl, by kernel_rfl⟩
theorem at_Volume_2 (y : Volume) (ad : Addr) (k : K) (h : At y ad k) : At y.Units (ad.add 7) k :=
  have h0 : At (y.Box, y.Use, y.Units, y.Extra) ad k := h
  At.fst (At.snd' (At.snd' (At.zero h0)))
theorem z77 : Zero Tryz.prog 77 ((⟨0, 0, 0, 0⟩ : Rect) : Rect) := ⟨_, Tryz.zeroValue77, fun _ => ⟨_, rfl, ⟨rfl, rfl, ⟨rfl, rfl, ⟨rfl, rfl, rfl⟩⟩⟩⟩⟩
theorem szf77 : (Tryz.prog.info? 77).map (·.size) = some (Enc.sz Rect) := by kernel_rfl
theorem fo54_0 : FieldOk Tryz.prog 54 0 0 := ⟨_, _, 0, Tryz.underlying54, rfl, rfl, by kernel_rfl⟩
theorem at_Drawing_0 (y : Drawing) (ad : Addr) (k : K) (h : At y ad k) : At y.Lot (ad.add 0) k :=
  have h0 : At (y.Lot, y.Phases) ad k := h
  At.fst (At.zero h0)
theorem fo73_1 : FieldOk Tryz.prog 73 1 1 := ⟨_, _, 0, Tryz.underlying73, rfl, rfl, by kernel_rfl⟩
theorem at_Phase_1 (y : Phase) (ad : Addr) (k : K) (h : At y ad k) : At y.Gives (ad.add 1) k :=
  have h0 : At (y.Volumes, y.Gives) ad k := h
  At.snd' (At.zero h0)
theorem ty71 : Ty Tryz.prog 71 (List Entry) := ⟨⟨_, Tryz.underlying71, rfl⟩, by kernel_rfl⟩
theorem ty87 : Ty Tryz.prog 87 Entry := ⟨⟨_, Tryz.underlying87, rfl⟩, by kernel_rfl⟩
theorem z87 : Zero Tryz.prog 87 ((⟨(⟨#[]⟩ : ByteArray), 0⟩ : Entry) : Entry) := ⟨_, Tryz.zeroValue87, fun _ => ⟨_, rfl, ⟨rfl, rfl, rfl⟩⟩⟩
theorem szf87 : (Tryz.prog.info? 87).map (·.size) = some (Enc.sz Entry) := by kernel_rfl
theorem fo87_0 : FieldOk Tryz.prog 87 0 0 := ⟨_, _, 0, Tryz.underlying87, rfl, rfl, by kernel_rfl⟩
theorem at_Entry_0 (y : Entry) (ad : Addr) (k : K) (h : At y ad k) : At y.Name (ad.add 0) k :=
  have h0 : At (y.Name, y.N) ad k := h
  At.fst (At.zero h0)
theorem ty9 : Ty Tryz.prog 9 ByteArray := ⟨⟨_, Tryz.underlying9, rfl⟩, by kernel_rfl⟩
theorem key9 : KeyOk Tryz.prog 9 (KeyV.kv (κ := ByteArray)) := keyStr Tryz.underlying9
theorem z4 : Zero Tryz.prog 4 (false : Bool) := ⟨_, Tryz.zeroValue4, fun _ => ⟨_, rfl, rfl⟩⟩
theorem fo87_1 : FieldOk Tryz.prog 87 1 1 := ⟨_, _, 0, Tryz.underlying87, rfl, rfl, by kernel_rfl⟩
theorem at_Entry_1 (y : Entry) (ad : Addr) (k : K) (h : At y ad k) : At y.N (ad.add 1) k :=
  have h0 : At (y.Name, y.N) ad k := h
  At.snd' (At.zero h0)
theorem eo3 : ElemOk Tryz.prog 3 Int := ⟨_, _, rfl, rfl, rfl, rfl, by decide, by decide⟩
theorem eo87 : ElemOk Tryz.prog 87 Entry := ⟨_, _, rfl, rfl, rfl, rfl, by decide, by decide⟩
theorem bld73_0_1 {k : K} {v0 v1 : Value} {x0 : (List Volume)} {x1 : (List Entry)} (h0 : IsV x0 v0 k) (h1 : IsV x1 v1 k) : ∃ v, (∀ w, (Instr.build 73 #[(0, v0), (1, v1)]).run Tryz.prog w = .ok v w) ∧ IsV (⟨x0, x1⟩ : Phase) v k := by
  obtain ⟨l0, e0, r0, n0⟩ := isV_cellsL h0
  obtain ⟨u0_0, rfl⟩ := len1 n0
  obtain ⟨l1, e1, r1, n1⟩ := isV_cellsL h1
  obtain ⟨u1_0, rfl⟩ := len1 n1
  refine ⟨.agg #[u0_0, u1_0], fun w => ?_, [u0_0, u1_0], rfl, ⟨rfl, r0, r1⟩⟩
  simp [Instr.build, Instr.fill, cells_agg, e0, e1]
theorem szf3 : (Tryz.prog.info? 3).map (·.size) = some (Enc.sz Int) := by kernel_rfl
theorem fo30_3 : FieldOk Tryz.prog 30 3 3 := ⟨_, _, 0, Tryz.underlying30, rfl, rfl, by kernel_rfl⟩
theorem at_Plan_3 (y : Plan) (ad : Addr) (k : K) (h : At y ad k) : At y.Rules (ad.add 3) k :=
  have h0 : At (y.Defs, y.Tables, y.Zones, y.Rules, y.Caps, y.Views, y.Sun, y.Hours) ad k := h
  At.fst (At.snd' (At.snd' (At.snd' (At.zero h0))))
theorem ty25 : Ty Tryz.prog 25 (List Rule) := ⟨⟨_, Tryz.underlying25, rfl⟩, by kernel_rfl⟩
theorem ty133 : Ty Tryz.prog 133 Rule := ⟨⟨_, Tryz.underlying133, rfl⟩, by kernel_rfl⟩
theorem z133 : Zero Tryz.prog 133 ((⟨(⟨#[]⟩ : ByteArray), [], [], 0, 0, 0, false, 0, (⟨0, 0, (⟨#[]⟩ : ByteArray), (⟨#[]⟩ : ByteArray), (⟨⟩ : Opq)⟩ : Expr), (⟨0, 0, 0, 0⟩ : Plane), 0, 0, 0⟩ : Rule) : Rule) := ⟨_, Tryz.zeroValue133, fun _ => ⟨_, rfl, ⟨rfl, rfl, ⟨rfl, ⟨_, rfl, .inl ⟨rfl, rfl⟩⟩, ⟨rfl, ⟨_, rfl, .inl ⟨rfl, rfl⟩⟩, ⟨rfl, rfl, ⟨rfl, rfl, ⟨rfl, rfl, ⟨rfl, rfl, ⟨rfl, rfl, ⟨rfl, ⟨rfl, rfl, ⟨rfl, rfl, ⟨rfl, rfl, ⟨rfl, rfl, ⟨_, rfl, rfl⟩⟩⟩⟩⟩, ⟨rfl, ⟨rfl, rfl, ⟨rfl, rfl, ⟨rfl, rfl, rfl⟩⟩⟩, ⟨rfl, rfl, ⟨rfl, rfl, rfl⟩⟩⟩⟩⟩⟩⟩⟩⟩⟩⟩⟩⟩⟩
theorem szf133 : (Tryz.prog.info? 133).map (·.size) = some (Enc.sz Rule) := by kernel_rfl
theorem fo133_3 : FieldOk Tryz.prog 133 3 3 := ⟨_, _, 0, Tryz.underlying133, rfl, rfl, by kernel_rfl⟩
theorem at_Rule_3 (y : Rule) (ad : Addr) (k : K) (h : At y ad k) : At y.From (ad.add 3) k :=
  have h0 : At (y.Name, y.Zones, y.Except, y.From, y.Until, y.Grace, y.Vary, y.Kind, y.Test, y.Plane, y.Uses, y.Other, y.N) ad k := h
  At.fst (At.snd' (At.snd' (At.snd' (At.zero h0))))
theorem fo133_5 : FieldOk Tryz.prog 133 5 5 := ⟨_, _, 0, Tryz.underlying133, rfl, rfl, by kernel_rfl⟩
theorem at_Rule_5 (y : Rule) (ad : Addr) (k : K) (h : At y ad k) : At y.Grace (ad.add 5) k :=
  have h0 : At (y.Name, y.Zones, y.Except, y.From, y.Until, y.Grace, y.Vary, y.Kind, y.Test, y.Plane, y.Uses, y.Other, y.N) ad k := h
  At.fst (At.snd' (At.snd' (At.snd' (At.snd' (At.snd' (At.zero h0))))))
theorem z54 : Zero Tryz.prog 54 ((⟨0, []⟩ : Drawing) : Drawing) := ⟨_, Tryz.zeroValue54, fun _ => ⟨_, rfl, ⟨rfl, rfl, ⟨_, rfl, .inl ⟨rfl, rfl⟩⟩⟩⟩⟩
theorem szf54 : (Tryz.prog.info? 54).map (·.size) = some (Enc.sz Drawing) := by kernel_rfl
theorem upd_F79_2 : Upd (α := Box) (β := Int) (0 + 5) (fun x y => { x with Z1 := y }) := fun k cs cy x y hx hy => (Upd.snd (Upd.snd Upd.self)) k cs cy (x.Base, x.Z0, x.Z1) y hx hy
theorem upd_F81_0_F79_2 : Upd (α := Volume) (β := Int) (0 + 0 + 5) (fun x y => { x with Box := { x.Box with Z1 := y } }) := fun k cs cy x y hx hy => (Upd.fst upd_F79_2) k cs cy (x.Box, x.Use, x.Units, x.Extra) y hx hy
theorem upd_F81_2 : Upd (α := Volume) (β := Int) (0 + 7) (fun x y => { x with Units := y }) := fun k cs cy x y hx hy => (Upd.snd (Upd.snd (Upd.fst Upd.self))) k cs cy (x.Box, x.Use, x.Units, x.Extra) y hx hy
theorem eq81 : EqOk Tryz.prog 81 Volume := by
  refine ⟨by kernel_rfl, fun k x y u v hx hy => ?_⟩
  obtain ⟨csx, ex, rx⟩ := hx
  have fx : csx = [.int .i64 x.Box.Base.X0, .int .i64 x.Box.Base.Y0, .int .i64 x.Box.Base.X1, .int .i64 x.Box.Base.Y1, .int .i64 x.Box.Z0, .int .i64 x.Box.Z1, .int .i64 x.Use, .int .i64 x.Units, .bool x.Extra] := by
    have hl := Enc.len rx
    obtain ⟨u0, u1, u2, u3, u4, u5, u6, u7, u8, rfl⟩ := len9 hl
    obtain ⟨_, ⟨_, ⟨_, qx0, ⟨_, qx1, ⟨_, qx2, qx3⟩⟩⟩, ⟨_, qx4, qx5⟩⟩, ⟨_, qx6, ⟨_, qx7, qx8⟩⟩⟩ := rx
    have qx0 : u0 = .int .i64 x.Box.Base.X0 := hd1 (show [u0] = [.int .i64 x.Box.Base.X0] from qx0)
    have qx1 : u1 = .int .i64 x.Box.Base.Y0 := hd1 (show [u1] = [.int .i64 x.Box.Base.Y0] from qx1)
    have qx2 : u2 = .int .i64 x.Box.Base.X1 := hd1 (show [u2] = [.int .i64 x.Box.Base.X1] from qx2)
    have qx3 : u3 = .int .i64 x.Box.Base.Y1 := hd1 (show [u3] = [.int .i64 x.Box.Base.Y1] from qx3)
    have qx4 : u4 = .int .i64 x.Box.Z0 := hd1 (show [u4] = [.int .i64 x.Box.Z0] from qx4)
    have qx5 : u5 = .int .i64 x.Box.Z1 := hd1 (show [u5] = [.int .i64 x.Box.Z1] from qx5)
    have qx6 : u6 = .int .i64 x.Use := hd1 (show [u6] = [.int .i64 x.Use] from qx6)
    have qx7 : u7 = .int .i64 x.Units := hd1 (show [u7] = [.int .i64 x.Units] from qx7)
    have qx8 : u8 = .bool x.Extra := hd1 (show [u8] = [.bool x.Extra] from qx8)
    rw [qx0, qx1, qx2, qx3, qx4, qx5, qx6, qx7, qx8]
  obtain ⟨csy, ey, ry⟩ := hy
  have fy : csy = [.int .i64 y.Box.Base.X0, .int .i64 y.Box.Base.Y0, .int .i64 y.Box.Base.X1, .int .i64 y.Box.Base.Y1, .int .i64 y.Box.Z0, .int .i64 y.Box.Z1, .int .i64 y.Use, .int .i64 y.Units, .bool y.Extra] := by
    have hl := Enc.len ry
    obtain ⟨u0, u1, u2, u3, u4, u5, u6, u7, u8, rfl⟩ := len9 hl
    obtain ⟨_, ⟨_, ⟨_, qy0, ⟨_, qy1, ⟨_, qy2, qy3⟩⟩⟩, ⟨_, qy4, qy5⟩⟩, ⟨_, qy6, ⟨_, qy7, qy8⟩⟩⟩ := ry
    have qy0 : u0 = .int .i64 y.Box.Base.X0 := hd1 (show [u0] = [.int .i64 y.Box.Base.X0] from qy0)
    have qy1 : u1 = .int .i64 y.Box.Base.Y0 := hd1 (show [u1] = [.int .i64 y.Box.Base.Y0] from qy1)
    have qy2 : u2 = .int .i64 y.Box.Base.X1 := hd1 (show [u2] = [.int .i64 y.Box.Base.X1] from qy2)
    have qy3 : u3 = .int .i64 y.Box.Base.Y1 := hd1 (show [u3] = [.int .i64 y.Box.Base.Y1] from qy3)
    have qy4 : u4 = .int .i64 y.Box.Z0 := hd1 (show [u4] = [.int .i64 y.Box.Z0] from qy4)
    have qy5 : u5 = .int .i64 y.Box.Z1 := hd1 (show [u5] = [.int .i64 y.Box.Z1] from qy5)
    have qy6 : u6 = .int .i64 y.Use := hd1 (show [u6] = [.int .i64 y.Use] from qy6)
    have qy7 : u7 = .int .i64 y.Units := hd1 (show [u7] = [.int .i64 y.Units] from qy7)
    have qy8 : u8 = .bool y.Extra := hd1 (show [u8] = [.bool y.Extra] from qy8)
    rw [qy0, qy1, qy2, qy3, qy4, qy5, qy6, qy7, qy8]
  subst fx; subst fy; subst ex; subst ey
  refine ⟨⟨_, rfl⟩, ⟨_, rfl⟩, fun w => ?_⟩
  show (Op.equalIn (9996 + 1 + 1 + 1 + 1) 81 (.agg #[.int .i64 x.Box.Base.X0, .int .i64 x.Box.Base.Y0, .int .i64 x.Box.Base.X1, .int .i64 x.Box.Base.Y1, .int .i64 x.Box.Z0, .int .i64 x.Box.Z1, .int .i64 x.Use, .int .i64 x.Units, .bool x.Extra]) (.agg #[.int .i64 y.Box.Base.X0, .int .i64 y.Box.Base.Y0, .int .i64 y.Box.Base.X1, .int .i64 y.Box.Base.Y1, .int .i64 y.Box.Z0, .int .i64 y.Box.Z1, .int .i64 y.Use, .int .i64 y.Units, .bool y.Extra])).run Tryz.prog w = _
  rw [run_equalIn_struct w _ 81 _ _ (by kernel_rfl) Tryz.stoodInHeld81]
  generalize 9996 = d
  simp [Program.fieldsOf, Op.eqFields, part, aggOf, ← beq_toListBytes, run_isAgg Tryz.underlying3, run_equalIn_int w d 3 .i64 .i64 _ _ Tryz.underlying3, run_equalIn_int w (d + 1) 3 .i64 .i64 _ _ Tryz.underlying3, run_equalIn_int w (d + 2) 3 .i64 .i64 _ _ Tryz.underlying3, run_isAgg Tryz.underlying4, run_equalIn_bool w d 4 _ _ Tryz.underlying4, run_equalIn_bool w (d + 1) 4 _ _ Tryz.underlying4, run_equalIn_bool w (d + 2) 4 _ _ Tryz.underlying4, run_isAgg Tryz.underlying77, run_equalIn_struct w _ 77 _ _ (by kernel_rfl) Tryz.stoodInHeld77, run_isAgg Tryz.underlying79, run_equalIn_struct w _ 79 _ _ (by kernel_rfl) Tryz.stoodInHeld79]
  obtain ⟨⟨⟨a0, a1, a2, a3⟩, a4, a5⟩, a6, a7, a8⟩ := x
  obtain ⟨⟨⟨b0, b1, b2, b3⟩, b4, b5⟩, b6, b7, b8⟩ := y
  simp only [Volume.mk.injEq, Box.mk.injEq, Rect.mk.injEq]
  by_cases h0 : a0 = b0
  rotate_left
  · simp [h0]
  subst h0
  by_cases h1 : a1 = b1
  rotate_left
  · simp [h1]
  subst h1
  by_cases h2 : a2 = b2
  rotate_left
  · simp [h2]
  subst h2
  by_cases h3 : a3 = b3
  rotate_left
  · simp [h3]
  subst h3
  by_cases h4 : a4 = b4
  rotate_left
  · simp [h4]
  subst h4
  by_cases h5 : a5 = b5
  rotate_left
  · simp [h5]
  subst h5
  by_cases h6 : a6 = b6
  rotate_left
  · simp [h6]
  subst h6
  by_cases h7 : a7 = b7
  rotate_left
  · simp [h7]
  subst h7
  by_cases h8 : a8 = b8
  rotate_left
  · simp [h8]
  subst h8
  simp
theorem eq87 : EqOk Tryz.prog 87 Entry := by
  refine ⟨by kernel_rfl, fun k x y u v hx hy => ?_⟩
  obtain ⟨csx, ex, rx⟩ := hx
  have fx : csx = [.string x.Name, .int .i64 x.N] := by
    have hl := Enc.len rx
    obtain ⟨u0, u1, rfl⟩ := len2 hl
    obtain ⟨_, qx0, qx1⟩ := rx
    have qx0 : u0 = .string x.Name := hd1 (show [u0] = [.string x.Name] from qx0)
    have qx1 : u1 = .int .i64 x.N := hd1 (show [u1] = [.int .i64 x.N] from qx1)
    rw [qx0, qx1]
  obtain ⟨csy, ey, ry⟩ := hy
  have fy : csy = [.string y.Name, .int .i64 y.N] := by
    have hl := Enc.len ry
    obtain ⟨u0, u1, rfl⟩ := len2 hl
    obtain ⟨_, qy0, qy1⟩ := ry
    have qy0 : u0 = .string y.Name := hd1 (show [u0] = [.string y.Name] from qy0)
    have qy1 : u1 = .int .i64 y.N := hd1 (show [u1] = [.int .i64 y.N] from qy1)
    rw [qy0, qy1]
  subst fx; subst fy; subst ex; subst ey
  refine ⟨⟨_, rfl⟩, ⟨_, rfl⟩, fun w => ?_⟩
  show (Op.equalIn (9998 + 1 + 1) 87 (.agg #[.string x.Name, .int .i64 x.N]) (.agg #[.string y.Name, .int .i64 y.N])).run Tryz.prog w = _
  rw [run_equalIn_struct w _ 87 _ _ (by kernel_rfl) Tryz.stoodInHeld87]
  generalize 9998 = d
  simp [Program.fieldsOf, Op.eqFields, part, aggOf, ← beq_toListBytes, run_isAgg Tryz.underlying3, run_equalIn_int w d 3 .i64 .i64 _ _ Tryz.underlying3, run_isAgg Tryz.underlying9, run_equalIn_string w d 9 _ _ Tryz.underlying9]
  obtain ⟨a0, a1⟩ := x
  obtain ⟨b0, b1⟩ := y
  simp only [Entry.mk.injEq]
  by_cases h0 : a0 = b0
  rotate_left
  · simp [h0, beqBA]
  subst h0
  by_cases h1 : a1 = b1
  rotate_left
  · simp [h1, beqBA]
  subst h1
  simp [beqBA]
theorem ty55 : Ty Tryz.prog 55 (List Slab) := ⟨⟨_, Tryz.underlying55, rfl⟩, by kernel_rfl⟩
theorem ty111 : Ty Tryz.prog 111 Slab := ⟨⟨_, Tryz.underlying111, rfl⟩, by kernel_rfl⟩
theorem z111 : Zero Tryz.prog 111 ((⟨0, 0, []⟩ : Slab) : Slab) := ⟨_, Tryz.zeroValue111, fun _ => ⟨_, rfl, ⟨rfl, rfl, ⟨rfl, rfl, ⟨_, rfl, .inl ⟨rfl, rfl⟩⟩⟩⟩⟩⟩
theorem szf111 : (Tryz.prog.info? 111).map (·.size) = some (Enc.sz Slab) := by kernel_rfl
theorem fo111_0 : FieldOk Tryz.prog 111 0 0 := ⟨_, _, 0, Tryz.underlying111, rfl, rfl, by kernel_rfl⟩
theorem at_Slab_0 (y : Slab) (ad : Addr) (k : K) (h : At y ad k) : At y.Z0 (ad.add 0) k :=
  have h0 : At (y.Z0, y.Z1, y.Area) ad k := h
  At.fst (At.zero h0)
theorem fo111_1 : FieldOk Tryz.prog 111 1 1 := ⟨_, _, 0, Tryz.underlying111, rfl, rfl, by kernel_rfl⟩
theorem at_Slab_1 (y : Slab) (ad : Addr) (k : K) (h : At y ad k) : At y.Z1 (ad.add 1) k :=
  have h0 : At (y.Z0, y.Z1, y.Area) ad k := h
  At.fst (At.snd' (At.zero h0))
theorem eo77 : ElemOk Tryz.prog 77 Rect := ⟨_, _, rfl, rfl, rfl, rfl, by decide, by decide⟩
theorem ty109 : Ty Tryz.prog 109 (List Rect) := ⟨⟨_, Tryz.underlying109, rfl⟩, by kernel_rfl⟩
theorem fo157_0 : FieldOk Tryz.prog 157 0 0 := ⟨_, _, 0, Tryz.underlying157, rfl, rfl, by kernel_rfl⟩
theorem at_RegionSpan_0 (y : RegionSpan) (ad : Addr) (k : K) (h : At y ad k) : At y.from_ (ad.add 0) k :=
  have h0 : At (y.from_, y.to_) ad k := h
  At.fst (At.zero h0)
theorem ty157 : Ty Tryz.prog 157 RegionSpan := ⟨⟨_, Tryz.underlying157, rfl⟩, by kernel_rfl⟩
theorem szf157 : (Tryz.prog.info? 157).map (·.size) = some (Enc.sz RegionSpan) := by kernel_rfl
theorem bld157_0_1 {k : K} {v0 v1 : Value} {x0 : Int} {x1 : Int} (h0 : IsV x0 v0 k) (h1 : IsV x1 v1 k) : ∃ v, (∀ w, (Instr.build 157 #[(0, v0), (1, v1)]).run Tryz.prog w = .ok v w) ∧ IsV (⟨x0, x1⟩ : RegionSpan) v k := by
  obtain ⟨l0, e0, r0, n0⟩ := isV_cellsL h0
  obtain ⟨u0_0, rfl⟩ := len1 n0
  obtain ⟨l1, e1, r1, n1⟩ := isV_cellsL h1
  obtain ⟨u1_0, rfl⟩ := len1 n1
  refine ⟨.agg #[u0_0, u1_0], fun w => ?_, [u0_0, u1_0], rfl, ⟨rfl, r0, r1⟩⟩
  simp [Instr.build, Instr.fill, cells_agg, e0, e1]
theorem eo157 : ElemOk Tryz.prog 157 RegionSpan := ⟨_, _, rfl, rfl, rfl, rfl, by decide, by decide⟩
theorem z157 : Zero Tryz.prog 157 ((⟨0, 0⟩ : RegionSpan) : RegionSpan) := ⟨_, Tryz.zeroValue157, fun _ => ⟨_, rfl, ⟨rfl, rfl, rfl⟩⟩⟩
theorem fo157_1 : FieldOk Tryz.prog 157 1 1 := ⟨_, _, 0, Tryz.underlying157, rfl, rfl, by kernel_rfl⟩
theorem at_RegionSpan_1 (y : RegionSpan) (ad : Addr) (k : K) (h : At y ad k) : At y.to_ (ad.add 1) k :=
  have h0 : At (y.from_, y.to_) ad k := h
  At.snd' (At.zero h0)
theorem upd_F157_1 : Upd (α := RegionSpan) (β := Int) (0 + 1) (fun x y => { x with to_ := y }) := fun k cs cy x y hx hy => (Upd.snd Upd.self) k cs cy (x.from_, x.to_) y hx hy
theorem bld148_0_1_2 {k : K} {v0 v1 v2 : Value} {x0 : Int} {x1 : Int} {x2 : (List RegionSpan)} (h0 : IsV x0 v0 k) (h1 : IsV x1 v1 k) (h2 : IsV x2 v2 k) : ∃ v, (∀ w, (Instr.build 148 #[(0, v0), (1, v1), (2, v2)]).run Tryz.prog w = .ok v w) ∧ IsV (⟨x0, x1, x2⟩ : RegionStrip) v k := by
  obtain ⟨l0, e0, r0, n0⟩ := isV_cellsL h0
  obtain ⟨u0_0, rfl⟩ := len1 n0
  obtain ⟨l1, e1, r1, n1⟩ := isV_cellsL h1
  obtain ⟨u1_0, rfl⟩ := len1 n1
  obtain ⟨l2, e2, r2, n2⟩ := isV_cellsL h2
  obtain ⟨u2_0, rfl⟩ := len1 n2
  refine ⟨.agg #[u0_0, u1_0, u2_0], fun w => ?_, [u0_0, u1_0, u2_0], rfl, ⟨rfl, r0, ⟨rfl, r1, r2⟩⟩⟩
  simp [Instr.build, Instr.fill, cells_agg, e0, e1, e2]
theorem eo148 : ElemOk Tryz.prog 148 RegionStrip := ⟨_, _, rfl, rfl, rfl, rfl, by decide, by decide⟩
theorem eq157 : EqOk Tryz.prog 157 RegionSpan := by
  refine ⟨by kernel_rfl, fun k x y u v hx hy => ?_⟩
  obtain ⟨csx, ex, rx⟩ := hx
  have fx : csx = [.int .i64 x.from_, .int .i64 x.to_] := by
    have hl := Enc.len rx
    obtain ⟨u0, u1, rfl⟩ := len2 hl
    obtain ⟨_, qx0, qx1⟩ := rx
    have qx0 : u0 = .int .i64 x.from_ := hd1 (show [u0] = [.int .i64 x.from_] from qx0)
    have qx1 : u1 = .int .i64 x.to_ := hd1 (show [u1] = [.int .i64 x.to_] from qx1)
    rw [qx0, qx1]
  obtain ⟨csy, ey, ry⟩ := hy
  have fy : csy = [.int .i64 y.from_, .int .i64 y.to_] := by
    have hl := Enc.len ry
    obtain ⟨u0, u1, rfl⟩ := len2 hl
    obtain ⟨_, qy0, qy1⟩ := ry
    have qy0 : u0 = .int .i64 y.from_ := hd1 (show [u0] = [.int .i64 y.from_] from qy0)
    have qy1 : u1 = .int .i64 y.to_ := hd1 (show [u1] = [.int .i64 y.to_] from qy1)
    rw [qy0, qy1]
  subst fx; subst fy; subst ex; subst ey
  refine ⟨⟨_, rfl⟩, ⟨_, rfl⟩, fun w => ?_⟩
  show (Op.equalIn (9998 + 1 + 1) 157 (.agg #[.int .i64 x.from_, .int .i64 x.to_]) (.agg #[.int .i64 y.from_, .int .i64 y.to_])).run Tryz.prog w = _
  rw [run_equalIn_struct w _ 157 _ _ (by kernel_rfl) Tryz.stoodInHeld157]
  generalize 9998 = d
  simp [Program.fieldsOf, Op.eqFields, part, aggOf, ← beq_toListBytes, run_isAgg Tryz.underlying3, run_equalIn_int w d 3 .i64 .i64 _ _ Tryz.underlying3]
  obtain ⟨a0, a1⟩ := x
  obtain ⟨b0, b1⟩ := y
  simp only [RegionSpan.mk.injEq]
  by_cases h0 : a0 = b0
  rotate_left
  · simp [h0]
  subst h0
  by_cases h1 : a1 = b1
  rotate_left
  · simp [h1]
  subst h1
  simp
theorem ty148 : Ty Tryz.prog 148 RegionStrip := ⟨⟨_, Tryz.underlying148, rfl⟩, by kernel_rfl⟩
theorem fo148_2 : FieldOk Tryz.prog 148 2 2 := ⟨_, _, 0, Tryz.underlying148, rfl, rfl, by kernel_rfl⟩
theorem at_RegionStrip_2 (y : RegionStrip) (ad : Addr) (k : K) (h : At y ad k) : At y.column (ad.add 2) k :=
  have h0 : At (y.x0, y.x1, y.column) ad k := h
  At.snd' (At.snd' (At.zero h0))
theorem ty146 : Ty Tryz.prog 146 (List RegionSpan) := ⟨⟨_, Tryz.underlying146, rfl⟩, by kernel_rfl⟩
theorem fo148_0 : FieldOk Tryz.prog 148 0 0 := ⟨_, _, 0, Tryz.underlying148, rfl, rfl, by kernel_rfl⟩
theorem at_RegionStrip_0 (y : RegionStrip) (ad : Addr) (k : K) (h : At y ad k) : At y.x0 (ad.add 0) k :=
  have h0 : At (y.x0, y.x1, y.column) ad k := h
  At.fst (At.zero h0)
theorem eo109 : ElemOk Tryz.prog 109 (List Rect) := ⟨_, _, rfl, rfl, rfl, rfl, by decide, by decide⟩
theorem eq77 : EqOk Tryz.prog 77 Rect := by
  refine ⟨by kernel_rfl, fun k x y u v hx hy => ?_⟩
  obtain ⟨csx, ex, rx⟩ := hx
  have fx : csx = [.int .i64 x.X0, .int .i64 x.Y0, .int .i64 x.X1, .int .i64 x.Y1] := by
    have hl := Enc.len rx
    obtain ⟨u0, u1, u2, u3, rfl⟩ := len4 hl
    obtain ⟨_, qx0, ⟨_, qx1, ⟨_, qx2, qx3⟩⟩⟩ := rx
    have qx0 : u0 = .int .i64 x.X0 := hd1 (show [u0] = [.int .i64 x.X0] from qx0)
    have qx1 : u1 = .int .i64 x.Y0 := hd1 (show [u1] = [.int .i64 x.Y0] from qx1)
    have qx2 : u2 = .int .i64 x.X1 := hd1 (show [u2] = [.int .i64 x.X1] from qx2)
    have qx3 : u3 = .int .i64 x.Y1 := hd1 (show [u3] = [.int .i64 x.Y1] from qx3)
    rw [qx0, qx1, qx2, qx3]
  obtain ⟨csy, ey, ry⟩ := hy
  have fy : csy = [.int .i64 y.X0, .int .i64 y.Y0, .int .i64 y.X1, .int .i64 y.Y1] := by
    have hl := Enc.len ry
    obtain ⟨u0, u1, u2, u3, rfl⟩ := len4 hl
    obtain ⟨_, qy0, ⟨_, qy1, ⟨_, qy2, qy3⟩⟩⟩ := ry
    have qy0 : u0 = .int .i64 y.X0 := hd1 (show [u0] = [.int .i64 y.X0] from qy0)
    have qy1 : u1 = .int .i64 y.Y0 := hd1 (show [u1] = [.int .i64 y.Y0] from qy1)
    have qy2 : u2 = .int .i64 y.X1 := hd1 (show [u2] = [.int .i64 y.X1] from qy2)
    have qy3 : u3 = .int .i64 y.Y1 := hd1 (show [u3] = [.int .i64 y.Y1] from qy3)
    rw [qy0, qy1, qy2, qy3]
  subst fx; subst fy; subst ex; subst ey
  refine ⟨⟨_, rfl⟩, ⟨_, rfl⟩, fun w => ?_⟩
  show (Op.equalIn (9998 + 1 + 1) 77 (.agg #[.int .i64 x.X0, .int .i64 x.Y0, .int .i64 x.X1, .int .i64 x.Y1]) (.agg #[.int .i64 y.X0, .int .i64 y.Y0, .int .i64 y.X1, .int .i64 y.Y1])).run Tryz.prog w = _
  rw [run_equalIn_struct w _ 77 _ _ (by kernel_rfl) Tryz.stoodInHeld77]
  generalize 9998 = d
  simp [Program.fieldsOf, Op.eqFields, part, aggOf, ← beq_toListBytes, run_isAgg Tryz.underlying3, run_equalIn_int w d 3 .i64 .i64 _ _ Tryz.underlying3]
  obtain ⟨a0, a1, a2, a3⟩ := x
  obtain ⟨b0, b1, b2, b3⟩ := y
  simp only [Rect.mk.injEq]
  by_cases h0 : a0 = b0
  rotate_left
  · simp [h0]
  subst h0
  by_cases h1 : a1 = b1
  rotate_left
  · simp [h1]
  subst h1
  by_cases h2 : a2 = b2
  rotate_left
  · simp [h2]
  subst h2
  by_cases h3 : a3 = b3
  rotate_left
  · simp [h3]
  subst h3
  simp
theorem fo111_2 : FieldOk Tryz.prog 111 2 2 := ⟨_, _, 0, Tryz.underlying111, rfl, rfl, by kernel_rfl⟩
theorem at_Slab_2 (y : Slab) (ad : Addr) (k : K) (h : At y ad k) : At y.Area (ad.add 2) k :=
  have h0 : At (y.Z0, y.Z1, y.Area) ad k := h
  At.snd' (At.snd' (At.zero h0))
theorem upd_F111_1 : Upd (α := Slab) (β := Int) (0 + 1) (fun x y => { x with Z1 := y }) := fun k cs cy x y hx hy => (Upd.snd (Upd.fst Upd.self)) k cs cy (x.Z0, x.Z1, x.Area) y hx hy
theorem eo111 : ElemOk Tryz.prog 111 Slab := ⟨_, _, rfl, rfl, rfl, rfl, by decide, by decide⟩
theorem bld111_0_1 {k : K} {v0 v1 : Value} {x0 : Int} {x1 : Int} (h0 : IsV x0 v0 k) (h1 : IsV x1 v1 k) : ∃ v, (∀ w, (Instr.build 111 #[(0, v0), (1, v1)]).run Tryz.prog w = .ok v w) ∧ IsV (⟨x0, x1, []⟩ : Slab) v k := by
  obtain ⟨l0, e0, r0, n0⟩ := isV_cellsL h0
  obtain ⟨u0_0, rfl⟩ := len1 n0
  obtain ⟨l1, e1, r1, n1⟩ := isV_cellsL h1
  obtain ⟨u1_0, rfl⟩ := len1 n1
  refine ⟨.agg #[u0_0, u1_0, .slice none 0 0], fun w => ?_, [u0_0, u1_0, .slice none 0 0], rfl, ⟨rfl, r0, ⟨rfl, r1, ⟨_, rfl, .inl ⟨rfl, rfl⟩⟩⟩⟩⟩
  simp [Instr.build, Instr.fill, cells_agg, e0, e1]
theorem eo55 : ElemOk Tryz.prog 55 (List Slab) := ⟨_, _, rfl, rfl, rfl, rfl, by decide, by decide⟩
theorem bld111_0_1_2 {k : K} {v0 v1 v2 : Value} {x0 : Int} {x1 : Int} {x2 : (List Rect)} (h0 : IsV x0 v0 k) (h1 : IsV x1 v1 k) (h2 : IsV x2 v2 k) : ∃ v, (∀ w, (Instr.build 111 #[(0, v0), (1, v1), (2, v2)]).run Tryz.prog w = .ok v w) ∧ IsV (⟨x0, x1, x2⟩ : Slab) v k := by
  obtain ⟨l0, e0, r0, n0⟩ := isV_cellsL h0
  obtain ⟨u0_0, rfl⟩ := len1 n0
  obtain ⟨l1, e1, r1, n1⟩ := isV_cellsL h1
  obtain ⟨u1_0, rfl⟩ := len1 n1
  obtain ⟨l2, e2, r2, n2⟩ := isV_cellsL h2
  obtain ⟨u2_0, rfl⟩ := len1 n2
  refine ⟨.agg #[u0_0, u1_0, u2_0], fun w => ?_, [u0_0, u1_0, u2_0], rfl, ⟨rfl, r0, ⟨rfl, r1, r2⟩⟩⟩
  simp [Instr.build, Instr.fill, cells_agg, e0, e1, e2]
theorem eo146 : ElemOk Tryz.prog 146 (List RegionSpan) := ⟨_, _, rfl, rfl, rfl, rfl, by decide, by decide⟩
theorem z148 : Zero Tryz.prog 148 ((⟨0, 0, []⟩ : RegionStrip) : RegionStrip) := ⟨_, Tryz.zeroValue148, fun _ => ⟨_, rfl, ⟨rfl, rfl, ⟨rfl, rfl, ⟨_, rfl, .inl ⟨rfl, rfl⟩⟩⟩⟩⟩⟩
theorem szf148 : (Tryz.prog.info? 148).map (·.size) = some (Enc.sz RegionStrip) := by kernel_rfl
theorem upd_F148_2 : Upd (α := RegionStrip) (β := (List RegionSpan)) (0 + 2) (fun x y => { x with column := y }) := fun k cs cy x y hx hy => (Upd.snd (Upd.snd Upd.self)) k cs cy (x.x0, x.x1, x.column) y hx hy
theorem szf146 : (Tryz.prog.info? 146).map (·.size) = some (Enc.sz (List RegionSpan)) := by kernel_rfl
theorem rd3 : Rd Tryz.prog 3 Int := rd_int Tryz.underlying3
instance : Rg Rect := Rg.ofMap fun x => (x.X0, x.Y0, x.X1, x.Y1)
theorem rd77 : Rd Tryz.prog 77 Rect := rd_struct (f := fun x => (x.X0, x.Y0, x.X1, x.Y1)) (fun y => ⟨y.1, y.2.1, y.2.2.1, y.2.2.2⟩) Tryz.underlying77 (by kernel_rfl) rfl (fun _ _ _ h => h) (fun _ h => h) (RdF.cons rfl (by kernel_rfl) rd3 (RdF.cons rfl (by kernel_rfl) rd3 (RdF.cons rfl (by kernel_rfl) rd3 (RdF.one rfl (by kernel_rfl) rd3)))) (fun _ => rfl)
instance : Rg Box := Rg.ofMap fun x => (x.Base, x.Z0, x.Z1)
theorem rd79 : Rd Tryz.prog 79 Box := rd_struct (f := fun x => (x.Base, x.Z0, x.Z1)) (fun y => ⟨y.1, y.2.1, y.2.2⟩) Tryz.underlying79 (by kernel_rfl) rfl (fun _ _ _ h => h) (fun _ h => h) (RdF.cons rfl (by kernel_rfl) rd77 (RdF.cons rfl (by kernel_rfl) rd3 (RdF.one rfl (by kernel_rfl) rd3))) (fun _ => rfl)
theorem rd4 : Rd Tryz.prog 4 Bool := rd_bool Tryz.underlying4
instance : Rg Volume := Rg.ofMap fun x => (x.Box, x.Use, x.Units, x.Extra)
theorem rd81 : Rd Tryz.prog 81 Volume := rd_struct (f := fun x => (x.Box, x.Use, x.Units, x.Extra)) (fun y => ⟨y.1, y.2.1, y.2.2.1, y.2.2.2⟩) Tryz.underlying81 (by kernel_rfl) rfl (fun _ _ _ h => h) (fun _ h => h) (RdF.cons rfl (by kernel_rfl) rd79 (RdF.cons rfl (by kernel_rfl) rd3 (RdF.cons rfl (by kernel_rfl) rd3 (RdF.one rfl (by kernel_rfl) rd4)))) (fun _ => rfl)
theorem rd70 : Rd Tryz.prog 70 (List Volume) := rd_slice Tryz.underlying70 (by kernel_rfl) (by decide) rd81
theorem rd9 : Rd Tryz.prog 9 ByteArray := rd_string Tryz.underlying9
instance : Rg Entry := Rg.ofMap fun x => (x.Name, x.N)
theorem rd87 : Rd Tryz.prog 87 Entry := rd_struct (f := fun x => (x.Name, x.N)) (fun y => ⟨y.1, y.2⟩) Tryz.underlying87 (by kernel_rfl) rfl (fun _ _ _ h => h) (fun _ h => h) (RdF.cons rfl (by kernel_rfl) rd9 (RdF.one rfl (by kernel_rfl) rd3)) (fun _ => rfl)
theorem rd71 : Rd Tryz.prog 71 (List Entry) := rd_slice Tryz.underlying71 (by kernel_rfl) (by decide) rd87
instance : Rg Phase := Rg.ofMap fun x => (x.Volumes, x.Gives)
theorem rd73 : Rd Tryz.prog 73 Phase := rd_struct (f := fun x => (x.Volumes, x.Gives)) (fun y => ⟨y.1, y.2⟩) Tryz.underlying73 (by kernel_rfl) rfl (fun _ _ _ h => h) (fun _ h => h) (RdF.cons rfl (by kernel_rfl) rd70 (RdF.one rfl (by kernel_rfl) rd71)) (fun _ => rfl)
theorem rd52 : Rd Tryz.prog 52 (List Phase) := rd_slice Tryz.underlying52 (by kernel_rfl) (by decide) rd73
instance : Rg Drawing := Rg.ofMap fun x => (x.Lot, x.Phases)
theorem rd54 : Rd Tryz.prog 54 Drawing := rd_struct (f := fun x => (x.Lot, x.Phases)) (fun y => ⟨y.1, y.2⟩) Tryz.underlying54 (by kernel_rfl) rfl (fun _ _ _ h => h) (fun _ h => h) (RdF.cons rfl (by kernel_rfl) rd3 (RdF.one rfl (by kernel_rfl) rd52)) (fun _ => rfl)
theorem rd31 : Rd Tryz.prog 31 (List Drawing) := rd_slice Tryz.underlying31 (by kernel_rfl) (by decide) rd54
noncomputable def tb : Tb where
  S := fun n => match n with
    | 0 => Volume
    | 1 => Box
    | 2 => Rect
    | 3 => Drawing
    | 4 => Phase
    | 5 => Entry
    | 6 => Dossier
    | 7 => RegionSpan
    | 8 => RegionStrip
    | 9 => Slab
    | 10 => Plan
    | 11 => Def
    | 12 => Expr
    | 13 => Table
    | 14 => Zone
    | 15 => Point
    | 16 => Rule
    | 17 => Plane
    | 18 => Cap
    | 19 => View
    | 20 => Point3
    | 21 => Act
    | _ + 22 => Unit
  fs := fun n => match n with
    | 0 => [.st 1, .int, .int, .bool]
    | 1 => [.st 2, .int, .int]
    | 2 => [.int, .int, .int, .int]
    | 3 => [.int, .list (.st 4)]
    | 4 => [.list (.st 0), .list (.st 5)]
    | 5 => [.str, .int]
    | 6 => [.int, .int, .int, .int, .int, .list (.st 3), .int, .int]
    | 7 => [.int, .int]
    | 8 => [.int, .int, .list (.st 7)]
    | 9 => [.int, .int, .list (.st 2)]
    | 10 => [.list (.st 11), .list (.st 13), .list (.st 14), .list (.st 16), .list (.st 18), .list (.st 19), .list (.st 20), .int]
    | 11 => [.str, .st 12]
    | 12 => [.int, .int, .str, .str, .op]
    | 13 => [.str, .list (.st 5), .int]
    | 14 => [.str, .bool, .list (.st 15)]
    | 15 => [.int, .int]
    | 16 => [.str, .list .str, .list .str, .int, .int, .int, .bool, .int, .st 12, .st 17, .int, .int, .int]
    | 17 => [.int, .int, .int, .int]
    | 18 => [.str, .int, .int, .list (.st 15)]
    | 19 => [.str, .st 20, .int, .list (.st 20)]
    | 20 => [.int, .int, .int]
    | 21 => [.int, .int, .int, .list (.st 3)]
    | _ + 22 => []
  to := fun n => match n with
    | 0 => fun x => (x.Box, x.Use, x.Units, x.Extra)
    | 1 => fun x => (x.Base, x.Z0, x.Z1)
    | 2 => fun x => (x.X0, x.Y0, x.X1, x.Y1)
    | 3 => fun x => (x.Lot, x.Phases)
    | 4 => fun x => (x.Volumes, x.Gives)
    | 5 => fun x => (x.Name, x.N)
    | 6 => fun x => (x.Id, x.Holder, x.State, x.Day, x.Rule, x.Drawings, x.Choice, x.Into)
    | 7 => fun x => (x.from_, x.to_)
    | 8 => fun x => (x.x0, x.x1, x.column)
    | 9 => fun x => (x.Z0, x.Z1, x.Area)
    | 10 => fun x => (x.Defs, x.Tables, x.Zones, x.Rules, x.Caps, x.Views, x.Sun, x.Hours)
    | 11 => fun x => (x.Name, x.Body)
    | 12 => fun x => (x.Op, x.N, x.S, x.Key, x.Args)
    | 13 => fun x => (x.Name, x.Rows, x.Else)
    | 14 => fun x => (x.Name, x.Overlay, x.Corners)
    | 15 => fun x => (x.X, x.Y)
    | 16 => fun x => (x.Name, x.Zones, x.Except, x.From, x.Until, x.Grace, x.Vary, x.Kind, x.Test, x.Plane, x.Uses, x.Other, x.N)
    | 17 => fun x => (x.Side, x.Base, x.Num, x.Den)
    | 18 => fun x => (x.Name, x.Load, x.Limit, x.Corners)
    | 19 => fun x => (x.Name, x.Eye, x.Least, x.Targets)
    | 20 => fun x => (x.X, x.Y, x.Z)
    | 21 => fun x => (x.Kind, x.Day, x.N, x.Drawings)
    | _ + 22 => fun _ => ()
  of := fun n => match n with
    | 0 => fun x => ⟨x.1, x.2.1, x.2.2.1, x.2.2.2⟩
    | 1 => fun x => ⟨x.1, x.2.1, x.2.2⟩
    | 2 => fun x => ⟨x.1, x.2.1, x.2.2.1, x.2.2.2⟩
    | 3 => fun x => ⟨x.1, x.2⟩
    | 4 => fun x => ⟨x.1, x.2⟩
    | 5 => fun x => ⟨x.1, x.2⟩
    | 6 => fun x => ⟨x.1, x.2.1, x.2.2.1, x.2.2.2.1, x.2.2.2.2.1, x.2.2.2.2.2.1, x.2.2.2.2.2.2.1, x.2.2.2.2.2.2.2⟩
    | 7 => fun x => ⟨x.1, x.2⟩
    | 8 => fun x => ⟨x.1, x.2.1, x.2.2⟩
    | 9 => fun x => ⟨x.1, x.2.1, x.2.2⟩
    | 10 => fun x => ⟨x.1, x.2.1, x.2.2.1, x.2.2.2.1, x.2.2.2.2.1, x.2.2.2.2.2.1, x.2.2.2.2.2.2.1, x.2.2.2.2.2.2.2⟩
    | 11 => fun x => ⟨x.1, x.2⟩
    | 12 => fun x => ⟨x.1, x.2.1, x.2.2.1, x.2.2.2.1, x.2.2.2.2⟩
    | 13 => fun x => ⟨x.1, x.2.1, x.2.2⟩
    | 14 => fun x => ⟨x.1, x.2.1, x.2.2⟩
    | 15 => fun x => ⟨x.1, x.2⟩
    | 16 => fun x => ⟨x.1, x.2.1, x.2.2.1, x.2.2.2.1, x.2.2.2.2.1, x.2.2.2.2.2.1, x.2.2.2.2.2.2.1, x.2.2.2.2.2.2.2.1, x.2.2.2.2.2.2.2.2.1, x.2.2.2.2.2.2.2.2.2.1, x.2.2.2.2.2.2.2.2.2.2.1, x.2.2.2.2.2.2.2.2.2.2.2.1, x.2.2.2.2.2.2.2.2.2.2.2.2⟩
    | 17 => fun x => ⟨x.1, x.2.1, x.2.2.1, x.2.2.2⟩
    | 18 => fun x => ⟨x.1, x.2.1, x.2.2.1, x.2.2.2⟩
    | 19 => fun x => ⟨x.1, x.2.1, x.2.2.1, x.2.2.2⟩
    | 20 => fun x => ⟨x.1, x.2.1, x.2.2⟩
    | 21 => fun x => ⟨x.1, x.2.1, x.2.2.1, x.2.2.2⟩
    | _ + 22 => fun _ => ()
  zero := fun n => match n with
    | 0 => (default : Volume)
    | 1 => (default : Box)
    | 2 => (default : Rect)
    | 3 => (default : Drawing)
    | 4 => (default : Phase)
    | 5 => (default : Entry)
    | 6 => (default : Dossier)
    | 7 => (default : RegionSpan)
    | 8 => (default : RegionStrip)
    | 9 => (default : Slab)
    | 10 => (default : Plan)
    | 11 => (default : Def)
    | 12 => (default : Expr)
    | 13 => (default : Table)
    | 14 => (default : Zone)
    | 15 => (default : Point)
    | 16 => (default : Rule)
    | 17 => (default : Plane)
    | 18 => (default : Cap)
    | 19 => (default : View)
    | 20 => (default : Point3)
    | 21 => (default : Act)
    | _ + 22 => ()
  deq := fun n => match n with
    | 0 => (inferInstance : DecidableEq Volume)
    | 1 => (inferInstance : DecidableEq Box)
    | 2 => (inferInstance : DecidableEq Rect)
    | 3 => (inferInstance : DecidableEq Drawing)
    | 4 => (inferInstance : DecidableEq Phase)
    | 5 => (inferInstance : DecidableEq Entry)
    | 6 => (inferInstance : DecidableEq Dossier)
    | 7 => (inferInstance : DecidableEq RegionSpan)
    | 8 => (inferInstance : DecidableEq RegionStrip)
    | 9 => (inferInstance : DecidableEq Slab)
    | 10 => (inferInstance : DecidableEq Plan)
    | 11 => (inferInstance : DecidableEq Def)
    | 12 => (inferInstance : DecidableEq Expr)
    | 13 => (inferInstance : DecidableEq Table)
    | 14 => (inferInstance : DecidableEq Zone)
    | 15 => (inferInstance : DecidableEq Point)
    | 16 => (inferInstance : DecidableEq Rule)
    | 17 => (inferInstance : DecidableEq Plane)
    | 18 => (inferInstance : DecidableEq Cap)
    | 19 => (inferInstance : DecidableEq View)
    | 20 => (inferInstance : DecidableEq Point3)
    | 21 => (inferInstance : DecidableEq Act)
    | _ + 22 => (inferInstance : DecidableEq Unit)
  enc := fun n => match n with
    | 0 => (inferInstance : Enc Volume)
    | 1 => (inferInstance : Enc Box)
    | 2 => (inferInstance : Enc Rect)
    | 3 => (inferInstance : Enc Drawing)
    | 4 => (inferInstance : Enc Phase)
    | 5 => (inferInstance : Enc Entry)
    | 6 => (inferInstance : Enc Dossier)
    | 7 => (inferInstance : Enc RegionSpan)
    | 8 => (inferInstance : Enc RegionStrip)
    | 9 => (inferInstance : Enc Slab)
    | 10 => (inferInstance : Enc Plan)
    | 11 => (inferInstance : Enc Def)
    | 12 => (inferInstance : Enc Expr)
    | 13 => (inferInstance : Enc Table)
    | 14 => (inferInstance : Enc Zone)
    | 15 => (inferInstance : Enc Point)
    | 16 => (inferInstance : Enc Rule)
    | 17 => (inferInstance : Enc Plane)
    | 18 => (inferInstance : Enc Cap)
    | 19 => (inferInstance : Enc View)
    | 20 => (inferInstance : Enc Point3)
    | 21 => (inferInstance : Enc Act)
    | _ + 22 => Enc.ofMap (σ := Unit) (β := Unit) fun x => x
  to_of := fun n => match n with
    | 0 => fun _ => rfl
    | 1 => fun _ => rfl
    | 2 => fun _ => rfl
    | 3 => fun _ => rfl
    | 4 => fun _ => rfl
    | 5 => fun _ => rfl
    | 6 => fun _ => rfl
    | 7 => fun _ => rfl
    | 8 => fun _ => rfl
    | 9 => fun _ => rfl
    | 10 => fun _ => rfl
    | 11 => fun _ => rfl
    | 12 => fun _ => rfl
    | 13 => fun _ => rfl
    | 14 => fun _ => rfl
    | 15 => fun _ => rfl
    | 16 => fun _ => rfl
    | 17 => fun _ => rfl
    | 18 => fun _ => rfl
    | 19 => fun _ => rfl
    | 20 => fun _ => rfl
    | 21 => fun _ => rfl
    | _ + 22 => fun _ => rfl
  zero_eq := fun n => match n with
    | 0 => rfl
    | 1 => rfl
    | 2 => rfl
    | 3 => rfl
    | 4 => rfl
    | 5 => rfl
    | 6 => rfl
    | 7 => rfl
    | 8 => rfl
    | 9 => rfl
    | 10 => rfl
    | 11 => rfl
    | 12 => rfl
    | 13 => rfl
    | 14 => rfl
    | 15 => rfl
    | 16 => rfl
    | 17 => rfl
    | 18 => rfl
    | 19 => rfl
    | 20 => rfl
    | 21 => rfl
    | _ + 22 => rfl
  enc_eq := fun n => match n with
    | 0 => rfl
    | 1 => rfl
    | 2 => rfl
    | 3 => rfl
    | 4 => rfl
    | 5 => rfl
    | 6 => rfl
    | 7 => rfl
    | 8 => rfl
    | 9 => rfl
    | 10 => rfl
    | 11 => rfl
    | 12 => rfl
    | 13 => rfl
    | 14 => rfl
    | 15 => rfl
    | 16 => rfl
    | 17 => rfl
    | 18 => rfl
    | 19 => rfl
    | 20 => rfl
    | 21 => rfl
    | _ + 22 => rfl
def tid : TypeId → Option Tp := tidL [(3, .int), (30, .st 10), (33, .st 6), (48, .st 21), (54, .st 3), (73, .st 4), (77, .st 2), (79, .st 1), (81, .st 0), (109, .list (.st 2)), (111, .st 9), (157, .st 7)]
def eqs : List (TypeId × Nat) := [(81, 0), (87, 5), (157, 7), (77, 2)]
theorem eqsOk : EqsOk Tryz.prog tb eqs := ⟨eq81, eq87, eq157, eq77, trivial⟩
noncomputable def mk (f : FuncId) (dom cod : List Tp) (run : HL tb.S dom → Option (HL tb.S cod)) (ks : List (Fk tb Tryz.prog)) (own : List Nat) (fn : Func) (h : Hn tb) (hf : Tryz.prog.funcs[f]? = some fn)
  (hc : ∀ args w, (callFunc f args).run Tryz.prog w = .ok (.enter f args) w) (hb : fn.body = some (body fn)) (hl : Nat.ble dom.length fn.ntmps = true)
  (he : ∀ x, evF ⟨Tryz.prog, tid, eqs, depsOf ks, own, fn.results.toList, fn.ntmps⟩ (body fn) h dom cod x = run x) : Fk tb Tryz.prog := ⟨f, ⟨dom, cod, run⟩, fnOk ks own fn h eqsOk hmix hf hc hb hl he⟩
noncomputable def mkO (f : FuncId) (dom cod : List Tp) (run : HL tb.S dom → Option (HL tb.S cod)) (hc : ∀ args w, (callFunc f args).run Tryz.prog w = .ok (.enter f args) w)
  (ok : ∀ (k0 : K) (vs : List Value) (x : HL tb.S dom) (r : HL tb.S cod), GOk tb k0 → HIs dom x vs k0 → run x = some r → Calls Tryz.prog f vs.toArray k0.w (Ret k0 fun u k => (resV cod r).is ⟨#[], []⟩ u k)) : Fk tb Tryz.prog := ⟨f, ⟨dom, cod, run⟩, hc, ok⟩
def glv : Nat → Option (Σ t : Tp, t.den tb.S) := fun g => match g with

  | _ => none
theorem gl0 : (∀ g, tb.gl g = none) ∧ tb.gi = none := ⟨fun _ => rfl, rfl⟩
def giv : Option Nat := some 0
noncomputable def tbg : Tb := tb.withG glv giv
theorem eqsOkG : EqsOk Tryz.prog tbg eqs := ⟨eq81, eq87, eq157, eq77, trivial⟩
noncomputable def mkg (f : FuncId) (dom cod : List Tp) (run : HL tbg.S dom → Option (HL tbg.S cod)) (ks : List (Fk tbg Tryz.prog)) (own : List Nat) (fn : Func) (h : Hn tbg) (hf : Tryz.prog.funcs[f]? = some fn)
  (hc : ∀ args w, (callFunc f args).run Tryz.prog w = .ok (.enter f args) w) (hb : fn.body = some (body fn)) (hl : Nat.ble dom.length fn.ntmps = true)
  (he : ∀ x, evF ⟨Tryz.prog, tid, eqs, depsOf ks, own, fn.results.toList, fn.ntmps⟩ (body fn) h dom cod x = run x) : Fk tbg Tryz.prog := ⟨f, ⟨dom, cod, run⟩, fnOk ks own fn h (T := tbg) eqsOkG hmix hf hc hb hl he⟩
noncomputable def mkOg (f : FuncId) (dom cod : List Tp) (run : HL tbg.S dom → Option (HL tbg.S cod)) (hc : ∀ args w, (callFunc f args).run Tryz.prog w = .ok (.enter f args) w)
  (ok : ∀ (k0 : K) (vs : List Value) (x : HL tbg.S dom) (r : HL tbg.S cod), GOk tbg k0 → HIs dom x vs k0 → run x = some r → Calls Tryz.prog f vs.toArray k0.w (Ret k0 fun u k => (resV cod r).is ⟨#[], []⟩ u k)) : Fk tbg Tryz.prog := ⟨f, ⟨dom, cod, run⟩, hc, ok⟩
end Go.Proofs.YtachpkjjlebadaaGreat
