/- What the functions compute that the law reaches, part 1 -/
import Derived.Test.YtegglcdhfnjhcaaGreatProg
import Derived.Test.YtegglcdhfnjhcaaGreatL6
import Derived.Shelf.Sort.Plain
import Derived.Shelf.Slices.In.SortNone
import Derived.Shelf.Slices.CompactI
import Derived.Shelf.Spec.SlicesGrow
import Derived.Shelf.SlSortCmp.NoneTotal
namespace Go.Proofs.YtegglcdhfnjhcaaGreat
open Go.Gb
set_option linter.unusedVariables false
set_option linter.unusedSimpArgs false
set_option maxRecDepth 100000
structure Rect where
  X0:Int
  Y0:Int
  X1:Int
  Y1:Int
  deriving DecidableEq,Inhabited
instance:Enc Rect:=Enc.ofMap fun x=>(x.X0,x.Y0,x.X1,x.Y1)
structure Box where
  Base:Rect
  Z0:Int
  Z1:Int
  deriving DecidableEq,Inhabited
instance:Enc Box:=Enc.ofMap fun x=>(x.Base,x.Z0,x.Z1)
structure Volume where
  Box:Box
  Use:Int
  Units:Int
  Extra:Bool
  deriving DecidableEq,Inhabited
instance:Enc Volume:=Enc.ofMap fun x=>(x.Box,x.Use,x.Units,x.Extra)
structure Expr where
  Op:Int
  N:Int
  S:ByteArray
  Key:ByteArray
  Args:Opq
  deriving DecidableEq,Inhabited
instance:Enc Expr:=Enc.ofMap fun x=>(x.Op,x.N,x.S,x.Key,x.Args)
structure Def where
  Name:ByteArray
  Body:Expr
  deriving DecidableEq,Inhabited
instance:Enc Def:=Enc.ofMap fun x=>(x.Name,x.Body)
structure Entry where
  Name:ByteArray
  N:Int
  deriving DecidableEq,Inhabited
instance:Enc Entry:=Enc.ofMap fun x=>(x.Name,x.N)
structure Table where
  Name:ByteArray
  Rows:(List Entry)
  Else:Int
  deriving DecidableEq,Inhabited
instance:Enc Table:=Enc.ofMap fun x=>(x.Name,x.Rows,x.Else)
structure Point where
  X:Int
  Y:Int
  deriving DecidableEq,Inhabited
instance:Enc Point:=Enc.ofMap fun x=>(x.X,x.Y)
structure Zone where
  Name:ByteArray
  Overlay:Bool
  Corners:(List Point)
  deriving DecidableEq,Inhabited
instance:Enc Zone:=Enc.ofMap fun x=>(x.Name,x.Overlay,x.Corners)
structure Plane where
  Side:Int
  Base:Int
  Num:Int
  Den:Int
  deriving DecidableEq,Inhabited
instance:Enc Plane:=Enc.ofMap fun x=>(x.Side,x.Base,x.Num,x.Den)
structure Rule where
  Name:ByteArray
  Zones:(List ByteArray)
  Except:(List ByteArray)
  From:Int
  Until:Int
  Grace:Int
  Vary:Bool
  Kind:Int
  Test:Expr
  Plane:Plane
  Uses:Int
  Other:Int
  N:Int
  deriving DecidableEq,Inhabited
instance:Enc Rule:=Enc.ofMap fun x=>(x.Name,x.Zones,x.Except,x.From,x.Until,x.Grace,x.Vary,x.Kind,x.Test,x.Plane,x.Uses,x.Other,x.N)
structure Cap where
  Name:ByteArray
  Load:Int
  Limit:Int
  Corners:(List Point)
  deriving DecidableEq,Inhabited
instance:Enc Cap:=Enc.ofMap fun x=>(x.Name,x.Load,x.Limit,x.Corners)
structure Point3 where
  X:Int
  Y:Int
  Z:Int
  deriving DecidableEq,Inhabited
instance:Enc Point3:=Enc.ofMap fun x=>(x.X,x.Y,x.Z)
structure View where
  Name:ByteArray
  Eye:Point3
  Least:Int
  Targets:(List Point3)
  deriving DecidableEq,Inhabited
instance:Enc View:=Enc.ofMap fun x=>(x.Name,x.Eye,x.Least,x.Targets)
structure Plan where
  Defs:(List Def)
  Tables:(List Table)
  Zones:(List Zone)
  Rules:(List Rule)
  Caps:(List Cap)
  Views:(List View)
  Sun:(List Point3)
  Hours:Int
  deriving DecidableEq,Inhabited
instance:Enc Plan:=Enc.ofMap fun x=>(x.Defs,x.Tables,x.Zones,x.Rules,x.Caps,x.Views,x.Sun,x.Hours)
structure Lot where
  Id:Int
  Owner:Int
  Area:(List Rect)
  From:(List Int)
  deriving DecidableEq,Inhabited
instance:Enc Lot:=Enc.ofMap fun x=>(x.Id,x.Owner,x.Area,x.From)
structure Easement where
  Lot:Int
  Area:(List Rect)
  Top:Int
  deriving DecidableEq,Inhabited
instance:Enc Easement:=Enc.ofMap fun x=>(x.Lot,x.Area,x.Top)
structure Window where
  Lot:Int
  At:Point3
  deriving DecidableEq,Inhabited
instance:Enc Window:=Enc.ofMap fun x=>(x.Lot,x.At)
structure Placed where
  Lot:Int
  Volume:Volume
  deriving DecidableEq,Inhabited
instance:Enc Placed:=Enc.ofMap fun x=>(x.Lot,x.Volume)
structure Town where
  Plan:Plan
  Land:(List Lot)
  Easements:(List Easement)
  Windows:(List Window)
  Built:(List Placed)
  Base:(List Entry)
  deriving DecidableEq,Inhabited
instance:Enc Town:=Enc.ofMap fun x=>(x.Plan,x.Land,x.Easements,x.Windows,x.Built,x.Base)
structure Phase where
  Volumes:(List Volume)
  Gives:(List Entry)
  deriving DecidableEq,Inhabited
instance:Enc Phase:=Enc.ofMap fun x=>(x.Volumes,x.Gives)
structure Drawing where
  Lot:Int
  Phases:(List Phase)
  deriving DecidableEq,Inhabited
instance:Enc Drawing:=Enc.ofMap fun x=>(x.Lot,x.Phases)
structure Right where
  Id:Int
  Holder:Int
  Drawing:Drawing
  Used:Int
  Until:Int
  Over:Bool
  deriving DecidableEq,Inhabited
instance:Enc Right:=Enc.ofMap fun x=>(x.Id,x.Holder,x.Drawing,x.Used,x.Until,x.Over)
structure PolygonSide where
  a:Point
  b:Point
  deriving DecidableEq,Inhabited
instance:Enc PolygonSide:=Enc.ofMap fun x=>(x.a,x.b)
structure Peak where
  Cap:ByteArray
  Base:Int
  Tops:(List Int)
  deriving DecidableEq,Inhabited
instance:Enc Peak:=Enc.ofMap fun x=>(x.Cap,x.Base,x.Tops)
structure Slab where
  Z0:Int
  Z1:Int
  Area:(List Rect)
  deriving DecidableEq,Inhabited
instance:Enc Slab:=Enc.ofMap fun x=>(x.Z0,x.Z1,x.Area)
structure RegionSpan where
  from_:Int
  to_:Int
  deriving DecidableEq,Inhabited
instance:Enc RegionSpan:=Enc.ofMap fun x=>(x.from_,x.to_)
structure RegionStrip where
  x0:Int
  x1:Int
  column:(List RegionSpan)
  deriving DecidableEq,Inhabited
instance:Enc RegionStrip:=Enc.ofMap fun x=>(x.x0,x.x1,x.column)
structure SightBound where
  n:Int
  d:Int
  open_:Bool
  deriving DecidableEq,Inhabited
instance:Enc SightBound:=Enc.ofMap fun x=>(x.n,x.d,x.open_)
structure SightInterval where
  lo:SightBound
  hi:SightBound
  top:Bool
  none_:Bool
  deriving DecidableEq,Inhabited
instance:Enc SightInterval:=Enc.ofMap fun x=>(x.lo,x.hi,x.top,x.none_)
structure Limit where
  Kind:Int
  Name:ByteArray
  N:Int
  deriving DecidableEq,Inhabited
instance:Enc Limit:=Enc.ofMap fun x=>(x.Kind,x.Name,x.N)
theorem hmix:Tryz.prog.follows .mixedOrders = true:=by kernel_rfl
theorem z83:Zero Tryz.prog 83 ((⟨(⟨(⟨0,0,0,0⟩:Rect),0,0⟩:Box),0,0,false⟩:Volume):Volume):=⟨_,Tryz.zeroValue83,fun _=>⟨_,rfl,⟨rfl,⟨rfl,⟨rfl,rfl,⟨rfl,rfl,⟨rfl,rfl,rfl⟩⟩⟩,⟨rfl,rfl,rfl⟩⟩,⟨rfl,rfl,⟨rfl,rfl,rfl⟩⟩⟩⟩⟩
theorem bld79_0_1_2_3 {k:K} {v0 v1 v2 v3:Value} {x0:Int} {x1:Int} {x2:Int} {x3:Int} (h0:IsV x0 v0 k) (h1:IsV x1 v1 k) (h2:IsV x2 v2 k) (h3:IsV x3 v3 k) : ∃ v,(∀ w,(Instr.build 79 #[(0,v0),(1,v1),(2,v2),(3,v3)]).run Tryz.prog w = .ok v w)∧IsV (⟨x0,x1,x2,x3⟩:Rect) v k:=by
  obtain ⟨l0,e0,r0,n0⟩:=isV_cellsL h0
  obtain ⟨u0_0,rfl⟩:=len1 n0
  obtain ⟨l1,e1,r1,n1⟩:=isV_cellsL h1
  obtain ⟨u1_0,rfl⟩:=len1 n1
  obtain ⟨l2,e2,r2,n2⟩:=isV_cellsL h2
  obtain ⟨u2_0,rfl⟩:=len1 n2
  obtain ⟨l3,e3,r3,n3⟩:=isV_cellsL h3
  obtain ⟨u3_0,rfl⟩:=len1 n3
  refine ⟨.agg #[u0_0,u1_0,u2_0,u3_0],fun w=>?_,[u0_0,u1_0,u2_0,u3_0],rfl,⟨rfl,r0,⟨rfl,r1,⟨rfl,r2,r3⟩⟩⟩⟩
  simp [Instr.build,Instr.fill,cells_agg,e0,e1,e2,e3]
theorem szf83:(Tryz.prog.info? 83).map (·.size) = some (Enc.sz Volume):=by kernel_rfl
theorem ty83:Ty Tryz.prog 83 Volume:=⟨⟨_,Tryz.underlying83,rfl⟩,by kernel_rfl⟩
theorem z37:Zero Tryz.prog 37 ((⟨(⟨[],[],[],[],[],[],[],0⟩:Plan),[],[],[],[],[]⟩:Town):Town):=⟨_,Tryz.zeroValue37,fun _=>⟨_,rfl,⟨rfl,⟨rfl,⟨_,rfl,.inl ⟨rfl,rfl⟩⟩,⟨rfl,⟨_,rfl,.inl ⟨rfl,rfl⟩⟩,⟨rfl,⟨_,rfl,.inl ⟨rfl,rfl⟩⟩,⟨rfl,⟨_,rfl,.inl ⟨rfl,rfl⟩⟩,⟨rfl,⟨_,rfl,.inl ⟨rfl,rfl⟩⟩,⟨rfl,⟨_,rfl,.inl ⟨rfl,rfl⟩⟩,⟨rfl,⟨_,rfl,.inl ⟨rfl,rfl⟩⟩,rfl⟩⟩⟩⟩⟩⟩⟩,⟨rfl,⟨_,rfl,.inl ⟨rfl,rfl⟩⟩,⟨rfl,⟨_,rfl,.inl ⟨rfl,rfl⟩⟩,⟨rfl,⟨_,rfl,.inl ⟨rfl,rfl⟩⟩,⟨rfl,⟨_,rfl,.inl ⟨rfl,rfl⟩⟩,⟨_,rfl,.inl ⟨rfl,rfl⟩⟩⟩⟩⟩⟩⟩⟩⟩
theorem eo71:ElemOk Tryz.prog 71 Cap:=⟨_,_,rfl,rfl,rfl,rfl,by decide,by decide⟩
theorem szf37:(Tryz.prog.info? 37).map (·.size) = some (Enc.sz Town):=by kernel_rfl
theorem eo83:ElemOk Tryz.prog 83 Volume:=⟨_,_,rfl,rfl,rfl,rfl,by decide,by decide⟩
theorem bld99_0_1 {k:K} {v0 v1:Value} {x0:ByteArray} {x1:Int} (h0:IsV x0 v0 k) (h1:IsV x1 v1 k) : ∃ v,(∀ w,(Instr.build 99 #[(0,v0),(1,v1)]).run Tryz.prog w = .ok v w)∧IsV (⟨x0,x1⟩:Entry) v k:=by
  obtain ⟨l0,e0,r0,n0⟩:=isV_cellsL h0
  obtain ⟨u0_0,rfl⟩:=len1 n0
  obtain ⟨l1,e1,r1,n1⟩:=isV_cellsL h1
  obtain ⟨u1_0,rfl⟩:=len1 n1
  refine ⟨.agg #[u0_0,u1_0],fun w=>?_,[u0_0,u1_0],rfl,⟨rfl,r0,r1⟩⟩
  simp [Instr.build,Instr.fill,cells_agg,e0,e1]
theorem eo99:ElemOk Tryz.prog 99 Entry:=⟨_,_,rfl,rfl,rfl,rfl,by decide,by decide⟩
theorem ty37:Ty Tryz.prog 37 Town:=⟨⟨_,Tryz.underlying37,rfl⟩,by kernel_rfl⟩
theorem eo43:ElemOk Tryz.prog 43 Right:=⟨_,_,rfl,rfl,rfl,rfl,by decide,by decide⟩
theorem ty99:Ty Tryz.prog 99 Entry:=⟨⟨_,Tryz.underlying99,rfl⟩,by kernel_rfl⟩
theorem z99:Zero Tryz.prog 99 ((⟨(⟨#[]⟩:ByteArray),0⟩:Entry):Entry):=⟨_,Tryz.zeroValue99,fun _=>⟨_,rfl,⟨rfl,rfl,rfl⟩⟩⟩
theorem szf99:(Tryz.prog.info? 99).map (·.size) = some (Enc.sz Entry):=by kernel_rfl
theorem fo99_0:FieldOk Tryz.prog 99 0 0:=⟨_,_,0,Tryz.underlying99,rfl,rfl,by kernel_rfl⟩
theorem at_Entry_0 (y:Entry) (ad:Addr) (k:K) (h:At y ad k):At y.Name (ad.add 0) k:=
  have h0:At (y.Name,y.N) ad k:=h
  At.fst (At.zero h0)
theorem ty9:Ty Tryz.prog 9 ByteArray:=⟨⟨_,Tryz.underlying9,rfl⟩,by kernel_rfl⟩
theorem fo71_0:FieldOk Tryz.prog 71 0 0:=⟨_,_,0,Tryz.underlying71,rfl,rfl,by kernel_rfl⟩
theorem at_Cap_0 (y:Cap) (ad:Addr) (k:K) (h:At y ad k):At y.Name (ad.add 0) k:=
  have h0:At (y.Name,y.Load,y.Limit,y.Corners) ad k:=h
  At.fst (At.zero h0)
theorem fo99_1:FieldOk Tryz.prog 99 1 1:=⟨_,_,0,Tryz.underlying99,rfl,rfl,by kernel_rfl⟩
theorem at_Entry_1 (y:Entry) (ad:Addr) (k:K) (h:At y ad k):At y.N (ad.add 1) k:=
  have h0:At (y.Name,y.N) ad k:=h
  At.snd' (At.zero h0)
theorem ty3:Ty Tryz.prog 3 Int:=⟨⟨_,Tryz.underlying3,rfl⟩,by kernel_rfl⟩
theorem fo79_0:FieldOk Tryz.prog 79 0 0:=⟨_,_,0,Tryz.underlying79,rfl,rfl,by kernel_rfl⟩
theorem at_Rect_0 (y:Rect) (ad:Addr) (k:K) (h:At y ad k):At y.X0 (ad.add 0) k:=
  have h0:At (y.X0,y.Y0,y.X1,y.Y1) ad k:=h
  At.fst (At.zero h0)
theorem fo79_2:FieldOk Tryz.prog 79 2 2:=⟨_,_,0,Tryz.underlying79,rfl,rfl,by kernel_rfl⟩
theorem at_Rect_2 (y:Rect) (ad:Addr) (k:K) (h:At y ad k):At y.X1 (ad.add 2) k:=
  have h0:At (y.X0,y.Y0,y.X1,y.Y1) ad k:=h
  At.fst (At.snd' (At.snd' (At.zero h0)))
theorem fo79_1:FieldOk Tryz.prog 79 1 1:=⟨_,_,0,Tryz.underlying79,rfl,rfl,by kernel_rfl⟩
theorem at_Rect_1 (y:Rect) (ad:Addr) (k:K) (h:At y ad k):At y.Y0 (ad.add 1) k:=
  have h0:At (y.X0,y.Y0,y.X1,y.Y1) ad k:=h
  At.fst (At.snd' (At.zero h0))
theorem fo79_3:FieldOk Tryz.prog 79 3 3:=⟨_,_,0,Tryz.underlying79,rfl,rfl,by kernel_rfl⟩
theorem at_Rect_3 (y:Rect) (ad:Addr) (k:K) (h:At y ad k):At y.Y1 (ad.add 3) k:=
  have h0:At (y.X0,y.Y0,y.X1,y.Y1) ad k:=h
  At.snd' (At.snd' (At.snd' (At.zero h0)))
theorem ty81:Ty Tryz.prog 81 Box:=⟨⟨_,Tryz.underlying81,rfl⟩,by kernel_rfl⟩
theorem z81:Zero Tryz.prog 81 ((⟨(⟨0,0,0,0⟩:Rect),0,0⟩:Box):Box):=⟨_,Tryz.zeroValue81,fun _=>⟨_,rfl,⟨rfl,⟨rfl,rfl,⟨rfl,rfl,⟨rfl,rfl,rfl⟩⟩⟩,⟨rfl,rfl,rfl⟩⟩⟩⟩
theorem szf81:(Tryz.prog.info? 81).map (·.size) = some (Enc.sz Box):=by kernel_rfl
theorem fo81_0:FieldOk Tryz.prog 81 0 0:=⟨_,_,3,Tryz.underlying81,rfl,rfl,by kernel_rfl⟩
theorem at_Box_0 (y:Box) (ad:Addr) (k:K) (h:At y ad k):At y.Base (ad.add 0) k:=
  have h0:At (y.Base,y.Z0,y.Z1) ad k:=h
  At.fst (At.zero h0)
theorem ty79:Ty Tryz.prog 79 Rect:=⟨⟨_,Tryz.underlying79,rfl⟩,by kernel_rfl⟩
theorem fo81_1:FieldOk Tryz.prog 81 1 4:=⟨_,_,0,Tryz.underlying81,rfl,rfl,by kernel_rfl⟩
theorem at_Box_1 (y:Box) (ad:Addr) (k:K) (h:At y ad k):At y.Z0 (ad.add 4) k:=
  have h0:At (y.Base,y.Z0,y.Z1) ad k:=h
  At.fst (At.snd' (At.zero h0))
theorem fo81_2:FieldOk Tryz.prog 81 2 5:=⟨_,_,0,Tryz.underlying81,rfl,rfl,by kernel_rfl⟩
theorem at_Box_2 (y:Box) (ad:Addr) (k:K) (h:At y ad k):At y.Z1 (ad.add 5) k:=
  have h0:At (y.Base,y.Z0,y.Z1) ad k:=h
  At.snd' (At.snd' (At.zero h0))
theorem ty112:Ty Tryz.prog 112 Point:=⟨⟨_,Tryz.underlying112,rfl⟩,by kernel_rfl⟩
theorem ty155:Ty Tryz.prog 155 PolygonSide:=⟨⟨_,Tryz.underlying155,rfl⟩,by kernel_rfl⟩
theorem szf155:(Tryz.prog.info? 155).map (·.size) = some (Enc.sz PolygonSide):=by kernel_rfl
theorem fo112_0:FieldOk Tryz.prog 112 0 0:=⟨_,_,0,Tryz.underlying112,rfl,rfl,by kernel_rfl⟩
theorem at_Point_0 (y:Point) (ad:Addr) (k:K) (h:At y ad k):At y.X (ad.add 0) k:=
  have h0:At (y.X,y.Y) ad k:=h
  At.fst (At.zero h0)
theorem fo112_1:FieldOk Tryz.prog 112 1 1:=⟨_,_,0,Tryz.underlying112,rfl,rfl,by kernel_rfl⟩
theorem at_Point_1 (y:Point) (ad:Addr) (k:K) (h:At y ad k):At y.Y (ad.add 1) k:=
  have h0:At (y.X,y.Y) ad k:=h
  At.snd' (At.zero h0)
theorem fo155_0:FieldOk Tryz.prog 155 0 0:=⟨_,_,1,Tryz.underlying155,rfl,rfl,by kernel_rfl⟩
theorem at_PolygonSide_0 (y:PolygonSide) (ad:Addr) (k:K) (h:At y ad k):At y.a (ad.add 0) k:=
  have h0:At (y.a,y.b) ad k:=h
  At.fst (At.zero h0)
theorem fo155_1:FieldOk Tryz.prog 155 1 2:=⟨_,_,1,Tryz.underlying155,rfl,rfl,by kernel_rfl⟩
theorem at_PolygonSide_1 (y:PolygonSide) (ad:Addr) (k:K) (h:At y ad k):At y.b (ad.add 2) k:=
  have h0:At (y.a,y.b) ad k:=h
  At.snd' (At.zero h0)
theorem eo3:ElemOk Tryz.prog 3 Int:=⟨_,_,rfl,rfl,rfl,rfl,by decide,by decide⟩
theorem z155:Zero Tryz.prog 155 ((⟨(⟨0,0⟩:Point),(⟨0,0⟩:Point)⟩:PolygonSide):PolygonSide):=⟨_,Tryz.zeroValue155,fun _=>⟨_,rfl,⟨rfl,⟨rfl,rfl,rfl⟩,⟨rfl,rfl,rfl⟩⟩⟩⟩
theorem szf3:(Tryz.prog.info? 3).map (·.size) = some (Enc.sz Int):=by kernel_rfl
theorem z112:Zero Tryz.prog 112 ((⟨0,0⟩:Point):Point):=⟨_,Tryz.zeroValue112,fun _=>⟨_,rfl,⟨rfl,rfl,rfl⟩⟩⟩
theorem szf112:(Tryz.prog.info? 112).map (·.size) = some (Enc.sz Point):=by kernel_rfl
theorem eo79:ElemOk Tryz.prog 79 Rect:=⟨_,_,rfl,rfl,rfl,rfl,by decide,by decide⟩
theorem z79:Zero Tryz.prog 79 ((⟨0,0,0,0⟩:Rect):Rect):=⟨_,Tryz.zeroValue79,fun _=>⟨_,rfl,⟨rfl,rfl,⟨rfl,rfl,⟨rfl,rfl,rfl⟩⟩⟩⟩⟩
theorem szf79:(Tryz.prog.info? 79).map (·.size) = some (Enc.sz Rect):=by kernel_rfl
theorem bld180_0_1_2_3_4_5 {k:K} {v0 v1 v2 v3 v4 v5:Value} {x0:ByteArray} {x1:ByteArray} {x2:ByteArray} {x3:ByteArray} {x4:ByteArray} {x5:ByteArray} (h0:IsV x0 v0 k) (h1:IsV x1 v1 k) (h2:IsV x2 v2 k) (h3:IsV x3 v3 k) (h4:IsV x4 v4 k) (h5:IsV x5 v5 k) : ∃ v,(∀ w,(Instr.build 180 #[(0,v0),(1,v1),(2,v2),(3,v3),(4,v4),(5,v5)]).run Tryz.prog w = .ok v w)∧IsV ((x0,x1,x2,x3,x4,x5):(ByteArray × ByteArray × ByteArray × ByteArray × ByteArray × ByteArray)) v k:=by
  obtain ⟨l0,e0,r0,n0⟩:=isV_cellsL h0
  obtain ⟨u0_0,rfl⟩:=len1 n0
  obtain ⟨l1,e1,r1,n1⟩:=isV_cellsL h1
  obtain ⟨u1_0,rfl⟩:=len1 n1
  obtain ⟨l2,e2,r2,n2⟩:=isV_cellsL h2
  obtain ⟨u2_0,rfl⟩:=len1 n2
  obtain ⟨l3,e3,r3,n3⟩:=isV_cellsL h3
  obtain ⟨u3_0,rfl⟩:=len1 n3
  obtain ⟨l4,e4,r4,n4⟩:=isV_cellsL h4
  obtain ⟨u4_0,rfl⟩:=len1 n4
  obtain ⟨l5,e5,r5,n5⟩:=isV_cellsL h5
  obtain ⟨u5_0,rfl⟩:=len1 n5
  refine ⟨.agg #[u0_0,u1_0,u2_0,u3_0,u4_0,u5_0],fun w=>?_,[u0_0,u1_0,u2_0,u3_0,u4_0,u5_0],rfl,⟨rfl,r0,⟨rfl,r1,⟨rfl,r2,⟨rfl,r3,⟨rfl,r4,r5⟩⟩⟩⟩⟩⟩
  simp [Instr.build,Instr.fill,cells_agg,e0,e1,e2,e3,e4,e5]
theorem z180:Zero Tryz.prog 180 ((((⟨#[]⟩:ByteArray),(⟨#[]⟩:ByteArray),(⟨#[]⟩:ByteArray),(⟨#[]⟩:ByteArray),(⟨#[]⟩:ByteArray),(⟨#[]⟩:ByteArray)):(ByteArray × ByteArray × ByteArray × ByteArray × ByteArray × ByteArray)):(ByteArray × ByteArray × ByteArray × ByteArray × ByteArray × ByteArray)):=⟨_,Tryz.zeroValue180,fun _=>⟨_,rfl,⟨rfl,rfl,⟨rfl,rfl,⟨rfl,rfl,⟨rfl,rfl,⟨rfl,rfl,rfl⟩⟩⟩⟩⟩⟩⟩
theorem szf180:(Tryz.prog.info? 180).map (·.size) = some (Enc.sz (ByteArray × ByteArray × ByteArray × ByteArray × ByteArray × ByteArray)):=by kernel_rfl
theorem fo30_1:FieldOk Tryz.prog 30 1 1:=⟨_,_,0,Tryz.underlying30,rfl,rfl,by kernel_rfl⟩
theorem at_Plan_1 (y:Plan) (ad:Addr) (k:K) (h:At y ad k):At y.Tables (ad.add 1) k:=
  have h0:At (y.Defs,y.Tables,y.Zones,y.Rules,y.Caps,y.Views,y.Sun,y.Hours) ad k:=h
  At.fst (At.snd' (At.zero h0))
theorem ty23:Ty Tryz.prog 23 (List Table):=⟨⟨_,Tryz.underlying23,rfl⟩,by kernel_rfl⟩
theorem ty95:Ty Tryz.prog 95 Table:=⟨⟨_,Tryz.underlying95,rfl⟩,by kernel_rfl⟩
theorem z95:Zero Tryz.prog 95 ((⟨(⟨#[]⟩:ByteArray),[],0⟩:Table):Table):=⟨_,Tryz.zeroValue95,fun _=>⟨_,rfl,⟨rfl,rfl,⟨rfl,⟨_,rfl,.inl ⟨rfl,rfl⟩⟩,rfl⟩⟩⟩⟩
theorem szf95:(Tryz.prog.info? 95).map (·.size) = some (Enc.sz Table):=by kernel_rfl
theorem fo95_0:FieldOk Tryz.prog 95 0 0:=⟨_,_,0,Tryz.underlying95,rfl,rfl,by kernel_rfl⟩
theorem at_Table_0 (y:Table) (ad:Addr) (k:K) (h:At y ad k):At y.Name (ad.add 0) k:=
  have h0:At (y.Name,y.Rows,y.Else) ad k:=h
  At.fst (At.zero h0)
theorem fo95_2:FieldOk Tryz.prog 95 2 2:=⟨_,_,0,Tryz.underlying95,rfl,rfl,by kernel_rfl⟩
theorem at_Table_2 (y:Table) (ad:Addr) (k:K) (h:At y ad k):At y.Else (ad.add 2) k:=
  have h0:At (y.Name,y.Rows,y.Else) ad k:=h
  At.snd' (At.snd' (At.zero h0))
theorem fo95_1:FieldOk Tryz.prog 95 1 1:=⟨_,_,0,Tryz.underlying95,rfl,rfl,by kernel_rfl⟩
theorem at_Table_1 (y:Table) (ad:Addr) (k:K) (h:At y ad k):At y.Rows (ad.add 1) k:=
  have h0:At (y.Name,y.Rows,y.Else) ad k:=h
  At.fst (At.snd' (At.zero h0))
theorem ty35:Ty Tryz.prog 35 (List Entry):=⟨⟨_,Tryz.underlying35,rfl⟩,by kernel_rfl⟩
theorem aat180_0 (y:(ByteArray × ByteArray × ByteArray × ByteArray × ByteArray × ByteArray)) (ad:Addr) (k:K) (h:At y ad k):At y.1 (ad.add (0 * Enc.sz ByteArray)) k:=At.fst (At.zero h)
theorem aat180_1 (y:(ByteArray × ByteArray × ByteArray × ByteArray × ByteArray × ByteArray)) (ad:Addr) (k:K) (h:At y ad k):At y.2.1 (ad.add (1 * Enc.sz ByteArray)) k:=At.fst (At.snd' (At.zero h))
theorem aat180_2 (y:(ByteArray × ByteArray × ByteArray × ByteArray × ByteArray × ByteArray)) (ad:Addr) (k:K) (h:At y ad k):At y.2.2.1 (ad.add (2 * Enc.sz ByteArray)) k:=At.fst (At.snd' (At.snd' (At.zero h)))
theorem aat180_3 (y:(ByteArray × ByteArray × ByteArray × ByteArray × ByteArray × ByteArray)) (ad:Addr) (k:K) (h:At y ad k):At y.2.2.2.1 (ad.add (3 * Enc.sz ByteArray)) k:=At.fst (At.snd' (At.snd' (At.snd' (At.zero h))))
theorem aat180_4 (y:(ByteArray × ByteArray × ByteArray × ByteArray × ByteArray × ByteArray)) (ad:Addr) (k:K) (h:At y ad k):At y.2.2.2.2.1 (ad.add (4 * Enc.sz ByteArray)) k:=At.fst (At.snd' (At.snd' (At.snd' (At.snd' (At.zero h)))))
theorem aat180_5 (y:(ByteArray × ByteArray × ByteArray × ByteArray × ByteArray × ByteArray)) (ad:Addr) (k:K) (h:At y ad k):At y.2.2.2.2.2 (ad.add (5 * Enc.sz ByteArray)) k:=At.snd' (At.snd' (At.snd' (At.snd' (At.snd' (At.zero h)))))
theorem ao180:ArrOk Tryz.prog 180 9 6 ByteArray:=⟨Tryz.underlying180,by kernel_rfl⟩
theorem ty4:Ty Tryz.prog 4 Bool:=⟨⟨_,Tryz.underlying4,rfl⟩,by kernel_rfl⟩
theorem ty30:Ty Tryz.prog 30 Plan:=⟨⟨_,Tryz.underlying30,rfl⟩,by kernel_rfl⟩
theorem fo37_5:FieldOk Tryz.prog 37 5 12:=⟨_,_,0,Tryz.underlying37,rfl,rfl,by kernel_rfl⟩
theorem at_Town_5 (y:Town) (ad:Addr) (k:K) (h:At y ad k):At y.Base (ad.add 12) k:=
  have h0:At (y.Plan,y.Land,y.Easements,y.Windows,y.Built,y.Base) ad k:=h
  At.snd' (At.snd' (At.snd' (At.snd' (At.snd' (At.zero h0)))))
theorem ty71:Ty Tryz.prog 71 Cap:=⟨⟨_,Tryz.underlying71,rfl⟩,by kernel_rfl⟩
theorem fo37_4:FieldOk Tryz.prog 37 4 11:=⟨_,_,0,Tryz.underlying37,rfl,rfl,by kernel_rfl⟩
theorem at_Town_4 (y:Town) (ad:Addr) (k:K) (h:At y ad k):At y.Built (ad.add 11) k:=
  have h0:At (y.Plan,y.Land,y.Easements,y.Windows,y.Built,y.Base) ad k:=h
  At.fst (At.snd' (At.snd' (At.snd' (At.snd' (At.zero h0)))))
theorem ty34:Ty Tryz.prog 34 (List Placed):=⟨⟨_,Tryz.underlying34,rfl⟩,by kernel_rfl⟩
theorem fo37_0:FieldOk Tryz.prog 37 0 0:=⟨_,_,7,Tryz.underlying37,rfl,rfl,by kernel_rfl⟩
theorem at_Town_0 (y:Town) (ad:Addr) (k:K) (h:At y ad k):At y.Plan (ad.add 0) k:=
  have h0:At (y.Plan,y.Land,y.Easements,y.Windows,y.Built,y.Base) ad k:=h
  At.fst (At.zero h0)
theorem fo43_5:FieldOk Tryz.prog 43 5 6:=⟨_,_,0,Tryz.underlying43,rfl,rfl,by kernel_rfl⟩
theorem fo43_2:FieldOk Tryz.prog 43 2 2:=⟨_,_,1,Tryz.underlying43,rfl,rfl,by kernel_rfl⟩
theorem at_Right_2 (y:Right) (ad:Addr) (k:K) (h:At y ad k):At y.Drawing (ad.add 2) k:=
  have h0:At (y.Id,y.Holder,y.Drawing,y.Used,y.Until,y.Over) ad k:=h
  At.fst (At.snd' (At.snd' (At.zero h0)))
theorem ty46:Ty Tryz.prog 46 Phase:=⟨⟨_,Tryz.underlying46,rfl⟩,by kernel_rfl⟩
theorem z46:Zero Tryz.prog 46 ((⟨[],[]⟩:Phase):Phase):=⟨_,Tryz.zeroValue46,fun _=>⟨_,rfl,⟨rfl,⟨_,rfl,.inl ⟨rfl,rfl⟩⟩,⟨_,rfl,.inl ⟨rfl,rfl⟩⟩⟩⟩⟩
theorem szf46:(Tryz.prog.info? 46).map (·.size) = some (Enc.sz Phase):=by kernel_rfl
theorem fo46_0:FieldOk Tryz.prog 46 0 0:=⟨_,_,0,Tryz.underlying46,rfl,rfl,by kernel_rfl⟩
theorem at_Phase_0 (y:Phase) (ad:Addr) (k:K) (h:At y ad k):At y.Volumes (ad.add 0) k:=
  have h0:At (y.Volumes,y.Gives) ad k:=h
  At.fst (At.zero h0)
theorem ty44:Ty Tryz.prog 44 (List Volume):=⟨⟨_,Tryz.underlying44,rfl⟩,by kernel_rfl⟩
theorem fo46_1:FieldOk Tryz.prog 46 1 1:=⟨_,_,0,Tryz.underlying46,rfl,rfl,by kernel_rfl⟩
theorem at_Phase_1 (y:Phase) (ad:Addr) (k:K) (h:At y ad k):At y.Gives (ad.add 1) k:=
  have h0:At (y.Volumes,y.Gives) ad k:=h
  At.snd' (At.zero h0)
theorem ty43:Ty Tryz.prog 43 Right:=⟨⟨_,Tryz.underlying43,rfl⟩,by kernel_rfl⟩
theorem z75:Zero Tryz.prog 75 ((⟨(⟨#[]⟩:ByteArray),0,[]⟩:Peak):Peak):=⟨_,Tryz.zeroValue75,fun _=>⟨_,rfl,⟨rfl,rfl,⟨rfl,rfl,⟨_,rfl,.inl ⟨rfl,rfl⟩⟩⟩⟩⟩⟩
def ho_75_2:Hole Peak:=⟨0 + 2,Int,inferInstance,3,fun x=>x.Tops,fun x y=>{ x with Tops:=y }⟩
theorem bld75_0_1N {k:K} {v0 v1:Value} {x0:ByteArray} {x1:Int} (h0:IsV x0 v0 k) (h1:IsV x1 v1 k) : ∃ v,(∀ w,(Instr.build 75 #[(0,v0),(1,v1)]).run Tryz.prog w = .ok v w)∧IsVN [ho_75_2.off] (⟨x0,x1,[]⟩:Peak) v k:=by
  obtain ⟨l0,e0,r0,n0⟩:=isV_cellsL h0
  obtain ⟨u0_0,rfl⟩:=len1 n0
  obtain ⟨l1,e1,r1,n1⟩:=isV_cellsL h1
  obtain ⟨u1_0,rfl⟩:=len1 n1
  refine ⟨.agg #[u0_0,u1_0,.slice none 0 0],fun w=>?_,[u0_0,u1_0,.slice none 0 0],rfl,rfl,⟨rfl,r0,⟨rfl,r1,⟨_,rfl,.inl ⟨rfl,rfl⟩⟩⟩⟩,fun _ h=>by cases h with | head=>rfl | tail _ h=>exact nomatch h⟩
  simp [Instr.build,Instr.fill,cells_agg,e0,e1]
theorem szf75:(Tryz.prog.info? 75).map (·.size) = some (Enc.sz Peak):=by kernel_rfl
theorem upd_F75_2:Upd (α:=Peak) (β:=(List Int)) (0 + 2) (fun x y=>{ x with Tops:=y }):=fun k cs cy x y hx hy=>(Upd.snd (Upd.snd Upd.self)) k cs cy (x.Cap,x.Base,x.Tops) y hx hy
theorem hu_75_2:Upds [ho_75_2]:=⟨upd_F75_2,trivial⟩
theorem z43:Zero Tryz.prog 43 ((⟨0,0,(⟨0,[]⟩:Drawing),0,0,false⟩:Right):Right):=⟨_,Tryz.zeroValue43,fun _=>⟨_,rfl,⟨rfl,rfl,⟨rfl,rfl,⟨rfl,⟨rfl,rfl,⟨_,rfl,.inl ⟨rfl,rfl⟩⟩⟩,⟨rfl,rfl,⟨rfl,rfl,rfl⟩⟩⟩⟩⟩⟩⟩
theorem szf43:(Tryz.prog.info? 43).map (·.size) = some (Enc.sz Right):=by kernel_rfl
theorem fo75_2:FieldOk Tryz.prog 75 2 2:=⟨_,_,0,Tryz.underlying75,rfl,rfl,by kernel_rfl⟩
theorem szf67:(Tryz.prog.info? 67).map (·.size) = some (Enc.sz (List Int)):=by kernel_rfl
theorem hc_75_2 (x:Peak):CloseOk x [ho_75_2]:=⟨upd_F75_2,rfl,(fun _ h=>nomatch h),trivial⟩
theorem ty75:Ty Tryz.prog 75 Peak:=⟨⟨_,Tryz.underlying75,rfl⟩,by kernel_rfl⟩
theorem eo97:ElemOk Tryz.prog 97 Placed:=⟨_,_,rfl,rfl,rfl,rfl,by decide,by decide⟩
def ho_37_4:Hole Town:=⟨0 + 11,Placed,inferInstance,97,fun x=>x.Built,fun x y=>{ x with Built:=y }⟩
def ho_37_5:Hole Town:=⟨0 + 12,Entry,inferInstance,99,fun x=>x.Base,fun x y=>{ x with Base:=y }⟩
theorem upd_F37_4:Upd (α:=Town) (β:=(List Placed)) (0 + 11) (fun x y=>{ x with Built:=y }):=fun k cs cy x y hx hy=>(Upd.snd (Upd.snd (Upd.snd (Upd.snd (Upd.fst Upd.self))))) k cs cy (x.Plan,x.Land,x.Easements,x.Windows,x.Built,x.Base) y hx hy
theorem upd_F37_5:Upd (α:=Town) (β:=(List Entry)) (0 + 12) (fun x y=>{ x with Base:=y }):=fun k cs cy x y hx hy=>(Upd.snd (Upd.snd (Upd.snd (Upd.snd (Upd.snd Upd.self))))) k cs cy (x.Plan,x.Land,x.Easements,x.Windows,x.Built,x.Base) y hx hy
theorem hu_37_4_37_5:Upds [ho_37_4,ho_37_5]:=⟨upd_F37_4,upd_F37_5,trivial⟩
theorem szf34:(Tryz.prog.info? 34).map (·.size) = some (Enc.sz (List Placed)):=by kernel_rfl
theorem szf35:(Tryz.prog.info? 35).map (·.size) = some (Enc.sz (List Entry)):=by kernel_rfl
theorem bld97_0_1 {k:K} {v0 v1:Value} {x0:Int} {x1:Volume} (h0:IsV x0 v0 k) (h1:IsV x1 v1 k) : ∃ v,(∀ w,(Instr.build 97 #[(0,v0),(1,v1)]).run Tryz.prog w = .ok v w)∧IsV (⟨x0,x1⟩:Placed) v k:=by
  obtain ⟨l0,e0,r0,n0⟩:=isV_cellsL h0
  obtain ⟨u0_0,rfl⟩:=len1 n0
  obtain ⟨l1,e1,r1,n1⟩:=isV_cellsL h1
  obtain ⟨u1_0,u1_1,u1_2,u1_3,u1_4,u1_5,u1_6,u1_7,u1_8,rfl⟩:=len9 n1
  refine ⟨.agg #[u0_0,u1_0,u1_1,u1_2,u1_3,u1_4,u1_5,u1_6,u1_7,u1_8],fun w=>?_,[u0_0,u1_0,u1_1,u1_2,u1_3,u1_4,u1_5,u1_6,u1_7,u1_8],rfl,⟨rfl,r0,r1⟩⟩
  simp [Instr.build,Instr.fill,cells_agg,e0,e1]
theorem hc_37_4_37_5 (x:Town):CloseOk x [ho_37_4,ho_37_5]:=⟨upd_F37_4,rfl,(fun _ h=>by cases h with | head=>decide | tail _ h=>exact nomatch h),⟨upd_F37_5,rfl,(fun _ h=>nomatch h),trivial⟩⟩
theorem fo41_0:FieldOk Tryz.prog 41 0 0:=⟨_,_,0,Tryz.underlying41,rfl,rfl,by kernel_rfl⟩
theorem at_Drawing_0 (y:Drawing) (ad:Addr) (k:K) (h:At y ad k):At y.Lot (ad.add 0) k:=
  have h0:At (y.Lot,y.Phases) ad k:=h
  At.fst (At.zero h0)
theorem fo88_0:FieldOk Tryz.prog 88 0 0:=⟨_,_,0,Tryz.underlying88,rfl,rfl,by kernel_rfl⟩
theorem at_Point3_0 (y:Point3) (ad:Addr) (k:K) (h:At y ad k):At y.X (ad.add 0) k:=
  have h0:At (y.X,y.Y,y.Z) ad k:=h
  At.fst (At.zero h0)
theorem fo88_1:FieldOk Tryz.prog 88 1 1:=⟨_,_,0,Tryz.underlying88,rfl,rfl,by kernel_rfl⟩
theorem at_Point3_1 (y:Point3) (ad:Addr) (k:K) (h:At y ad k):At y.Y (ad.add 1) k:=
  have h0:At (y.X,y.Y,y.Z) ad k:=h
  At.fst (At.snd' (At.zero h0))
theorem fo88_2:FieldOk Tryz.prog 88 2 2:=⟨_,_,0,Tryz.underlying88,rfl,rfl,by kernel_rfl⟩
theorem at_Point3_2 (y:Point3) (ad:Addr) (k:K) (h:At y ad k):At y.Z (ad.add 2) k:=
  have h0:At (y.X,y.Y,y.Z) ad k:=h
  At.snd' (At.snd' (At.zero h0))
theorem ty130:Ty Tryz.prog 130 (List Rect):=⟨⟨_,Tryz.underlying130,rfl⟩,by kernel_rfl⟩
theorem fo230_0:FieldOk Tryz.prog 230 0 0:=⟨_,_,0,Tryz.underlying230,rfl,rfl,by kernel_rfl⟩
theorem at_RegionSpan_0 (y:RegionSpan) (ad:Addr) (k:K) (h:At y ad k):At y.from_ (ad.add 0) k:=
  have h0:At (y.from_,y.to_) ad k:=h
  At.fst (At.zero h0)
theorem ty230:Ty Tryz.prog 230 RegionSpan:=⟨⟨_,Tryz.underlying230,rfl⟩,by kernel_rfl⟩
theorem szf230:(Tryz.prog.info? 230).map (·.size) = some (Enc.sz RegionSpan):=by kernel_rfl
theorem bld230_0_1 {k:K} {v0 v1:Value} {x0:Int} {x1:Int} (h0:IsV x0 v0 k) (h1:IsV x1 v1 k) : ∃ v,(∀ w,(Instr.build 230 #[(0,v0),(1,v1)]).run Tryz.prog w = .ok v w)∧IsV (⟨x0,x1⟩:RegionSpan) v k:=by
  obtain ⟨l0,e0,r0,n0⟩:=isV_cellsL h0
  obtain ⟨u0_0,rfl⟩:=len1 n0
  obtain ⟨l1,e1,r1,n1⟩:=isV_cellsL h1
  obtain ⟨u1_0,rfl⟩:=len1 n1
  refine ⟨.agg #[u0_0,u1_0],fun w=>?_,[u0_0,u1_0],rfl,⟨rfl,r0,r1⟩⟩
  simp [Instr.build,Instr.fill,cells_agg,e0,e1]
theorem eo230:ElemOk Tryz.prog 230 RegionSpan:=⟨_,_,rfl,rfl,rfl,rfl,by decide,by decide⟩
theorem z230:Zero Tryz.prog 230 ((⟨0,0⟩:RegionSpan):RegionSpan):=⟨_,Tryz.zeroValue230,fun _=>⟨_,rfl,⟨rfl,rfl,rfl⟩⟩⟩
theorem fo230_1:FieldOk Tryz.prog 230 1 1:=⟨_,_,0,Tryz.underlying230,rfl,rfl,by kernel_rfl⟩
theorem at_RegionSpan_1 (y:RegionSpan) (ad:Addr) (k:K) (h:At y ad k):At y.to_ (ad.add 1) k:=
  have h0:At (y.from_,y.to_) ad k:=h
  At.snd' (At.zero h0)
theorem upd_F230_1:Upd (α:=RegionSpan) (β:=Int) (0 + 1) (fun x y=>{ x with to_:=y }):=fun k cs cy x y hx hy=>(Upd.snd Upd.self) k cs cy (x.from_,x.to_) y hx hy
theorem bld232_0_1_2 {k:K} {v0 v1 v2:Value} {x0:Int} {x1:Int} {x2:(List RegionSpan)} (h0:IsV x0 v0 k) (h1:IsV x1 v1 k) (h2:IsV x2 v2 k) : ∃ v,(∀ w,(Instr.build 232 #[(0,v0),(1,v1),(2,v2)]).run Tryz.prog w = .ok v w)∧IsV (⟨x0,x1,x2⟩:RegionStrip) v k:=by
  obtain ⟨l0,e0,r0,n0⟩:=isV_cellsL h0
  obtain ⟨u0_0,rfl⟩:=len1 n0
  obtain ⟨l1,e1,r1,n1⟩:=isV_cellsL h1
  obtain ⟨u1_0,rfl⟩:=len1 n1
  obtain ⟨l2,e2,r2,n2⟩:=isV_cellsL h2
  obtain ⟨u2_0,rfl⟩:=len1 n2
  refine ⟨.agg #[u0_0,u1_0,u2_0],fun w=>?_,[u0_0,u1_0,u2_0],rfl,⟨rfl,r0,⟨rfl,r1,r2⟩⟩⟩
  simp [Instr.build,Instr.fill,cells_agg,e0,e1,e2]
theorem eo232:ElemOk Tryz.prog 232 RegionStrip:=⟨_,_,rfl,rfl,rfl,rfl,by decide,by decide⟩
theorem eq230:EqOk Tryz.prog 230 RegionSpan:=by
  refine ⟨by kernel_rfl,fun k x y u v hx hy=>?_⟩
  obtain ⟨csx,ex,rx⟩:=hx
  have fx:csx = [.int .i64 x.from_,.int .i64 x.to_]:=by
    have hl:=Enc.len rx
    obtain ⟨u0,u1,rfl⟩:=len2 hl
    obtain ⟨_,qx0,qx1⟩:=rx
    have qx0:u0 = .int .i64 x.from_:=hd1 (show [u0] = [.int .i64 x.from_] from qx0)
    have qx1:u1 = .int .i64 x.to_:=hd1 (show [u1] = [.int .i64 x.to_] from qx1)
    rw [qx0,qx1]
  obtain ⟨csy,ey,ry⟩:=hy
  have fy:csy = [.int .i64 y.from_,.int .i64 y.to_]:=by
    have hl:=Enc.len ry
    obtain ⟨u0,u1,rfl⟩:=len2 hl
    obtain ⟨_,qy0,qy1⟩:=ry
    have qy0:u0 = .int .i64 y.from_:=hd1 (show [u0] = [.int .i64 y.from_] from qy0)
    have qy1:u1 = .int .i64 y.to_:=hd1 (show [u1] = [.int .i64 y.to_] from qy1)
    rw [qy0,qy1]
  subst fx; subst fy; subst ex; subst ey
  refine ⟨⟨_,rfl⟩,⟨_,rfl⟩,fun w=>?_⟩
  show (Op.equalIn (9998 + 1 + 1) 230 (.agg #[.int .i64 x.from_,.int .i64 x.to_]) (.agg #[.int .i64 y.from_,.int .i64 y.to_])).run Tryz.prog w = _
  rw [run_equalIn_struct w _ 230 _ _ (by kernel_rfl) Tryz.stoodInHeld230]
  generalize 9998 = d
  simp [Program.fieldsOf,Op.eqFields,part,aggOf,← beq_toListBytes,run_isAgg Tryz.underlying3,run_equalIn_int w d 3 .i64 .i64 _ _ Tryz.underlying3]
  obtain ⟨a0,a1⟩:=x
  obtain ⟨b0,b1⟩:=y
  simp only [RegionSpan.mk.injEq]
  by_cases h0:a0 = b0
  rotate_left
  · simp [h0]
  subst h0
  by_cases h1:a1 = b1
  rotate_left
  · simp [h1]
  subst h1
  simp
theorem eq79:EqOk Tryz.prog 79 Rect:=by
  refine ⟨by kernel_rfl,fun k x y u v hx hy=>?_⟩
  obtain ⟨csx,ex,rx⟩:=hx
  have fx:csx = [.int .i64 x.X0,.int .i64 x.Y0,.int .i64 x.X1,.int .i64 x.Y1]:=by
    have hl:=Enc.len rx
    obtain ⟨u0,u1,u2,u3,rfl⟩:=len4 hl
    obtain ⟨_,qx0,⟨_,qx1,⟨_,qx2,qx3⟩⟩⟩:=rx
    have qx0:u0 = .int .i64 x.X0:=hd1 (show [u0] = [.int .i64 x.X0] from qx0)
    have qx1:u1 = .int .i64 x.Y0:=hd1 (show [u1] = [.int .i64 x.Y0] from qx1)
    have qx2:u2 = .int .i64 x.X1:=hd1 (show [u2] = [.int .i64 x.X1] from qx2)
    have qx3:u3 = .int .i64 x.Y1:=hd1 (show [u3] = [.int .i64 x.Y1] from qx3)
    rw [qx0,qx1,qx2,qx3]
  obtain ⟨csy,ey,ry⟩:=hy
  have fy:csy = [.int .i64 y.X0,.int .i64 y.Y0,.int .i64 y.X1,.int .i64 y.Y1]:=by
    have hl:=Enc.len ry
    obtain ⟨u0,u1,u2,u3,rfl⟩:=len4 hl
    obtain ⟨_,qy0,⟨_,qy1,⟨_,qy2,qy3⟩⟩⟩:=ry
    have qy0:u0 = .int .i64 y.X0:=hd1 (show [u0] = [.int .i64 y.X0] from qy0)
    have qy1:u1 = .int .i64 y.Y0:=hd1 (show [u1] = [.int .i64 y.Y0] from qy1)
    have qy2:u2 = .int .i64 y.X1:=hd1 (show [u2] = [.int .i64 y.X1] from qy2)
    have qy3:u3 = .int .i64 y.Y1:=hd1 (show [u3] = [.int .i64 y.Y1] from qy3)
    rw [qy0,qy1,qy2,qy3]
  subst fx; subst fy; subst ex; subst ey
  refine ⟨⟨_,rfl⟩,⟨_,rfl⟩,fun w=>?_⟩
  show (Op.equalIn (9998 + 1 + 1) 79 (.agg #[.int .i64 x.X0,.int .i64 x.Y0,.int .i64 x.X1,.int .i64 x.Y1]) (.agg #[.int .i64 y.X0,.int .i64 y.Y0,.int .i64 y.X1,.int .i64 y.Y1])).run Tryz.prog w = _
  rw [run_equalIn_struct w _ 79 _ _ (by kernel_rfl) Tryz.stoodInHeld79]
  generalize 9998 = d
  simp [Program.fieldsOf,Op.eqFields,part,aggOf,← beq_toListBytes,run_isAgg Tryz.underlying3,run_equalIn_int w d 3 .i64 .i64 _ _ Tryz.underlying3]
  obtain ⟨a0,a1,a2,a3⟩:=x
  obtain ⟨b0,b1,b2,b3⟩:=y
  simp only [Rect.mk.injEq]
  by_cases h0:a0 = b0
  rotate_left
  · simp [h0]
  subst h0
  by_cases h1:a1 = b1
  rotate_left
  · simp [h1]
  subst h1
  by_cases h2:a2 = b2
  rotate_left
  · simp [h2]
  subst h2
  by_cases h3:a3 = b3
  rotate_left
  · simp [h3]
  subst h3
  simp
theorem ty145:Ty Tryz.prog 145 SightBound:=⟨⟨_,Tryz.underlying145,rfl⟩,by kernel_rfl⟩
theorem fo147_0:FieldOk Tryz.prog 147 0 0:=⟨_,_,2,Tryz.underlying147,rfl,rfl,by kernel_rfl⟩
theorem at_SightInterval_0 (y:SightInterval) (ad:Addr) (k:K) (h:At y ad k):At y.lo (ad.add 0) k:=
  have h0:At (y.lo,y.hi,y.top,y.none_) ad k:=h
  At.fst (At.zero h0)
theorem upd_F147_0:Upd (α:=SightInterval) (β:=SightBound) (0 + 0) (fun x y=>{ x with lo:=y }):=fun k cs cy x y hx hy=>(Upd.fst Upd.self) k cs cy (x.lo,x.hi,x.top,x.none_) y hx hy
theorem szf145:(Tryz.prog.info? 145).map (·.size) = some (Enc.sz SightBound):=by kernel_rfl
theorem fo145_2:FieldOk Tryz.prog 145 2 2:=⟨_,_,0,Tryz.underlying145,rfl,rfl,by kernel_rfl⟩
theorem at_SightBound_2 (y:SightBound) (ad:Addr) (k:K) (h:At y ad k):At y.open_ (ad.add 2) k:=
  have h0:At (y.n,y.d,y.open_) ad k:=h
  At.snd' (At.snd' (At.zero h0))
theorem upd_F145_2:Upd (α:=SightBound) (β:=Bool) (0 + 2) (fun x y=>{ x with open_:=y }):=fun k cs cy x y hx hy=>(Upd.snd (Upd.snd Upd.self)) k cs cy (x.n,x.d,x.open_) y hx hy
theorem upd_F147_0_F145_2:Upd (α:=SightInterval) (β:=Bool) (0 + 0 + 2) (fun x y=>{ x with lo:={ x.lo with open_:=y } }):=fun k cs cy x y hx hy=>(Upd.fst upd_F145_2) k cs cy (x.lo,x.hi,x.top,x.none_) y hx hy
theorem szf4:(Tryz.prog.info? 4).map (·.size) = some (Enc.sz Bool):=by kernel_rfl
theorem fo147_2:FieldOk Tryz.prog 147 2 6:=⟨_,_,0,Tryz.underlying147,rfl,rfl,by kernel_rfl⟩
theorem at_SightInterval_2 (y:SightInterval) (ad:Addr) (k:K) (h:At y ad k):At y.top (ad.add 6) k:=
  have h0:At (y.lo,y.hi,y.top,y.none_) ad k:=h
  At.fst (At.snd' (At.snd' (At.zero h0)))
theorem fo147_1:FieldOk Tryz.prog 147 1 3:=⟨_,_,2,Tryz.underlying147,rfl,rfl,by kernel_rfl⟩
theorem at_SightInterval_1 (y:SightInterval) (ad:Addr) (k:K) (h:At y ad k):At y.hi (ad.add 3) k:=
  have h0:At (y.lo,y.hi,y.top,y.none_) ad k:=h
  At.fst (At.snd' (At.zero h0))
theorem upd_F147_1:Upd (α:=SightInterval) (β:=SightBound) (0 + 3) (fun x y=>{ x with hi:=y }):=fun k cs cy x y hx hy=>(Upd.snd (Upd.fst Upd.self)) k cs cy (x.lo,x.hi,x.top,x.none_) y hx hy
theorem upd_F147_2:Upd (α:=SightInterval) (β:=Bool) (0 + 6) (fun x y=>{ x with top:=y }):=fun k cs cy x y hx hy=>(Upd.snd (Upd.snd (Upd.fst Upd.self))) k cs cy (x.lo,x.hi,x.top,x.none_) y hx hy
theorem upd_F147_1_F145_2:Upd (α:=SightInterval) (β:=Bool) (0 + 3 + 2) (fun x y=>{ x with hi:={ x.hi with open_:=y } }):=fun k cs cy x y hx hy=>(Upd.snd (Upd.fst upd_F145_2)) k cs cy (x.lo,x.hi,x.top,x.none_) y hx hy
theorem bld145_0_1_2 {k:K} {v0 v1 v2:Value} {x0:Int} {x1:Int} {x2:Bool} (h0:IsV x0 v0 k) (h1:IsV x1 v1 k) (h2:IsV x2 v2 k) : ∃ v,(∀ w,(Instr.build 145 #[(0,v0),(1,v1),(2,v2)]).run Tryz.prog w = .ok v w)∧IsV (⟨x0,x1,x2⟩:SightBound) v k:=by
  obtain ⟨l0,e0,r0,n0⟩:=isV_cellsL h0
  obtain ⟨u0_0,rfl⟩:=len1 n0
  obtain ⟨l1,e1,r1,n1⟩:=isV_cellsL h1
  obtain ⟨u1_0,rfl⟩:=len1 n1
  obtain ⟨l2,e2,r2,n2⟩:=isV_cellsL h2
  obtain ⟨u2_0,rfl⟩:=len1 n2
  refine ⟨.agg #[u0_0,u1_0,u2_0],fun w=>?_,[u0_0,u1_0,u2_0],rfl,⟨rfl,r0,⟨rfl,r1,r2⟩⟩⟩
  simp [Instr.build,Instr.fill,cells_agg,e0,e1,e2]
theorem fo147_3:FieldOk Tryz.prog 147 3 7:=⟨_,_,0,Tryz.underlying147,rfl,rfl,by kernel_rfl⟩
theorem upd_F147_3:Upd (α:=SightInterval) (β:=Bool) (0 + 7) (fun x y=>{ x with none_:=y }):=fun k cs cy x y hx hy=>(Upd.snd (Upd.snd (Upd.snd Upd.self))) k cs cy (x.lo,x.hi,x.top,x.none_) y hx hy
theorem ty147:Ty Tryz.prog 147 SightInterval:=⟨⟨_,Tryz.underlying147,rfl⟩,by kernel_rfl⟩
theorem z147:Zero Tryz.prog 147 ((⟨(⟨0,0,false⟩:SightBound),(⟨0,0,false⟩:SightBound),false,false⟩:SightInterval):SightInterval):=⟨_,Tryz.zeroValue147,fun _=>⟨_,rfl,⟨rfl,⟨rfl,rfl,⟨rfl,rfl,rfl⟩⟩,⟨rfl,⟨rfl,rfl,⟨rfl,rfl,rfl⟩⟩,⟨rfl,rfl,rfl⟩⟩⟩⟩⟩
theorem szf147:(Tryz.prog.info? 147).map (·.size) = some (Enc.sz SightInterval):=by kernel_rfl
theorem eq88:EqOk Tryz.prog 88 Point3:=by
  refine ⟨by kernel_rfl,fun k x y u v hx hy=>?_⟩
  obtain ⟨csx,ex,rx⟩:=hx
  have fx:csx = [.int .i64 x.X,.int .i64 x.Y,.int .i64 x.Z]:=by
    have hl:=Enc.len rx
    obtain ⟨u0,u1,u2,rfl⟩:=len3 hl
    obtain ⟨_,qx0,⟨_,qx1,qx2⟩⟩:=rx
    have qx0:u0 = .int .i64 x.X:=hd1 (show [u0] = [.int .i64 x.X] from qx0)
    have qx1:u1 = .int .i64 x.Y:=hd1 (show [u1] = [.int .i64 x.Y] from qx1)
    have qx2:u2 = .int .i64 x.Z:=hd1 (show [u2] = [.int .i64 x.Z] from qx2)
    rw [qx0,qx1,qx2]
  obtain ⟨csy,ey,ry⟩:=hy
  have fy:csy = [.int .i64 y.X,.int .i64 y.Y,.int .i64 y.Z]:=by
    have hl:=Enc.len ry
    obtain ⟨u0,u1,u2,rfl⟩:=len3 hl
    obtain ⟨_,qy0,⟨_,qy1,qy2⟩⟩:=ry
    have qy0:u0 = .int .i64 y.X:=hd1 (show [u0] = [.int .i64 y.X] from qy0)
    have qy1:u1 = .int .i64 y.Y:=hd1 (show [u1] = [.int .i64 y.Y] from qy1)
    have qy2:u2 = .int .i64 y.Z:=hd1 (show [u2] = [.int .i64 y.Z] from qy2)
    rw [qy0,qy1,qy2]
  subst fx; subst fy; subst ex; subst ey
  refine ⟨⟨_,rfl⟩,⟨_,rfl⟩,fun w=>?_⟩
  show (Op.equalIn (9998 + 1 + 1) 88 (.agg #[.int .i64 x.X,.int .i64 x.Y,.int .i64 x.Z]) (.agg #[.int .i64 y.X,.int .i64 y.Y,.int .i64 y.Z])).run Tryz.prog w = _
  rw [run_equalIn_struct w _ 88 _ _ (by kernel_rfl) Tryz.stoodInHeld88]
  generalize 9998 = d
  simp [Program.fieldsOf,Op.eqFields,part,aggOf,← beq_toListBytes,run_isAgg Tryz.underlying3,run_equalIn_int w d 3 .i64 .i64 _ _ Tryz.underlying3]
  obtain ⟨a0,a1,a2⟩:=x
  obtain ⟨b0,b1,b2⟩:=y
  simp only [Point3.mk.injEq]
  by_cases h0:a0 = b0
  rotate_left
  · simp [h0]
  subst h0
  by_cases h1:a1 = b1
  rotate_left
  · simp [h1]
  subst h1
  by_cases h2:a2 = b2
  rotate_left
  · simp [h2]
  subst h2
  simp
theorem z55:Zero Tryz.prog 55 ((⟨0,(⟨#[]⟩:ByteArray),0⟩:Limit):Limit):=⟨_,Tryz.zeroValue55,fun _=>⟨_,rfl,⟨rfl,rfl,⟨rfl,rfl,rfl⟩⟩⟩⟩
theorem szf55:(Tryz.prog.info? 55).map (·.size) = some (Enc.sz Limit):=by kernel_rfl
theorem fo30_4:FieldOk Tryz.prog 30 4 4:=⟨_,_,0,Tryz.underlying30,rfl,rfl,by kernel_rfl⟩
theorem at_Plan_4 (y:Plan) (ad:Addr) (k:K) (h:At y ad k):At y.Caps (ad.add 4) k:=
  have h0:At (y.Defs,y.Tables,y.Zones,y.Rules,y.Caps,y.Views,y.Sun,y.Hours) ad k:=h
  At.fst (At.snd' (At.snd' (At.snd' (At.snd' (At.zero h0)))))
theorem ty26:Ty Tryz.prog 26 (List Cap):=⟨⟨_,Tryz.underlying26,rfl⟩,by kernel_rfl⟩
theorem z71:Zero Tryz.prog 71 ((⟨(⟨#[]⟩:ByteArray),0,0,[]⟩:Cap):Cap):=⟨_,Tryz.zeroValue71,fun _=>⟨_,rfl,⟨rfl,rfl,⟨rfl,rfl,⟨rfl,rfl,⟨_,rfl,.inl ⟨rfl,rfl⟩⟩⟩⟩⟩⟩⟩
theorem szf71:(Tryz.prog.info? 71).map (·.size) = some (Enc.sz Cap):=by kernel_rfl
theorem fo71_2:FieldOk Tryz.prog 71 2 2:=⟨_,_,0,Tryz.underlying71,rfl,rfl,by kernel_rfl⟩
theorem at_Cap_2 (y:Cap) (ad:Addr) (k:K) (h:At y ad k):At y.Limit (ad.add 2) k:=
  have h0:At (y.Name,y.Load,y.Limit,y.Corners) ad k:=h
  At.fst (At.snd' (At.snd' (At.zero h0)))
def how_59:Hole (List Town):=⟨0,Town,inferInstance,37,fun x=>x,fun _ y=>y⟩
theorem hu__59:Upds [how_59]:=⟨Upd.self,trivial⟩
theorem szf59:(Tryz.prog.info? 59).map (·.size) = some (Enc.sz (List Town)):=by kernel_rfl
theorem eo37:ElemOk Tryz.prog 37 Town:=⟨_,_,rfl,rfl,rfl,rfl,by decide,by decide⟩
theorem tyf103:Ty Tryz.prog 103 RawV:=⟨⟨_,Tryz.underlying103,rfl⟩,by kernel_rfl⟩
theorem szr103:(Tryz.prog.info? 103).map (·.size) = some (Enc.sz RawV):=by kernel_rfl
theorem hc__59 (x:(List Town)):CloseOk x [how_59]:=⟨Upd.self,rfl,(fun _ h=>nomatch h),trivial⟩
theorem ty59:Ty Tryz.prog 59 (List Town):=⟨⟨_,Tryz.underlying59,rfl⟩,by kernel_rfl⟩
theorem eq55:EqOk Tryz.prog 55 Limit:=by
  refine ⟨by kernel_rfl,fun k x y u v hx hy=>?_⟩
  obtain ⟨csx,ex,rx⟩:=hx
  have fx:csx = [.int .i64 x.Kind,.string x.Name,.int .i64 x.N]:=by
    have hl:=Enc.len rx
    obtain ⟨u0,u1,u2,rfl⟩:=len3 hl
    obtain ⟨_,qx0,⟨_,qx1,qx2⟩⟩:=rx
    have qx0:u0 = .int .i64 x.Kind:=hd1 (show [u0] = [.int .i64 x.Kind] from qx0)
    have qx1:u1 = .string x.Name:=hd1 (show [u1] = [.string x.Name] from qx1)
    have qx2:u2 = .int .i64 x.N:=hd1 (show [u2] = [.int .i64 x.N] from qx2)
    rw [qx0,qx1,qx2]
  obtain ⟨csy,ey,ry⟩:=hy
  have fy:csy = [.int .i64 y.Kind,.string y.Name,.int .i64 y.N]:=by
    have hl:=Enc.len ry
    obtain ⟨u0,u1,u2,rfl⟩:=len3 hl
    obtain ⟨_,qy0,⟨_,qy1,qy2⟩⟩:=ry
    have qy0:u0 = .int .i64 y.Kind:=hd1 (show [u0] = [.int .i64 y.Kind] from qy0)
    have qy1:u1 = .string y.Name:=hd1 (show [u1] = [.string y.Name] from qy1)
    have qy2:u2 = .int .i64 y.N:=hd1 (show [u2] = [.int .i64 y.N] from qy2)
    rw [qy0,qy1,qy2]
  subst fx; subst fy; subst ex; subst ey
  refine ⟨⟨_,rfl⟩,⟨_,rfl⟩,fun w=>?_⟩
  show (Op.equalIn (9998 + 1 + 1) 55 (.agg #[.int .i64 x.Kind,.string x.Name,.int .i64 x.N]) (.agg #[.int .i64 y.Kind,.string y.Name,.int .i64 y.N])).run Tryz.prog w = _
  rw [run_equalIn_struct w _ 55 _ _ (by kernel_rfl) Tryz.stoodInHeld55]
  generalize 9998 = d
  simp [Program.fieldsOf,Op.eqFields,part,aggOf,← beq_toListBytes,run_isAgg Tryz.underlying3,run_equalIn_int w d 3 .i64 .i64 _ _ Tryz.underlying3,run_isAgg Tryz.underlying9,run_equalIn_string w d 9 _ _ Tryz.underlying9]
  obtain ⟨a0,a1,a2⟩:=x
  obtain ⟨b0,b1,b2⟩:=y
  simp only [Limit.mk.injEq]
  by_cases h0:a0 = b0
  rotate_left
  · simp [h0,beqBA]
  subst h0
  by_cases h1:a1 = b1
  rotate_left
  · simp [h1,beqBA]
  subst h1
  by_cases h2:a2 = b2
  rotate_left
  · simp [h2,beqBA]
  subst h2
  simp [beqBA]
def ho_37_0_30_4:Hole Town:=⟨0 + 0 + 4,Cap,inferInstance,71,fun x=>x.Plan.Caps,fun x y=>{ x with Plan:={ x.Plan with Caps:=y } }⟩
theorem upd_F30_4:Upd (α:=Plan) (β:=(List Cap)) (0 + 4) (fun x y=>{ x with Caps:=y }):=fun k cs cy x y hx hy=>(Upd.snd (Upd.snd (Upd.snd (Upd.snd (Upd.fst Upd.self))))) k cs cy (x.Defs,x.Tables,x.Zones,x.Rules,x.Caps,x.Views,x.Sun,x.Hours) y hx hy
theorem upd_F37_0_F30_4:Upd (α:=Town) (β:=(List Cap)) (0 + 0 + 4) (fun x y=>{ x with Plan:={ x.Plan with Caps:=y } }):=fun k cs cy x y hx hy=>(Upd.fst upd_F30_4) k cs cy (x.Plan,x.Land,x.Easements,x.Windows,x.Built,x.Base) y hx hy
theorem hu_37_0_30_4:Upds [ho_37_0_30_4]:=⟨upd_F37_0_F30_4,trivial⟩
theorem szf26:(Tryz.prog.info? 26).map (·.size) = some (Enc.sz (List Cap)):=by kernel_rfl
theorem upd_F71_2:Upd (α:=Cap) (β:=Int) (0 + 2) (fun x y=>{ x with Limit:=y }):=fun k cs cy x y hx hy=>(Upd.snd (Upd.snd (Upd.fst Upd.self))) k cs cy (x.Name,x.Load,x.Limit,x.Corners) y hx hy
theorem hc_37_0_30_4 (x:Town):CloseOk x [ho_37_0_30_4]:=⟨upd_F37_0_F30_4,rfl,(fun _ h=>nomatch h),trivial⟩
theorem upd_F43_5:Upd (α:=Right) (β:=Bool) (0 + 6) (fun x y=>{ x with Over:=y }):=fun k cs cy x y hx hy=>(Upd.snd (Upd.snd (Upd.snd (Upd.snd (Upd.snd Upd.self))))) k cs cy (x.Id,x.Holder,x.Drawing,x.Used,x.Until,x.Over) y hx hy
theorem rd9:Rd Tryz.prog 9 ByteArray:=rd_string Tryz.underlying9
theorem rd3:Rd Tryz.prog 3 Int:=rd_int Tryz.underlying3
theorem rd263:Rd Tryz.prog 263 Opq:=rd_opq Tryz.underlying263
instance:Rg Expr:=Rg.ofMap fun x=>(x.Op,x.N,x.S,x.Key,x.Args)
theorem rd265:Rd Tryz.prog 265 Expr:=rd_struct (f:=fun x=>(x.Op,x.N,x.S,x.Key,x.Args)) (fun y=>⟨y.1,y.2.1,y.2.2.1,y.2.2.2.1,y.2.2.2.2⟩) Tryz.underlying265 (by kernel_rfl) rfl (fun _ _ _ h=>h) (fun _ h=>h) (RdF.cons rfl (by kernel_rfl) rd3 (RdF.cons rfl (by kernel_rfl) rd3 (RdF.cons rfl (by kernel_rfl) rd9 (RdF.cons rfl (by kernel_rfl) rd9 (RdF.one rfl (by kernel_rfl) rd263))))) (fun _=>rfl)
instance:Rg Def:=Rg.ofMap fun x=>(x.Name,x.Body)
theorem rd267:Rd Tryz.prog 267 Def:=rd_struct (f:=fun x=>(x.Name,x.Body)) (fun y=>⟨y.1,y.2⟩) Tryz.underlying267 (by kernel_rfl) rfl (fun _ _ _ h=>h) (fun _ h=>h) (RdF.cons rfl (by kernel_rfl) rd9 (RdF.one rfl (by kernel_rfl) rd265)) (fun _=>rfl)
theorem rd22:Rd Tryz.prog 22 (List Def):=rd_slice Tryz.underlying22 (by kernel_rfl) (by decide) rd267
instance:Rg Entry:=Rg.ofMap fun x=>(x.Name,x.N)
theorem rd99:Rd Tryz.prog 99 Entry:=rd_struct (f:=fun x=>(x.Name,x.N)) (fun y=>⟨y.1,y.2⟩) Tryz.underlying99 (by kernel_rfl) rfl (fun _ _ _ h=>h) (fun _ h=>h) (RdF.cons rfl (by kernel_rfl) rd9 (RdF.one rfl (by kernel_rfl) rd3)) (fun _=>rfl)
theorem rd35:Rd Tryz.prog 35 (List Entry):=rd_slice Tryz.underlying35 (by kernel_rfl) (by decide) rd99
instance:Rg Table:=Rg.ofMap fun x=>(x.Name,x.Rows,x.Else)
theorem rd95:Rd Tryz.prog 95 Table:=rd_struct (f:=fun x=>(x.Name,x.Rows,x.Else)) (fun y=>⟨y.1,y.2.1,y.2.2⟩) Tryz.underlying95 (by kernel_rfl) rfl (fun _ _ _ h=>h) (fun _ h=>h) (RdF.cons rfl (by kernel_rfl) rd9 (RdF.cons rfl (by kernel_rfl) rd35 (RdF.one rfl (by kernel_rfl) rd3))) (fun _=>rfl)
theorem rd23:Rd Tryz.prog 23 (List Table):=rd_slice Tryz.underlying23 (by kernel_rfl) (by decide) rd95
theorem rd4:Rd Tryz.prog 4 Bool:=rd_bool Tryz.underlying4
instance:Rg Point:=Rg.ofMap fun x=>(x.X,x.Y)
theorem rd112:Rd Tryz.prog 112 Point:=rd_struct (f:=fun x=>(x.X,x.Y)) (fun y=>⟨y.1,y.2⟩) Tryz.underlying112 (by kernel_rfl) rfl (fun _ _ _ h=>h) (fun _ h=>h) (RdF.cons rfl (by kernel_rfl) rd3 (RdF.one rfl (by kernel_rfl) rd3)) (fun _=>rfl)
theorem rd69:Rd Tryz.prog 69 (List Point):=rd_slice Tryz.underlying69 (by kernel_rfl) (by decide) rd112
instance:Rg Zone:=Rg.ofMap fun x=>(x.Name,x.Overlay,x.Corners)
theorem rd269:Rd Tryz.prog 269 Zone:=rd_struct (f:=fun x=>(x.Name,x.Overlay,x.Corners)) (fun y=>⟨y.1,y.2.1,y.2.2⟩) Tryz.underlying269 (by kernel_rfl) rfl (fun _ _ _ h=>h) (fun _ h=>h) (RdF.cons rfl (by kernel_rfl) rd9 (RdF.cons rfl (by kernel_rfl) rd4 (RdF.one rfl (by kernel_rfl) rd69))) (fun _=>rfl)
theorem rd24:Rd Tryz.prog 24 (List Zone):=rd_slice Tryz.underlying24 (by kernel_rfl) (by decide) rd269
theorem rd212:Rd Tryz.prog 212 (List ByteArray):=rd_slice Tryz.underlying212 (by kernel_rfl) (by decide) rd9
instance:Rg Plane:=Rg.ofMap fun x=>(x.Side,x.Base,x.Num,x.Den)
theorem rd271:Rd Tryz.prog 271 Plane:=rd_struct (f:=fun x=>(x.Side,x.Base,x.Num,x.Den)) (fun y=>⟨y.1,y.2.1,y.2.2.1,y.2.2.2⟩) Tryz.underlying271 (by kernel_rfl) rfl (fun _ _ _ h=>h) (fun _ h=>h) (RdF.cons rfl (by kernel_rfl) rd3 (RdF.cons rfl (by kernel_rfl) rd3 (RdF.cons rfl (by kernel_rfl) rd3 (RdF.one rfl (by kernel_rfl) rd3)))) (fun _=>rfl)
instance:Rg Rule:=Rg.ofMap fun x=>(x.Name,x.Zones,x.Except,x.From,x.Until,x.Grace,x.Vary,x.Kind,x.Test,x.Plane,x.Uses,x.Other,x.N)
theorem rd273:Rd Tryz.prog 273 Rule:=rd_struct (f:=fun x=>(x.Name,x.Zones,x.Except,x.From,x.Until,x.Grace,x.Vary,x.Kind,x.Test,x.Plane,x.Uses,x.Other,x.N)) (fun y=>⟨y.1,y.2.1,y.2.2.1,y.2.2.2.1,y.2.2.2.2.1,y.2.2.2.2.2.1,y.2.2.2.2.2.2.1,y.2.2.2.2.2.2.2.1,y.2.2.2.2.2.2.2.2.1,y.2.2.2.2.2.2.2.2.2.1,y.2.2.2.2.2.2.2.2.2.2.1,y.2.2.2.2.2.2.2.2.2.2.2.1,y.2.2.2.2.2.2.2.2.2.2.2.2⟩) Tryz.underlying273 (by kernel_rfl) rfl (fun _ _ _ h=>h) (fun _ h=>h) (RdF.cons rfl (by kernel_rfl) rd9 (RdF.cons rfl (by kernel_rfl) rd212 (RdF.cons rfl (by kernel_rfl) rd212 (RdF.cons rfl (by kernel_rfl) rd3 (RdF.cons rfl (by kernel_rfl) rd3 (RdF.cons rfl (by kernel_rfl) rd3 (RdF.cons rfl (by kernel_rfl) rd4 (RdF.cons rfl (by kernel_rfl) rd3 (RdF.cons rfl (by kernel_rfl) rd265 (RdF.cons rfl (by kernel_rfl) rd271 (RdF.cons rfl (by kernel_rfl) rd3 (RdF.cons rfl (by kernel_rfl) rd3 (RdF.one rfl (by kernel_rfl) rd3))))))))))))) (fun _=>rfl)
theorem rd25:Rd Tryz.prog 25 (List Rule):=rd_slice Tryz.underlying25 (by kernel_rfl) (by decide) rd273
instance:Rg Cap:=Rg.ofMap fun x=>(x.Name,x.Load,x.Limit,x.Corners)
theorem rd71:Rd Tryz.prog 71 Cap:=rd_struct (f:=fun x=>(x.Name,x.Load,x.Limit,x.Corners)) (fun y=>⟨y.1,y.2.1,y.2.2.1,y.2.2.2⟩) Tryz.underlying71 (by kernel_rfl) rfl (fun _ _ _ h=>h) (fun _ h=>h) (RdF.cons rfl (by kernel_rfl) rd9 (RdF.cons rfl (by kernel_rfl) rd3 (RdF.cons rfl (by kernel_rfl) rd3 (RdF.one rfl (by kernel_rfl) rd69)))) (fun _=>rfl)
theorem rd26:Rd Tryz.prog 26 (List Cap):=rd_slice Tryz.underlying26 (by kernel_rfl) (by decide) rd71
instance:Rg Point3:=Rg.ofMap fun x=>(x.X,x.Y,x.Z)
theorem rd88:Rd Tryz.prog 88 Point3:=rd_struct (f:=fun x=>(x.X,x.Y,x.Z)) (fun y=>⟨y.1,y.2.1,y.2.2⟩) Tryz.underlying88 (by kernel_rfl) rfl (fun _ _ _ h=>h) (fun _ h=>h) (RdF.cons rfl (by kernel_rfl) rd3 (RdF.cons rfl (by kernel_rfl) rd3 (RdF.one rfl (by kernel_rfl) rd3))) (fun _=>rfl)
theorem rd28:Rd Tryz.prog 28 (List Point3):=rd_slice Tryz.underlying28 (by kernel_rfl) (by decide) rd88
instance:Rg View:=Rg.ofMap fun x=>(x.Name,x.Eye,x.Least,x.Targets)
theorem rd93:Rd Tryz.prog 93 View:=rd_struct (f:=fun x=>(x.Name,x.Eye,x.Least,x.Targets)) (fun y=>⟨y.1,y.2.1,y.2.2.1,y.2.2.2⟩) Tryz.underlying93 (by kernel_rfl) rfl (fun _ _ _ h=>h) (fun _ h=>h) (RdF.cons rfl (by kernel_rfl) rd9 (RdF.cons rfl (by kernel_rfl) rd88 (RdF.cons rfl (by kernel_rfl) rd3 (RdF.one rfl (by kernel_rfl) rd28)))) (fun _=>rfl)
theorem rd27:Rd Tryz.prog 27 (List View):=rd_slice Tryz.underlying27 (by kernel_rfl) (by decide) rd93
instance:Rg Plan:=Rg.ofMap fun x=>(x.Defs,x.Tables,x.Zones,x.Rules,x.Caps,x.Views,x.Sun,x.Hours)
theorem rd30:Rd Tryz.prog 30 Plan:=rd_struct (f:=fun x=>(x.Defs,x.Tables,x.Zones,x.Rules,x.Caps,x.Views,x.Sun,x.Hours)) (fun y=>⟨y.1,y.2.1,y.2.2.1,y.2.2.2.1,y.2.2.2.2.1,y.2.2.2.2.2.1,y.2.2.2.2.2.2.1,y.2.2.2.2.2.2.2⟩) Tryz.underlying30 (by kernel_rfl) rfl (fun _ _ _ h=>h) (fun _ h=>h) (RdF.cons rfl (by kernel_rfl) rd22 (RdF.cons rfl (by kernel_rfl) rd23 (RdF.cons rfl (by kernel_rfl) rd24 (RdF.cons rfl (by kernel_rfl) rd25 (RdF.cons rfl (by kernel_rfl) rd26 (RdF.cons rfl (by kernel_rfl) rd27 (RdF.cons rfl (by kernel_rfl) rd28 (RdF.one rfl (by kernel_rfl) rd3)))))))) (fun _=>rfl)
instance:Rg Rect:=Rg.ofMap fun x=>(x.X0,x.Y0,x.X1,x.Y1)
theorem rd79:Rd Tryz.prog 79 Rect:=rd_struct (f:=fun x=>(x.X0,x.Y0,x.X1,x.Y1)) (fun y=>⟨y.1,y.2.1,y.2.2.1,y.2.2.2⟩) Tryz.underlying79 (by kernel_rfl) rfl (fun _ _ _ h=>h) (fun _ h=>h) (RdF.cons rfl (by kernel_rfl) rd3 (RdF.cons rfl (by kernel_rfl) rd3 (RdF.cons rfl (by kernel_rfl) rd3 (RdF.one rfl (by kernel_rfl) rd3)))) (fun _=>rfl)
theorem rd130:Rd Tryz.prog 130 (List Rect):=rd_slice Tryz.underlying130 (by kernel_rfl) (by decide) rd79
theorem rd67:Rd Tryz.prog 67 (List Int):=rd_slice Tryz.underlying67 (by kernel_rfl) (by decide) rd3
instance:Rg Lot:=Rg.ofMap fun x=>(x.Id,x.Owner,x.Area,x.From)
theorem rd275:Rd Tryz.prog 275 Lot:=rd_struct (f:=fun x=>(x.Id,x.Owner,x.Area,x.From)) (fun y=>⟨y.1,y.2.1,y.2.2.1,y.2.2.2⟩) Tryz.underlying275 (by kernel_rfl) rfl (fun _ _ _ h=>h) (fun _ h=>h) (RdF.cons rfl (by kernel_rfl) rd3 (RdF.cons rfl (by kernel_rfl) rd3 (RdF.cons rfl (by kernel_rfl) rd130 (RdF.one rfl (by kernel_rfl) rd67)))) (fun _=>rfl)
theorem rd31:Rd Tryz.prog 31 (List Lot):=rd_slice Tryz.underlying31 (by kernel_rfl) (by decide) rd275
instance:Rg Easement:=Rg.ofMap fun x=>(x.Lot,x.Area,x.Top)
theorem rd277:Rd Tryz.prog 277 Easement:=rd_struct (f:=fun x=>(x.Lot,x.Area,x.Top)) (fun y=>⟨y.1,y.2.1,y.2.2⟩) Tryz.underlying277 (by kernel_rfl) rfl (fun _ _ _ h=>h) (fun _ h=>h) (RdF.cons rfl (by kernel_rfl) rd3 (RdF.cons rfl (by kernel_rfl) rd130 (RdF.one rfl (by kernel_rfl) rd3))) (fun _=>rfl)
theorem rd32:Rd Tryz.prog 32 (List Easement):=rd_slice Tryz.underlying32 (by kernel_rfl) (by decide) rd277
instance:Rg Window:=Rg.ofMap fun x=>(x.Lot,x.At)
theorem rd90:Rd Tryz.prog 90 Window:=rd_struct (f:=fun x=>(x.Lot,x.At)) (fun y=>⟨y.1,y.2⟩) Tryz.underlying90 (by kernel_rfl) rfl (fun _ _ _ h=>h) (fun _ h=>h) (RdF.cons rfl (by kernel_rfl) rd3 (RdF.one rfl (by kernel_rfl) rd88)) (fun _=>rfl)
theorem rd33:Rd Tryz.prog 33 (List Window):=rd_slice Tryz.underlying33 (by kernel_rfl) (by decide) rd90
instance:Rg Box:=Rg.ofMap fun x=>(x.Base,x.Z0,x.Z1)
theorem rd81:Rd Tryz.prog 81 Box:=rd_struct (f:=fun x=>(x.Base,x.Z0,x.Z1)) (fun y=>⟨y.1,y.2.1,y.2.2⟩) Tryz.underlying81 (by kernel_rfl) rfl (fun _ _ _ h=>h) (fun _ h=>h) (RdF.cons rfl (by kernel_rfl) rd79 (RdF.cons rfl (by kernel_rfl) rd3 (RdF.one rfl (by kernel_rfl) rd3))) (fun _=>rfl)
instance:Rg Volume:=Rg.ofMap fun x=>(x.Box,x.Use,x.Units,x.Extra)
theorem rd83:Rd Tryz.prog 83 Volume:=rd_struct (f:=fun x=>(x.Box,x.Use,x.Units,x.Extra)) (fun y=>⟨y.1,y.2.1,y.2.2.1,y.2.2.2⟩) Tryz.underlying83 (by kernel_rfl) rfl (fun _ _ _ h=>h) (fun _ h=>h) (RdF.cons rfl (by kernel_rfl) rd81 (RdF.cons rfl (by kernel_rfl) rd3 (RdF.cons rfl (by kernel_rfl) rd3 (RdF.one rfl (by kernel_rfl) rd4)))) (fun _=>rfl)
instance:Rg Placed:=Rg.ofMap fun x=>(x.Lot,x.Volume)
theorem rd97:Rd Tryz.prog 97 Placed:=rd_struct (f:=fun x=>(x.Lot,x.Volume)) (fun y=>⟨y.1,y.2⟩) Tryz.underlying97 (by kernel_rfl) rfl (fun _ _ _ h=>h) (fun _ h=>h) (RdF.cons rfl (by kernel_rfl) rd3 (RdF.one rfl (by kernel_rfl) rd83)) (fun _=>rfl)
theorem rd34:Rd Tryz.prog 34 (List Placed):=rd_slice Tryz.underlying34 (by kernel_rfl) (by decide) rd97
instance:Rg Town:=Rg.ofMap fun x=>(x.Plan,x.Land,x.Easements,x.Windows,x.Built,x.Base)
theorem rd37:Rd Tryz.prog 37 Town:=rd_struct (f:=fun x=>(x.Plan,x.Land,x.Easements,x.Windows,x.Built,x.Base)) (fun y=>⟨y.1,y.2.1,y.2.2.1,y.2.2.2.1,y.2.2.2.2.1,y.2.2.2.2.2⟩) Tryz.underlying37 (by kernel_rfl) rfl (fun _ _ _ h=>h) (fun _ h=>h) (RdF.cons rfl (by kernel_rfl) rd30 (RdF.cons rfl (by kernel_rfl) rd31 (RdF.cons rfl (by kernel_rfl) rd32 (RdF.cons rfl (by kernel_rfl) rd33 (RdF.cons rfl (by kernel_rfl) rd34 (RdF.one rfl (by kernel_rfl) rd35)))))) (fun _=>rfl)
theorem rd44:Rd Tryz.prog 44 (List Volume):=rd_slice Tryz.underlying44 (by kernel_rfl) (by decide) rd83
instance:Rg Phase:=Rg.ofMap fun x=>(x.Volumes,x.Gives)
theorem rd46:Rd Tryz.prog 46 Phase:=rd_struct (f:=fun x=>(x.Volumes,x.Gives)) (fun y=>⟨y.1,y.2⟩) Tryz.underlying46 (by kernel_rfl) rfl (fun _ _ _ h=>h) (fun _ h=>h) (RdF.cons rfl (by kernel_rfl) rd44 (RdF.one rfl (by kernel_rfl) rd35)) (fun _=>rfl)
theorem rd39:Rd Tryz.prog 39 (List Phase):=rd_slice Tryz.underlying39 (by kernel_rfl) (by decide) rd46
instance:Rg Drawing:=Rg.ofMap fun x=>(x.Lot,x.Phases)
theorem rd41:Rd Tryz.prog 41 Drawing:=rd_struct (f:=fun x=>(x.Lot,x.Phases)) (fun y=>⟨y.1,y.2⟩) Tryz.underlying41 (by kernel_rfl) rfl (fun _ _ _ h=>h) (fun _ h=>h) (RdF.cons rfl (by kernel_rfl) rd3 (RdF.one rfl (by kernel_rfl) rd39)) (fun _=>rfl)
instance:Rg Right:=Rg.ofMap fun x=>(x.Id,x.Holder,x.Drawing,x.Used,x.Until,x.Over)
theorem rd43:Rd Tryz.prog 43 Right:=rd_struct (f:=fun x=>(x.Id,x.Holder,x.Drawing,x.Used,x.Until,x.Over)) (fun y=>⟨y.1,y.2.1,y.2.2.1,y.2.2.2.1,y.2.2.2.2.1,y.2.2.2.2.2⟩) Tryz.underlying43 (by kernel_rfl) rfl (fun _ _ _ h=>h) (fun _ h=>h) (RdF.cons rfl (by kernel_rfl) rd3 (RdF.cons rfl (by kernel_rfl) rd3 (RdF.cons rfl (by kernel_rfl) rd41 (RdF.cons rfl (by kernel_rfl) rd3 (RdF.cons rfl (by kernel_rfl) rd3 (RdF.one rfl (by kernel_rfl) rd4)))))) (fun _=>rfl)
theorem rd38:Rd Tryz.prog 38 (List Right):=rd_slice Tryz.underlying38 (by kernel_rfl) (by decide) rd43
noncomputable def tb:Tb where
  P:=Tryz.prog
  S:=fun n=>match n with
    | 0=>PolygonSide
    | 1=>Point
    | 2=>Rect
    | 3=>Phase
    | 4=>Volume
    | 5=>Box
    | 6=>Entry
    | 7=>Town
    | 8=>Plan
    | 9=>Def
    | 10=>Expr
    | 11=>Table
    | 12=>Zone
    | 13=>Rule
    | 14=>Plane
    | 15=>Cap
    | 16=>View
    | 17=>Point3
    | 18=>Lot
    | 19=>Easement
    | 20=>Window
    | 21=>Placed
    | 22=>Slab
    | 23=>RegionSpan
    | 24=>RegionStrip
    | 25=>SightInterval
    | 26=>SightBound
    | 27=>Limit
    | 28=>Right
    | 29=>Drawing
    | 30=>(ByteArray × ByteArray × ByteArray × ByteArray × ByteArray × ByteArray)
    | 31=>Peak
    | _ + 32=>Unit
  fs:=fun n=>match n with
    | 0=>[.st 1,.st 1]
    | 1=>[.int,.int]
    | 2=>[.int,.int,.int,.int]
    | 3=>[.list (.st 4),.list (.st 6)]
    | 4=>[.st 5,.int,.int,.bool]
    | 5=>[.st 2,.int,.int]
    | 6=>[.str,.int]
    | 7=>[.st 8,.list (.st 18),.list (.st 19),.list (.st 20),.list (.st 21),.list (.st 6)]
    | 8=>[.list (.st 9),.list (.st 11),.list (.st 12),.list (.st 13),.list (.st 15),.list (.st 16),.list (.st 17),.int]
    | 9=>[.str,.st 10]
    | 10=>[.int,.int,.str,.str,.op]
    | 11=>[.str,.list (.st 6),.int]
    | 12=>[.str,.bool,.list (.st 1)]
    | 13=>[.str,.list .str,.list .str,.int,.int,.int,.bool,.int,.st 10,.st 14,.int,.int,.int]
    | 14=>[.int,.int,.int,.int]
    | 15=>[.str,.int,.int,.list (.st 1)]
    | 16=>[.str,.st 17,.int,.list (.st 17)]
    | 17=>[.int,.int,.int]
    | 18=>[.int,.int,.list (.st 2),.list .int]
    | 19=>[.int,.list (.st 2),.int]
    | 20=>[.int,.st 17]
    | 21=>[.int,.st 4]
    | 22=>[.int,.int,.list (.st 2)]
    | 23=>[.int,.int]
    | 24=>[.int,.int,.list (.st 23)]
    | 25=>[.st 26,.st 26,.bool,.bool]
    | 26=>[.int,.int,.bool]
    | 27=>[.int,.str,.int]
    | 28=>[.int,.int,.st 29,.int,.int,.bool]
    | 29=>[.int,.list (.st 3)]
    | 30=>[.str,.str,.str,.str,.str,.str]
    | 31=>[.str,.int,.list .int]
    | _ + 32=>[]
  to:=fun n=>match n with
    | 0=>fun x=>(x.a,x.b)
    | 1=>fun x=>(x.X,x.Y)
    | 2=>fun x=>(x.X0,x.Y0,x.X1,x.Y1)
    | 3=>fun x=>(x.Volumes,x.Gives)
    | 4=>fun x=>(x.Box,x.Use,x.Units,x.Extra)
    | 5=>fun x=>(x.Base,x.Z0,x.Z1)
    | 6=>fun x=>(x.Name,x.N)
    | 7=>fun x=>(x.Plan,x.Land,x.Easements,x.Windows,x.Built,x.Base)
    | 8=>fun x=>(x.Defs,x.Tables,x.Zones,x.Rules,x.Caps,x.Views,x.Sun,x.Hours)
    | 9=>fun x=>(x.Name,x.Body)
    | 10=>fun x=>(x.Op,x.N,x.S,x.Key,x.Args)
    | 11=>fun x=>(x.Name,x.Rows,x.Else)
    | 12=>fun x=>(x.Name,x.Overlay,x.Corners)
    | 13=>fun x=>(x.Name,x.Zones,x.Except,x.From,x.Until,x.Grace,x.Vary,x.Kind,x.Test,x.Plane,x.Uses,x.Other,x.N)
    | 14=>fun x=>(x.Side,x.Base,x.Num,x.Den)
    | 15=>fun x=>(x.Name,x.Load,x.Limit,x.Corners)
    | 16=>fun x=>(x.Name,x.Eye,x.Least,x.Targets)
    | 17=>fun x=>(x.X,x.Y,x.Z)
    | 18=>fun x=>(x.Id,x.Owner,x.Area,x.From)
    | 19=>fun x=>(x.Lot,x.Area,x.Top)
    | 20=>fun x=>(x.Lot,x.At)
    | 21=>fun x=>(x.Lot,x.Volume)
    | 22=>fun x=>(x.Z0,x.Z1,x.Area)
    | 23=>fun x=>(x.from_,x.to_)
    | 24=>fun x=>(x.x0,x.x1,x.column)
    | 25=>fun x=>(x.lo,x.hi,x.top,x.none_)
    | 26=>fun x=>(x.n,x.d,x.open_)
    | 27=>fun x=>(x.Kind,x.Name,x.N)
    | 28=>fun x=>(x.Id,x.Holder,x.Drawing,x.Used,x.Until,x.Over)
    | 29=>fun x=>(x.Lot,x.Phases)
    | 30=>fun x=>x
    | 31=>fun x=>(x.Cap,x.Base,x.Tops)
    | _ + 32=>fun _=>()
  of:=fun n=>match n with
    | 0=>fun x=>⟨x.1,x.2⟩
    | 1=>fun x=>⟨x.1,x.2⟩
    | 2=>fun x=>⟨x.1,x.2.1,x.2.2.1,x.2.2.2⟩
    | 3=>fun x=>⟨x.1,x.2⟩
    | 4=>fun x=>⟨x.1,x.2.1,x.2.2.1,x.2.2.2⟩
    | 5=>fun x=>⟨x.1,x.2.1,x.2.2⟩
    | 6=>fun x=>⟨x.1,x.2⟩
    | 7=>fun x=>⟨x.1,x.2.1,x.2.2.1,x.2.2.2.1,x.2.2.2.2.1,x.2.2.2.2.2⟩
    | 8=>fun x=>⟨x.1,x.2.1,x.2.2.1,x.2.2.2.1,x.2.2.2.2.1,x.2.2.2.2.2.1,x.2.2.2.2.2.2.1,x.2.2.2.2.2.2.2⟩
    | 9=>fun x=>⟨x.1,x.2⟩
    | 10=>fun x=>⟨x.1,x.2.1,x.2.2.1,x.2.2.2.1,x.2.2.2.2⟩
    | 11=>fun x=>⟨x.1,x.2.1,x.2.2⟩
    | 12=>fun x=>⟨x.1,x.2.1,x.2.2⟩
    | 13=>fun x=>⟨x.1,x.2.1,x.2.2.1,x.2.2.2.1,x.2.2.2.2.1,x.2.2.2.2.2.1,x.2.2.2.2.2.2.1,x.2.2.2.2.2.2.2.1,x.2.2.2.2.2.2.2.2.1,x.2.2.2.2.2.2.2.2.2.1,x.2.2.2.2.2.2.2.2.2.2.1,x.2.2.2.2.2.2.2.2.2.2.2.1,x.2.2.2.2.2.2.2.2.2.2.2.2⟩
    | 14=>fun x=>⟨x.1,x.2.1,x.2.2.1,x.2.2.2⟩
    | 15=>fun x=>⟨x.1,x.2.1,x.2.2.1,x.2.2.2⟩
    | 16=>fun x=>⟨x.1,x.2.1,x.2.2.1,x.2.2.2⟩
    | 17=>fun x=>⟨x.1,x.2.1,x.2.2⟩
    | 18=>fun x=>⟨x.1,x.2.1,x.2.2.1,x.2.2.2⟩
    | 19=>fun x=>⟨x.1,x.2.1,x.2.2⟩
    | 20=>fun x=>⟨x.1,x.2⟩
    | 21=>fun x=>⟨x.1,x.2⟩
    | 22=>fun x=>⟨x.1,x.2.1,x.2.2⟩
    | 23=>fun x=>⟨x.1,x.2⟩
    | 24=>fun x=>⟨x.1,x.2.1,x.2.2⟩
    | 25=>fun x=>⟨x.1,x.2.1,x.2.2.1,x.2.2.2⟩
    | 26=>fun x=>⟨x.1,x.2.1,x.2.2⟩
    | 27=>fun x=>⟨x.1,x.2.1,x.2.2⟩
    | 28=>fun x=>⟨x.1,x.2.1,x.2.2.1,x.2.2.2.1,x.2.2.2.2.1,x.2.2.2.2.2⟩
    | 29=>fun x=>⟨x.1,x.2⟩
    | 30=>fun x=>x
    | 31=>fun x=>⟨x.1,x.2.1,x.2.2⟩
    | _ + 32=>fun _=>()
  zero:=fun n=>match n with
    | 0=>(default:PolygonSide)
    | 1=>(default:Point)
    | 2=>(default:Rect)
    | 3=>(default:Phase)
    | 4=>(default:Volume)
    | 5=>(default:Box)
    | 6=>(default:Entry)
    | 7=>(default:Town)
    | 8=>(default:Plan)
    | 9=>(default:Def)
    | 10=>(default:Expr)
    | 11=>(default:Table)
    | 12=>(default:Zone)
    | 13=>(default:Rule)
    | 14=>(default:Plane)
    | 15=>(default:Cap)
    | 16=>(default:View)
    | 17=>(default:Point3)
    | 18=>(default:Lot)
    | 19=>(default:Easement)
    | 20=>(default:Window)
    | 21=>(default:Placed)
    | 22=>(default:Slab)
    | 23=>(default:RegionSpan)
    | 24=>(default:RegionStrip)
    | 25=>(default:SightInterval)
    | 26=>(default:SightBound)
    | 27=>(default:Limit)
    | 28=>(default:Right)
    | 29=>(default:Drawing)
    | 30=>(default:(ByteArray × ByteArray × ByteArray × ByteArray × ByteArray × ByteArray))
    | 31=>(default:Peak)
    | _ + 32=>()
  deq:=fun n=>match n with
    | 0=>(inferInstance:DecidableEq PolygonSide)
    | 1=>(inferInstance:DecidableEq Point)
    | 2=>(inferInstance:DecidableEq Rect)
    | 3=>(inferInstance:DecidableEq Phase)
    | 4=>(inferInstance:DecidableEq Volume)
    | 5=>(inferInstance:DecidableEq Box)
    | 6=>(inferInstance:DecidableEq Entry)
    | 7=>(inferInstance:DecidableEq Town)
    | 8=>(inferInstance:DecidableEq Plan)
    | 9=>(inferInstance:DecidableEq Def)
    | 10=>(inferInstance:DecidableEq Expr)
    | 11=>(inferInstance:DecidableEq Table)
    | 12=>(inferInstance:DecidableEq Zone)
    | 13=>(inferInstance:DecidableEq Rule)
    | 14=>(inferInstance:DecidableEq Plane)
    | 15=>(inferInstance:DecidableEq Cap)
    | 16=>(inferInstance:DecidableEq View)
    | 17=>(inferInstance:DecidableEq Point3)
    | 18=>(inferInstance:DecidableEq Lot)
    | 19=>(inferInstance:DecidableEq Easement)
    | 20=>(inferInstance:DecidableEq Window)
    | 21=>(inferInstance:DecidableEq Placed)
    | 22=>(inferInstance:DecidableEq Slab)
    | 23=>(inferInstance:DecidableEq RegionSpan)
    | 24=>(inferInstance:DecidableEq RegionStrip)
    | 25=>(inferInstance:DecidableEq SightInterval)
    | 26=>(inferInstance:DecidableEq SightBound)
    | 27=>(inferInstance:DecidableEq Limit)
    | 28=>(inferInstance:DecidableEq Right)
    | 29=>(inferInstance:DecidableEq Drawing)
    | 30=>(inferInstance:DecidableEq (ByteArray × ByteArray × ByteArray × ByteArray × ByteArray × ByteArray))
    | 31=>(inferInstance:DecidableEq Peak)
    | _ + 32=>(inferInstance:DecidableEq Unit)
  enc:=fun n=>match n with
    | 0=>(inferInstance:Enc PolygonSide)
    | 1=>(inferInstance:Enc Point)
    | 2=>(inferInstance:Enc Rect)
    | 3=>(inferInstance:Enc Phase)
    | 4=>(inferInstance:Enc Volume)
    | 5=>(inferInstance:Enc Box)
    | 6=>(inferInstance:Enc Entry)
    | 7=>(inferInstance:Enc Town)
    | 8=>(inferInstance:Enc Plan)
    | 9=>(inferInstance:Enc Def)
    | 10=>(inferInstance:Enc Expr)
    | 11=>(inferInstance:Enc Table)
    | 12=>(inferInstance:Enc Zone)
    | 13=>(inferInstance:Enc Rule)
    | 14=>(inferInstance:Enc Plane)
    | 15=>(inferInstance:Enc Cap)
    | 16=>(inferInstance:Enc View)
    | 17=>(inferInstance:Enc Point3)
    | 18=>(inferInstance:Enc Lot)
    | 19=>(inferInstance:Enc Easement)
    | 20=>(inferInstance:Enc Window)
    | 21=>(inferInstance:Enc Placed)
    | 22=>(inferInstance:Enc Slab)
    | 23=>(inferInstance:Enc RegionSpan)
    | 24=>(inferInstance:Enc RegionStrip)
    | 25=>(inferInstance:Enc SightInterval)
    | 26=>(inferInstance:Enc SightBound)
    | 27=>(inferInstance:Enc Limit)
    | 28=>(inferInstance:Enc Right)
    | 29=>(inferInstance:Enc Drawing)
    | 30=>(inferInstance:Enc (ByteArray × ByteArray × ByteArray × ByteArray × ByteArray × ByteArray))
    | 31=>(inferInstance:Enc Peak)
    | _ + 32=>Enc.ofMap (σ:=Unit) (β:=Unit) fun x=>x
  to_of:=fun n=>match n with
    | 0=>fun _=>rfl
    | 1=>fun _=>rfl
    | 2=>fun _=>rfl
    | 3=>fun _=>rfl
    | 4=>fun _=>rfl
    | 5=>fun _=>rfl
    | 6=>fun _=>rfl
    | 7=>fun _=>rfl
    | 8=>fun _=>rfl
    | 9=>fun _=>rfl
    | 10=>fun _=>rfl
    | 11=>fun _=>rfl
    | 12=>fun _=>rfl
    | 13=>fun _=>rfl
    | 14=>fun _=>rfl
    | 15=>fun _=>rfl
    | 16=>fun _=>rfl
    | 17=>fun _=>rfl
    | 18=>fun _=>rfl
    | 19=>fun _=>rfl
    | 20=>fun _=>rfl
    | 21=>fun _=>rfl
    | 22=>fun _=>rfl
    | 23=>fun _=>rfl
    | 24=>fun _=>rfl
    | 25=>fun _=>rfl
    | 26=>fun _=>rfl
    | 27=>fun _=>rfl
    | 28=>fun _=>rfl
    | 29=>fun _=>rfl
    | 30=>fun _=>rfl
    | 31=>fun _=>rfl
    | _ + 32=>fun _=>rfl
  zero_eq:=fun n=>match n with
    | 0=>rfl
    | 1=>rfl
    | 2=>rfl
    | 3=>rfl
    | 4=>rfl
    | 5=>rfl
    | 6=>rfl
    | 7=>rfl
    | 8=>rfl
    | 9=>rfl
    | 10=>rfl
    | 11=>rfl
    | 12=>rfl
    | 13=>rfl
    | 14=>rfl
    | 15=>rfl
    | 16=>rfl
    | 17=>rfl
    | 18=>rfl
    | 19=>rfl
    | 20=>rfl
    | 21=>rfl
    | 22=>rfl
    | 23=>rfl
    | 24=>rfl
    | 25=>rfl
    | 26=>rfl
    | 27=>rfl
    | 28=>rfl
    | 29=>rfl
    | 30=>rfl
    | 31=>rfl
    | _ + 32=>rfl
  enc_eq:=fun n=>match n with
    | 0=>rfl
    | 1=>rfl
    | 2=>rfl
    | 3=>rfl
    | 4=>rfl
    | 5=>rfl
    | 6=>rfl
    | 7=>rfl
    | 8=>rfl
    | 9=>rfl
    | 10=>rfl
    | 11=>rfl
    | 12=>rfl
    | 13=>rfl
    | 14=>rfl
    | 15=>rfl
    | 16=>rfl
    | 17=>rfl
    | 18=>rfl
    | 19=>rfl
    | 20=>rfl
    | 21=>rfl
    | 22=>rfl
    | 23=>rfl
    | 24=>rfl
    | 25=>rfl
    | 26=>rfl
    | 27=>rfl
    | 28=>rfl
    | 29=>rfl
    | 30=>rfl
    | 31=>rfl
    | _ + 32=>rfl
def tid:TypeId → Option Tp:=tidL [(3,.int),(30,.st 8),(37,.st 7),(41,.st 29),(43,.st 28),(46,.st 3),(55,.st 27),(71,.st 15),(75,.st 31),(79,.st 2),(81,.st 5),(83,.st 4),(88,.st 17),(90,.st 20),(93,.st 16),(97,.st 21),(99,.st 6),(112,.st 1),(117,.list (.st 22)),(130,.list (.st 2)),(145,.st 26),(147,.st 25),(155,.st 0),(161,.st 22),(230,.st 23)]
def eqs:List (TypeId × Nat):=[(230,23),(79,2),(88,17),(55,27)]
theorem eqsOk:EqsOk Tryz.prog tb eqs:=⟨eq230,eq79,eq88,eq55,trivial⟩
noncomputable def mk (f:FuncId) (dom cod:List Tp) (run:HL tb.S dom → Option (HL tb.S cod)) (ks:List (Fk tb Tryz.prog)) (own:List Nat) (fn:Func) (h:Hn tb) (hf:Tryz.prog.funcs[f]? = some fn)
  (hc : ∀ args w,(callFunc f args).run Tryz.prog w = .ok (.enter f args) w) (hb:fn.body = some (body fn)) (hl:Nat.ble dom.length fn.ntmps = true)
  (he : ∀ x,evF ⟨Tryz.prog,tid,eqs,depsOf ks,own,fn.results.toList,fn.ntmps⟩ (body fn) h dom cod x = run x):Fk tb Tryz.prog:=⟨f,⟨dom,cod,run⟩,fnOk ks own fn h eqsOk hmix rfl hf hc hb hl he⟩
noncomputable def mkO (f:FuncId) (dom cod:List Tp) (run:HL tb.S dom → Option (HL tb.S cod)) (hc : ∀ args w,(callFunc f args).run Tryz.prog w = .ok (.enter f args) w)
  (ok : ∀ (k0:K) (vs:List Value) (x:HL tb.S dom) (r:HL tb.S cod),GOk tb k0 → HIs dom x vs k0 → run x = some r → Calls Tryz.prog f vs.toArray k0.w (Ret k0 fun u k=>(resV cod r).is ⟨#[],[]⟩ u k)):Fk tb Tryz.prog:=⟨f,⟨dom,cod,run⟩,hc,ok⟩
end Go.Proofs.YtegglcdhfnjhcaaGreat
