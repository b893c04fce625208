/- What the functions compute that the law reaches, part 1 -/
import Derived.Test.YtagkmlkhaekldaaGreatProg
import Derived.Test.YtagkmlkhaekldaaGreatL7
import Derived.Shelf.Sort.Plain
import Derived.Shelf.Slices.In.SortNone
import Derived.Shelf.Slices.CompactI
import Derived.Shelf.Spec.SlicesGrow
import Derived.Shelf.SlSortCmp.NoneTotal
namespace Go.Proofs.YtagkmlkhaekldaaGreat
open Go.Gb
set_option linter.unusedVariables false
set_option linter.unusedSimpArgs false
set_option maxRecDepth 100000
structure Rect where
  X0:Int
  Y0:Int
  X1:Int
  Y1:Int
  deriving DecidableEq,Inhabited
instance:Enc Rect:=Enc.ofMap fun x=>(x.X0,x.Y0,x.X1,x.Y1)
structure Box where
  Base:Rect
  Z0:Int
  Z1:Int
  deriving DecidableEq,Inhabited
instance:Enc Box:=Enc.ofMap fun x=>(x.Base,x.Z0,x.Z1)
structure Volume where
  Box:Box
  Use:Int
  Units:Int
  Extra:Bool
  deriving DecidableEq,Inhabited
instance:Enc Volume:=Enc.ofMap fun x=>(x.Box,x.Use,x.Units,x.Extra)
structure RegionSpan where
  from_:Int
  to_:Int
  deriving DecidableEq,Inhabited
instance:Enc RegionSpan:=Enc.ofMap fun x=>(x.from_,x.to_)
structure RegionStrip where
  x0:Int
  x1:Int
  column:(List RegionSpan)
  deriving DecidableEq,Inhabited
instance:Enc RegionStrip:=Enc.ofMap fun x=>(x.x0,x.x1,x.column)
structure Entry where
  Name:ByteArray
  N:Int
  deriving DecidableEq,Inhabited
instance:Enc Entry:=Enc.ofMap fun x=>(x.Name,x.N)
structure Phase where
  Volumes:(List Volume)
  Gives:(List Entry)
  deriving DecidableEq,Inhabited
instance:Enc Phase:=Enc.ofMap fun x=>(x.Volumes,x.Gives)
structure Drawing where
  Lot:Int
  Phases:(List Phase)
  deriving DecidableEq,Inhabited
instance:Enc Drawing:=Enc.ofMap fun x=>(x.Lot,x.Phases)
structure Expr where
  Op:Int
  N:Int
  S:ByteArray
  Key:ByteArray
  Args:Opq
  deriving DecidableEq,Inhabited
instance:Enc Expr:=Enc.ofMap fun x=>(x.Op,x.N,x.S,x.Key,x.Args)
structure Def where
  Name:ByteArray
  Body:Expr
  deriving DecidableEq,Inhabited
instance:Enc Def:=Enc.ofMap fun x=>(x.Name,x.Body)
structure Table where
  Name:ByteArray
  Rows:(List Entry)
  Else:Int
  deriving DecidableEq,Inhabited
instance:Enc Table:=Enc.ofMap fun x=>(x.Name,x.Rows,x.Else)
structure Point where
  X:Int
  Y:Int
  deriving DecidableEq,Inhabited
instance:Enc Point:=Enc.ofMap fun x=>(x.X,x.Y)
structure Zone where
  Name:ByteArray
  Overlay:Bool
  Corners:(List Point)
  deriving DecidableEq,Inhabited
instance:Enc Zone:=Enc.ofMap fun x=>(x.Name,x.Overlay,x.Corners)
structure Plane where
  Side:Int
  Base:Int
  Num:Int
  Den:Int
  deriving DecidableEq,Inhabited
instance:Enc Plane:=Enc.ofMap fun x=>(x.Side,x.Base,x.Num,x.Den)
structure Rule where
  Name:ByteArray
  Zones:(List ByteArray)
  Except:(List ByteArray)
  From:Int
  Until:Int
  Grace:Int
  Vary:Bool
  Kind:Int
  Test:Expr
  Plane:Plane
  Uses:Int
  Other:Int
  N:Int
  deriving DecidableEq,Inhabited
instance:Enc Rule:=Enc.ofMap fun x=>(x.Name,x.Zones,x.Except,x.From,x.Until,x.Grace,x.Vary,x.Kind,x.Test,x.Plane,x.Uses,x.Other,x.N)
structure Cap where
  Name:ByteArray
  Load:Int
  Limit:Int
  Corners:(List Point)
  deriving DecidableEq,Inhabited
instance:Enc Cap:=Enc.ofMap fun x=>(x.Name,x.Load,x.Limit,x.Corners)
structure Point3 where
  X:Int
  Y:Int
  Z:Int
  deriving DecidableEq,Inhabited
instance:Enc Point3:=Enc.ofMap fun x=>(x.X,x.Y,x.Z)
structure View where
  Name:ByteArray
  Eye:Point3
  Least:Int
  Targets:(List Point3)
  deriving DecidableEq,Inhabited
instance:Enc View:=Enc.ofMap fun x=>(x.Name,x.Eye,x.Least,x.Targets)
structure Plan where
  Defs:(List Def)
  Tables:(List Table)
  Zones:(List Zone)
  Rules:(List Rule)
  Caps:(List Cap)
  Views:(List View)
  Sun:(List Point3)
  Hours:Int
  deriving DecidableEq,Inhabited
instance:Enc Plan:=Enc.ofMap fun x=>(x.Defs,x.Tables,x.Zones,x.Rules,x.Caps,x.Views,x.Sun,x.Hours)
structure MeasureSite where
  plan:Plan
  area:(List Rect)
  volumes:(List Volume)
  deriving DecidableEq,Inhabited
instance:Enc MeasureSite:=Enc.ofMap fun x=>(x.plan,x.area,x.volumes)
structure PolygonSide where
  a:Point
  b:Point
  deriving DecidableEq,Inhabited
instance:Enc PolygonSide:=Enc.ofMap fun x=>(x.a,x.b)
structure Lot where
  Id:Int
  Owner:Int
  Area:(List Rect)
  From:(List Int)
  deriving DecidableEq,Inhabited
instance:Enc Lot:=Enc.ofMap fun x=>(x.Id,x.Owner,x.Area,x.From)
theorem hmix:Tryz.prog.follows .mixedOrders = true:=by kernel_rfl
theorem z51:Zero Tryz.prog 51 ((⟨(⟨(⟨0,0,0,0⟩:Rect),0,0⟩:Box),0,0,false⟩:Volume):Volume):=⟨_,Tryz.zeroValue51,fun _=>⟨_,rfl,⟨rfl,⟨rfl,⟨rfl,rfl,⟨rfl,rfl,⟨rfl,rfl,rfl⟩⟩⟩,⟨rfl,rfl,rfl⟩⟩,⟨rfl,rfl,⟨rfl,rfl,rfl⟩⟩⟩⟩⟩
theorem ty51:Ty Tryz.prog 51 Volume:=⟨⟨_,Tryz.underlying51,rfl⟩,by kernel_rfl⟩
theorem eo47:ElemOk Tryz.prog 47 Rect:=⟨_,_,rfl,rfl,rfl,rfl,by decide,by decide⟩
theorem ty31:Ty Tryz.prog 31 (List Rect):=⟨⟨_,Tryz.underlying31,rfl⟩,by kernel_rfl⟩
theorem eq148:EqOk Tryz.prog 148 RegionSpan:=by
  refine ⟨by kernel_rfl,fun k x y u v hx hy=>?_⟩
  obtain ⟨csx,ex,rx⟩:=hx
  have fx:csx = [.int .i64 x.from_,.int .i64 x.to_]:=by
    have hl:=Enc.len rx
    obtain ⟨u0,u1,rfl⟩:=len2 hl
    obtain ⟨_,qx0,qx1⟩:=rx
    have qx0:u0 = .int .i64 x.from_:=hd1 (show [u0] = [.int .i64 x.from_] from qx0)
    have qx1:u1 = .int .i64 x.to_:=hd1 (show [u1] = [.int .i64 x.to_] from qx1)
    rw [qx0,qx1]
  obtain ⟨csy,ey,ry⟩:=hy
  have fy:csy = [.int .i64 y.from_,.int .i64 y.to_]:=by
    have hl:=Enc.len ry
    obtain ⟨u0,u1,rfl⟩:=len2 hl
    obtain ⟨_,qy0,qy1⟩:=ry
    have qy0:u0 = .int .i64 y.from_:=hd1 (show [u0] = [.int .i64 y.from_] from qy0)
    have qy1:u1 = .int .i64 y.to_:=hd1 (show [u1] = [.int .i64 y.to_] from qy1)
    rw [qy0,qy1]
  subst fx; subst fy; subst ex; subst ey
  refine ⟨⟨_,rfl⟩,⟨_,rfl⟩,fun w=>?_⟩
  show (Op.equalIn (9998 + 1 + 1) 148 (.agg #[.int .i64 x.from_,.int .i64 x.to_]) (.agg #[.int .i64 y.from_,.int .i64 y.to_])).run Tryz.prog w = _
  rw [run_equalIn_struct w _ 148 _ _ (by kernel_rfl) Tryz.stoodInHeld148]
  generalize 9998 = d
  simp [Program.fieldsOf,Op.eqFields,part,aggOf,← beq_toListBytes,run_isAgg Tryz.underlying3,run_equalIn_int w d 3 .i64 .i64 _ _ Tryz.underlying3]
  obtain ⟨a0,a1⟩:=x
  obtain ⟨b0,b1⟩:=y
  simp only [RegionSpan.mk.injEq]
  by_cases h0:a0 = b0
  rotate_left
  · simp [h0]
  subst h0
  by_cases h1:a1 = b1
  rotate_left
  · simp [h1]
  subst h1
  simp
theorem eq47:EqOk Tryz.prog 47 Rect:=by
  refine ⟨by kernel_rfl,fun k x y u v hx hy=>?_⟩
  obtain ⟨csx,ex,rx⟩:=hx
  have fx:csx = [.int .i64 x.X0,.int .i64 x.Y0,.int .i64 x.X1,.int .i64 x.Y1]:=by
    have hl:=Enc.len rx
    obtain ⟨u0,u1,u2,u3,rfl⟩:=len4 hl
    obtain ⟨_,qx0,⟨_,qx1,⟨_,qx2,qx3⟩⟩⟩:=rx
    have qx0:u0 = .int .i64 x.X0:=hd1 (show [u0] = [.int .i64 x.X0] from qx0)
    have qx1:u1 = .int .i64 x.Y0:=hd1 (show [u1] = [.int .i64 x.Y0] from qx1)
    have qx2:u2 = .int .i64 x.X1:=hd1 (show [u2] = [.int .i64 x.X1] from qx2)
    have qx3:u3 = .int .i64 x.Y1:=hd1 (show [u3] = [.int .i64 x.Y1] from qx3)
    rw [qx0,qx1,qx2,qx3]
  obtain ⟨csy,ey,ry⟩:=hy
  have fy:csy = [.int .i64 y.X0,.int .i64 y.Y0,.int .i64 y.X1,.int .i64 y.Y1]:=by
    have hl:=Enc.len ry
    obtain ⟨u0,u1,u2,u3,rfl⟩:=len4 hl
    obtain ⟨_,qy0,⟨_,qy1,⟨_,qy2,qy3⟩⟩⟩:=ry
    have qy0:u0 = .int .i64 y.X0:=hd1 (show [u0] = [.int .i64 y.X0] from qy0)
    have qy1:u1 = .int .i64 y.Y0:=hd1 (show [u1] = [.int .i64 y.Y0] from qy1)
    have qy2:u2 = .int .i64 y.X1:=hd1 (show [u2] = [.int .i64 y.X1] from qy2)
    have qy3:u3 = .int .i64 y.Y1:=hd1 (show [u3] = [.int .i64 y.Y1] from qy3)
    rw [qy0,qy1,qy2,qy3]
  subst fx; subst fy; subst ex; subst ey
  refine ⟨⟨_,rfl⟩,⟨_,rfl⟩,fun w=>?_⟩
  show (Op.equalIn (9998 + 1 + 1) 47 (.agg #[.int .i64 x.X0,.int .i64 x.Y0,.int .i64 x.X1,.int .i64 x.Y1]) (.agg #[.int .i64 y.X0,.int .i64 y.Y0,.int .i64 y.X1,.int .i64 y.Y1])).run Tryz.prog w = _
  rw [run_equalIn_struct w _ 47 _ _ (by kernel_rfl) Tryz.stoodInHeld47]
  generalize 9998 = d
  simp [Program.fieldsOf,Op.eqFields,part,aggOf,← beq_toListBytes,run_isAgg Tryz.underlying3,run_equalIn_int w d 3 .i64 .i64 _ _ Tryz.underlying3]
  obtain ⟨a0,a1,a2,a3⟩:=x
  obtain ⟨b0,b1,b2,b3⟩:=y
  simp only [Rect.mk.injEq]
  by_cases h0:a0 = b0
  rotate_left
  · simp [h0]
  subst h0
  by_cases h1:a1 = b1
  rotate_left
  · simp [h1]
  subst h1
  by_cases h2:a2 = b2
  rotate_left
  · simp [h2]
  subst h2
  by_cases h3:a3 = b3
  rotate_left
  · simp [h3]
  subst h3
  simp
theorem eo51:ElemOk Tryz.prog 51 Volume:=⟨_,_,rfl,rfl,rfl,rfl,by decide,by decide⟩
theorem fo94_1:FieldOk Tryz.prog 94 1 8:=⟨_,_,0,Tryz.underlying94,rfl,rfl,by kernel_rfl⟩
theorem fo94_2:FieldOk Tryz.prog 94 2 9:=⟨_,_,0,Tryz.underlying94,rfl,rfl,by kernel_rfl⟩
theorem ty30:Ty Tryz.prog 30 Plan:=⟨⟨_,Tryz.underlying30,rfl⟩,by kernel_rfl⟩
structure MeasureRow where
  name:ByteArray
  of:MeasureSite → Option Int
instance:Inhabited MeasureRow:=⟨⟨⟨#[]⟩,fun _=>none⟩⟩
noncomputable instance:DecidableEq MeasureRow:=fun a b=>Classical.propDecidable (a = b)
instance:Enc MeasureRow:=letI:Enc (MeasureSite → Option Int):=@f1Enc Tryz.prog MeasureSite Int (rfEnc MeasureSite) _; Enc.ofMap fun x=>(x.name,x.of)
theorem eq61:EqOk Tryz.prog 61 Entry:=by
  refine ⟨by kernel_rfl,fun k x y u v hx hy=>?_⟩
  obtain ⟨csx,ex,rx⟩:=hx
  have fx:csx = [.string x.Name,.int .i64 x.N]:=by
    have hl:=Enc.len rx
    obtain ⟨u0,u1,rfl⟩:=len2 hl
    obtain ⟨_,qx0,qx1⟩:=rx
    have qx0:u0 = .string x.Name:=hd1 (show [u0] = [.string x.Name] from qx0)
    have qx1:u1 = .int .i64 x.N:=hd1 (show [u1] = [.int .i64 x.N] from qx1)
    rw [qx0,qx1]
  obtain ⟨csy,ey,ry⟩:=hy
  have fy:csy = [.string y.Name,.int .i64 y.N]:=by
    have hl:=Enc.len ry
    obtain ⟨u0,u1,rfl⟩:=len2 hl
    obtain ⟨_,qy0,qy1⟩:=ry
    have qy0:u0 = .string y.Name:=hd1 (show [u0] = [.string y.Name] from qy0)
    have qy1:u1 = .int .i64 y.N:=hd1 (show [u1] = [.int .i64 y.N] from qy1)
    rw [qy0,qy1]
  subst fx; subst fy; subst ex; subst ey
  refine ⟨⟨_,rfl⟩,⟨_,rfl⟩,fun w=>?_⟩
  show (Op.equalIn (9998 + 1 + 1) 61 (.agg #[.string x.Name,.int .i64 x.N]) (.agg #[.string y.Name,.int .i64 y.N])).run Tryz.prog w = _
  rw [run_equalIn_struct w _ 61 _ _ (by kernel_rfl) Tryz.stoodInHeld61]
  generalize 9998 = d
  simp [Program.fieldsOf,Op.eqFields,part,aggOf,← beq_toListBytes,run_isAgg Tryz.underlying3,run_equalIn_int w d 3 .i64 .i64 _ _ Tryz.underlying3,run_isAgg Tryz.underlying9,run_equalIn_string w d 9 _ _ Tryz.underlying9]
  obtain ⟨a0,a1⟩:=x
  obtain ⟨b0,b1⟩:=y
  simp only [Entry.mk.injEq]
  by_cases h0:a0 = b0
  rotate_left
  · simp [h0,beqBA]
  subst h0
  by_cases h1:a1 = b1
  rotate_left
  · simp [h1,beqBA]
  subst h1
  simp [beqBA]
theorem fo34_2:FieldOk Tryz.prog 34 2 2:=⟨_,_,0,Tryz.underlying34,rfl,rfl,by kernel_rfl⟩
theorem at_Lot_2 (y:Lot) (ad:Addr) (k:K) (h:At y ad k):At y.Area (ad.add 2) k:=
  have h0:At (y.Id,y.Owner,y.Area,y.From) ad k:=h
  At.fst (At.snd' (At.snd' (At.zero h0)))
theorem rd9:Rd Tryz.prog 9 ByteArray:=rd_string Tryz.underlying9
theorem rd3:Rd Tryz.prog 3 Int:=rd_int Tryz.underlying3
theorem rd244:Rd Tryz.prog 244 Opq:=rd_opq Tryz.underlying244
instance:Rg Expr:=Rg.ofMap fun x=>(x.Op,x.N,x.S,x.Key,x.Args)
theorem rd246:Rd Tryz.prog 246 Expr:=rd_struct (f:=fun x=>(x.Op,x.N,x.S,x.Key,x.Args)) (fun y=>⟨y.1,y.2.1,y.2.2.1,y.2.2.2.1,y.2.2.2.2⟩) Tryz.underlying246 (by kernel_rfl) rfl (fun _ _ _ h=>h) (fun _ h=>h) (RdF.cons rfl (by kernel_rfl) rd3 (RdF.cons rfl (by kernel_rfl) rd3 (RdF.cons rfl (by kernel_rfl) rd9 (RdF.cons rfl (by kernel_rfl) rd9 (RdF.one rfl (by kernel_rfl) rd244))))) (fun _=>rfl)
instance:Rg Def:=Rg.ofMap fun x=>(x.Name,x.Body)
theorem rd248:Rd Tryz.prog 248 Def:=rd_struct (f:=fun x=>(x.Name,x.Body)) (fun y=>⟨y.1,y.2⟩) Tryz.underlying248 (by kernel_rfl) rfl (fun _ _ _ h=>h) (fun _ h=>h) (RdF.cons rfl (by kernel_rfl) rd9 (RdF.one rfl (by kernel_rfl) rd246)) (fun _=>rfl)
theorem rd22:Rd Tryz.prog 22 (List Def):=rd_slice Tryz.underlying22 (by kernel_rfl) (by decide) (by kernel_rfl) rd248
instance:Rg Entry:=Rg.ofMap fun x=>(x.Name,x.N)
theorem rd61:Rd Tryz.prog 61 Entry:=rd_struct (f:=fun x=>(x.Name,x.N)) (fun y=>⟨y.1,y.2⟩) Tryz.underlying61 (by kernel_rfl) rfl (fun _ _ _ h=>h) (fun _ h=>h) (RdF.cons rfl (by kernel_rfl) rd9 (RdF.one rfl (by kernel_rfl) rd3)) (fun _=>rfl)
theorem rd54:Rd Tryz.prog 54 (List Entry):=rd_slice Tryz.underlying54 (by kernel_rfl) (by decide) (by kernel_rfl) rd61
instance:Rg Table:=Rg.ofMap fun x=>(x.Name,x.Rows,x.Else)
theorem rd83:Rd Tryz.prog 83 Table:=rd_struct (f:=fun x=>(x.Name,x.Rows,x.Else)) (fun y=>⟨y.1,y.2.1,y.2.2⟩) Tryz.underlying83 (by kernel_rfl) rfl (fun _ _ _ h=>h) (fun _ h=>h) (RdF.cons rfl (by kernel_rfl) rd9 (RdF.cons rfl (by kernel_rfl) rd54 (RdF.one rfl (by kernel_rfl) rd3))) (fun _=>rfl)
theorem rd23:Rd Tryz.prog 23 (List Table):=rd_slice Tryz.underlying23 (by kernel_rfl) (by decide) (by kernel_rfl) rd83
theorem rd4:Rd Tryz.prog 4 Bool:=rd_bool Tryz.underlying4
instance:Rg Point:=Rg.ofMap fun x=>(x.X,x.Y)
theorem rd109:Rd Tryz.prog 109 Point:=rd_struct (f:=fun x=>(x.X,x.Y)) (fun y=>⟨y.1,y.2⟩) Tryz.underlying109 (by kernel_rfl) rfl (fun _ _ _ h=>h) (fun _ h=>h) (RdF.cons rfl (by kernel_rfl) rd3 (RdF.one rfl (by kernel_rfl) rd3)) (fun _=>rfl)
theorem rd38:Rd Tryz.prog 38 (List Point):=rd_slice Tryz.underlying38 (by kernel_rfl) (by decide) (by kernel_rfl) rd109
instance:Rg Zone:=Rg.ofMap fun x=>(x.Name,x.Overlay,x.Corners)
theorem rd250:Rd Tryz.prog 250 Zone:=rd_struct (f:=fun x=>(x.Name,x.Overlay,x.Corners)) (fun y=>⟨y.1,y.2.1,y.2.2⟩) Tryz.underlying250 (by kernel_rfl) rfl (fun _ _ _ h=>h) (fun _ h=>h) (RdF.cons rfl (by kernel_rfl) rd9 (RdF.cons rfl (by kernel_rfl) rd4 (RdF.one rfl (by kernel_rfl) rd38))) (fun _=>rfl)
theorem rd24:Rd Tryz.prog 24 (List Zone):=rd_slice Tryz.underlying24 (by kernel_rfl) (by decide) (by kernel_rfl) rd250
theorem rd191:Rd Tryz.prog 191 (List ByteArray):=rd_slice Tryz.underlying191 (by kernel_rfl) (by decide) (by kernel_rfl) rd9
instance:Rg Plane:=Rg.ofMap fun x=>(x.Side,x.Base,x.Num,x.Den)
theorem rd252:Rd Tryz.prog 252 Plane:=rd_struct (f:=fun x=>(x.Side,x.Base,x.Num,x.Den)) (fun y=>⟨y.1,y.2.1,y.2.2.1,y.2.2.2⟩) Tryz.underlying252 (by kernel_rfl) rfl (fun _ _ _ h=>h) (fun _ h=>h) (RdF.cons rfl (by kernel_rfl) rd3 (RdF.cons rfl (by kernel_rfl) rd3 (RdF.cons rfl (by kernel_rfl) rd3 (RdF.one rfl (by kernel_rfl) rd3)))) (fun _=>rfl)
instance:Rg Rule:=Rg.ofMap fun x=>(x.Name,x.Zones,x.Except,x.From,x.Until,x.Grace,x.Vary,x.Kind,x.Test,x.Plane,x.Uses,x.Other,x.N)
theorem rd254:Rd Tryz.prog 254 Rule:=rd_struct (f:=fun x=>(x.Name,x.Zones,x.Except,x.From,x.Until,x.Grace,x.Vary,x.Kind,x.Test,x.Plane,x.Uses,x.Other,x.N)) (fun y=>⟨y.1,y.2.1,y.2.2.1,y.2.2.2.1,y.2.2.2.2.1,y.2.2.2.2.2.1,y.2.2.2.2.2.2.1,y.2.2.2.2.2.2.2.1,y.2.2.2.2.2.2.2.2.1,y.2.2.2.2.2.2.2.2.2.1,y.2.2.2.2.2.2.2.2.2.2.1,y.2.2.2.2.2.2.2.2.2.2.2.1,y.2.2.2.2.2.2.2.2.2.2.2.2⟩) Tryz.underlying254 (by kernel_rfl) rfl (fun _ _ _ h=>h) (fun _ h=>h) (RdF.cons rfl (by kernel_rfl) rd9 (RdF.cons rfl (by kernel_rfl) rd191 (RdF.cons rfl (by kernel_rfl) rd191 (RdF.cons rfl (by kernel_rfl) rd3 (RdF.cons rfl (by kernel_rfl) rd3 (RdF.cons rfl (by kernel_rfl) rd3 (RdF.cons rfl (by kernel_rfl) rd4 (RdF.cons rfl (by kernel_rfl) rd3 (RdF.cons rfl (by kernel_rfl) rd246 (RdF.cons rfl (by kernel_rfl) rd252 (RdF.cons rfl (by kernel_rfl) rd3 (RdF.cons rfl (by kernel_rfl) rd3 (RdF.one rfl (by kernel_rfl) rd3))))))))))))) (fun _=>rfl)
theorem rd25:Rd Tryz.prog 25 (List Rule):=rd_slice Tryz.underlying25 (by kernel_rfl) (by decide) (by kernel_rfl) rd254
instance:Rg Cap:=Rg.ofMap fun x=>(x.Name,x.Load,x.Limit,x.Corners)
theorem rd40:Rd Tryz.prog 40 Cap:=rd_struct (f:=fun x=>(x.Name,x.Load,x.Limit,x.Corners)) (fun y=>⟨y.1,y.2.1,y.2.2.1,y.2.2.2⟩) Tryz.underlying40 (by kernel_rfl) rfl (fun _ _ _ h=>h) (fun _ h=>h) (RdF.cons rfl (by kernel_rfl) rd9 (RdF.cons rfl (by kernel_rfl) rd3 (RdF.cons rfl (by kernel_rfl) rd3 (RdF.one rfl (by kernel_rfl) rd38)))) (fun _=>rfl)
theorem rd26:Rd Tryz.prog 26 (List Cap):=rd_slice Tryz.underlying26 (by kernel_rfl) (by decide) (by kernel_rfl) rd40
instance:Rg Point3:=Rg.ofMap fun x=>(x.X,x.Y,x.Z)
theorem rd256:Rd Tryz.prog 256 Point3:=rd_struct (f:=fun x=>(x.X,x.Y,x.Z)) (fun y=>⟨y.1,y.2.1,y.2.2⟩) Tryz.underlying256 (by kernel_rfl) rfl (fun _ _ _ h=>h) (fun _ h=>h) (RdF.cons rfl (by kernel_rfl) rd3 (RdF.cons rfl (by kernel_rfl) rd3 (RdF.one rfl (by kernel_rfl) rd3))) (fun _=>rfl)
theorem rd28:Rd Tryz.prog 28 (List Point3):=rd_slice Tryz.underlying28 (by kernel_rfl) (by decide) (by kernel_rfl) rd256
instance:Rg View:=Rg.ofMap fun x=>(x.Name,x.Eye,x.Least,x.Targets)
theorem rd258:Rd Tryz.prog 258 View:=rd_struct (f:=fun x=>(x.Name,x.Eye,x.Least,x.Targets)) (fun y=>⟨y.1,y.2.1,y.2.2.1,y.2.2.2⟩) Tryz.underlying258 (by kernel_rfl) rfl (fun _ _ _ h=>h) (fun _ h=>h) (RdF.cons rfl (by kernel_rfl) rd9 (RdF.cons rfl (by kernel_rfl) rd256 (RdF.cons rfl (by kernel_rfl) rd3 (RdF.one rfl (by kernel_rfl) rd28)))) (fun _=>rfl)
theorem rd27:Rd Tryz.prog 27 (List View):=rd_slice Tryz.underlying27 (by kernel_rfl) (by decide) (by kernel_rfl) rd258
instance:Rg Plan:=Rg.ofMap fun x=>(x.Defs,x.Tables,x.Zones,x.Rules,x.Caps,x.Views,x.Sun,x.Hours)
theorem rd30:Rd Tryz.prog 30 Plan:=rd_struct (f:=fun x=>(x.Defs,x.Tables,x.Zones,x.Rules,x.Caps,x.Views,x.Sun,x.Hours)) (fun y=>⟨y.1,y.2.1,y.2.2.1,y.2.2.2.1,y.2.2.2.2.1,y.2.2.2.2.2.1,y.2.2.2.2.2.2.1,y.2.2.2.2.2.2.2⟩) Tryz.underlying30 (by kernel_rfl) rfl (fun _ _ _ h=>h) (fun _ h=>h) (RdF.cons rfl (by kernel_rfl) rd22 (RdF.cons rfl (by kernel_rfl) rd23 (RdF.cons rfl (by kernel_rfl) rd24 (RdF.cons rfl (by kernel_rfl) rd25 (RdF.cons rfl (by kernel_rfl) rd26 (RdF.cons rfl (by kernel_rfl) rd27 (RdF.cons rfl (by kernel_rfl) rd28 (RdF.one rfl (by kernel_rfl) rd3)))))))) (fun _=>rfl)
instance:Rg Rect:=Rg.ofMap fun x=>(x.X0,x.Y0,x.X1,x.Y1)
theorem rd47:Rd Tryz.prog 47 Rect:=rd_struct (f:=fun x=>(x.X0,x.Y0,x.X1,x.Y1)) (fun y=>⟨y.1,y.2.1,y.2.2.1,y.2.2.2⟩) Tryz.underlying47 (by kernel_rfl) rfl (fun _ _ _ h=>h) (fun _ h=>h) (RdF.cons rfl (by kernel_rfl) rd3 (RdF.cons rfl (by kernel_rfl) rd3 (RdF.cons rfl (by kernel_rfl) rd3 (RdF.one rfl (by kernel_rfl) rd3)))) (fun _=>rfl)
theorem rd31:Rd Tryz.prog 31 (List Rect):=rd_slice Tryz.underlying31 (by kernel_rfl) (by decide) (by kernel_rfl) rd47
theorem rd32:Rd Tryz.prog 32 (List Int):=rd_slice Tryz.underlying32 (by kernel_rfl) (by decide) (by kernel_rfl) rd3
instance:Rg Lot:=Rg.ofMap fun x=>(x.Id,x.Owner,x.Area,x.From)
theorem rd34:Rd Tryz.prog 34 Lot:=rd_struct (f:=fun x=>(x.Id,x.Owner,x.Area,x.From)) (fun y=>⟨y.1,y.2.1,y.2.2.1,y.2.2.2⟩) Tryz.underlying34 (by kernel_rfl) rfl (fun _ _ _ h=>h) (fun _ h=>h) (RdF.cons rfl (by kernel_rfl) rd3 (RdF.cons rfl (by kernel_rfl) rd3 (RdF.cons rfl (by kernel_rfl) rd31 (RdF.one rfl (by kernel_rfl) rd32)))) (fun _=>rfl)
instance:Rg Box:=Rg.ofMap fun x=>(x.Base,x.Z0,x.Z1)
theorem rd49:Rd Tryz.prog 49 Box:=rd_struct (f:=fun x=>(x.Base,x.Z0,x.Z1)) (fun y=>⟨y.1,y.2.1,y.2.2⟩) Tryz.underlying49 (by kernel_rfl) rfl (fun _ _ _ h=>h) (fun _ h=>h) (RdF.cons rfl (by kernel_rfl) rd47 (RdF.cons rfl (by kernel_rfl) rd3 (RdF.one rfl (by kernel_rfl) rd3))) (fun _=>rfl)
instance:Rg Volume:=Rg.ofMap fun x=>(x.Box,x.Use,x.Units,x.Extra)
theorem rd51:Rd Tryz.prog 51 Volume:=rd_struct (f:=fun x=>(x.Box,x.Use,x.Units,x.Extra)) (fun y=>⟨y.1,y.2.1,y.2.2.1,y.2.2.2⟩) Tryz.underlying51 (by kernel_rfl) rfl (fun _ _ _ h=>h) (fun _ h=>h) (RdF.cons rfl (by kernel_rfl) rd49 (RdF.cons rfl (by kernel_rfl) rd3 (RdF.cons rfl (by kernel_rfl) rd3 (RdF.one rfl (by kernel_rfl) rd4)))) (fun _=>rfl)
theorem rd43:Rd Tryz.prog 43 (List Volume):=rd_slice Tryz.underlying43 (by kernel_rfl) (by decide) (by kernel_rfl) rd51
instance:Rg Phase:=Rg.ofMap fun x=>(x.Volumes,x.Gives)
theorem rd59:Rd Tryz.prog 59 Phase:=rd_struct (f:=fun x=>(x.Volumes,x.Gives)) (fun y=>⟨y.1,y.2⟩) Tryz.underlying59 (by kernel_rfl) rfl (fun _ _ _ h=>h) (fun _ h=>h) (RdF.cons rfl (by kernel_rfl) rd43 (RdF.one rfl (by kernel_rfl) rd54)) (fun _=>rfl)
theorem rd35:Rd Tryz.prog 35 (List Phase):=rd_slice Tryz.underlying35 (by kernel_rfl) (by decide) (by kernel_rfl) rd59
instance:Rg Drawing:=Rg.ofMap fun x=>(x.Lot,x.Phases)
theorem rd37:Rd Tryz.prog 37 Drawing:=rd_struct (f:=fun x=>(x.Lot,x.Phases)) (fun y=>⟨y.1,y.2⟩) Tryz.underlying37 (by kernel_rfl) rfl (fun _ _ _ h=>h) (fun _ h=>h) (RdF.cons rfl (by kernel_rfl) rd3 (RdF.one rfl (by kernel_rfl) rd35)) (fun _=>rfl)
def ho_94_2:Hole MeasureSite:=⟨0 + 9,Volume,inferInstance,51,fun x=>x.volumes,fun x y=>{ x with volumes:=y }⟩
theorem upd_F94_2:Upd (α:=MeasureSite) (β:=(List Volume)) (0 + 9) (fun x y=>{ x with volumes:=y }):=fun k cs cy x y hx hy=>(Upd.snd (Upd.snd Upd.self)) k cs cy (x.plan,x.area,x.volumes) y hx hy
theorem hu_94_2:Upds [ho_94_2]:=⟨upd_F94_2,trivial⟩
theorem hc_94_2 (x:MeasureSite):CloseOk x [ho_94_2]:=⟨upd_F94_2,rfl,(fun _ h=>nomatch h),trivial⟩
theorem bld94_0N {k:K} {v0:Value} {x0:Plan} (h0:IsV x0 v0 k) : ∃ v,(∀ w,(Instr.build 94 #[(0,v0)]).run Tryz.prog w = .ok v w)∧IsVN [ho_94_2.off] (⟨x0,[],[]⟩:MeasureSite) v k:=by
  obtain ⟨l0,e0,r0,n0⟩:=isV_cellsL h0
  obtain ⟨u0_0,u0_1,u0_2,u0_3,u0_4,u0_5,u0_6,u0_7,rfl⟩:=len8 n0
  refine ⟨.agg #[u0_0,u0_1,u0_2,u0_3,u0_4,u0_5,u0_6,u0_7,.slice none 0 0,.slice none 0 0],fun w=>?_,[u0_0,u0_1,u0_2,u0_3,u0_4,u0_5,u0_6,u0_7,.slice none 0 0,.slice none 0 0],rfl,rfl,⟨rfl,r0,⟨rfl,⟨_,rfl,.inl ⟨rfl,rfl⟩⟩,⟨_,rfl,.inl ⟨rfl,rfl⟩⟩⟩⟩,fun _ h=>by cases h with | head=>rfl | tail _ h=>exact nomatch h⟩
  simp [Instr.build,Instr.fill,cells_agg,e0]
theorem szf31:(Tryz.prog.info? 31).map (·.size) = some (Enc.sz (List Rect)):=by kernel_rfl
theorem upd_F94_1:Upd (α:=MeasureSite) (β:=(List Rect)) (0 + 8) (fun x y=>{ x with area:=y }):=fun k cs cy x y hx hy=>(Upd.snd (Upd.fst Upd.self)) k cs cy (x.plan,x.area,x.volumes) y hx hy
theorem szf43:(Tryz.prog.info? 43).map (·.size) = some (Enc.sz (List Volume)):=by kernel_rfl
set_option maxHeartbeats 4000000 in
set_option synthInstance.maxHeartbeats 1000000 in
set_option synthInstance.maxSize 4000 in
noncomputable def tb:Tb where
  P:=Tryz.prog
  S:=fun n=>match n with
    | 0=>Rect
    | 1=>RegionSpan
    | 2=>RegionStrip
    | 3=>Volume
    | 4=>Box
    | 5=>PolygonSide
    | 6=>Point
    | 7=>Drawing
    | 8=>Phase
    | 9=>Entry
    | 10=>MeasureSite
    | 11=>Plan
    | 12=>Def
    | 13=>Expr
    | 14=>Table
    | 15=>Zone
    | 16=>Rule
    | 17=>Plane
    | 18=>Cap
    | 19=>View
    | 20=>Point3
    | 21=>(ByteArray × ByteArray × ByteArray × ByteArray × ByteArray × ByteArray)
    | 22=>Lot
    | 23=>MeasureRow
    | 24=>(MeasureRow × MeasureRow × MeasureRow × MeasureRow × MeasureRow × MeasureRow × MeasureRow × MeasureRow × MeasureRow)
    | _ + 25=>Unit
  fs:=fun n=>match n with
    | 0=>[.int,.int,.int,.int]
    | 1=>[.int,.int]
    | 2=>[.int,.int,.list (.st 1)]
    | 3=>[.st 4,.int,.int,.bool]
    | 4=>[.st 0,.int,.int]
    | 5=>[.st 6,.st 6]
    | 6=>[.int,.int]
    | 7=>[.int,.list (.st 8)]
    | 8=>[.list (.st 3),.list (.st 9)]
    | 9=>[.str,.int]
    | 10=>[.st 11,.list (.st 0),.list (.st 3)]
    | 11=>[.list (.st 12),.list (.st 14),.list (.st 15),.list (.st 16),.list (.st 18),.list (.st 19),.list (.st 20),.int]
    | 12=>[.str,.st 13]
    | 13=>[.int,.int,.str,.str,.op]
    | 14=>[.str,.list (.st 9),.int]
    | 15=>[.str,.bool,.list (.st 6)]
    | 16=>[.str,.list .str,.list .str,.int,.int,.int,.bool,.int,.st 13,.st 17,.int,.int,.int]
    | 17=>[.int,.int,.int,.int]
    | 18=>[.str,.int,.int,.list (.st 6)]
    | 19=>[.str,.st 20,.int,.list (.st 20)]
    | 20=>[.int,.int,.int]
    | 21=>[.str,.str,.str,.str,.str,.str]
    | 22=>[.int,.int,.list (.st 0),.list .int]
    | 23=>[.str,.f1 (.rf (.st 10)) .int]
    | 24=>[.st 23,.st 23,.st 23,.st 23,.st 23,.st 23,.st 23,.st 23,.st 23]
    | _ + 25=>[]
  to:=fun n=>match n with
    | 0=>fun x=>(x.X0,x.Y0,x.X1,x.Y1)
    | 1=>fun x=>(x.from_,x.to_)
    | 2=>fun x=>(x.x0,x.x1,x.column)
    | 3=>fun x=>(x.Box,x.Use,x.Units,x.Extra)
    | 4=>fun x=>(x.Base,x.Z0,x.Z1)
    | 5=>fun x=>(x.a,x.b)
    | 6=>fun x=>(x.X,x.Y)
    | 7=>fun x=>(x.Lot,x.Phases)
    | 8=>fun x=>(x.Volumes,x.Gives)
    | 9=>fun x=>(x.Name,x.N)
    | 10=>fun x=>(x.plan,x.area,x.volumes)
    | 11=>fun x=>(x.Defs,x.Tables,x.Zones,x.Rules,x.Caps,x.Views,x.Sun,x.Hours)
    | 12=>fun x=>(x.Name,x.Body)
    | 13=>fun x=>(x.Op,x.N,x.S,x.Key,x.Args)
    | 14=>fun x=>(x.Name,x.Rows,x.Else)
    | 15=>fun x=>(x.Name,x.Overlay,x.Corners)
    | 16=>fun x=>(x.Name,x.Zones,x.Except,x.From,x.Until,x.Grace,x.Vary,x.Kind,x.Test,x.Plane,x.Uses,x.Other,x.N)
    | 17=>fun x=>(x.Side,x.Base,x.Num,x.Den)
    | 18=>fun x=>(x.Name,x.Load,x.Limit,x.Corners)
    | 19=>fun x=>(x.Name,x.Eye,x.Least,x.Targets)
    | 20=>fun x=>(x.X,x.Y,x.Z)
    | 21=>fun x=>x
    | 22=>fun x=>(x.Id,x.Owner,x.Area,x.From)
    | 23=>fun x=>(x.name,x.of)
    | 24=>fun x=>x
    | _ + 25=>fun _=>()
  of:=fun n=>match n with
    | 0=>fun x=>⟨x.1,x.2.1,x.2.2.1,x.2.2.2⟩
    | 1=>fun x=>⟨x.1,x.2⟩
    | 2=>fun x=>⟨x.1,x.2.1,x.2.2⟩
    | 3=>fun x=>⟨x.1,x.2.1,x.2.2.1,x.2.2.2⟩
    | 4=>fun x=>⟨x.1,x.2.1,x.2.2⟩
    | 5=>fun x=>⟨x.1,x.2⟩
    | 6=>fun x=>⟨x.1,x.2⟩
    | 7=>fun x=>⟨x.1,x.2⟩
    | 8=>fun x=>⟨x.1,x.2⟩
    | 9=>fun x=>⟨x.1,x.2⟩
    | 10=>fun x=>⟨x.1,x.2.1,x.2.2⟩
    | 11=>fun x=>⟨x.1,x.2.1,x.2.2.1,x.2.2.2.1,x.2.2.2.2.1,x.2.2.2.2.2.1,x.2.2.2.2.2.2.1,x.2.2.2.2.2.2.2⟩
    | 12=>fun x=>⟨x.1,x.2⟩
    | 13=>fun x=>⟨x.1,x.2.1,x.2.2.1,x.2.2.2.1,x.2.2.2.2⟩
    | 14=>fun x=>⟨x.1,x.2.1,x.2.2⟩
    | 15=>fun x=>⟨x.1,x.2.1,x.2.2⟩
    | 16=>fun x=>⟨x.1,x.2.1,x.2.2.1,x.2.2.2.1,x.2.2.2.2.1,x.2.2.2.2.2.1,x.2.2.2.2.2.2.1,x.2.2.2.2.2.2.2.1,x.2.2.2.2.2.2.2.2.1,x.2.2.2.2.2.2.2.2.2.1,x.2.2.2.2.2.2.2.2.2.2.1,x.2.2.2.2.2.2.2.2.2.2.2.1,x.2.2.2.2.2.2.2.2.2.2.2.2⟩
    | 17=>fun x=>⟨x.1,x.2.1,x.2.2.1,x.2.2.2⟩
    | 18=>fun x=>⟨x.1,x.2.1,x.2.2.1,x.2.2.2⟩
    | 19=>fun x=>⟨x.1,x.2.1,x.2.2.1,x.2.2.2⟩
    | 20=>fun x=>⟨x.1,x.2.1,x.2.2⟩
    | 21=>fun x=>x
    | 22=>fun x=>⟨x.1,x.2.1,x.2.2.1,x.2.2.2⟩
    | 23=>fun x=>⟨x.1,x.2⟩
    | 24=>fun x=>x
    | _ + 25=>fun _=>()
  zero:=fun n=>match n with
    | 0=>(default:Rect)
    | 1=>(default:RegionSpan)
    | 2=>(default:RegionStrip)
    | 3=>(default:Volume)
    | 4=>(default:Box)
    | 5=>(default:PolygonSide)
    | 6=>(default:Point)
    | 7=>(default:Drawing)
    | 8=>(default:Phase)
    | 9=>(default:Entry)
    | 10=>(default:MeasureSite)
    | 11=>(default:Plan)
    | 12=>(default:Def)
    | 13=>(default:Expr)
    | 14=>(default:Table)
    | 15=>(default:Zone)
    | 16=>(default:Rule)
    | 17=>(default:Plane)
    | 18=>(default:Cap)
    | 19=>(default:View)
    | 20=>(default:Point3)
    | 21=>(default:(ByteArray × ByteArray × ByteArray × ByteArray × ByteArray × ByteArray))
    | 22=>(default:Lot)
    | 23=>(default:MeasureRow)
    | 24=>(default:(MeasureRow × MeasureRow × MeasureRow × MeasureRow × MeasureRow × MeasureRow × MeasureRow × MeasureRow × MeasureRow))
    | _ + 25=>()
  deq:=fun n=>match n with
    | 0=>(inferInstance:DecidableEq Rect)
    | 1=>(inferInstance:DecidableEq RegionSpan)
    | 2=>(inferInstance:DecidableEq RegionStrip)
    | 3=>(inferInstance:DecidableEq Volume)
    | 4=>(inferInstance:DecidableEq Box)
    | 5=>(inferInstance:DecidableEq PolygonSide)
    | 6=>(inferInstance:DecidableEq Point)
    | 7=>(inferInstance:DecidableEq Drawing)
    | 8=>(inferInstance:DecidableEq Phase)
    | 9=>(inferInstance:DecidableEq Entry)
    | 10=>(inferInstance:DecidableEq MeasureSite)
    | 11=>(inferInstance:DecidableEq Plan)
    | 12=>(inferInstance:DecidableEq Def)
    | 13=>(inferInstance:DecidableEq Expr)
    | 14=>(inferInstance:DecidableEq Table)
    | 15=>(inferInstance:DecidableEq Zone)
    | 16=>(inferInstance:DecidableEq Rule)
    | 17=>(inferInstance:DecidableEq Plane)
    | 18=>(inferInstance:DecidableEq Cap)
    | 19=>(inferInstance:DecidableEq View)
    | 20=>(inferInstance:DecidableEq Point3)
    | 21=>(inferInstance:DecidableEq (ByteArray × ByteArray × ByteArray × ByteArray × ByteArray × ByteArray))
    | 22=>(inferInstance:DecidableEq Lot)
    | 23=>(inferInstance:DecidableEq MeasureRow)
    | 24=>(inferInstance:DecidableEq (MeasureRow × MeasureRow × MeasureRow × MeasureRow × MeasureRow × MeasureRow × MeasureRow × MeasureRow × MeasureRow))
    | _ + 25=>(inferInstance:DecidableEq Unit)
  enc:=fun n=>match n with
    | 0=>(inferInstance:Enc Rect)
    | 1=>(inferInstance:Enc RegionSpan)
    | 2=>(inferInstance:Enc RegionStrip)
    | 3=>(inferInstance:Enc Volume)
    | 4=>(inferInstance:Enc Box)
    | 5=>(inferInstance:Enc PolygonSide)
    | 6=>(inferInstance:Enc Point)
    | 7=>(inferInstance:Enc Drawing)
    | 8=>(inferInstance:Enc Phase)
    | 9=>(inferInstance:Enc Entry)
    | 10=>(inferInstance:Enc MeasureSite)
    | 11=>(inferInstance:Enc Plan)
    | 12=>(inferInstance:Enc Def)
    | 13=>(inferInstance:Enc Expr)
    | 14=>(inferInstance:Enc Table)
    | 15=>(inferInstance:Enc Zone)
    | 16=>(inferInstance:Enc Rule)
    | 17=>(inferInstance:Enc Plane)
    | 18=>(inferInstance:Enc Cap)
    | 19=>(inferInstance:Enc View)
    | 20=>(inferInstance:Enc Point3)
    | 21=>(inferInstance:Enc (ByteArray × ByteArray × ByteArray × ByteArray × ByteArray × ByteArray))
    | 22=>(inferInstance:Enc Lot)
    | 23=>(inferInstance:Enc MeasureRow)
    | 24=>(inferInstance:Enc (MeasureRow × MeasureRow × MeasureRow × MeasureRow × MeasureRow × MeasureRow × MeasureRow × MeasureRow × MeasureRow))
    | _ + 25=>Enc.ofMap (σ:=Unit) (β:=Unit) fun x=>x
  to_of:=fun n=>match n with
    | 0=>fun _=>rfl
    | 1=>fun _=>rfl
    | 2=>fun _=>rfl
    | 3=>fun _=>rfl
    | 4=>fun _=>rfl
    | 5=>fun _=>rfl
    | 6=>fun _=>rfl
    | 7=>fun _=>rfl
    | 8=>fun _=>rfl
    | 9=>fun _=>rfl
    | 10=>fun _=>rfl
    | 11=>fun _=>rfl
    | 12=>fun _=>rfl
    | 13=>fun _=>rfl
    | 14=>fun _=>rfl
    | 15=>fun _=>rfl
    | 16=>fun _=>rfl
    | 17=>fun _=>rfl
    | 18=>fun _=>rfl
    | 19=>fun _=>rfl
    | 20=>fun _=>rfl
    | 21=>fun _=>rfl
    | 22=>fun _=>rfl
    | 23=>fun _=>rfl
    | 24=>fun _=>rfl
    | _ + 25=>fun _=>rfl
  zero_eq:=fun n=>match n with
    | 0=>rfl
    | 1=>rfl
    | 2=>rfl
    | 3=>rfl
    | 4=>rfl
    | 5=>rfl
    | 6=>rfl
    | 7=>rfl
    | 8=>rfl
    | 9=>rfl
    | 10=>rfl
    | 11=>rfl
    | 12=>rfl
    | 13=>rfl
    | 14=>rfl
    | 15=>rfl
    | 16=>rfl
    | 17=>rfl
    | 18=>rfl
    | 19=>rfl
    | 20=>rfl
    | 21=>rfl
    | 22=>rfl
    | 23=>rfl
    | 24=>rfl
    | _ + 25=>rfl
  enc_eq:=fun n=>match n with
    | 0=>rfl
    | 1=>rfl
    | 2=>rfl
    | 3=>rfl
    | 4=>rfl
    | 5=>rfl
    | 6=>rfl
    | 7=>rfl
    | 8=>rfl
    | 9=>rfl
    | 10=>rfl
    | 11=>rfl
    | 12=>rfl
    | 13=>rfl
    | 14=>rfl
    | 15=>rfl
    | 16=>rfl
    | 17=>rfl
    | 18=>rfl
    | 19=>rfl
    | 20=>rfl
    | 21=>rfl
    | 22=>rfl
    | 23=>rfl
    | 24=>rfl
    | _ + 25=>rfl
  RD:=fun n=>match n with | 0=>MeasureSite | _ + 1=>Unit
  RP:=fun n=>match n with | 0=>fun x F v k=>∃ b,BoxH b [ho_94_2] [ho_94_2] x F v k | _ + 1=>fun _ _ _ _=>False
  RPok:=fun n=>match n with | 0=>fun x=>Rsc.ex fun b=>inferInstanceAs (Rsc (BoxH b [ho_94_2] [ho_94_2] x)) | _ + 1=>fun _=>⟨fun h=>h.elim,fun h=>h.elim,fun h=>h.elim,fun h=>h.elim⟩
  RPone:=fun n=>match n with | 0=>fun x y F G v k h h'=>h.elim fun _ h=>h'.elim fun _ h'=>h.one h' | _ + 1=>fun _ _ _ _ _ _ h=>h.elim
  RNok:=fun _ _ _ _ _ _ _ h=>by cases (show (none:Option Bool) = some _ from h)
  RZ:=fun n=>match n with | 0=>(default:MeasureSite) | _ + 1=>()
  RProot:=fun n=>match n with | 0=>fun x F v k b h hv=>h.elim fun _ h=>h.root hv | _ + 1=>fun _ _ _ _ _ h=>h.elim
def tid:TypeId → Option Tp:=tidL [(3,.int),(30,.st 11),(31,.list (.st 0)),(34,.st 22),(37,.st 7),(40,.st 18),(47,.st 0),(49,.st 4),(51,.st 3),(59,.st 8),(61,.st 9),(83,.st 14),(94,.st 10),(98,.st 23),(99,.st 24),(109,.st 6),(111,.st 5),(148,.st 1),(150,.st 2),(161,.st 21)]
def eqs:List (TypeId × Nat):=[(148,1),(47,0),(61,9)]
theorem eqsOk:EqsOk Tryz.prog tb eqs:=⟨eq148,eq47,eq61,trivial⟩
noncomputable def mk (f:FuncId) (dom cod:List Tp) (run:HL tb.S dom → Option (HL tb.S cod)) (ks:List (Fk tb Tryz.prog)) (own:List Nat) (fn:Func) (h:Hn tb) (hf:Tryz.prog.funcs[f]? = some fn)
  (hc : ∀ args w,(callFunc f args).run Tryz.prog w = .ok (.enter f args) w) (hb:fn.body = some (body fn)) (hl:Nat.ble dom.length fn.ntmps = true)
  (he : ∀ x,evF ⟨Tryz.prog,tid,eqs,depsOf ks,[],false,own,fn.results.toList,fn.ntmps,noHk,fun c=>c ∈ subs (body fn)⟩ (body fn) h dom cod x = run x):Fk tb Tryz.prog:=⟨f,⟨dom,cod,run⟩,fnOk ks own fn h eqsOk hmix rfl hf hc hb hl he⟩
noncomputable def mkc (f:FuncId) (dom cod:List Tp) (run:HL tb.S dom → Option (HL tb.S cod)) (ks:List (Fk tb Tryz.prog)) (rks:List (FkR tb Tryz.prog)) (own:List Nat) (fn:Func) (h:Hn tb) (hf:Tryz.prog.funcs[f]? = some fn)
  (hc : ∀ args w,(callFunc f args).run Tryz.prog w = .ok (.enter f args) w) (hb:fn.body = some (body fn)) (hl:Nat.ble dom.length fn.ntmps = true)
  (he : ∀ x,evF ⟨Tryz.prog,tid,eqs,depsOf ks,rdepsOf rks,false,own,fn.results.toList,fn.ntmps,noHk,fun c=>c ∈ subs (body fn)⟩ (body fn) h dom cod x = run x):Fk tb Tryz.prog:=⟨f,⟨dom,cod,run⟩,fnOkW ks rks false own fn noHk (noHk_ok rfl) h eqsOk hmix rfl hf hc hb hl he⟩
noncomputable def mkw (f:FuncId) (dom cod:List Tp) (run:HL tb.S dom → Option (HL tb.S cod)) (ks:List (Fk tb Tryz.prog)) (rks:List (FkR tb Tryz.prog)) (own:List Nat) (fn:Func) (h:Hn tb) (hf:Tryz.prog.funcs[f]? = some fn)
  (hc : ∀ args w,(callFunc f args).run Tryz.prog w = .ok (.enter f args) w) (hb:fn.body = some (body fn)) (hl:Nat.ble dom.length fn.ntmps = true)
  (he : ∀ x,evF ⟨Tryz.prog,tid,eqs,depsOf ks,rdepsOf rks,true,own,fn.results.toList,fn.ntmps,noHk,fun c=>c ∈ subs (body fn)⟩ (body fn) h dom cod x = run x):Fk tb Tryz.prog:=⟨f,⟨dom,cod,run⟩,fnOkW ks rks true own fn noHk (noHk_ok rfl) h eqsOk hmix rfl hf hc hb hl he⟩
noncomputable def mkR (f:FuncId) (d:FnR tb) (pr:d.tu.D tb × d.ro.D tb × HL tb.S d.cod → d.ρ) (hpr : ∀ r,d.inj (pr r) = r) (ks:List (Fk tb Tryz.prog)) (rks:List (FkR tb Tryz.prog)) (wr:Bool) (own:List Nat) (fn:Func) (h:Hn tb) (sl:Nat) (hf:Tryz.prog.funcs[f]? = some fn)
  (hc : ∀ args w,(callFunc f args).run Tryz.prog w = .ok (.enter f args) w) (hb:fn.body = some (body fn)) (hl:Nat.ble d.pm.length fn.ntmps = true) (hs:slOk d sl (body fn) = true)
  (he : ∀ x y z,evFR ⟨Tryz.prog,tid,eqs,depsOf ks,rdepsOf rks,wr,own,fn.results.toList,fn.ntmps,noHk,fun c=>c ∈ subs (body fn)⟩ (body fn) h d pr hpr sl x y z = d.run x y z):FkR tb Tryz.prog:=⟨f,d,fnOkR pr hpr ks rks wr own fn noHk (noHk_ok rfl) h sl eqsOk hmix rfl hf hc hb hl hs he⟩
noncomputable def mkO (f:FuncId) (dom cod:List Tp) (run:HL tb.S dom → Option (HL tb.S cod)) (hc : ∀ args w,(callFunc f args).run Tryz.prog w = .ok (.enter f args) w)
  (ok : ∀ (k0:K) (vs:List Value) (x:HL tb.S dom) (r:HL tb.S cod),GOk tb k0 → HIs dom x vs k0 → run x = some r → Calls Tryz.prog f vs.toArray k0.w (Ret k0 fun u k=>(resV cod r).is ⟨#[],[]⟩ u k)):Fk tb Tryz.prog:=⟨f,⟨dom,cod,run⟩,hc,ok⟩
end Go.Proofs.YtagkmlkhaekldaaGreat
