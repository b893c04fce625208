/- What the functions compute that the law reaches, part 1 -/
import Derived.Test.YtegglcdhfnjhcaaGreatProg
import Derived.Test.YtegglcdhfnjhcaaGreatL7
import Derived.Shelf.Sort.Plain
import Derived.Shelf.Slices.In.SortNone
import Derived.Shelf.Slices.CompactI
import Derived.Shelf.Spec.SlicesGrow
import Derived.Shelf.SlSortCmp.NoneTotal
set_option linter.unusedVariables false
set_option linter.unusedSimpArgs false
set_option linter.unusedSectionVars false
namespace Go.Proofs.YtegglcdhfnjhcaaGreat
open Go.Gb
set_option maxRecDepth 100000
structure aw where
  X0:Int
  Y0:Int
  X1:Int
  Y1:Int
  deriving DecidableEq,Inhabited
instance:Enc aw:=Enc.ofMap fun x=>(x.X0,x.Y0,x.X1,x.Y1)
structure Box where
  Base:aw
  Z0:Int
  Z1:Int
  deriving DecidableEq,Inhabited
instance:Enc Box:=Enc.ofMap fun x=>(x.Base,x.Z0,x.Z1)
structure af where
  Box:Box
  Use:Int
  Units:Int
  Extra:Bool
  deriving DecidableEq,Inhabited
instance:Enc af:=Enc.ofMap fun x=>(x.Box,x.Use,x.Units,x.Extra)
structure Expr where
  Op:Int
  N:Int
  S:ByteArray
  Key:ByteArray
  Args:Opq
  deriving DecidableEq,Inhabited
instance:Enc Expr:=Enc.ofMap fun x=>(x.Op,x.N,x.S,x.Key,x.Args)
structure Def where
  Name:ByteArray
  Body:Expr
  deriving DecidableEq,Inhabited
instance:Enc Def:=Enc.ofMap fun x=>(x.Name,x.Body)
structure Entry where
  Name:ByteArray
  N:Int
  deriving DecidableEq,Inhabited
instance:Enc Entry:=Enc.ofMap fun x=>(x.Name,x.N)
structure Table where
  Name:ByteArray
  Rows:(List Entry)
  Else:Int
  deriving DecidableEq,Inhabited
instance:Enc Table:=Enc.ofMap fun x=>(x.Name,x.Rows,x.Else)
structure aT where
  X:Int
  Y:Int
  deriving DecidableEq,Inhabited
instance:Enc aT:=Enc.ofMap fun x=>(x.X,x.Y)
structure xZ where
  Name:ByteArray
  Overlay:Bool
  Corners:(List aT)
  deriving DecidableEq,Inhabited
instance:Enc xZ:=Enc.ofMap fun x=>(x.Name,x.Overlay,x.Corners)
structure nY where
  Side:Int
  Base:Int
  Num:Int
  Den:Int
  deriving DecidableEq,Inhabited
instance:Enc nY:=Enc.ofMap fun x=>(x.Side,x.Base,x.Num,x.Den)
structure yC where
  Name:ByteArray
  Zones:(List ByteArray)
  Except:(List ByteArray)
  From:Int
  Until:Int
  Grace:Int
  Vary:Bool
  Kind:Int
  Test:Expr
  nY:nY
  Uses:Int
  Other:Int
  N:Int
  deriving DecidableEq,Inhabited
instance:Enc yC:=Enc.ofMap fun x=>(x.Name,x.Zones,x.Except,x.From,x.Until,x.Grace,x.Vary,x.Kind,x.Test,x.nY,x.Uses,x.Other,x.N)
structure Cap where
  Name:ByteArray
  Load:Int
  aK:Int
  Corners:(List aT)
  deriving DecidableEq,Inhabited
instance:Enc Cap:=Enc.ofMap fun x=>(x.Name,x.Load,x.aK,x.Corners)
structure aJ where
  X:Int
  Y:Int
  Z:Int
  deriving DecidableEq,Inhabited
instance:Enc aJ:=Enc.ofMap fun x=>(x.X,x.Y,x.Z)
structure View where
  Name:ByteArray
  Eye:aJ
  Least:Int
  Targets:(List aJ)
  deriving DecidableEq,Inhabited
instance:Enc View:=Enc.ofMap fun x=>(x.Name,x.Eye,x.Least,x.Targets)
structure an where
  Defs:(List Def)
  Tables:(List Table)
  Zones:(List xZ)
  Rules:(List yC)
  Caps:(List Cap)
  Views:(List View)
  Sun:(List aJ)
  Hours:Int
  deriving DecidableEq,Inhabited
instance:Enc an:=Enc.ofMap fun x=>(x.Defs,x.Tables,x.Zones,x.Rules,x.Caps,x.Views,x.Sun,x.Hours)
structure Lot where
  Id:Int
  Owner:Int
  Area:(List aw)
  From:(List Int)
  deriving DecidableEq,Inhabited
instance:Enc Lot:=Enc.ofMap fun x=>(x.Id,x.Owner,x.Area,x.From)
structure kc where
  Lot:Int
  Area:(List aw)
  Top:Int
  deriving DecidableEq,Inhabited
instance:Enc kc:=Enc.ofMap fun x=>(x.Lot,x.Area,x.Top)
structure fm where
  Lot:Int
  At:aJ
  deriving DecidableEq,Inhabited
instance:Enc fm:=Enc.ofMap fun x=>(x.Lot,x.At)
structure bf where
  Lot:Int
  af:af
  deriving DecidableEq,Inhabited
instance:Enc bf:=Enc.ofMap fun x=>(x.Lot,x.af)
structure aq where
  an:an
  Land:(List Lot)
  Easements:(List kc)
  Windows:(List fm)
  Built:(List bf)
  Base:(List Entry)
  deriving DecidableEq,Inhabited
instance:Enc aq:=Enc.ofMap fun x=>(x.an,x.Land,x.Easements,x.Windows,x.Built,x.Base)
structure Phase where
  Volumes:(List af)
  bd:(List Entry)
  deriving DecidableEq,Inhabited
instance:Enc Phase:=Enc.ofMap fun x=>(x.Volumes,x.bd)
structure aE where
  Lot:Int
  Phases:(List Phase)
  deriving DecidableEq,Inhabited
instance:Enc aE:=Enc.ofMap fun x=>(x.Lot,x.Phases)
structure ax where
  Id:Int
  Holder:Int
  aE:aE
  Used:Int
  Until:Int
  Over:Bool
  deriving DecidableEq,Inhabited
instance:Enc ax:=Enc.ofMap fun x=>(x.Id,x.Holder,x.aE,x.Used,x.Until,x.Over)
structure bj where
  a:aT
  b:aT
  deriving DecidableEq,Inhabited
instance:Enc bj:=Enc.ofMap fun x=>(x.a,x.b)
structure ct where
  Cap:ByteArray
  Base:Int
  Tops:(List Int)
  deriving DecidableEq,Inhabited
instance:Enc ct:=Enc.ofMap fun x=>(x.Cap,x.Base,x.Tops)
structure bk where
  Z0:Int
  Z1:Int
  Area:(List aw)
  deriving DecidableEq,Inhabited
instance:Enc bk:=Enc.ofMap fun x=>(x.Z0,x.Z1,x.Area)
structure ar where
  from_:Int
  to_:Int
  deriving DecidableEq,Inhabited
instance:Enc ar:=Enc.ofMap fun x=>(x.from_,x.to_)
structure aO where
  x0:Int
  x1:Int
  column:(List ar)
  deriving DecidableEq,Inhabited
instance:Enc aO:=Enc.ofMap fun x=>(x.x0,x.x1,x.column)
structure bz where
  n:Int
  d:Int
  open_:Bool
  deriving DecidableEq,Inhabited
instance:Enc bz:=Enc.ofMap fun x=>(x.n,x.d,x.open_)
structure aW where
  lo:bz
  hi:bz
  top:Bool
  none_:Bool
  deriving DecidableEq,Inhabited
instance:Enc aW:=Enc.ofMap fun x=>(x.lo,x.hi,x.top,x.none_)
structure aK where
  Kind:Int
  Name:ByteArray
  N:Int
  deriving DecidableEq,Inhabited
instance:Enc aK:=Enc.ofMap fun x=>(x.Kind,x.Name,x.N)
structure br where
  N:Int
  D:Int
  Open:Bool
  deriving DecidableEq,Inhabited
instance:Enc br:=Enc.ofMap fun x=>(x.N,x.D,x.Open)
structure fS where
  Lo:br
  Hi:br
  None:Bool
  deriving DecidableEq,Inhabited
instance:Enc fS:=Enc.ofMap fun x=>(x.Lo,x.Hi,x.None)
theorem oH:Tryz.prog.follows .mixedOrders = true:=by kernel_rfl
theorem z83:Zero Tryz.prog 83 ((⟨(⟨(⟨0,0,0,0⟩:aw),0,0⟩:Box),0,0,false⟩:af):af):=⟨_,Tryz.zeroValue83,fun _=>⟨_,rfl,⟨rfl,⟨rfl,⟨rfl,rfl,⟨rfl,rfl,⟨rfl,rfl,rfl⟩⟩⟩,⟨rfl,rfl,rfl⟩⟩,⟨rfl,rfl,⟨rfl,rfl,rfl⟩⟩⟩⟩⟩
theorem J1:(Tryz.prog.info? 83).map (·.size) = some (Enc.sz af):=by kernel_rfl
theorem Ie:Ty Tryz.prog 83 af:=⟨⟨_,Tryz.underlying83,rfl⟩,by kernel_rfl⟩
theorem z37:Zero Tryz.prog 37 ((⟨(⟨[],[],[],[],[],[],[],0⟩:an),[],[],[],[],[]⟩:aq):aq):=⟨_,Tryz.zeroValue37,fun _=>⟨_,rfl,⟨rfl,⟨rfl,⟨_,rfl,.inl ⟨rfl,rfl⟩⟩,⟨rfl,⟨_,rfl,.inl ⟨rfl,rfl⟩⟩,⟨rfl,⟨_,rfl,.inl ⟨rfl,rfl⟩⟩,⟨rfl,⟨_,rfl,.inl ⟨rfl,rfl⟩⟩,⟨rfl,⟨_,rfl,.inl ⟨rfl,rfl⟩⟩,⟨rfl,⟨_,rfl,.inl ⟨rfl,rfl⟩⟩,⟨rfl,⟨_,rfl,.inl ⟨rfl,rfl⟩⟩,rfl⟩⟩⟩⟩⟩⟩⟩,⟨rfl,⟨_,rfl,.inl ⟨rfl,rfl⟩⟩,⟨rfl,⟨_,rfl,.inl ⟨rfl,rfl⟩⟩,⟨rfl,⟨_,rfl,.inl ⟨rfl,rfl⟩⟩,⟨rfl,⟨_,rfl,.inl ⟨rfl,rfl⟩⟩,⟨_,rfl,.inl ⟨rfl,rfl⟩⟩⟩⟩⟩⟩⟩⟩⟩
theorem C6:(Tryz.prog.info? 37).map (·.size) = some (Enc.sz aq):=by kernel_rfl
theorem IY:dN Tryz.prog 83 af:=⟨_,_,rfl,rfl,rfl,rfl,by decide,by decide⟩
theorem D1 {k:K} {v0 v1:Value} {x0:ByteArray} {x1:Int} (h0:IsV x0 v0 k) (h1:IsV x1 v1 k) : ∃ v,(∀ w,(Instr.build 99 #[(0,v0),(1,v1)]).run Tryz.prog w = .ok v w)∧IsV (⟨x0,x1⟩:Entry) v k:=by
  obtain ⟨l0,e0,r0,n0⟩:=ft h0
  obtain ⟨u0_0,rfl⟩:=ES n0
  obtain ⟨l1,e1,r1,n1⟩:=ft h1
  obtain ⟨u1_0,rfl⟩:=ES n1
  refine ⟨.agg #[u0_0,u1_0],fun w=>?_,[u0_0,u1_0],rfl,⟨rfl,r0,r1⟩⟩
  simp [Instr.build,Instr.fill,sa,e0,e1]
theorem Gl:dN Tryz.prog 99 Entry:=⟨_,_,rfl,rfl,rfl,rfl,by decide,by decide⟩
theorem pP:Ty Tryz.prog 37 aq:=⟨⟨_,Tryz.underlying37,rfl⟩,by kernel_rfl⟩
theorem zG:dN Tryz.prog 43 ax:=⟨_,_,rfl,rfl,rfl,rfl,by decide,by decide⟩
theorem JP:Ty Tryz.prog 99 Entry:=⟨⟨_,Tryz.underlying99,rfl⟩,by kernel_rfl⟩
theorem z99:Zero Tryz.prog 99 ((⟨(⟨#[]⟩:ByteArray),0⟩:Entry):Entry):=⟨_,Tryz.zeroValue99,fun _=>⟨_,rfl,⟨rfl,rfl,rfl⟩⟩⟩
theorem JC:(Tryz.prog.info? 99).map (·.size) = some (Enc.sz Entry):=by kernel_rfl
theorem H2:dY Tryz.prog 99 0 0:=⟨_,_,0,Tryz.underlying99,rfl,rfl,by kernel_rfl⟩
theorem BV (y:Entry) (ad:Addr) (k:K) (h:At y ad k):At y.Name (ad.add 0) k:=
  have h0:At (y.Name,y.N) ad k:=h
  At.fst (At.zero h0)
theorem ty9:Ty Tryz.prog 9 ByteArray:=⟨⟨_,Tryz.underlying9,rfl⟩,by kernel_rfl⟩
theorem FW:dY Tryz.prog 71 0 0:=⟨_,_,0,Tryz.underlying71,rfl,rfl,by kernel_rfl⟩
theorem Ay (y:Cap) (ad:Addr) (k:K) (h:At y ad k):At y.Name (ad.add 0) k:=
  have h0:At (y.Name,y.Load,y.aK,y.Corners) ad k:=h
  At.fst (At.zero h0)
theorem HT:dY Tryz.prog 99 1 1:=⟨_,_,0,Tryz.underlying99,rfl,rfl,by kernel_rfl⟩
theorem B4 (y:Entry) (ad:Addr) (k:K) (h:At y ad k):At y.N (ad.add 1) k:=
  have h0:At (y.Name,y.N) ad k:=h
  At.sW (At.zero h0)
theorem ty3:Ty Tryz.prog 3 Int:=⟨⟨_,Tryz.underlying3,rfl⟩,by kernel_rfl⟩
theorem eo3:dN Tryz.prog 3 Int:=⟨_,_,rfl,rfl,rfl,rfl,by decide,by decide⟩
theorem I2:(Tryz.prog.info? 3).map (·.size) = some (Enc.sz Int):=by kernel_rfl
theorem Jq:dN Tryz.prog 79 aw:=⟨_,_,rfl,rfl,rfl,rfl,by decide,by decide⟩
theorem HW:Ty Tryz.prog 35 (List Entry):=⟨⟨_,Tryz.underlying35,rfl⟩,by kernel_rfl⟩
theorem J3:Ty Tryz.prog 30 an:=⟨⟨_,Tryz.underlying30,rfl⟩,by kernel_rfl⟩
theorem se:dY Tryz.prog 37 5 12:=⟨_,_,0,Tryz.underlying37,rfl,rfl,by kernel_rfl⟩
theorem xg (y:aq) (ad:Addr) (k:K) (h:At y ad k):At y.Base (ad.add 12) k:=
  have h0:At (y.an,y.Land,y.Easements,y.Windows,y.Built,y.Base) ad k:=h
  At.sW (At.sW (At.sW (At.sW (At.sW (At.zero h0)))))
theorem GJ:Ty Tryz.prog 71 Cap:=⟨⟨_,Tryz.underlying71,rfl⟩,by kernel_rfl⟩
theorem sB:dY Tryz.prog 37 4 11:=⟨_,_,0,Tryz.underlying37,rfl,rfl,by kernel_rfl⟩
theorem xG (y:aq) (ad:Addr) (k:K) (h:At y ad k):At y.Built (ad.add 11) k:=
  have h0:At (y.an,y.Land,y.Easements,y.Windows,y.Built,y.Base) ad k:=h
  At.fst (At.sW (At.sW (At.sW (At.sW (At.zero h0)))))
theorem IZ:Ty Tryz.prog 34 (List bf):=⟨⟨_,Tryz.underlying34,rfl⟩,by kernel_rfl⟩
theorem Fp:dY Tryz.prog 37 0 0:=⟨_,_,7,Tryz.underlying37,rfl,rfl,by kernel_rfl⟩
theorem xH (y:aq) (ad:Addr) (k:K) (h:At y ad k):At y.an (ad.add 0) k:=
  have h0:At (y.an,y.Land,y.Easements,y.Windows,y.Built,y.Base) ad k:=h
  At.fst (At.zero h0)
theorem D8:dY Tryz.prog 43 2 2:=⟨_,_,1,Tryz.underlying43,rfl,rfl,by kernel_rfl⟩
theorem uD (y:ax) (ad:Addr) (k:K) (h:At y ad k):At y.aE (ad.add 2) k:=
  have h0:At (y.Id,y.Holder,y.aE,y.Used,y.Until,y.Over) ad k:=h
  At.fst (At.sW (At.sW (At.zero h0)))
theorem El:Ty Tryz.prog 46 Phase:=⟨⟨_,Tryz.underlying46,rfl⟩,by kernel_rfl⟩
theorem z46:Zero Tryz.prog 46 ((⟨[],[]⟩:Phase):Phase):=⟨_,Tryz.zeroValue46,fun _=>⟨_,rfl,⟨rfl,⟨_,rfl,.inl ⟨rfl,rfl⟩⟩,⟨_,rfl,.inl ⟨rfl,rfl⟩⟩⟩⟩⟩
theorem JQ:(Tryz.prog.info? 46).map (·.size) = some (Enc.sz Phase):=by kernel_rfl
theorem II:dY Tryz.prog 46 0 0:=⟨_,_,0,Tryz.underlying46,rfl,rfl,by kernel_rfl⟩
theorem BY (y:Phase) (ad:Addr) (k:K) (h:At y ad k):At y.Volumes (ad.add 0) k:=
  have h0:At (y.Volumes,y.bd) ad k:=h
  At.fst (At.zero h0)
theorem Ki:Ty Tryz.prog 44 (List af):=⟨⟨_,Tryz.underlying44,rfl⟩,by kernel_rfl⟩
theorem HB:dY Tryz.prog 46 1 1:=⟨_,_,0,Tryz.underlying46,rfl,rfl,by kernel_rfl⟩
theorem BQ (y:Phase) (ad:Addr) (k:K) (h:At y ad k):At y.bd (ad.add 1) k:=
  have h0:At (y.Volumes,y.bd) ad k:=h
  At.sW (At.zero h0)
theorem oN:Ty Tryz.prog 43 ax:=⟨⟨_,Tryz.underlying43,rfl⟩,by kernel_rfl⟩
theorem z75:Zero Tryz.prog 75 ((⟨(⟨#[]⟩:ByteArray),0,[]⟩:ct):ct):=⟨_,Tryz.zeroValue75,fun _=>⟨_,rfl,⟨rfl,rfl,⟨rfl,rfl,⟨_,rfl,.inl ⟨rfl,rfl⟩⟩⟩⟩⟩⟩
def aY:gD ct:=⟨0 + 2,Int,inferInstance,3,fun x=>x.Tops,fun x y=>{ x with Tops:=y }⟩
theorem uI {k:K} {v0 v1:Value} {x0:ByteArray} {x1:Int} (h0:IsV x0 v0 k) (h1:IsV x1 v1 k) : ∃ v,(∀ w,(Instr.build 75 #[(0,v0),(1,v1)]).run Tryz.prog w = .ok v w)∧yN [aY.off] (⟨x0,x1,[]⟩:ct) v k:=by
  obtain ⟨l0,e0,r0,n0⟩:=ft h0
  obtain ⟨u0_0,rfl⟩:=ES n0
  obtain ⟨l1,e1,r1,n1⟩:=ft h1
  obtain ⟨u1_0,rfl⟩:=ES n1
  refine ⟨.agg #[u0_0,u1_0,.slice none 0 0],fun w=>?_,[u0_0,u1_0,.slice none 0 0],rfl,rfl,⟨rfl,r0,⟨rfl,r1,⟨_,rfl,.inl ⟨rfl,rfl⟩⟩⟩⟩,fun _ h=>by cases h with | head=>rfl | tail _ h=>exact nomatch h⟩
  simp [Instr.build,Instr.fill,sa,e0,e1]
theorem C3:(Tryz.prog.info? 75).map (·.size) = some (Enc.sz ct):=by kernel_rfl
theorem xB:Upd (α:=ct) (β:=(List Int)) (0 + 2) (fun x y=>{ x with Tops:=y }):=fun k cs cy x y hx hy=>(Upd.snd (Upd.snd Upd.self)) k cs cy (x.Cap,x.Base,x.Tops) y hx hy
theorem CF:C9 [aY]:=⟨xB,trivial⟩
theorem z43:Zero Tryz.prog 43 ((⟨0,0,(⟨0,[]⟩:aE),0,0,false⟩:ax):ax):=⟨_,Tryz.zeroValue43,fun _=>⟨_,rfl,⟨rfl,rfl,⟨rfl,rfl,⟨rfl,⟨rfl,rfl,⟨_,rfl,.inl ⟨rfl,rfl⟩⟩⟩,⟨rfl,rfl,⟨rfl,rfl,rfl⟩⟩⟩⟩⟩⟩⟩
theorem C4:(Tryz.prog.info? 43).map (·.size) = some (Enc.sz ax):=by kernel_rfl
theorem yR:dY Tryz.prog 75 2 2:=⟨_,_,0,Tryz.underlying75,rfl,rfl,by kernel_rfl⟩
theorem Cm:(Tryz.prog.info? 67).map (·.size) = some (Enc.sz (List Int)):=by kernel_rfl
theorem Ci (x:ct):p7 x [aY]:=⟨xB,rfl,(fun _ h=>nomatch h),trivial⟩
theorem FX:Ty Tryz.prog 75 ct:=⟨⟨_,Tryz.underlying75,rfl⟩,by kernel_rfl⟩
theorem GA:dN Tryz.prog 97 bf:=⟨_,_,rfl,rfl,rfl,rfl,by decide,by decide⟩
def bm:gD aq:=⟨0 + 11,bf,inferInstance,97,fun x=>x.Built,fun x y=>{ x with Built:=y }⟩
def bn:gD aq:=⟨0 + 12,Entry,inferInstance,99,fun x=>x.Base,fun x y=>{ x with Base:=y }⟩
theorem r5:Upd (α:=aq) (β:=(List bf)) (0 + 11) (fun x y=>{ x with Built:=y }):=fun k cs cy x y hx hy=>(Upd.snd (Upd.snd (Upd.snd (Upd.snd (Upd.fst Upd.self))))) k cs cy (x.an,x.Land,x.Easements,x.Windows,x.Built,x.Base) y hx hy
theorem sK:Upd (α:=aq) (β:=(List Entry)) (0 + 12) (fun x y=>{ x with Base:=y }):=fun k cs cy x y hx hy=>(Upd.snd (Upd.snd (Upd.snd (Upd.snd (Upd.snd Upd.self))))) k cs cy (x.an,x.Land,x.Easements,x.Windows,x.Built,x.Base) y hx hy
theorem xQ:C9 [bm,bn]:=⟨r5,sK,trivial⟩
theorem C7:(Tryz.prog.info? 34).map (·.size) = some (Enc.sz (List bf)):=by kernel_rfl
theorem CH:(Tryz.prog.info? 35).map (·.size) = some (Enc.sz (List Entry)):=by kernel_rfl
theorem DG {k:K} {v0 v1:Value} {x0:Int} {x1:af} (h0:IsV x0 v0 k) (h1:IsV x1 v1 k) : ∃ v,(∀ w,(Instr.build 97 #[(0,v0),(1,v1)]).run Tryz.prog w = .ok v w)∧IsV (⟨x0,x1⟩:bf) v k:=by
  obtain ⟨l0,e0,r0,n0⟩:=ft h0
  obtain ⟨u0_0,rfl⟩:=ES n0
  obtain ⟨l1,e1,r1,n1⟩:=ft h1
  obtain ⟨u1_0,u1_1,u1_2,u1_3,u1_4,u1_5,u1_6,u1_7,u1_8,rfl⟩:=Lw n1
  refine ⟨.agg #[u0_0,u1_0,u1_1,u1_2,u1_3,u1_4,u1_5,u1_6,u1_7,u1_8],fun w=>?_,[u0_0,u1_0,u1_1,u1_2,u1_3,u1_4,u1_5,u1_6,u1_7,u1_8],rfl,⟨rfl,r0,r1⟩⟩
  simp [Instr.build,Instr.fill,sa,e0,e1]
theorem yg (x:aq):p7 x [bm,bn]:=⟨r5,rfl,(fun _ h=>by cases h with | head=>decide | tail _ h=>exact nomatch h),⟨sK,rfl,(fun _ h=>nomatch h),trivial⟩⟩
theorem Ef:dY Tryz.prog 41 0 0:=⟨_,_,0,Tryz.underlying41,rfl,rfl,by kernel_rfl⟩
theorem ru (y:aE) (ad:Addr) (k:K) (h:At y ad k):At y.Lot (ad.add 0) k:=
  have h0:At (y.Lot,y.Phases) ad k:=h
  At.fst (At.zero h0)
theorem CL:Ty Tryz.prog 130 (List aw):=⟨⟨_,Tryz.underlying130,rfl⟩,by kernel_rfl⟩
theorem Jl:tR Tryz.prog 230 ar:=by
  refine ⟨by kernel_rfl,fun k x y u v hx hy=>?_⟩
  obtain ⟨csx,ex,rx⟩:=hx
  have fx:csx = [.int .i64 x.from_,.int .i64 x.to_]:=by
    have hl:=Enc.len rx
    obtain ⟨u0,u1,rfl⟩:=GG hl
    obtain ⟨_,qx0,qx1⟩:=rx
    have qx0:u0 = .int .i64 x.from_:=hd1 (show [u0] = [.int .i64 x.from_] from qx0)
    have qx1:u1 = .int .i64 x.to_:=hd1 (show [u1] = [.int .i64 x.to_] from qx1)
    rw [qx0,qx1]
  obtain ⟨csy,ey,ry⟩:=hy
  have fy:csy = [.int .i64 y.from_,.int .i64 y.to_]:=by
    have hl:=Enc.len ry
    obtain ⟨u0,u1,rfl⟩:=GG hl
    obtain ⟨_,qy0,qy1⟩:=ry
    have qy0:u0 = .int .i64 y.from_:=hd1 (show [u0] = [.int .i64 y.from_] from qy0)
    have qy1:u1 = .int .i64 y.to_:=hd1 (show [u1] = [.int .i64 y.to_] from qy1)
    rw [qy0,qy1]
  subst fx; subst fy; subst ex; subst ey
  refine ⟨⟨_,rfl⟩,⟨_,rfl⟩,fun w=>?_⟩
  show (Op.equalIn (9998 + 1 + 1) 230 (.agg #[.int .i64 x.from_,.int .i64 x.to_]) (.agg #[.int .i64 y.from_,.int .i64 y.to_])).run Tryz.prog w = _
  rw [run_equalIn_struct w _ 230 _ _ (by kernel_rfl) Tryz.stoodInHeld230]
  generalize 9998 = d
  simp [Program.fieldsOf,Op.eqFields,part,qC,← beq_toListBytes,da Tryz.underlying3,run_equalIn_int w d 3 .i64 .i64 _ _ Tryz.underlying3]
  obtain ⟨a0,a1⟩:=x
  obtain ⟨b0,b1⟩:=y
  simp only [ar.mk.injEq]
  by_cases h0:a0 = b0
  rotate_left
  · simp [h0]
  subst h0
  by_cases h1:a1 = b1
  rotate_left
  · simp [h1]
  subst h1
  simp
theorem KM:tR Tryz.prog 79 aw:=by
  refine ⟨by kernel_rfl,fun k x y u v hx hy=>?_⟩
  obtain ⟨csx,ex,rx⟩:=hx
  have fx:csx = [.int .i64 x.X0,.int .i64 x.Y0,.int .i64 x.X1,.int .i64 x.Y1]:=by
    have hl:=Enc.len rx
    obtain ⟨u0,u1,u2,u3,rfl⟩:=JA hl
    obtain ⟨_,qx0,⟨_,qx1,⟨_,qx2,qx3⟩⟩⟩:=rx
    have qx0:u0 = .int .i64 x.X0:=hd1 (show [u0] = [.int .i64 x.X0] from qx0)
    have qx1:u1 = .int .i64 x.Y0:=hd1 (show [u1] = [.int .i64 x.Y0] from qx1)
    have qx2:u2 = .int .i64 x.X1:=hd1 (show [u2] = [.int .i64 x.X1] from qx2)
    have qx3:u3 = .int .i64 x.Y1:=hd1 (show [u3] = [.int .i64 x.Y1] from qx3)
    rw [qx0,qx1,qx2,qx3]
  obtain ⟨csy,ey,ry⟩:=hy
  have fy:csy = [.int .i64 y.X0,.int .i64 y.Y0,.int .i64 y.X1,.int .i64 y.Y1]:=by
    have hl:=Enc.len ry
    obtain ⟨u0,u1,u2,u3,rfl⟩:=JA hl
    obtain ⟨_,qy0,⟨_,qy1,⟨_,qy2,qy3⟩⟩⟩:=ry
    have qy0:u0 = .int .i64 y.X0:=hd1 (show [u0] = [.int .i64 y.X0] from qy0)
    have qy1:u1 = .int .i64 y.Y0:=hd1 (show [u1] = [.int .i64 y.Y0] from qy1)
    have qy2:u2 = .int .i64 y.X1:=hd1 (show [u2] = [.int .i64 y.X1] from qy2)
    have qy3:u3 = .int .i64 y.Y1:=hd1 (show [u3] = [.int .i64 y.Y1] from qy3)
    rw [qy0,qy1,qy2,qy3]
  subst fx; subst fy; subst ex; subst ey
  refine ⟨⟨_,rfl⟩,⟨_,rfl⟩,fun w=>?_⟩
  show (Op.equalIn (9998 + 1 + 1) 79 (.agg #[.int .i64 x.X0,.int .i64 x.Y0,.int .i64 x.X1,.int .i64 x.Y1]) (.agg #[.int .i64 y.X0,.int .i64 y.Y0,.int .i64 y.X1,.int .i64 y.Y1])).run Tryz.prog w = _
  rw [run_equalIn_struct w _ 79 _ _ (by kernel_rfl) Tryz.stoodInHeld79]
  generalize 9998 = d
  simp [Program.fieldsOf,Op.eqFields,part,qC,← beq_toListBytes,da Tryz.underlying3,run_equalIn_int w d 3 .i64 .i64 _ _ Tryz.underlying3]
  obtain ⟨a0,a1,a2,a3⟩:=x
  obtain ⟨b0,b1,b2,b3⟩:=y
  simp only [aw.mk.injEq]
  by_cases h0:a0 = b0
  rotate_left
  · simp [h0]
  subst h0
  by_cases h1:a1 = b1
  rotate_left
  · simp [h1]
  subst h1
  by_cases h2:a2 = b2
  rotate_left
  · simp [h2]
  subst h2
  by_cases h3:a3 = b3
  rotate_left
  · simp [h3]
  subst h3
  simp
theorem K0:tR Tryz.prog 88 aJ:=by
  refine ⟨by kernel_rfl,fun k x y u v hx hy=>?_⟩
  obtain ⟨csx,ex,rx⟩:=hx
  have fx:csx = [.int .i64 x.X,.int .i64 x.Y,.int .i64 x.Z]:=by
    have hl:=Enc.len rx
    obtain ⟨u0,u1,u2,rfl⟩:=F4 hl
    obtain ⟨_,qx0,⟨_,qx1,qx2⟩⟩:=rx
    have qx0:u0 = .int .i64 x.X:=hd1 (show [u0] = [.int .i64 x.X] from qx0)
    have qx1:u1 = .int .i64 x.Y:=hd1 (show [u1] = [.int .i64 x.Y] from qx1)
    have qx2:u2 = .int .i64 x.Z:=hd1 (show [u2] = [.int .i64 x.Z] from qx2)
    rw [qx0,qx1,qx2]
  obtain ⟨csy,ey,ry⟩:=hy
  have fy:csy = [.int .i64 y.X,.int .i64 y.Y,.int .i64 y.Z]:=by
    have hl:=Enc.len ry
    obtain ⟨u0,u1,u2,rfl⟩:=F4 hl
    obtain ⟨_,qy0,⟨_,qy1,qy2⟩⟩:=ry
    have qy0:u0 = .int .i64 y.X:=hd1 (show [u0] = [.int .i64 y.X] from qy0)
    have qy1:u1 = .int .i64 y.Y:=hd1 (show [u1] = [.int .i64 y.Y] from qy1)
    have qy2:u2 = .int .i64 y.Z:=hd1 (show [u2] = [.int .i64 y.Z] from qy2)
    rw [qy0,qy1,qy2]
  subst fx; subst fy; subst ex; subst ey
  refine ⟨⟨_,rfl⟩,⟨_,rfl⟩,fun w=>?_⟩
  show (Op.equalIn (9998 + 1 + 1) 88 (.agg #[.int .i64 x.X,.int .i64 x.Y,.int .i64 x.Z]) (.agg #[.int .i64 y.X,.int .i64 y.Y,.int .i64 y.Z])).run Tryz.prog w = _
  rw [run_equalIn_struct w _ 88 _ _ (by kernel_rfl) Tryz.stoodInHeld88]
  generalize 9998 = d
  simp [Program.fieldsOf,Op.eqFields,part,qC,← beq_toListBytes,da Tryz.underlying3,run_equalIn_int w d 3 .i64 .i64 _ _ Tryz.underlying3]
  obtain ⟨a0,a1,a2⟩:=x
  obtain ⟨b0,b1,b2⟩:=y
  simp only [aJ.mk.injEq]
  by_cases h0:a0 = b0
  rotate_left
  · simp [h0]
  subst h0
  by_cases h1:a1 = b1
  rotate_left
  · simp [h1]
  subst h1
  by_cases h2:a2 = b2
  rotate_left
  · simp [h2]
  subst h2
  simp
theorem z55:Zero Tryz.prog 55 ((⟨0,(⟨#[]⟩:ByteArray),0⟩:aK):aK):=⟨_,Tryz.zeroValue55,fun _=>⟨_,rfl,⟨rfl,rfl,⟨rfl,rfl,rfl⟩⟩⟩⟩
theorem Ha:(Tryz.prog.info? 55).map (·.size) = some (Enc.sz aK):=by kernel_rfl
def aR:gD (List aq):=⟨0,aq,inferInstance,37,fun x=>x,fun _ y=>y⟩
theorem IM:C9 [aR]:=⟨Upd.self,trivial⟩
theorem Hp:(Tryz.prog.info? 59).map (·.size) = some (Enc.sz (List aq)):=by kernel_rfl
theorem Bg:dN Tryz.prog 37 aq:=⟨_,_,rfl,rfl,rfl,rfl,by decide,by decide⟩
theorem B8:Ty Tryz.prog 103 hY:=⟨⟨_,Tryz.underlying103,rfl⟩,by kernel_rfl⟩
theorem IP:(Tryz.prog.info? 103).map (·.size) = some (Enc.sz hY):=by kernel_rfl
theorem Im (x:(List aq)):p7 x [aR]:=⟨Upd.self,rfl,(fun _ h=>nomatch h),trivial⟩
theorem Kq:Ty Tryz.prog 59 (List aq):=⟨⟨_,Tryz.underlying59,rfl⟩,by kernel_rfl⟩
theorem Ee:dY Tryz.prog 43 0 0:=⟨_,_,0,Tryz.underlying43,rfl,rfl,by kernel_rfl⟩
theorem vc (y:ax) (ad:Addr) (k:K) (h:At y ad k):At y.Id (ad.add 0) k:=
  have h0:At (y.Id,y.Holder,y.aE,y.Used,y.Until,y.Over) ad k:=h
  At.fst (At.zero h0)
theorem KL:tR Tryz.prog 55 aK:=by
  refine ⟨by kernel_rfl,fun k x y u v hx hy=>?_⟩
  obtain ⟨csx,ex,rx⟩:=hx
  have fx:csx = [.int .i64 x.Kind,.string x.Name,.int .i64 x.N]:=by
    have hl:=Enc.len rx
    obtain ⟨u0,u1,u2,rfl⟩:=F4 hl
    obtain ⟨_,qx0,⟨_,qx1,qx2⟩⟩:=rx
    have qx0:u0 = .int .i64 x.Kind:=hd1 (show [u0] = [.int .i64 x.Kind] from qx0)
    have qx1:u1 = .string x.Name:=hd1 (show [u1] = [.string x.Name] from qx1)
    have qx2:u2 = .int .i64 x.N:=hd1 (show [u2] = [.int .i64 x.N] from qx2)
    rw [qx0,qx1,qx2]
  obtain ⟨csy,ey,ry⟩:=hy
  have fy:csy = [.int .i64 y.Kind,.string y.Name,.int .i64 y.N]:=by
    have hl:=Enc.len ry
    obtain ⟨u0,u1,u2,rfl⟩:=F4 hl
    obtain ⟨_,qy0,⟨_,qy1,qy2⟩⟩:=ry
    have qy0:u0 = .int .i64 y.Kind:=hd1 (show [u0] = [.int .i64 y.Kind] from qy0)
    have qy1:u1 = .string y.Name:=hd1 (show [u1] = [.string y.Name] from qy1)
    have qy2:u2 = .int .i64 y.N:=hd1 (show [u2] = [.int .i64 y.N] from qy2)
    rw [qy0,qy1,qy2]
  subst fx; subst fy; subst ex; subst ey
  refine ⟨⟨_,rfl⟩,⟨_,rfl⟩,fun w=>?_⟩
  show (Op.equalIn (9998 + 1 + 1) 55 (.agg #[.int .i64 x.Kind,.string x.Name,.int .i64 x.N]) (.agg #[.int .i64 y.Kind,.string y.Name,.int .i64 y.N])).run Tryz.prog w = _
  rw [run_equalIn_struct w _ 55 _ _ (by kernel_rfl) Tryz.stoodInHeld55]
  generalize 9998 = d
  simp [Program.fieldsOf,Op.eqFields,part,qC,← beq_toListBytes,da Tryz.underlying3,run_equalIn_int w d 3 .i64 .i64 _ _ Tryz.underlying3,da Tryz.underlying9,run_equalIn_string w d 9 _ _ Tryz.underlying9]
  obtain ⟨a0,a1,a2⟩:=x
  obtain ⟨b0,b1,b2⟩:=y
  simp only [aK.mk.injEq]
  by_cases h0:a0 = b0
  rotate_left
  · simp [h0,qA]
  subst h0
  by_cases h1:a1 = b1
  rotate_left
  · simp [h1,qA]
  subst h1
  by_cases h2:a2 = b2
  rotate_left
  · simp [h2,qA]
  subst h2
  simp [qA]
theorem LC:tR Tryz.prog 97 bf:=by
  refine ⟨by kernel_rfl,fun k x y u v hx hy=>?_⟩
  obtain ⟨csx,ex,rx⟩:=hx
  have fx:csx = [.int .i64 x.Lot,.int .i64 x.af.Box.Base.X0,.int .i64 x.af.Box.Base.Y0,.int .i64 x.af.Box.Base.X1,.int .i64 x.af.Box.Base.Y1,.int .i64 x.af.Box.Z0,.int .i64 x.af.Box.Z1,.int .i64 x.af.Use,.int .i64 x.af.Units,.bool x.af.Extra]:=by
    have hl:=Enc.len rx
    obtain ⟨u0,u1,u2,u3,u4,u5,u6,u7,u8,u9,rfl⟩:=Ho hl
    obtain ⟨_,qx0,⟨_,⟨_,⟨_,qx1,⟨_,qx2,⟨_,qx3,qx4⟩⟩⟩,⟨_,qx5,qx6⟩⟩,⟨_,qx7,⟨_,qx8,qx9⟩⟩⟩⟩:=rx
    have qx0:u0 = .int .i64 x.Lot:=hd1 (show [u0] = [.int .i64 x.Lot] from qx0)
    have qx1:u1 = .int .i64 x.af.Box.Base.X0:=hd1 (show [u1] = [.int .i64 x.af.Box.Base.X0] from qx1)
    have qx2:u2 = .int .i64 x.af.Box.Base.Y0:=hd1 (show [u2] = [.int .i64 x.af.Box.Base.Y0] from qx2)
    have qx3:u3 = .int .i64 x.af.Box.Base.X1:=hd1 (show [u3] = [.int .i64 x.af.Box.Base.X1] from qx3)
    have qx4:u4 = .int .i64 x.af.Box.Base.Y1:=hd1 (show [u4] = [.int .i64 x.af.Box.Base.Y1] from qx4)
    have qx5:u5 = .int .i64 x.af.Box.Z0:=hd1 (show [u5] = [.int .i64 x.af.Box.Z0] from qx5)
    have qx6:u6 = .int .i64 x.af.Box.Z1:=hd1 (show [u6] = [.int .i64 x.af.Box.Z1] from qx6)
    have qx7:u7 = .int .i64 x.af.Use:=hd1 (show [u7] = [.int .i64 x.af.Use] from qx7)
    have qx8:u8 = .int .i64 x.af.Units:=hd1 (show [u8] = [.int .i64 x.af.Units] from qx8)
    have qx9:u9 = .bool x.af.Extra:=hd1 (show [u9] = [.bool x.af.Extra] from qx9)
    rw [qx0,qx1,qx2,qx3,qx4,qx5,qx6,qx7,qx8,qx9]
  obtain ⟨csy,ey,ry⟩:=hy
  have fy:csy = [.int .i64 y.Lot,.int .i64 y.af.Box.Base.X0,.int .i64 y.af.Box.Base.Y0,.int .i64 y.af.Box.Base.X1,.int .i64 y.af.Box.Base.Y1,.int .i64 y.af.Box.Z0,.int .i64 y.af.Box.Z1,.int .i64 y.af.Use,.int .i64 y.af.Units,.bool y.af.Extra]:=by
    have hl:=Enc.len ry
    obtain ⟨u0,u1,u2,u3,u4,u5,u6,u7,u8,u9,rfl⟩:=Ho hl
    obtain ⟨_,qy0,⟨_,⟨_,⟨_,qy1,⟨_,qy2,⟨_,qy3,qy4⟩⟩⟩,⟨_,qy5,qy6⟩⟩,⟨_,qy7,⟨_,qy8,qy9⟩⟩⟩⟩:=ry
    have qy0:u0 = .int .i64 y.Lot:=hd1 (show [u0] = [.int .i64 y.Lot] from qy0)
    have qy1:u1 = .int .i64 y.af.Box.Base.X0:=hd1 (show [u1] = [.int .i64 y.af.Box.Base.X0] from qy1)
    have qy2:u2 = .int .i64 y.af.Box.Base.Y0:=hd1 (show [u2] = [.int .i64 y.af.Box.Base.Y0] from qy2)
    have qy3:u3 = .int .i64 y.af.Box.Base.X1:=hd1 (show [u3] = [.int .i64 y.af.Box.Base.X1] from qy3)
    have qy4:u4 = .int .i64 y.af.Box.Base.Y1:=hd1 (show [u4] = [.int .i64 y.af.Box.Base.Y1] from qy4)
    have qy5:u5 = .int .i64 y.af.Box.Z0:=hd1 (show [u5] = [.int .i64 y.af.Box.Z0] from qy5)
    have qy6:u6 = .int .i64 y.af.Box.Z1:=hd1 (show [u6] = [.int .i64 y.af.Box.Z1] from qy6)
    have qy7:u7 = .int .i64 y.af.Use:=hd1 (show [u7] = [.int .i64 y.af.Use] from qy7)
    have qy8:u8 = .int .i64 y.af.Units:=hd1 (show [u8] = [.int .i64 y.af.Units] from qy8)
    have qy9:u9 = .bool y.af.Extra:=hd1 (show [u9] = [.bool y.af.Extra] from qy9)
    rw [qy0,qy1,qy2,qy3,qy4,qy5,qy6,qy7,qy8,qy9]
  subst fx; subst fy; subst ex; subst ey
  refine ⟨⟨_,rfl⟩,⟨_,rfl⟩,fun w=>?_⟩
  show (Op.equalIn (9995 + 1 + 1 + 1 + 1 + 1) 97 (.agg #[.int .i64 x.Lot,.int .i64 x.af.Box.Base.X0,.int .i64 x.af.Box.Base.Y0,.int .i64 x.af.Box.Base.X1,.int .i64 x.af.Box.Base.Y1,.int .i64 x.af.Box.Z0,.int .i64 x.af.Box.Z1,.int .i64 x.af.Use,.int .i64 x.af.Units,.bool x.af.Extra]) (.agg #[.int .i64 y.Lot,.int .i64 y.af.Box.Base.X0,.int .i64 y.af.Box.Base.Y0,.int .i64 y.af.Box.Base.X1,.int .i64 y.af.Box.Base.Y1,.int .i64 y.af.Box.Z0,.int .i64 y.af.Box.Z1,.int .i64 y.af.Use,.int .i64 y.af.Units,.bool y.af.Extra])).run Tryz.prog w = _
  rw [run_equalIn_struct w _ 97 _ _ (by kernel_rfl) Tryz.stoodInHeld97]
  generalize 9995 = d
  simp [Program.fieldsOf,Op.eqFields,part,qC,← beq_toListBytes,da Tryz.underlying3,run_equalIn_int w d 3 .i64 .i64 _ _ Tryz.underlying3,run_equalIn_int w (d + 1) 3 .i64 .i64 _ _ Tryz.underlying3,run_equalIn_int w (d + 2) 3 .i64 .i64 _ _ Tryz.underlying3,run_equalIn_int w (d + 3) 3 .i64 .i64 _ _ Tryz.underlying3,da Tryz.underlying4,run_equalIn_bool w d 4 _ _ Tryz.underlying4,run_equalIn_bool w (d + 1) 4 _ _ Tryz.underlying4,run_equalIn_bool w (d + 2) 4 _ _ Tryz.underlying4,run_equalIn_bool w (d + 3) 4 _ _ Tryz.underlying4,da Tryz.underlying79,run_equalIn_struct w _ 79 _ _ (by kernel_rfl) Tryz.stoodInHeld79,da Tryz.underlying81,run_equalIn_struct w _ 81 _ _ (by kernel_rfl) Tryz.stoodInHeld81,da Tryz.underlying83,run_equalIn_struct w _ 83 _ _ (by kernel_rfl) Tryz.stoodInHeld83]
  obtain ⟨a0,⟨⟨⟨a1,a2,a3,a4⟩,a5,a6⟩,a7,a8,a9⟩⟩:=x
  obtain ⟨b0,⟨⟨⟨b1,b2,b3,b4⟩,b5,b6⟩,b7,b8,b9⟩⟩:=y
  simp only [bf.mk.injEq,af.mk.injEq,Box.mk.injEq,aw.mk.injEq]
  by_cases h0:a0 = b0
  rotate_left
  · simp [h0]
  subst h0
  by_cases h1:a1 = b1
  rotate_left
  · simp [h1]
  subst h1
  by_cases h2:a2 = b2
  rotate_left
  · simp [h2]
  subst h2
  by_cases h3:a3 = b3
  rotate_left
  · simp [h3]
  subst h3
  by_cases h4:a4 = b4
  rotate_left
  · simp [h4]
  subst h4
  by_cases h5:a5 = b5
  rotate_left
  · simp [h5]
  subst h5
  by_cases h6:a6 = b6
  rotate_left
  · simp [h6]
  subst h6
  by_cases h7:a7 = b7
  rotate_left
  · simp [h7]
  subst h7
  by_cases h8:a8 = b8
  rotate_left
  · simp [h8]
  subst h8
  by_cases h9:a9 = b9
  rotate_left
  · simp [h9]
  subst h9
  simp
theorem Lt:tR Tryz.prog 99 Entry:=by
  refine ⟨by kernel_rfl,fun k x y u v hx hy=>?_⟩
  obtain ⟨csx,ex,rx⟩:=hx
  have fx:csx = [.string x.Name,.int .i64 x.N]:=by
    have hl:=Enc.len rx
    obtain ⟨u0,u1,rfl⟩:=GG hl
    obtain ⟨_,qx0,qx1⟩:=rx
    have qx0:u0 = .string x.Name:=hd1 (show [u0] = [.string x.Name] from qx0)
    have qx1:u1 = .int .i64 x.N:=hd1 (show [u1] = [.int .i64 x.N] from qx1)
    rw [qx0,qx1]
  obtain ⟨csy,ey,ry⟩:=hy
  have fy:csy = [.string y.Name,.int .i64 y.N]:=by
    have hl:=Enc.len ry
    obtain ⟨u0,u1,rfl⟩:=GG hl
    obtain ⟨_,qy0,qy1⟩:=ry
    have qy0:u0 = .string y.Name:=hd1 (show [u0] = [.string y.Name] from qy0)
    have qy1:u1 = .int .i64 y.N:=hd1 (show [u1] = [.int .i64 y.N] from qy1)
    rw [qy0,qy1]
  subst fx; subst fy; subst ex; subst ey
  refine ⟨⟨_,rfl⟩,⟨_,rfl⟩,fun w=>?_⟩
  show (Op.equalIn (9998 + 1 + 1) 99 (.agg #[.string x.Name,.int .i64 x.N]) (.agg #[.string y.Name,.int .i64 y.N])).run Tryz.prog w = _
  rw [run_equalIn_struct w _ 99 _ _ (by kernel_rfl) Tryz.stoodInHeld99]
  generalize 9998 = d
  simp [Program.fieldsOf,Op.eqFields,part,qC,← beq_toListBytes,da Tryz.underlying3,run_equalIn_int w d 3 .i64 .i64 _ _ Tryz.underlying3,da Tryz.underlying9,run_equalIn_string w d 9 _ _ Tryz.underlying9]
  obtain ⟨a0,a1⟩:=x
  obtain ⟨b0,b1⟩:=y
  simp only [Entry.mk.injEq]
  by_cases h0:a0 = b0
  rotate_left
  · simp [h0,qA]
  subst h0
  by_cases h1:a1 = b1
  rotate_left
  · simp [h1,qA]
  subst h1
  simp [qA]
theorem rd9:Rd Tryz.prog 9 ByteArray:=Dv Tryz.underlying9
theorem rd3:Rd Tryz.prog 3 Int:=HQ Tryz.underlying3
theorem Jc:Rd Tryz.prog 263 Opq:=HM Tryz.underlying263
instance:Rg Expr:=Rg.ofMap fun x=>(x.Op,x.N,x.S,x.Key,x.Args)
theorem G6:Rd Tryz.prog 265 Expr:=bR (f:=fun x=>(x.Op,x.N,x.S,x.Key,x.Args)) (fun y=>⟨y.1,y.2.1,y.2.2.1,y.2.2.2.1,y.2.2.2.2⟩) Tryz.underlying265 (by kernel_rfl) rfl (fun _ _ _ h=>h) (fun _ h=>h) (RdF.cons rfl (by kernel_rfl) rd3 (RdF.cons rfl (by kernel_rfl) rd3 (RdF.cons rfl (by kernel_rfl) rd9 (RdF.cons rfl (by kernel_rfl) rd9 (RdF.one rfl (by kernel_rfl) Jc))))) (fun _=>rfl)
instance:Rg Def:=Rg.ofMap fun x=>(x.Name,x.Body)
theorem I8:Rd Tryz.prog 267 Def:=bR (f:=fun x=>(x.Name,x.Body)) (fun y=>⟨y.1,y.2⟩) Tryz.underlying267 (by kernel_rfl) rfl (fun _ _ _ h=>h) (fun _ h=>h) (RdF.cons rfl (by kernel_rfl) rd9 (RdF.one rfl (by kernel_rfl) G6)) (fun _=>rfl)
theorem KU:Rd Tryz.prog 22 (List Def):=cP Tryz.underlying22 (by kernel_rfl) (by decide) (by kernel_rfl) I8
instance:Rg Entry:=Rg.ofMap fun x=>(x.Name,x.N)
theorem Lp:Rd Tryz.prog 99 Entry:=bR (f:=fun x=>(x.Name,x.N)) (fun y=>⟨y.1,y.2⟩) Tryz.underlying99 (by kernel_rfl) rfl (fun _ _ _ h=>h) (fun _ h=>h) (RdF.cons rfl (by kernel_rfl) rd9 (RdF.one rfl (by kernel_rfl) rd3)) (fun _=>rfl)
theorem Iy:Rd Tryz.prog 35 (List Entry):=cP Tryz.underlying35 (by kernel_rfl) (by decide) (by kernel_rfl) Lp
instance:Rg Table:=Rg.ofMap fun x=>(x.Name,x.Rows,x.Else)
theorem KN:Rd Tryz.prog 95 Table:=bR (f:=fun x=>(x.Name,x.Rows,x.Else)) (fun y=>⟨y.1,y.2.1,y.2.2⟩) Tryz.underlying95 (by kernel_rfl) rfl (fun _ _ _ h=>h) (fun _ h=>h) (RdF.cons rfl (by kernel_rfl) rd9 (RdF.cons rfl (by kernel_rfl) Iy (RdF.one rfl (by kernel_rfl) rd3))) (fun _=>rfl)
theorem Lu:Rd Tryz.prog 23 (List Table):=cP Tryz.underlying23 (by kernel_rfl) (by decide) (by kernel_rfl) KN
theorem rd4:Rd Tryz.prog 4 Bool:=F6 Tryz.underlying4
instance:Rg aT:=Rg.ofMap fun x=>(x.X,x.Y)
theorem JL:Rd Tryz.prog 112 aT:=bR (f:=fun x=>(x.X,x.Y)) (fun y=>⟨y.1,y.2⟩) Tryz.underlying112 (by kernel_rfl) rfl (fun _ _ _ h=>h) (fun _ h=>h) (RdF.cons rfl (by kernel_rfl) rd3 (RdF.one rfl (by kernel_rfl) rd3)) (fun _=>rfl)
theorem Jd:Rd Tryz.prog 69 (List aT):=cP Tryz.underlying69 (by kernel_rfl) (by decide) (by kernel_rfl) JL
instance:Rg xZ:=Rg.ofMap fun x=>(x.Name,x.Overlay,x.Corners)
theorem JI:Rd Tryz.prog 269 xZ:=bR (f:=fun x=>(x.Name,x.Overlay,x.Corners)) (fun y=>⟨y.1,y.2.1,y.2.2⟩) Tryz.underlying269 (by kernel_rfl) rfl (fun _ _ _ h=>h) (fun _ h=>h) (RdF.cons rfl (by kernel_rfl) rd9 (RdF.cons rfl (by kernel_rfl) rd4 (RdF.one rfl (by kernel_rfl) Jd))) (fun _=>rfl)
theorem KI:Rd Tryz.prog 24 (List xZ):=cP Tryz.underlying24 (by kernel_rfl) (by decide) (by kernel_rfl) JI
theorem G2:Rd Tryz.prog 212 (List ByteArray):=cP Tryz.underlying212 (by kernel_rfl) (by decide) (by kernel_rfl) rd9
instance:Rg nY:=Rg.ofMap fun x=>(x.Side,x.Base,x.Num,x.Den)
theorem Jo:Rd Tryz.prog 271 nY:=bR (f:=fun x=>(x.Side,x.Base,x.Num,x.Den)) (fun y=>⟨y.1,y.2.1,y.2.2.1,y.2.2.2⟩) Tryz.underlying271 (by kernel_rfl) rfl (fun _ _ _ h=>h) (fun _ h=>h) (RdF.cons rfl (by kernel_rfl) rd3 (RdF.cons rfl (by kernel_rfl) rd3 (RdF.cons rfl (by kernel_rfl) rd3 (RdF.one rfl (by kernel_rfl) rd3)))) (fun _=>rfl)
instance:Rg yC:=Rg.ofMap fun x=>(x.Name,x.Zones,x.Except,x.From,x.Until,x.Grace,x.Vary,x.Kind,x.Test,x.nY,x.Uses,x.Other,x.N)
theorem JM:Rd Tryz.prog 273 yC:=bR (f:=fun x=>(x.Name,x.Zones,x.Except,x.From,x.Until,x.Grace,x.Vary,x.Kind,x.Test,x.nY,x.Uses,x.Other,x.N)) (fun y=>⟨y.1,y.2.1,y.2.2.1,y.2.2.2.1,y.2.2.2.2.1,y.2.2.2.2.2.1,y.2.2.2.2.2.2.1,y.2.2.2.2.2.2.2.1,y.2.2.2.2.2.2.2.2.1,y.2.2.2.2.2.2.2.2.2.1,y.2.2.2.2.2.2.2.2.2.2.1,y.2.2.2.2.2.2.2.2.2.2.2.1,y.2.2.2.2.2.2.2.2.2.2.2.2⟩) Tryz.underlying273 (by kernel_rfl) rfl (fun _ _ _ h=>h) (fun _ h=>h) (RdF.cons rfl (by kernel_rfl) rd9 (RdF.cons rfl (by kernel_rfl) G2 (RdF.cons rfl (by kernel_rfl) G2 (RdF.cons rfl (by kernel_rfl) rd3 (RdF.cons rfl (by kernel_rfl) rd3 (RdF.cons rfl (by kernel_rfl) rd3 (RdF.cons rfl (by kernel_rfl) rd4 (RdF.cons rfl (by kernel_rfl) rd3 (RdF.cons rfl (by kernel_rfl) G6 (RdF.cons rfl (by kernel_rfl) Jo (RdF.cons rfl (by kernel_rfl) rd3 (RdF.cons rfl (by kernel_rfl) rd3 (RdF.one rfl (by kernel_rfl) rd3))))))))))))) (fun _=>rfl)
theorem KB:Rd Tryz.prog 25 (List yC):=cP Tryz.underlying25 (by kernel_rfl) (by decide) (by kernel_rfl) JM
instance:Rg Cap:=Rg.ofMap fun x=>(x.Name,x.Load,x.aK,x.Corners)
theorem Lk:Rd Tryz.prog 71 Cap:=bR (f:=fun x=>(x.Name,x.Load,x.aK,x.Corners)) (fun y=>⟨y.1,y.2.1,y.2.2.1,y.2.2.2⟩) Tryz.underlying71 (by kernel_rfl) rfl (fun _ _ _ h=>h) (fun _ h=>h) (RdF.cons rfl (by kernel_rfl) rd9 (RdF.cons rfl (by kernel_rfl) rd3 (RdF.cons rfl (by kernel_rfl) rd3 (RdF.one rfl (by kernel_rfl) Jd)))) (fun _=>rfl)
theorem KH:Rd Tryz.prog 26 (List Cap):=cP Tryz.underlying26 (by kernel_rfl) (by decide) (by kernel_rfl) Lk
instance:Rg aJ:=Rg.ofMap fun x=>(x.X,x.Y,x.Z)
theorem Iu:Rd Tryz.prog 88 aJ:=bR (f:=fun x=>(x.X,x.Y,x.Z)) (fun y=>⟨y.1,y.2.1,y.2.2⟩) Tryz.underlying88 (by kernel_rfl) rfl (fun _ _ _ h=>h) (fun _ h=>h) (RdF.cons rfl (by kernel_rfl) rd3 (RdF.cons rfl (by kernel_rfl) rd3 (RdF.one rfl (by kernel_rfl) rd3))) (fun _=>rfl)
theorem Jw:Rd Tryz.prog 28 (List aJ):=cP Tryz.underlying28 (by kernel_rfl) (by decide) (by kernel_rfl) Iu
instance:Rg View:=Rg.ofMap fun x=>(x.Name,x.Eye,x.Least,x.Targets)
theorem Lc:Rd Tryz.prog 93 View:=bR (f:=fun x=>(x.Name,x.Eye,x.Least,x.Targets)) (fun y=>⟨y.1,y.2.1,y.2.2.1,y.2.2.2⟩) Tryz.underlying93 (by kernel_rfl) rfl (fun _ _ _ h=>h) (fun _ h=>h) (RdF.cons rfl (by kernel_rfl) rd9 (RdF.cons rfl (by kernel_rfl) Iu (RdF.cons rfl (by kernel_rfl) rd3 (RdF.one rfl (by kernel_rfl) Jw)))) (fun _=>rfl)
theorem Lh:Rd Tryz.prog 27 (List View):=cP Tryz.underlying27 (by kernel_rfl) (by decide) (by kernel_rfl) Lc
instance:Rg an:=Rg.ofMap fun x=>(x.Defs,x.Tables,x.Zones,x.Rules,x.Caps,x.Views,x.Sun,x.Hours)
theorem KY:Rd Tryz.prog 30 an:=bR (f:=fun x=>(x.Defs,x.Tables,x.Zones,x.Rules,x.Caps,x.Views,x.Sun,x.Hours)) (fun y=>⟨y.1,y.2.1,y.2.2.1,y.2.2.2.1,y.2.2.2.2.1,y.2.2.2.2.2.1,y.2.2.2.2.2.2.1,y.2.2.2.2.2.2.2⟩) Tryz.underlying30 (by kernel_rfl) rfl (fun _ _ _ h=>h) (fun _ h=>h) (RdF.cons rfl (by kernel_rfl) KU (RdF.cons rfl (by kernel_rfl) Lu (RdF.cons rfl (by kernel_rfl) KI (RdF.cons rfl (by kernel_rfl) KB (RdF.cons rfl (by kernel_rfl) KH (RdF.cons rfl (by kernel_rfl) Lh (RdF.cons rfl (by kernel_rfl) Jw (RdF.one rfl (by kernel_rfl) rd3)))))))) (fun _=>rfl)
instance:Rg aw:=Rg.ofMap fun x=>(x.X0,x.Y0,x.X1,x.Y1)
theorem I1:Rd Tryz.prog 79 aw:=bR (f:=fun x=>(x.X0,x.Y0,x.X1,x.Y1)) (fun y=>⟨y.1,y.2.1,y.2.2.1,y.2.2.2⟩) Tryz.underlying79 (by kernel_rfl) rfl (fun _ _ _ h=>h) (fun _ h=>h) (RdF.cons rfl (by kernel_rfl) rd3 (RdF.cons rfl (by kernel_rfl) rd3 (RdF.cons rfl (by kernel_rfl) rd3 (RdF.one rfl (by kernel_rfl) rd3)))) (fun _=>rfl)
theorem G8:Rd Tryz.prog 130 (List aw):=cP Tryz.underlying130 (by kernel_rfl) (by decide) (by kernel_rfl) I1
theorem KO:Rd Tryz.prog 67 (List Int):=cP Tryz.underlying67 (by kernel_rfl) (by decide) (by kernel_rfl) rd3
instance:Rg Lot:=Rg.ofMap fun x=>(x.Id,x.Owner,x.Area,x.From)
theorem I6:Rd Tryz.prog 275 Lot:=bR (f:=fun x=>(x.Id,x.Owner,x.Area,x.From)) (fun y=>⟨y.1,y.2.1,y.2.2.1,y.2.2.2⟩) Tryz.underlying275 (by kernel_rfl) rfl (fun _ _ _ h=>h) (fun _ h=>h) (RdF.cons rfl (by kernel_rfl) rd3 (RdF.cons rfl (by kernel_rfl) rd3 (RdF.cons rfl (by kernel_rfl) G8 (RdF.one rfl (by kernel_rfl) KO)))) (fun _=>rfl)
theorem Li:Rd Tryz.prog 31 (List Lot):=cP Tryz.underlying31 (by kernel_rfl) (by decide) (by kernel_rfl) I6
instance:Rg kc:=Rg.ofMap fun x=>(x.Lot,x.Area,x.Top)
theorem Jn:Rd Tryz.prog 277 kc:=bR (f:=fun x=>(x.Lot,x.Area,x.Top)) (fun y=>⟨y.1,y.2.1,y.2.2⟩) Tryz.underlying277 (by kernel_rfl) rfl (fun _ _ _ h=>h) (fun _ h=>h) (RdF.cons rfl (by kernel_rfl) rd3 (RdF.cons rfl (by kernel_rfl) G8 (RdF.one rfl (by kernel_rfl) rd3))) (fun _=>rfl)
theorem LH:Rd Tryz.prog 32 (List kc):=cP Tryz.underlying32 (by kernel_rfl) (by decide) (by kernel_rfl) Jn
instance:Rg fm:=Rg.ofMap fun x=>(x.Lot,x.At)
theorem LD:Rd Tryz.prog 90 fm:=bR (f:=fun x=>(x.Lot,x.At)) (fun y=>⟨y.1,y.2⟩) Tryz.underlying90 (by kernel_rfl) rfl (fun _ _ _ h=>h) (fun _ h=>h) (RdF.cons rfl (by kernel_rfl) rd3 (RdF.one rfl (by kernel_rfl) Iu)) (fun _=>rfl)
theorem Km:Rd Tryz.prog 33 (List fm):=cP Tryz.underlying33 (by kernel_rfl) (by decide) (by kernel_rfl) LD
instance:Rg Box:=Rg.ofMap fun x=>(x.Base,x.Z0,x.Z1)
theorem KD:Rd Tryz.prog 81 Box:=bR (f:=fun x=>(x.Base,x.Z0,x.Z1)) (fun y=>⟨y.1,y.2.1,y.2.2⟩) Tryz.underlying81 (by kernel_rfl) rfl (fun _ _ _ h=>h) (fun _ h=>h) (RdF.cons rfl (by kernel_rfl) I1 (RdF.cons rfl (by kernel_rfl) rd3 (RdF.one rfl (by kernel_rfl) rd3))) (fun _=>rfl)
instance:Rg af:=Rg.ofMap fun x=>(x.Box,x.Use,x.Units,x.Extra)
theorem JY:Rd Tryz.prog 83 af:=bR (f:=fun x=>(x.Box,x.Use,x.Units,x.Extra)) (fun y=>⟨y.1,y.2.1,y.2.2.1,y.2.2.2⟩) Tryz.underlying83 (by kernel_rfl) rfl (fun _ _ _ h=>h) (fun _ h=>h) (RdF.cons rfl (by kernel_rfl) KD (RdF.cons rfl (by kernel_rfl) rd3 (RdF.cons rfl (by kernel_rfl) rd3 (RdF.one rfl (by kernel_rfl) rd4)))) (fun _=>rfl)
instance:Rg bf:=Rg.ofMap fun x=>(x.Lot,x.af)
theorem KQ:Rd Tryz.prog 97 bf:=bR (f:=fun x=>(x.Lot,x.af)) (fun y=>⟨y.1,y.2⟩) Tryz.underlying97 (by kernel_rfl) rfl (fun _ _ _ h=>h) (fun _ h=>h) (RdF.cons rfl (by kernel_rfl) rd3 (RdF.one rfl (by kernel_rfl) JY)) (fun _=>rfl)
theorem Kk:Rd Tryz.prog 34 (List bf):=cP Tryz.underlying34 (by kernel_rfl) (by decide) (by kernel_rfl) KQ
instance:Rg aq:=Rg.ofMap fun x=>(x.an,x.Land,x.Easements,x.Windows,x.Built,x.Base)
theorem Ke:Rd Tryz.prog 37 aq:=bR (f:=fun x=>(x.an,x.Land,x.Easements,x.Windows,x.Built,x.Base)) (fun y=>⟨y.1,y.2.1,y.2.2.1,y.2.2.2.1,y.2.2.2.2.1,y.2.2.2.2.2⟩) Tryz.underlying37 (by kernel_rfl) rfl (fun _ _ _ h=>h) (fun _ h=>h) (RdF.cons rfl (by kernel_rfl) KY (RdF.cons rfl (by kernel_rfl) Li (RdF.cons rfl (by kernel_rfl) LH (RdF.cons rfl (by kernel_rfl) Km (RdF.cons rfl (by kernel_rfl) Kk (RdF.one rfl (by kernel_rfl) Iy)))))) (fun _=>rfl)
theorem KT:Rd Tryz.prog 44 (List af):=cP Tryz.underlying44 (by kernel_rfl) (by decide) (by kernel_rfl) JY
instance:Rg Phase:=Rg.ofMap fun x=>(x.Volumes,x.bd)
theorem J6:Rd Tryz.prog 46 Phase:=bR (f:=fun x=>(x.Volumes,x.bd)) (fun y=>⟨y.1,y.2⟩) Tryz.underlying46 (by kernel_rfl) rfl (fun _ _ _ h=>h) (fun _ h=>h) (RdF.cons rfl (by kernel_rfl) KT (RdF.one rfl (by kernel_rfl) Iy)) (fun _=>rfl)
theorem KK:Rd Tryz.prog 39 (List Phase):=cP Tryz.underlying39 (by kernel_rfl) (by decide) (by kernel_rfl) J6
instance:Rg aE:=Rg.ofMap fun x=>(x.Lot,x.Phases)
theorem Ko:Rd Tryz.prog 41 aE:=bR (f:=fun x=>(x.Lot,x.Phases)) (fun y=>⟨y.1,y.2⟩) Tryz.underlying41 (by kernel_rfl) rfl (fun _ _ _ h=>h) (fun _ h=>h) (RdF.cons rfl (by kernel_rfl) rd3 (RdF.one rfl (by kernel_rfl) KK)) (fun _=>rfl)
instance:Rg ax:=Rg.ofMap fun x=>(x.Id,x.Holder,x.aE,x.Used,x.Until,x.Over)
theorem JO:Rd Tryz.prog 43 ax:=bR (f:=fun x=>(x.Id,x.Holder,x.aE,x.Used,x.Until,x.Over)) (fun y=>⟨y.1,y.2.1,y.2.2.1,y.2.2.2.1,y.2.2.2.2.1,y.2.2.2.2.2⟩) Tryz.underlying43 (by kernel_rfl) rfl (fun _ _ _ h=>h) (fun _ h=>h) (RdF.cons rfl (by kernel_rfl) rd3 (RdF.cons rfl (by kernel_rfl) rd3 (RdF.cons rfl (by kernel_rfl) Ko (RdF.cons rfl (by kernel_rfl) rd3 (RdF.cons rfl (by kernel_rfl) rd3 (RdF.one rfl (by kernel_rfl) rd4)))))) (fun _=>rfl)
theorem J8:Rd Tryz.prog 38 (List ax):=cP Tryz.underlying38 (by kernel_rfl) (by decide) (by kernel_rfl) JO
set_option maxHeartbeats 4000000 in
noncomputable def tb:Tb where
  P:=Tryz.prog
  S:=fun n=>match n with
    | 0=>bj
    | 1=>aT
    | 2=>aw
    | 3=>Phase
    | 4=>af
    | 5=>Box
    | 6=>Entry
    | 7=>aq
    | 8=>an
    | 9=>Def
    | 10=>Expr
    | 11=>Table
    | 12=>xZ
    | 13=>yC
    | 14=>nY
    | 15=>Cap
    | 16=>View
    | 17=>aJ
    | 18=>Lot
    | 19=>kc
    | 20=>fm
    | 21=>bf
    | 22=>bk
    | 23=>ar
    | 24=>aO
    | 25=>aW
    | 26=>bz
    | 27=>aK
    | 28=>fS
    | 29=>br
    | 30=>ax
    | 31=>aE
    | 32=>(ByteArray × ByteArray × ByteArray × ByteArray × ByteArray × ByteArray)
    | 33=>ct
    | _ + 34=>Unit
  fs:=fun n=>match n with
    | 0=>[.st 1,.st 1]
    | 1=>[.int,.int]
    | 2=>[.int,.int,.int,.int]
    | 3=>[.list (.st 4),.list (.st 6)]
    | 4=>[.st 5,.int,.int,.bool]
    | 5=>[.st 2,.int,.int]
    | 6=>[.str,.int]
    | 7=>[.st 8,.list (.st 18),.list (.st 19),.list (.st 20),.list (.st 21),.list (.st 6)]
    | 8=>[.list (.st 9),.list (.st 11),.list (.st 12),.list (.st 13),.list (.st 15),.list (.st 16),.list (.st 17),.int]
    | 9=>[.str,.st 10]
    | 10=>[.int,.int,.str,.str,.op]
    | 11=>[.str,.list (.st 6),.int]
    | 12=>[.str,.bool,.list (.st 1)]
    | 13=>[.str,.list .str,.list .str,.int,.int,.int,.bool,.int,.st 10,.st 14,.int,.int,.int]
    | 14=>[.int,.int,.int,.int]
    | 15=>[.str,.int,.int,.list (.st 1)]
    | 16=>[.str,.st 17,.int,.list (.st 17)]
    | 17=>[.int,.int,.int]
    | 18=>[.int,.int,.list (.st 2),.list .int]
    | 19=>[.int,.list (.st 2),.int]
    | 20=>[.int,.st 17]
    | 21=>[.int,.st 4]
    | 22=>[.int,.int,.list (.st 2)]
    | 23=>[.int,.int]
    | 24=>[.int,.int,.list (.st 23)]
    | 25=>[.st 26,.st 26,.bool,.bool]
    | 26=>[.int,.int,.bool]
    | 27=>[.int,.str,.int]
    | 28=>[.st 29,.st 29,.bool]
    | 29=>[.int,.int,.bool]
    | 30=>[.int,.int,.st 31,.int,.int,.bool]
    | 31=>[.int,.list (.st 3)]
    | 32=>[.str,.str,.str,.str,.str,.str]
    | 33=>[.str,.int,.list .int]
    | _ + 34=>[]
  to:=fun n=>match n with
    | 0=>fun x=>(x.a,x.b)
    | 1=>fun x=>(x.X,x.Y)
    | 2=>fun x=>(x.X0,x.Y0,x.X1,x.Y1)
    | 3=>fun x=>(x.Volumes,x.bd)
    | 4=>fun x=>(x.Box,x.Use,x.Units,x.Extra)
    | 5=>fun x=>(x.Base,x.Z0,x.Z1)
    | 6=>fun x=>(x.Name,x.N)
    | 7=>fun x=>(x.an,x.Land,x.Easements,x.Windows,x.Built,x.Base)
    | 8=>fun x=>(x.Defs,x.Tables,x.Zones,x.Rules,x.Caps,x.Views,x.Sun,x.Hours)
    | 9=>fun x=>(x.Name,x.Body)
    | 10=>fun x=>(x.Op,x.N,x.S,x.Key,x.Args)
    | 11=>fun x=>(x.Name,x.Rows,x.Else)
    | 12=>fun x=>(x.Name,x.Overlay,x.Corners)
    | 13=>fun x=>(x.Name,x.Zones,x.Except,x.From,x.Until,x.Grace,x.Vary,x.Kind,x.Test,x.nY,x.Uses,x.Other,x.N)
    | 14=>fun x=>(x.Side,x.Base,x.Num,x.Den)
    | 15=>fun x=>(x.Name,x.Load,x.aK,x.Corners)
    | 16=>fun x=>(x.Name,x.Eye,x.Least,x.Targets)
    | 17=>fun x=>(x.X,x.Y,x.Z)
    | 18=>fun x=>(x.Id,x.Owner,x.Area,x.From)
    | 19=>fun x=>(x.Lot,x.Area,x.Top)
    | 20=>fun x=>(x.Lot,x.At)
    | 21=>fun x=>(x.Lot,x.af)
    | 22=>fun x=>(x.Z0,x.Z1,x.Area)
    | 23=>fun x=>(x.from_,x.to_)
    | 24=>fun x=>(x.x0,x.x1,x.column)
    | 25=>fun x=>(x.lo,x.hi,x.top,x.none_)
    | 26=>fun x=>(x.n,x.d,x.open_)
    | 27=>fun x=>(x.Kind,x.Name,x.N)
    | 28=>fun x=>(x.Lo,x.Hi,x.None)
    | 29=>fun x=>(x.N,x.D,x.Open)
    | 30=>fun x=>(x.Id,x.Holder,x.aE,x.Used,x.Until,x.Over)
    | 31=>fun x=>(x.Lot,x.Phases)
    | 32=>fun x=>x
    | 33=>fun x=>(x.Cap,x.Base,x.Tops)
    | _ + 34=>fun _=>()
  of:=fun n=>match n with
    | 0=>fun x=>⟨x.1,x.2⟩
    | 1=>fun x=>⟨x.1,x.2⟩
    | 2=>fun x=>⟨x.1,x.2.1,x.2.2.1,x.2.2.2⟩
    | 3=>fun x=>⟨x.1,x.2⟩
    | 4=>fun x=>⟨x.1,x.2.1,x.2.2.1,x.2.2.2⟩
    | 5=>fun x=>⟨x.1,x.2.1,x.2.2⟩
    | 6=>fun x=>⟨x.1,x.2⟩
    | 7=>fun x=>⟨x.1,x.2.1,x.2.2.1,x.2.2.2.1,x.2.2.2.2.1,x.2.2.2.2.2⟩
    | 8=>fun x=>⟨x.1,x.2.1,x.2.2.1,x.2.2.2.1,x.2.2.2.2.1,x.2.2.2.2.2.1,x.2.2.2.2.2.2.1,x.2.2.2.2.2.2.2⟩
    | 9=>fun x=>⟨x.1,x.2⟩
    | 10=>fun x=>⟨x.1,x.2.1,x.2.2.1,x.2.2.2.1,x.2.2.2.2⟩
    | 11=>fun x=>⟨x.1,x.2.1,x.2.2⟩
    | 12=>fun x=>⟨x.1,x.2.1,x.2.2⟩
    | 13=>fun x=>⟨x.1,x.2.1,x.2.2.1,x.2.2.2.1,x.2.2.2.2.1,x.2.2.2.2.2.1,x.2.2.2.2.2.2.1,x.2.2.2.2.2.2.2.1,x.2.2.2.2.2.2.2.2.1,x.2.2.2.2.2.2.2.2.2.1,x.2.2.2.2.2.2.2.2.2.2.1,x.2.2.2.2.2.2.2.2.2.2.2.1,x.2.2.2.2.2.2.2.2.2.2.2.2⟩
    | 14=>fun x=>⟨x.1,x.2.1,x.2.2.1,x.2.2.2⟩
    | 15=>fun x=>⟨x.1,x.2.1,x.2.2.1,x.2.2.2⟩
    | 16=>fun x=>⟨x.1,x.2.1,x.2.2.1,x.2.2.2⟩
    | 17=>fun x=>⟨x.1,x.2.1,x.2.2⟩
    | 18=>fun x=>⟨x.1,x.2.1,x.2.2.1,x.2.2.2⟩
    | 19=>fun x=>⟨x.1,x.2.1,x.2.2⟩
    | 20=>fun x=>⟨x.1,x.2⟩
    | 21=>fun x=>⟨x.1,x.2⟩
    | 22=>fun x=>⟨x.1,x.2.1,x.2.2⟩
    | 23=>fun x=>⟨x.1,x.2⟩
    | 24=>fun x=>⟨x.1,x.2.1,x.2.2⟩
    | 25=>fun x=>⟨x.1,x.2.1,x.2.2.1,x.2.2.2⟩
    | 26=>fun x=>⟨x.1,x.2.1,x.2.2⟩
    | 27=>fun x=>⟨x.1,x.2.1,x.2.2⟩
    | 28=>fun x=>⟨x.1,x.2.1,x.2.2⟩
    | 29=>fun x=>⟨x.1,x.2.1,x.2.2⟩
    | 30=>fun x=>⟨x.1,x.2.1,x.2.2.1,x.2.2.2.1,x.2.2.2.2.1,x.2.2.2.2.2⟩
    | 31=>fun x=>⟨x.1,x.2⟩
    | 32=>fun x=>x
    | 33=>fun x=>⟨x.1,x.2.1,x.2.2⟩
    | _ + 34=>fun _=>()
  zero:=fun n=>match n with
    | 0=>(default:bj)
    | 1=>(default:aT)
    | 2=>(default:aw)
    | 3=>(default:Phase)
    | 4=>(default:af)
    | 5=>(default:Box)
    | 6=>(default:Entry)
    | 7=>(default:aq)
    | 8=>(default:an)
    | 9=>(default:Def)
    | 10=>(default:Expr)
    | 11=>(default:Table)
    | 12=>(default:xZ)
    | 13=>(default:yC)
    | 14=>(default:nY)
    | 15=>(default:Cap)
    | 16=>(default:View)
    | 17=>(default:aJ)
    | 18=>(default:Lot)
    | 19=>(default:kc)
    | 20=>(default:fm)
    | 21=>(default:bf)
    | 22=>(default:bk)
    | 23=>(default:ar)
    | 24=>(default:aO)
    | 25=>(default:aW)
    | 26=>(default:bz)
    | 27=>(default:aK)
    | 28=>(default:fS)
    | 29=>(default:br)
    | 30=>(default:ax)
    | 31=>(default:aE)
    | 32=>(default:(ByteArray × ByteArray × ByteArray × ByteArray × ByteArray × ByteArray))
    | 33=>(default:ct)
    | _ + 34=>()
  deq:=fun n=>match n with
    | 0=>(inferInstance:DecidableEq bj)
    | 1=>(inferInstance:DecidableEq aT)
    | 2=>(inferInstance:DecidableEq aw)
    | 3=>(inferInstance:DecidableEq Phase)
    | 4=>(inferInstance:DecidableEq af)
    | 5=>(inferInstance:DecidableEq Box)
    | 6=>(inferInstance:DecidableEq Entry)
    | 7=>(inferInstance:DecidableEq aq)
    | 8=>(inferInstance:DecidableEq an)
    | 9=>(inferInstance:DecidableEq Def)
    | 10=>(inferInstance:DecidableEq Expr)
    | 11=>(inferInstance:DecidableEq Table)
    | 12=>(inferInstance:DecidableEq xZ)
    | 13=>(inferInstance:DecidableEq yC)
    | 14=>(inferInstance:DecidableEq nY)
    | 15=>(inferInstance:DecidableEq Cap)
    | 16=>(inferInstance:DecidableEq View)
    | 17=>(inferInstance:DecidableEq aJ)
    | 18=>(inferInstance:DecidableEq Lot)
    | 19=>(inferInstance:DecidableEq kc)
    | 20=>(inferInstance:DecidableEq fm)
    | 21=>(inferInstance:DecidableEq bf)
    | 22=>(inferInstance:DecidableEq bk)
    | 23=>(inferInstance:DecidableEq ar)
    | 24=>(inferInstance:DecidableEq aO)
    | 25=>(inferInstance:DecidableEq aW)
    | 26=>(inferInstance:DecidableEq bz)
    | 27=>(inferInstance:DecidableEq aK)
    | 28=>(inferInstance:DecidableEq fS)
    | 29=>(inferInstance:DecidableEq br)
    | 30=>(inferInstance:DecidableEq ax)
    | 31=>(inferInstance:DecidableEq aE)
    | 32=>(inferInstance:DecidableEq (ByteArray × ByteArray × ByteArray × ByteArray × ByteArray × ByteArray))
    | 33=>(inferInstance:DecidableEq ct)
    | _ + 34=>(inferInstance:DecidableEq Unit)
  enc:=fun n=>match n with
    | 0=>(inferInstance:Enc bj)
    | 1=>(inferInstance:Enc aT)
    | 2=>(inferInstance:Enc aw)
    | 3=>(inferInstance:Enc Phase)
    | 4=>(inferInstance:Enc af)
    | 5=>(inferInstance:Enc Box)
    | 6=>(inferInstance:Enc Entry)
    | 7=>(inferInstance:Enc aq)
    | 8=>(inferInstance:Enc an)
    | 9=>(inferInstance:Enc Def)
    | 10=>(inferInstance:Enc Expr)
    | 11=>(inferInstance:Enc Table)
    | 12=>(inferInstance:Enc xZ)
    | 13=>(inferInstance:Enc yC)
    | 14=>(inferInstance:Enc nY)
    | 15=>(inferInstance:Enc Cap)
    | 16=>(inferInstance:Enc View)
    | 17=>(inferInstance:Enc aJ)
    | 18=>(inferInstance:Enc Lot)
    | 19=>(inferInstance:Enc kc)
    | 20=>(inferInstance:Enc fm)
    | 21=>(inferInstance:Enc bf)
    | 22=>(inferInstance:Enc bk)
    | 23=>(inferInstance:Enc ar)
    | 24=>(inferInstance:Enc aO)
    | 25=>(inferInstance:Enc aW)
    | 26=>(inferInstance:Enc bz)
    | 27=>(inferInstance:Enc aK)
    | 28=>(inferInstance:Enc fS)
    | 29=>(inferInstance:Enc br)
    | 30=>(inferInstance:Enc ax)
    | 31=>(inferInstance:Enc aE)
    | 32=>(inferInstance:Enc (ByteArray × ByteArray × ByteArray × ByteArray × ByteArray × ByteArray))
    | 33=>(inferInstance:Enc ct)
    | _ + 34=>Enc.ofMap (σ:=Unit) (β:=Unit) fun x=>x
  to_of:=fun n=>match n with
    | 0=>fun _=>rfl
    | 1=>fun _=>rfl
    | 2=>fun _=>rfl
    | 3=>fun _=>rfl
    | 4=>fun _=>rfl
    | 5=>fun _=>rfl
    | 6=>fun _=>rfl
    | 7=>fun _=>rfl
    | 8=>fun _=>rfl
    | 9=>fun _=>rfl
    | 10=>fun _=>rfl
    | 11=>fun _=>rfl
    | 12=>fun _=>rfl
    | 13=>fun _=>rfl
    | 14=>fun _=>rfl
    | 15=>fun _=>rfl
    | 16=>fun _=>rfl
    | 17=>fun _=>rfl
    | 18=>fun _=>rfl
    | 19=>fun _=>rfl
    | 20=>fun _=>rfl
    | 21=>fun _=>rfl
    | 22=>fun _=>rfl
    | 23=>fun _=>rfl
    | 24=>fun _=>rfl
    | 25=>fun _=>rfl
    | 26=>fun _=>rfl
    | 27=>fun _=>rfl
    | 28=>fun _=>rfl
    | 29=>fun _=>rfl
    | 30=>fun _=>rfl
    | 31=>fun _=>rfl
    | 32=>fun _=>rfl
    | 33=>fun _=>rfl
    | _ + 34=>fun _=>rfl
  zero_eq:=fun n=>match n with
    | 0=>rfl
    | 1=>rfl
    | 2=>rfl
    | 3=>rfl
    | 4=>rfl
    | 5=>rfl
    | 6=>rfl
    | 7=>rfl
    | 8=>rfl
    | 9=>rfl
    | 10=>rfl
    | 11=>rfl
    | 12=>rfl
    | 13=>rfl
    | 14=>rfl
    | 15=>rfl
    | 16=>rfl
    | 17=>rfl
    | 18=>rfl
    | 19=>rfl
    | 20=>rfl
    | 21=>rfl
    | 22=>rfl
    | 23=>rfl
    | 24=>rfl
    | 25=>rfl
    | 26=>rfl
    | 27=>rfl
    | 28=>rfl
    | 29=>rfl
    | 30=>rfl
    | 31=>rfl
    | 32=>rfl
    | 33=>rfl
    | _ + 34=>rfl
  enc_eq:=fun n=>match n with
    | 0=>rfl
    | 1=>rfl
    | 2=>rfl
    | 3=>rfl
    | 4=>rfl
    | 5=>rfl
    | 6=>rfl
    | 7=>rfl
    | 8=>rfl
    | 9=>rfl
    | 10=>rfl
    | 11=>rfl
    | 12=>rfl
    | 13=>rfl
    | 14=>rfl
    | 15=>rfl
    | 16=>rfl
    | 17=>rfl
    | 18=>rfl
    | 19=>rfl
    | 20=>rfl
    | 21=>rfl
    | 22=>rfl
    | 23=>rfl
    | 24=>rfl
    | 25=>rfl
    | 26=>rfl
    | 27=>rfl
    | 28=>rfl
    | 29=>rfl
    | 30=>rfl
    | 31=>rfl
    | 32=>rfl
    | 33=>rfl
    | _ + 34=>rfl
def tid:TypeId → Option Tp:=JR [(3,.int),(9,.str),(30,.st 8),(37,.st 7),(41,.st 31),(43,.st 30),(46,.st 3),(55,.st 27),(71,.st 15),(75,.st 33),(79,.st 2),(81,.st 5),(83,.st 4),(88,.st 17),(90,.st 20),(93,.st 16),(95,.st 11),(97,.st 21),(99,.st 6),(112,.st 1),(117,.list (.st 22)),(130,.list (.st 2)),(145,.st 26),(147,.st 25),(155,.st 0),(161,.st 22),(180,.st 32),(190,.st 29),(192,.st 28),(230,.st 23),(232,.st 24)]
def eqs:List (TypeId × Nat):=[(230,23),(79,2),(88,17),(55,27),(97,21),(99,6)]
theorem Eh:tt Tryz.prog tb eqs:=⟨Jl,KM,K0,KL,LC,Lt,trivial⟩
noncomputable def mk (f:FuncId) (dom cod:List Tp) (run:HL tb.S dom → Option (HL tb.S cod)) (ks:List (Fk tb Tryz.prog)) (own:List Nat) (fn:Func) (h:Hn tb) (hf:Tryz.prog.funcs[f]? = some fn)
  (hc : ∀ args w,(callFunc f args).run Tryz.prog w = .ok (.enter f args) w) (hb:fn.body = some (body fn)) (hl:Nat.ble dom.length fn.ntmps = true)
  (he : ∀ x,evF ⟨Tryz.prog,tid,eqs,lg ks,[],false,own,fn.results.toList,fn.ntmps,yk,fun c=>c ∈ mg (body fn)⟩ (body fn) h dom cod x = run x):Fk tb Tryz.prog:=⟨f,⟨dom,cod,run⟩,Lg ks own fn h Eh oH rfl hf hc hb hl he⟩
noncomputable def mkc (f:FuncId) (dom cod:List Tp) (run:HL tb.S dom → Option (HL tb.S cod)) (ks:List (Fk tb Tryz.prog)) (rks:List (FkR tb Tryz.prog)) (own:List Nat) (fn:Func) (h:Hn tb) (hf:Tryz.prog.funcs[f]? = some fn)
  (hc : ∀ args w,(callFunc f args).run Tryz.prog w = .ok (.enter f args) w) (hb:fn.body = some (body fn)) (hl:Nat.ble dom.length fn.ntmps = true)
  (he : ∀ x,evF ⟨Tryz.prog,tid,eqs,lg ks,km rks,false,own,fn.results.toList,fn.ntmps,yk,fun c=>c ∈ mg (body fn)⟩ (body fn) h dom cod x = run x):Fk tb Tryz.prog:=⟨f,⟨dom,cod,run⟩,Hc ks rks false own fn yk (yO rfl) h Eh oH rfl hf hc hb hl he⟩
noncomputable def mkR (f:FuncId) (d:FnR tb) (pr:d.tu.D tb × d.ro.D tb × HL tb.S d.cod → d.ρ) (hpr : ∀ r,d.inj (pr r) = r) (ks:List (Fk tb Tryz.prog)) (rks:List (FkR tb Tryz.prog)) (wr:Bool) (own:List Nat) (fn:Func) (h:Hn tb) (sl:Nat) (hf:Tryz.prog.funcs[f]? = some fn)
  (hc : ∀ args w,(callFunc f args).run Tryz.prog w = .ok (.enter f args) w) (hb:fn.body = some (body fn)) (hl:Nat.ble d.pm.length fn.ntmps = true) (hs:Hx d sl (body fn) = true)
  (he : ∀ x y z,IH ⟨Tryz.prog,tid,eqs,lg ks,km rks,wr,own,fn.results.toList,fn.ntmps,yk,fun c=>c ∈ mg (body fn)⟩ (body fn) h d pr hpr sl x y z = d.run x y z):FkR tb Tryz.prog:=⟨f,d,Js pr hpr ks rks wr own fn yk (yO rfl) h sl Eh oH rfl hf hc hb hl hs he⟩
noncomputable def mkO (f:FuncId) (dom cod:List Tp) (run:HL tb.S dom → Option (HL tb.S cod)) (hc : ∀ args w,(callFunc f args).run Tryz.prog w = .ok (.enter f args) w)
  (ok : ∀ (k0:K) (vs:List Value) (x:HL tb.S dom) (r:HL tb.S cod),GOk tb k0 → HIs dom x vs k0 → run x = some r → Calls Tryz.prog f vs.toArray k0.w (Ret k0 fun u k=>(qM cod r).is ⟨#[],[]⟩ u k)):Fk tb Tryz.prog:=⟨f,⟨dom,cod,run⟩,hc,ok⟩
end Go.Proofs.YtegglcdhfnjhcaaGreat
