/- part 4 of the proof -/
import Derived.Test.YtlckpjpbladknaaGreatL3
set_option linter.unusedVariables false
set_option linter.unusedSimpArgs false
set_option linter.unusedSectionVars false
noncomputable section
namespace Go.Proofs.YtlckpjpbladknaaGreat
open Go.Gb
set_option maxRecDepth 100000
structure Expr where
 Op:Int
 N:Int
 S:ByteArray
 Key:ByteArray
 Args:Opq deriving DecidableEq,Inhabited
instance:Enc Expr:=Enc.ofMap λx=>(x.Op,x.N,x.S,x.Key,x.Args)
structure Def where
 Name:ByteArray
 Body:Expr deriving DecidableEq,Inhabited
instance:Enc Def:=Enc.ofMap λx=>(x.Name,x.Body)
structure Table where
 Name:ByteArray
 Rows:(List Entry)Else:Int deriving DecidableEq,Inhabited
instance:Enc Table:=Enc.ofMap λx=>(x.Name,x.Rows,x.Else)
structure fe where
 X:Int
 Y:Int deriving DecidableEq,Inhabited
instance:Enc fe:=Enc.ofMap λx=>(x.X,x.Y)
structure E0 where
 Name:ByteArray
 Overlay:Bool
 Corners:(List fe)deriving DecidableEq,Inhabited
instance:Enc E0:=Enc.ofMap λx=>(x.Name,x.Overlay,x.Corners)
structure rb where
 Side:Int
 Base:Int
 Num:Int
 Den:Int deriving DecidableEq,Inhabited
instance:Enc rb:=Enc.ofMap λx=>(x.Side,x.Base,x.Num,x.Den)
structure EY where
 Name:ByteArray
 Zones:(List ByteArray)Except:(List ByteArray)From:Int
 Until:Int
 Grace:Int
 Vary:Bool
 Kind:Int
 Test:Expr
 rb:rb
 Uses:Int
 Other:Int
 N:Int deriving DecidableEq,Inhabited
instance:Enc EY:=Enc.ofMap λx=>(x.Name,x.Zones,x.Except,x.From,x.Until,x.Grace,x.Vary,x.Kind,x.Test,x.rb,x.Uses,x.Other,x.N)
structure Cap where
 Name:ByteArray
 Load:Int
 cU:Int
 Corners:(List fe)deriving DecidableEq,Inhabited
instance:Enc Cap:=Enc.ofMap λx=>(x.Name,x.Load,x.cU,x.Corners)
structure bq where
 X:Int
 Y:Int
 Z:Int deriving DecidableEq,Inhabited
instance:Enc bq:=Enc.ofMap λx=>(x.X,x.Y,x.Z)
structure View where
 Name:ByteArray
 Eye:bq
 Least:Int
 Targets:(List bq)deriving DecidableEq,Inhabited
instance:Enc View:=Enc.ofMap λx=>(x.Name,x.Eye,x.Least,x.Targets)
structure az where Defs:(List Def)Tables:(List Table)Zones:(List E0)Rules:(List EY)Caps:(List Cap)Views:(List View)Sun:(List bq)Hours:Int deriving DecidableEq,Inhabited
instance:Enc az:=Enc.ofMap λx=>(x.Defs,x.Tables,x.Zones,x.Rules,x.Caps,x.Views,x.Sun,x.Hours)
structure Lot where
 Id:Int
 Owner:Int
 Area:(List ay)From:(List Int)deriving DecidableEq,Inhabited
instance:Enc Lot:=Enc.ofMap λx=>(x.Id,x.Owner,x.Area,x.From)
structure lO where
 Lot:Int
 Area:(List ay)Top:Int deriving DecidableEq,Inhabited
instance:Enc lO:=Enc.ofMap λx=>(x.Lot,x.Area,x.Top)
structure mC where
 Lot:Int
 At:bq deriving DecidableEq,Inhabited
instance:Enc mC:=Enc.ofMap λx=>(x.Lot,x.At)
structure cD where
 Lot:Int
 aF:aF deriving DecidableEq,Inhabited
instance:Enc cD:=Enc.ofMap λx=>(x.Lot,x.aF)
structure aP where
 az:az
 Land:(List Lot)Easements:(List lO)Windows:(List mC)Built:(List cD)Base:(List Entry)deriving DecidableEq,Inhabited
instance:Enc aP:=Enc.ofMap λx=>(x.az,x.Land,x.Easements,x.Windows,x.Built,x.Base)
structure bX where
 a:fe
 b:fe deriving DecidableEq,Inhabited
instance:Enc bX:=Enc.ofMap λx=>(x.a,x.b)
structure jP where
 Cap:ByteArray
 Base:Int
 Tops:(List Int)deriving DecidableEq,Inhabited
instance:Enc jP:=Enc.ofMap λx=>(x.Cap,x.Base,x.Tops)
structure ct where
 Z0:Int
 Z1:Int
 Area:(List ay)deriving DecidableEq,Inhabited
instance:Enc ct:=Enc.ofMap λx=>(x.Z0,x.Z1,x.Area)
structure ag where
 from_:Int
 to_:Int deriving DecidableEq,Inhabited
instance:Enc ag:=Enc.ofMap λx=>(x.from_,x.to_)
structure aB where
 x0:Int
 x1:Int
 column:(List ag)deriving DecidableEq,Inhabited
instance:Enc aB:=Enc.ofMap λx=>(x.x0,x.x1,x.column)
structure cg where
 n:Int
 d:Int
 open_:Bool deriving DecidableEq,Inhabited
instance:Enc cg:=Enc.ofMap λx=>(x.n,x.d,x.open_)
structure bn where
 lo:cg
 hi:cg
 top:Bool
 none_:Bool deriving DecidableEq,Inhabited
instance:Enc bn:=Enc.ofMap λx=>(x.lo,x.hi,x.top,x.none_)
structure cU where
 Kind:Int
 Name:ByteArray
 N:Int deriving DecidableEq,Inhabited
instance:Enc cU:=Enc.ofMap λx=>(x.Kind,x.Name,x.N)
structure fM where
 Kind:Int
 Who:Int
 To:Int
 Cap:Int
 N:Int
 ai:ai
 Filings:(List aq)deriving DecidableEq,Inhabited
instance:Enc fM:=Enc.ofMap λx=>(x.Kind,x.Who,x.To,x.Cap,x.N,x.ai,x.Filings)
theorem Qj:cT Tryz.prog 135 0 0:=⟨_,_,0,Tryz.underlying135,rfl,rfl,by kernel_rfl⟩
theorem Jb(y:Entry)(ad:Addr)(k:K)(h:At y ad k):At y.Name (ad.add 0) k:=have h0:At (y.Name,y.N) ad k:=h
 At.fst (At.zero h0)
theorem Sz:cT Tryz.prog 90 0 0:=⟨_,_,0,Tryz.underlying90,rfl,rfl,by kernel_rfl⟩
theorem Ou(y:Cap)(ad:Addr)(k:K)(h:At y ad k):At y.Name (ad.add 0) k:=have h0:At (y.Name,y.Load,y.cU,y.Corners) ad k:=h
 At.fst (At.zero h0)
theorem Pg:cT Tryz.prog 135 1 1:=⟨_,_,0,Tryz.underlying135,rfl,rfl,by kernel_rfl⟩
theorem Ib(y:Entry)(ad:Addr)(k:K)(h:At y ad k):At y.N (ad.add 1) k:=have h0:At (y.Name,y.N) ad k:=h
 At.sE (At.zero h0)
theorem eo3:dJ Tryz.prog 3 Int:=⟨_,_,rfl,rfl,rfl,rfl,by decide,by decide⟩
theorem zi:dJ Tryz.prog 126 ay:=⟨_,_,rfl,rfl,rfl,rfl,by decide,by decide⟩
theorem Xo:Ty Tryz.prog 35 (List Entry):=⟨⟨_,Tryz.underlying35,rfl⟩,by kernel_rfl⟩
theorem UP:Ty Tryz.prog 130 aF:=⟨⟨_,Tryz.underlying130,rfl⟩,by kernel_rfl⟩
theorem VI:Ty Tryz.prog 30 az:=⟨⟨_,Tryz.underlying30,rfl⟩,by kernel_rfl⟩
theorem Ez:cT Tryz.prog 37 5 12:=⟨_,_,0,Tryz.underlying37,rfl,rfl,by kernel_rfl⟩
theorem KI(y:aP)(ad:Addr)(k:K)(h:At y ad k):At y.Base (ad.add 12) k:=have h0:At (y.az,y.Land,y.Easements,y.Windows,y.Built,y.Base) ad k:=h
 At.sE (At.sE (At.sE (At.sE (At.sE (At.zero h0)))))
theorem TN:Ty Tryz.prog 90 Cap:=⟨⟨_,Tryz.underlying90,rfl⟩,by kernel_rfl⟩
theorem DS:cT Tryz.prog 37 4 11:=⟨_,_,0,Tryz.underlying37,rfl,rfl,by kernel_rfl⟩
theorem Lb(y:aP)(ad:Addr)(k:K)(h:At y ad k):At y.Built (ad.add 11) k:=have h0:At (y.az,y.Land,y.Easements,y.Windows,y.Built,y.Base) ad k:=h
 At.fst (At.sE (At.sE (At.sE (At.sE (At.zero h0)))))
theorem WC:Ty Tryz.prog 34 (List cD):=⟨⟨_,Tryz.underlying34,rfl⟩,by kernel_rfl⟩
theorem S4:cT Tryz.prog 37 0 0:=⟨_,_,7,Tryz.underlying37,rfl,rfl,by kernel_rfl⟩
theorem KJ(y:aP)(ad:Addr)(k:K)(h:At y ad k):At y.az (ad.add 0) k:=have h0:At (y.az,y.Land,y.Easements,y.Windows,y.Built,y.Base) ad k:=h
 At.fst (At.zero h0)
theorem UJ:dJ Tryz.prog 130 aF:=⟨_,_,rfl,rfl,rfl,rfl,by decide,by decide⟩
theorem OP:dJ Tryz.prog 135 Entry:=⟨_,_,rfl,rfl,rfl,rfl,by decide,by decide⟩
theorem IQ:Ty Tryz.prog 44 ai:=⟨⟨_,Tryz.underlying44,rfl⟩,by kernel_rfl⟩
theorem z92:Zero Tryz.prog 92 ((⟨(⟨#[]⟩:ByteArray),0,[]⟩:jP):jP):=⟨_,Tryz.zeroValue92,λ _=>⟨_,rfl,⟨rfl,rfl,⟨rfl,rfl,⟨_,rfl, .inl ⟨rfl,rfl⟩⟩⟩⟩⟩⟩
theorem N3:Ty Tryz.prog 37 aP:=⟨⟨_,Tryz.underlying37,rfl⟩,by kernel_rfl⟩
def gX:iq jP:=⟨0+2,Int,inferInstance,3,λx=>x.Tops,λx y=>{x with Tops:=y}⟩
theorem Jm{k:K}{v0 v1:Value}{x0:ByteArray}{x1:Int}(h0:IsV x0 v0 k)(h1:IsV x1 v1 k):∃v,(∀w,(Instr.build 92 #[(0,v0),(1,v1)]).run Tryz.prog w= .ok v w)/\I0 [gX.off] (⟨x0,x1,[]⟩:jP) v k:=by obtain⟨l0,e0,r0,n0⟩:=eK h0;obtain⟨u0_0,rfl⟩:=I7 n0;obtain⟨l1,e1,r1,n1⟩:=eK h1;obtain⟨u1_0,rfl⟩:=I7 n1;refine⟨.agg #[u0_0,u1_0, .slice none 0 0],λw=>?_,[u0_0,u1_0, .slice none 0 0],rfl,rfl,⟨rfl,r0,⟨rfl,r1,⟨_,rfl, .inl ⟨rfl,rfl⟩⟩⟩⟩,λ _ h=>by cases h with|head=>rfl|tail _ h=>exact nomatch h⟩;simp[Instr.build,Instr.fill,jF,e0,e1]
theorem UE:(Tryz.prog.info? 92).map (·.size)=some (Enc.sz jP):=by kernel_rfl
theorem Df:Upd (α:=jP) (β:=(List Int)) (0+2) (λx y=>{x with Tops:=y}):=λk cs cy x y hx hy=>(Upd.snd (Upd.snd Upd.self)) k cs cy (x.Cap,x.Base,x.Tops) y hx hy
theorem Qu:OK [gX]:=⟨Df,trivial⟩
theorem Ot:cT Tryz.prog 92 2 2:=⟨_,_,0,Tryz.underlying92,rfl,rfl,by kernel_rfl⟩
theorem Rm:(Tryz.prog.info? 38).map (·.size)=some (Enc.sz (List Int)):=by kernel_rfl
theorem PN(x:jP):vw x [gX]:=⟨Df,rfl,(λ _ h=>nomatch h),trivial⟩
theorem Mx:dJ Tryz.prog 132 cD:=⟨_,_,rfl,rfl,rfl,rfl,by decide,by decide⟩
def gZ:iq aP:=⟨0+11,cD,inferInstance,132,λx=>x.Built,λx y=>{x with Built:=y}⟩
def ia:iq aP:=⟨0+12,Entry,inferInstance,135,λx=>x.Base,λx y=>{x with Base:=y}⟩
theorem Dx:Upd (α:=aP) (β:=(List cD)) (0+11) (λx y=>{x with Built:=y}):=λk cs cy x y hx hy=>(Upd.snd (Upd.snd (Upd.snd (Upd.snd (Upd.fst Upd.self))))) k cs cy (x.az,x.Land,x.Easements,x.Windows,x.Built,x.Base) y hx hy
theorem CV:Upd (α:=aP) (β:=(List Entry)) (0+12) (λx y=>{x with Base:=y}):=λk cs cy x y hx hy=>(Upd.snd (Upd.snd (Upd.snd (Upd.snd (Upd.snd Upd.self))))) k cs cy (x.az,x.Land,x.Easements,x.Windows,x.Built,x.Base) y hx hy
theorem EO:OK [gZ,ia]:=⟨Dx,CV,trivial⟩
theorem Na:(Tryz.prog.info? 34).map (·.size)=some (Enc.sz (List cD)):=by kernel_rfl
theorem MY:(Tryz.prog.info? 35).map (·.size)=some (Enc.sz (List Entry)):=by kernel_rfl
theorem Ig{k:K}{v0 v1:Value}{x0:Int}{x1:aF}(h0:IsV x0 v0 k)(h1:IsV x1 v1 k):∃v,(∀w,(Instr.build 132 #[(0,v0),(1,v1)]).run Tryz.prog w= .ok v w)/\IsV (⟨x0,x1⟩:cD) v k:=by obtain⟨l0,e0,r0,n0⟩:=eK h0;obtain⟨u0_0,rfl⟩:=I7 n0;obtain⟨l1,e1,r1,n1⟩:=eK h1;obtain⟨u1_0,u1_1,u1_2,u1_3,u1_4,u1_5,u1_6,u1_7,u1_8,rfl⟩:=SB n1;refine⟨.agg #[u0_0,u1_0,u1_1,u1_2,u1_3,u1_4,u1_5,u1_6,u1_7,u1_8],λw=>?_,[u0_0,u1_0,u1_1,u1_2,u1_3,u1_4,u1_5,u1_6,u1_7,u1_8],rfl,⟨rfl,r0,r1⟩⟩;simp[Instr.build,Instr.fill,jF,e0,e1]
theorem Jj{k:K}{v0 v1:Value}{x0:ByteArray}{x1:Int}(h0:IsV x0 v0 k)(h1:IsV x1 v1 k):∃v,(∀w,(Instr.build 135 #[(0,v0),(1,v1)]).run Tryz.prog w= .ok v w)/\IsV (⟨x0,x1⟩:Entry) v k:=by obtain⟨l0,e0,r0,n0⟩:=eK h0;obtain⟨u0_0,rfl⟩:=I7 n0;obtain⟨l1,e1,r1,n1⟩:=eK h1;obtain⟨u1_0,rfl⟩:=I7 n1;refine⟨.agg #[u0_0,u1_0],λw=>?_,[u0_0,u1_0],rfl,⟨rfl,r0,r1⟩⟩;simp[Instr.build,Instr.fill,jF,e0,e1]
theorem Ex(x:aP):vw x [gZ,ia]:=⟨Dx,rfl,(λ _ h=>by cases h with|head=>decide|tail _ h=>exact nomatch h),⟨CV,rfl,(λ _ h=>nomatch h),trivial⟩⟩
theorem VX:Ty Tryz.prog 69 (List ay):=⟨⟨_,Tryz.underlying69,rfl⟩,by kernel_rfl⟩
theorem RU:dJ Tryz.prog 308 ag:=⟨_,_,rfl,rfl,rfl,rfl,by decide,by decide⟩
theorem RO:zQ Tryz.prog 308 ag:=by
 refine⟨by kernel_rfl,λk x y u v hx hy=>?_⟩;obtain⟨csx,ex,rx⟩:=hx;have fx:csx=[.int .i64 x.from_, .int .i64 x.to_]:=by have hl:=Enc.len rx;obtain⟨u0,u1,rfl⟩:=Pv hl;obtain⟨_,qx0,qx1⟩:=rx;have qx0:u0= .int .i64 x.from_:=hd1 (show[u0]=[.int .i64 x.from_]from qx0);have qx1:u1= .int .i64 x.to_:=hd1 (show[u1]=[.int .i64 x.to_]from qx1);rw[qx0,qx1]
 obtain⟨csy,ey,ry⟩:=hy;have fy:csy=[.int .i64 y.from_, .int .i64 y.to_]:=by have hl:=Enc.len ry;obtain⟨u0,u1,rfl⟩:=Pv hl;obtain⟨_,qy0,qy1⟩:=ry;have qy0:u0= .int .i64 y.from_:=hd1 (show[u0]=[.int .i64 y.from_]from qy0);have qy1:u1= .int .i64 y.to_:=hd1 (show[u1]=[.int .i64 y.to_]from qy1);rw[qy0,qy1]
 subst fx;subst fy;subst ex;subst ey;refine⟨⟨_,rfl⟩,⟨_,rfl⟩,λw=>?_⟩;show(Op.equalIn (9998+1+1) 308 (.agg #[.int .i64 x.from_, .int .i64 x.to_]) (.agg #[.int .i64 y.from_, .int .i64 y.to_])).run Tryz.prog w=_;rw[run_equalIn_struct w _ 308 _ _ (by kernel_rfl) Tryz.stoodInHeld308];generalize 9998=d;simp[Program.fieldsOf,Op.eqFields,part,uT,<-beq_toListBytes,er Tryz.underlying3,run_equalIn_int w d 3 .i64 .i64 _ _ Tryz.underlying3];obtain⟨a0,a1⟩:=x;obtain⟨b0,b1⟩:=y;simp only[ag.mk.injEq];by_cases h0:a0=b0;rotate_left;.simp[h0]
 subst h0;by_cases h1:a1=b1;rotate_left;.simp[h1]
 subst h1;simp
theorem UC:Ty Tryz.prog 287 (List ag):=⟨⟨_,Tryz.underlying287,rfl⟩,by kernel_rfl⟩
theorem RM:zQ Tryz.prog 126 ay:=by
 refine⟨by kernel_rfl,λk x y u v hx hy=>?_⟩;obtain⟨csx,ex,rx⟩:=hx;have fx:csx=[.int .i64 x.X0, .int .i64 x.Y0, .int .i64 x.X1, .int .i64 x.Y1]:=by have hl:=Enc.len rx;obtain⟨u0,u1,u2,u3,rfl⟩:=Qr hl;obtain⟨_,qx0,⟨_,qx1,⟨_,qx2,qx3⟩⟩⟩:=rx;have qx0:u0= .int .i64 x.X0:=hd1 (show[u0]=[.int .i64 x.X0]from qx0);have qx1:u1= .int .i64 x.Y0:=hd1 (show[u1]=[.int .i64 x.Y0]from qx1);have qx2:u2= .int .i64 x.X1:=hd1 (show[u2]=[.int .i64 x.X1]from qx2);have qx3:u3= .int .i64 x.Y1:=hd1 (show[u3]=[.int .i64 x.Y1]from qx3);rw[qx0,qx1,qx2,qx3]
 obtain⟨csy,ey,ry⟩:=hy;have fy:csy=[.int .i64 y.X0, .int .i64 y.Y0, .int .i64 y.X1, .int .i64 y.Y1]:=by have hl:=Enc.len ry;obtain⟨u0,u1,u2,u3,rfl⟩:=Qr hl;obtain⟨_,qy0,⟨_,qy1,⟨_,qy2,qy3⟩⟩⟩:=ry;have qy0:u0= .int .i64 y.X0:=hd1 (show[u0]=[.int .i64 y.X0]from qy0);have qy1:u1= .int .i64 y.Y0:=hd1 (show[u1]=[.int .i64 y.Y0]from qy1);have qy2:u2= .int .i64 y.X1:=hd1 (show[u2]=[.int .i64 y.X1]from qy2);have qy3:u3= .int .i64 y.Y1:=hd1 (show[u3]=[.int .i64 y.Y1]from qy3);rw[qy0,qy1,qy2,qy3]
 subst fx;subst fy;subst ex;subst ey;refine⟨⟨_,rfl⟩,⟨_,rfl⟩,λw=>?_⟩;show(Op.equalIn (9998+1+1) 126 (.agg #[.int .i64 x.X0, .int .i64 x.Y0, .int .i64 x.X1, .int .i64 x.Y1]) (.agg #[.int .i64 y.X0, .int .i64 y.Y0, .int .i64 y.X1, .int .i64 y.Y1])).run Tryz.prog w=_;rw[run_equalIn_struct w _ 126 _ _ (by kernel_rfl) Tryz.stoodInHeld126];generalize 9998=d;simp[Program.fieldsOf,Op.eqFields,part,uT,<-beq_toListBytes,er Tryz.underlying3,run_equalIn_int w d 3 .i64 .i64 _ _ Tryz.underlying3];obtain⟨a0,a1,a2,a3⟩:=x;obtain⟨b0,b1,b2,b3⟩:=y;simp only[ay.mk.injEq];by_cases h0:a0=b0;rotate_left;.simp[h0]
 subst h0;by_cases h1:a1=b1;rotate_left;.simp[h1]
 subst h1;by_cases h2:a2=b2;rotate_left;.simp[h2]
 subst h2;by_cases h3:a3=b3;rotate_left;.simp[h3]
 subst h3;simp
theorem T0:zQ Tryz.prog 61 bq:=by
 refine⟨by kernel_rfl,λk x y u v hx hy=>?_⟩;obtain⟨csx,ex,rx⟩:=hx;have fx:csx=[.int .i64 x.X, .int .i64 x.Y, .int .i64 x.Z]:=by have hl:=Enc.len rx;obtain⟨u0,u1,u2,rfl⟩:=SH hl;obtain⟨_,qx0,⟨_,qx1,qx2⟩⟩:=rx;have qx0:u0= .int .i64 x.X:=hd1 (show[u0]=[.int .i64 x.X]from qx0);have qx1:u1= .int .i64 x.Y:=hd1 (show[u1]=[.int .i64 x.Y]from qx1);have qx2:u2= .int .i64 x.Z:=hd1 (show[u2]=[.int .i64 x.Z]from qx2);rw[qx0,qx1,qx2]
 obtain⟨csy,ey,ry⟩:=hy;have fy:csy=[.int .i64 y.X, .int .i64 y.Y, .int .i64 y.Z]:=by have hl:=Enc.len ry;obtain⟨u0,u1,u2,rfl⟩:=SH hl;obtain⟨_,qy0,⟨_,qy1,qy2⟩⟩:=ry;have qy0:u0= .int .i64 y.X:=hd1 (show[u0]=[.int .i64 y.X]from qy0);have qy1:u1= .int .i64 y.Y:=hd1 (show[u1]=[.int .i64 y.Y]from qy1);have qy2:u2= .int .i64 y.Z:=hd1 (show[u2]=[.int .i64 y.Z]from qy2);rw[qy0,qy1,qy2]
 subst fx;subst fy;subst ex;subst ey;refine⟨⟨_,rfl⟩,⟨_,rfl⟩,λw=>?_⟩;show(Op.equalIn (9998+1+1) 61 (.agg #[.int .i64 x.X, .int .i64 x.Y, .int .i64 x.Z]) (.agg #[.int .i64 y.X, .int .i64 y.Y, .int .i64 y.Z])).run Tryz.prog w=_;rw[run_equalIn_struct w _ 61 _ _ (by kernel_rfl) Tryz.stoodInHeld61];generalize 9998=d;simp[Program.fieldsOf,Op.eqFields,part,uT,<-beq_toListBytes,er Tryz.underlying3,run_equalIn_int w d 3 .i64 .i64 _ _ Tryz.underlying3];obtain⟨a0,a1,a2⟩:=x;obtain⟨b0,b1,b2⟩:=y;simp only[bq.mk.injEq];by_cases h0:a0=b0;rotate_left;.simp[h0]
 subst h0;by_cases h1:a1=b1;rotate_left;.simp[h1]
 subst h1;by_cases h2:a2=b2;rotate_left;.simp[h2]
 subst h2;simp
theorem z4:Zero Tryz.prog 4 (false:Bool):=⟨_,Tryz.zeroValue4,λ _=>⟨_,rfl,rfl⟩⟩
theorem Rf:zQ Tryz.prog 130 aF:=by
 refine⟨by kernel_rfl,λk x y u v hx hy=>?_⟩;obtain⟨csx,ex,rx⟩:=hx;have fx:csx=[.int .i64 x.Box.Base.X0, .int .i64 x.Box.Base.Y0, .int .i64 x.Box.Base.X1, .int .i64 x.Box.Base.Y1, .int .i64 x.Box.Z0, .int .i64 x.Box.Z1, .int .i64 x.Use, .int .i64 x.Units, .bool x.Extra]:=by have hl:=Enc.len rx;obtain⟨u0,u1,u2,u3,u4,u5,u6,u7,u8,rfl⟩:=SB hl;obtain⟨_,⟨_,⟨_,qx0,⟨_,qx1,⟨_,qx2,qx3⟩⟩⟩,⟨_,qx4,qx5⟩⟩,⟨_,qx6,⟨_,qx7,qx8⟩⟩⟩:=rx;have qx0:u0= .int .i64 x.Box.Base.X0:=hd1 (show[u0]=[.int .i64 x.Box.Base.X0]from qx0);have qx1:u1= .int .i64 x.Box.Base.Y0:=hd1 (show[u1]=[.int .i64 x.Box.Base.Y0]from qx1);have qx2:u2= .int .i64 x.Box.Base.X1:=hd1 (show[u2]=[.int .i64 x.Box.Base.X1]from qx2);have qx3:u3= .int .i64 x.Box.Base.Y1:=hd1 (show[u3]=[.int .i64 x.Box.Base.Y1]from qx3);have qx4:u4= .int .i64 x.Box.Z0:=hd1 (show[u4]=[.int .i64 x.Box.Z0]from qx4);have qx5:u5= .int .i64 x.Box.Z1:=hd1 (show[u5]=[.int .i64 x.Box.Z1]from qx5);have qx6:u6= .int .i64 x.Use:=hd1 (show[u6]=[.int .i64 x.Use]from qx6);have qx7:u7= .int .i64 x.Units:=hd1 (show[u7]=[.int .i64 x.Units]from qx7);have qx8:u8= .bool x.Extra:=hd1 (show[u8]=[.bool x.Extra]from qx8);rw[qx0,qx1,qx2,qx3,qx4,qx5,qx6,qx7,qx8]
 obtain⟨csy,ey,ry⟩:=hy;have fy:csy=[.int .i64 y.Box.Base.X0, .int .i64 y.Box.Base.Y0, .int .i64 y.Box.Base.X1, .int .i64 y.Box.Base.Y1, .int .i64 y.Box.Z0, .int .i64 y.Box.Z1, .int .i64 y.Use, .int .i64 y.Units, .bool y.Extra]:=by have hl:=Enc.len ry;obtain⟨u0,u1,u2,u3,u4,u5,u6,u7,u8,rfl⟩:=SB hl;obtain⟨_,⟨_,⟨_,qy0,⟨_,qy1,⟨_,qy2,qy3⟩⟩⟩,⟨_,qy4,qy5⟩⟩,⟨_,qy6,⟨_,qy7,qy8⟩⟩⟩:=ry;have qy0:u0= .int .i64 y.Box.Base.X0:=hd1 (show[u0]=[.int .i64 y.Box.Base.X0]from qy0);have qy1:u1= .int .i64 y.Box.Base.Y0:=hd1 (show[u1]=[.int .i64 y.Box.Base.Y0]from qy1);have qy2:u2= .int .i64 y.Box.Base.X1:=hd1 (show[u2]=[.int .i64 y.Box.Base.X1]from qy2);have qy3:u3= .int .i64 y.Box.Base.Y1:=hd1 (show[u3]=[.int .i64 y.Box.Base.Y1]from qy3);have qy4:u4= .int .i64 y.Box.Z0:=hd1 (show[u4]=[.int .i64 y.Box.Z0]from qy4);have qy5:u5= .int .i64 y.Box.Z1:=hd1 (show[u5]=[.int .i64 y.Box.Z1]from qy5);have qy6:u6= .int .i64 y.Use:=hd1 (show[u6]=[.int .i64 y.Use]from qy6);have qy7:u7= .int .i64 y.Units:=hd1 (show[u7]=[.int .i64 y.Units]from qy7);have qy8:u8= .bool y.Extra:=hd1 (show[u8]=[.bool y.Extra]from qy8);rw[qy0,qy1,qy2,qy3,qy4,qy5,qy6,qy7,qy8]
 subst fx;subst fy;subst ex;subst ey;refine⟨⟨_,rfl⟩,⟨_,rfl⟩,λw=>?_⟩;show(Op.equalIn (9996+1+1+1+1) 130 (.agg #[.int .i64 x.Box.Base.X0, .int .i64 x.Box.Base.Y0, .int .i64 x.Box.Base.X1, .int .i64 x.Box.Base.Y1, .int .i64 x.Box.Z0, .int .i64 x.Box.Z1, .int .i64 x.Use, .int .i64 x.Units, .bool x.Extra]) (.agg #[.int .i64 y.Box.Base.X0, .int .i64 y.Box.Base.Y0, .int .i64 y.Box.Base.X1, .int .i64 y.Box.Base.Y1, .int .i64 y.Box.Z0, .int .i64 y.Box.Z1, .int .i64 y.Use, .int .i64 y.Units, .bool y.Extra])).run Tryz.prog w=_;rw[run_equalIn_struct w _ 130 _ _ (by kernel_rfl) Tryz.stoodInHeld130];generalize 9996=d;simp[Program.fieldsOf,Op.eqFields,part,uT,<-beq_toListBytes,er Tryz.underlying3,run_equalIn_int w d 3 .i64 .i64 _ _ Tryz.underlying3,run_equalIn_int w (d+1) 3 .i64 .i64 _ _ Tryz.underlying3,run_equalIn_int w (d+2) 3 .i64 .i64 _ _ Tryz.underlying3,er Tryz.underlying4,run_equalIn_bool w d 4 _ _ Tryz.underlying4,run_equalIn_bool w (d+1) 4 _ _ Tryz.underlying4,run_equalIn_bool w (d+2) 4 _ _ Tryz.underlying4,er Tryz.underlying126,run_equalIn_struct w _ 126 _ _ (by kernel_rfl) Tryz.stoodInHeld126,er Tryz.underlying128,run_equalIn_struct w _ 128 _ _ (by kernel_rfl) Tryz.stoodInHeld128];obtain⟨⟨⟨a0,a1,a2,a3⟩,a4,a5⟩,a6,a7,a8⟩:=x;obtain⟨⟨⟨b0,b1,b2,b3⟩,b4,b5⟩,b6,b7,b8⟩:=y;simp only[aF.mk.injEq,Box.mk.injEq,ay.mk.injEq];by_cases h0:a0=b0;rotate_left;.simp[h0]
 subst h0;by_cases h1:a1=b1;rotate_left;.simp[h1]
 subst h1;by_cases h2:a2=b2;rotate_left;.simp[h2]
 subst h2;by_cases h3:a3=b3;rotate_left;.simp[h3]
 subst h3;by_cases h4:a4=b4;rotate_left;.simp[h4]
 subst h4;by_cases h5:a5=b5;rotate_left;.simp[h5]
 subst h5;by_cases h6:a6=b6;rotate_left;.simp[h6]
 subst h6;by_cases h7:a7=b7;rotate_left;.simp[h7]
 subst h7;by_cases h8:a8=b8;rotate_left;.simp[h8]
 subst h8;simp
theorem QZ:zQ Tryz.prog 135 Entry:=by
 refine⟨by kernel_rfl,λk x y u v hx hy=>?_⟩;obtain⟨csx,ex,rx⟩:=hx;have fx:csx=[.string x.Name, .int .i64 x.N]:=by have hl:=Enc.len rx;obtain⟨u0,u1,rfl⟩:=Pv hl;obtain⟨_,qx0,qx1⟩:=rx;have qx0:u0= .string x.Name:=hd1 (show[u0]=[.string x.Name]from qx0);have qx1:u1= .int .i64 x.N:=hd1 (show[u1]=[.int .i64 x.N]from qx1);rw[qx0,qx1]
 obtain⟨csy,ey,ry⟩:=hy;have fy:csy=[.string y.Name, .int .i64 y.N]:=by have hl:=Enc.len ry;obtain⟨u0,u1,rfl⟩:=Pv hl;obtain⟨_,qy0,qy1⟩:=ry;have qy0:u0= .string y.Name:=hd1 (show[u0]=[.string y.Name]from qy0);have qy1:u1= .int .i64 y.N:=hd1 (show[u1]=[.int .i64 y.N]from qy1);rw[qy0,qy1]
 subst fx;subst fy;subst ex;subst ey;refine⟨⟨_,rfl⟩,⟨_,rfl⟩,λw=>?_⟩;show(Op.equalIn (9998+1+1) 135 (.agg #[.string x.Name, .int .i64 x.N]) (.agg #[.string y.Name, .int .i64 y.N])).run Tryz.prog w=_;rw[run_equalIn_struct w _ 135 _ _ (by kernel_rfl) Tryz.stoodInHeld135];generalize 9998=d;simp[Program.fieldsOf,Op.eqFields,part,uT,<-beq_toListBytes,er Tryz.underlying3,run_equalIn_int w d 3 .i64 .i64 _ _ Tryz.underlying3,er Tryz.underlying9,run_equalIn_string w d 9 _ _ Tryz.underlying9];obtain⟨a0,a1⟩:=x;obtain⟨b0,b1⟩:=y;simp only[Entry.mk.injEq];by_cases h0:a0=b0;rotate_left;.simp[h0,xi]
 subst h0;by_cases h1:a1=b1;rotate_left;.simp[h1,xi]
 subst h1;simp[xi]
theorem Ug:zQ Tryz.prog 87 aG:=by
 refine⟨by kernel_rfl,λk x y u v hx hy=>?_⟩;obtain⟨csx,ex,rx⟩:=hx;have fx:csx=[.string x.Cap, .int .i64 x.Counter, .int .i64 x.Held, .int .i64 x.Used]:=by have hl:=Enc.len rx;obtain⟨u0,u1,u2,u3,rfl⟩:=Qr hl;obtain⟨_,qx0,⟨_,qx1,⟨_,qx2,qx3⟩⟩⟩:=rx;have qx0:u0= .string x.Cap:=hd1 (show[u0]=[.string x.Cap]from qx0);have qx1:u1= .int .i64 x.Counter:=hd1 (show[u1]=[.int .i64 x.Counter]from qx1);have qx2:u2= .int .i64 x.Held:=hd1 (show[u2]=[.int .i64 x.Held]from qx2);have qx3:u3= .int .i64 x.Used:=hd1 (show[u3]=[.int .i64 x.Used]from qx3);rw[qx0,qx1,qx2,qx3]
 obtain⟨csy,ey,ry⟩:=hy;have fy:csy=[.string y.Cap, .int .i64 y.Counter, .int .i64 y.Held, .int .i64 y.Used]:=by have hl:=Enc.len ry;obtain⟨u0,u1,u2,u3,rfl⟩:=Qr hl;obtain⟨_,qy0,⟨_,qy1,⟨_,qy2,qy3⟩⟩⟩:=ry;have qy0:u0= .string y.Cap:=hd1 (show[u0]=[.string y.Cap]from qy0);have qy1:u1= .int .i64 y.Counter:=hd1 (show[u1]=[.int .i64 y.Counter]from qy1);have qy2:u2= .int .i64 y.Held:=hd1 (show[u2]=[.int .i64 y.Held]from qy2);have qy3:u3= .int .i64 y.Used:=hd1 (show[u3]=[.int .i64 y.Used]from qy3);rw[qy0,qy1,qy2,qy3]
 subst fx;subst fy;subst ex;subst ey;refine⟨⟨_,rfl⟩,⟨_,rfl⟩,λw=>?_⟩;show(Op.equalIn (9998+1+1) 87 (.agg #[.string x.Cap, .int .i64 x.Counter, .int .i64 x.Held, .int .i64 x.Used]) (.agg #[.string y.Cap, .int .i64 y.Counter, .int .i64 y.Held, .int .i64 y.Used])).run Tryz.prog w=_;rw[run_equalIn_struct w _ 87 _ _ (by kernel_rfl) Tryz.stoodInHeld87];generalize 9998=d;simp[Program.fieldsOf,Op.eqFields,part,uT,<-beq_toListBytes,er Tryz.underlying3,run_equalIn_int w d 3 .i64 .i64 _ _ Tryz.underlying3,er Tryz.underlying9,run_equalIn_string w d 9 _ _ Tryz.underlying9];obtain⟨a0,a1,a2,a3⟩:=x;obtain⟨b0,b1,b2,b3⟩:=y;simp only[aG.mk.injEq];by_cases h0:a0=b0;rotate_left;.simp[h0,xi]
 subst h0;by_cases h1:a1=b1;rotate_left;.simp[h1,xi]
 subst h1;by_cases h2:a2=b2;rotate_left;.simp[h2,xi]
 subst h2;by_cases h3:a3=b3;rotate_left;.simp[h3,xi]
 subst h3;simp[xi]
theorem LO:dJ Tryz.prog 44 ai:=⟨_,_,rfl,rfl,rfl,rfl,by decide,by decide⟩
def zY:iq aP:=⟨0+10,mC,inferInstance,63,λx=>x.Windows,λx y=>{x with Windows:=y}⟩
theorem TH:dJ Tryz.prog 69 (List ay):=⟨_,_,rfl,rfl,rfl,rfl,by decide,by decide⟩
theorem BS:(Tryz.prog.info? 126).map (·.size)=some (Enc.sz ay):=by kernel_rfl
theorem rC:Ty Tryz.prog 126 ay:=⟨⟨_,Tryz.underlying126,rfl⟩,by kernel_rfl⟩
theorem U3:Zero Tryz.prog 126 ((⟨0,0,0,0⟩:ay):ay):=⟨_,Tryz.zeroValue126,λ _=>⟨_,rfl,⟨rfl,rfl,⟨rfl,rfl,⟨rfl,rfl,rfl⟩⟩⟩⟩⟩
theorem T4:tL Tryz.prog 9 (Hj.kv (κ:=ByteArray)):=ME Tryz.underlying9
theorem WE:tL Tryz.prog 3 (Hj.kv (κ:=Int)):=MN Tryz.underlying3
theorem z3:Zero Tryz.prog 3 (0:Int):=⟨_,Tryz.zeroValue3,λ _=>⟨_,rfl,rfl⟩⟩
set_option maxHeartbeats 4000000 in
set_option synthInstance.maxHeartbeats 1000000 in
set_option synthInstance.maxSize 4000 in
noncomputable def tb : Tb where
  P := Tryz.prog
  S := λ n => match n with
    | 0 => bX
    | 1 => fe
    | 2 => ay
    | 3 => Phase
    | 4 => aF
    | 5 => Box
    | 6 => Entry
    | 7 => aP
    | 8 => az
    | 9 => Def
    | 10 => Expr
    | 11 => Table
    | 12 => E0
    | 13 => EY
    | 14 => rb
    | 15 => Cap
    | 16 => View
    | 17 => bq
    | 18 => Lot
    | 19 => lO
    | 20 => mC
    | 21 => cD
    | 22 => ct
    | 23 => ag
    | 24 => aB
    | 25 => bn
    | 26 => cg
    | 27 => cU
    | 28 => aq
    | 29 => ai
    | 30 => ax
    | 31 => bN
    | 32 => aG
    | 33 => (ByteArray × ByteArray × ByteArray × ByteArray × ByteArray × ByteArray)
    | 34 => jP
    | 35 => fM
    | 36 => qJ
    | _ + 37 => Unit
  fs := λ n => match n with
    | 0 => [.st 1, .st 1]
    | 1 => [.int, .int]
    | 2 => [.int, .int, .int, .int]
    | 3 => [.list (.st 4), .list (.st 6)]
    | 4 => [.st 5, .int, .int, .bool]
    | 5 => [.st 2, .int, .int]
    | 6 => [.str, .int]
    | 7 => [.st 8, .list (.st 18), .list (.st 19), .list (.st 20), .list (.st 21), .list (.st 6)]
    | 8 => [.list (.st 9), .list (.st 11), .list (.st 12), .list (.st 13), .list (.st 15), .list (.st 16), .list (.st 17), .int]
    | 9 => [.str, .st 10]
    | 10 => [.int, .int, .str, .str, .op]
    | 11 => [.str, .list (.st 6), .int]
    | 12 => [.str, .bool, .list (.st 1)]
    | 13 => [.str, .list .str, .list .str, .int, .int, .int, .bool, .int, .st 10, .st 14, .int, .int, .int]
    | 14 => [.int, .int, .int, .int]
    | 15 => [.str, .int, .int, .list (.st 1)]
    | 16 => [.str, .st 17, .int, .list (.st 17)]
    | 17 => [.int, .int, .int]
    | 18 => [.int, .int, .list (.st 2), .list .int]
    | 19 => [.int, .list (.st 2), .int]
    | 20 => [.int, .st 17]
    | 21 => [.int, .st 4]
    | 22 => [.int, .int, .list (.st 2)]
    | 23 => [.int, .int]
    | 24 => [.int, .int, .list (.st 23)]
    | 25 => [.st 26, .st 26, .bool, .bool]
    | 26 => [.int, .int, .bool]
    | 27 => [.int, .str, .int]
    | 28 => [.int, .int, .st 29]
    | 29 => [.int, .int, .st 30, .int, .int, .bool]
    | 30 => [.int, .list (.st 3)]
    | 31 => [.int, .list .int, .pv, .list (.st 28)]
    | 32 => [.str, .int, .int, .int]
    | 33 => [.str, .str, .str, .str, .str, .str]
    | 34 => [.str, .int, .list .int]
    | 35 => [.int, .int, .int, .int, .int, .st 29, .list (.st 28)]
    | 36 => [.op, .op, .pv, .op]
    | _ + 37 => []
  to := λ n => match n with
    | 0 => λ x => (x.a, x.b)
    | 1 => λ x => (x.X, x.Y)
    | 2 => λ x => (x.X0, x.Y0, x.X1, x.Y1)
    | 3 => λ x => (x.Volumes, x.cd)
    | 4 => λ x => (x.Box, x.Use, x.Units, x.Extra)
    | 5 => λ x => (x.Base, x.Z0, x.Z1)
    | 6 => λ x => (x.Name, x.N)
    | 7 => λ x => (x.az, x.Land, x.Easements, x.Windows, x.Built, x.Base)
    | 8 => λ x => (x.Defs, x.Tables, x.Zones, x.Rules, x.Caps, x.Views, x.Sun, x.Hours)
    | 9 => λ x => (x.Name, x.Body)
    | 10 => λ x => (x.Op, x.N, x.S, x.Key, x.Args)
    | 11 => λ x => (x.Name, x.Rows, x.Else)
    | 12 => λ x => (x.Name, x.Overlay, x.Corners)
    | 13 => λ x => (x.Name, x.Zones, x.Except, x.From, x.Until, x.Grace, x.Vary, x.Kind, x.Test, x.rb, x.Uses, x.Other, x.N)
    | 14 => λ x => (x.Side, x.Base, x.Num, x.Den)
    | 15 => λ x => (x.Name, x.Load, x.cU, x.Corners)
    | 16 => λ x => (x.Name, x.Eye, x.Least, x.Targets)
    | 17 => λ x => (x.X, x.Y, x.Z)
    | 18 => λ x => (x.Id, x.Owner, x.Area, x.From)
    | 19 => λ x => (x.Lot, x.Area, x.Top)
    | 20 => λ x => (x.Lot, x.At)
    | 21 => λ x => (x.Lot, x.aF)
    | 22 => λ x => (x.Z0, x.Z1, x.Area)
    | 23 => λ x => (x.from_, x.to_)
    | 24 => λ x => (x.x0, x.x1, x.column)
    | 25 => λ x => (x.lo, x.hi, x.top, x.none_)
    | 26 => λ x => (x.n, x.d, x.open_)
    | 27 => λ x => (x.Kind, x.Name, x.N)
    | 28 => λ x => (x.Counter, x.Number, x.ai)
    | 29 => λ x => (x.Id, x.Holder, x.ax, x.Used, x.Until, x.Over)
    | 30 => λ x => (x.Lot, x.Phases)
    | 31 => λ x => (x.number, x.district, x.desk, x.register)
    | 32 => λ x => (x.Cap, x.Counter, x.Held, x.Used)
    | 33 => λ x => x
    | 34 => λ x => (x.Cap, x.Base, x.Tops)
    | 35 => λ x => (x.Kind, x.Who, x.To, x.Cap, x.N, x.ai, x.Filings)
    | 36 => λ x => (x.a, x.b, x.p, x.d)
    | _ + 37 => λ _ => ()
  of := λ n => match n with
    | 0 => λ x => ⟨x.1, x.2⟩
    | 1 => λ x => ⟨x.1, x.2⟩
    | 2 => λ x => ⟨x.1, x.2.1, x.2.2.1, x.2.2.2⟩
    | 3 => λ x => ⟨x.1, x.2⟩
    | 4 => λ x => ⟨x.1, x.2.1, x.2.2.1, x.2.2.2⟩
    | 5 => λ x => ⟨x.1, x.2.1, x.2.2⟩
    | 6 => λ x => ⟨x.1, x.2⟩
    | 7 => λ x => ⟨x.1, x.2.1, x.2.2.1, x.2.2.2.1, x.2.2.2.2.1, x.2.2.2.2.2⟩
    | 8 => λ x => ⟨x.1, x.2.1, x.2.2.1, x.2.2.2.1, x.2.2.2.2.1, x.2.2.2.2.2.1, x.2.2.2.2.2.2.1, x.2.2.2.2.2.2.2⟩
    | 9 => λ x => ⟨x.1, x.2⟩
    | 10 => λ x => ⟨x.1, x.2.1, x.2.2.1, x.2.2.2.1, x.2.2.2.2⟩
    | 11 => λ x => ⟨x.1, x.2.1, x.2.2⟩
    | 12 => λ x => ⟨x.1, x.2.1, x.2.2⟩
    | 13 => λ x => ⟨x.1, x.2.1, x.2.2.1, x.2.2.2.1, x.2.2.2.2.1, x.2.2.2.2.2.1, x.2.2.2.2.2.2.1, x.2.2.2.2.2.2.2.1, x.2.2.2.2.2.2.2.2.1, x.2.2.2.2.2.2.2.2.2.1, x.2.2.2.2.2.2.2.2.2.2.1, x.2.2.2.2.2.2.2.2.2.2.2.1, x.2.2.2.2.2.2.2.2.2.2.2.2⟩
    | 14 => λ x => ⟨x.1, x.2.1, x.2.2.1, x.2.2.2⟩
    | 15 => λ x => ⟨x.1, x.2.1, x.2.2.1, x.2.2.2⟩
    | 16 => λ x => ⟨x.1, x.2.1, x.2.2.1, x.2.2.2⟩
    | 17 => λ x => ⟨x.1, x.2.1, x.2.2⟩
    | 18 => λ x => ⟨x.1, x.2.1, x.2.2.1, x.2.2.2⟩
    | 19 => λ x => ⟨x.1, x.2.1, x.2.2⟩
    | 20 => λ x => ⟨x.1, x.2⟩
    | 21 => λ x => ⟨x.1, x.2⟩
    | 22 => λ x => ⟨x.1, x.2.1, x.2.2⟩
    | 23 => λ x => ⟨x.1, x.2⟩
    | 24 => λ x => ⟨x.1, x.2.1, x.2.2⟩
    | 25 => λ x => ⟨x.1, x.2.1, x.2.2.1, x.2.2.2⟩
    | 26 => λ x => ⟨x.1, x.2.1, x.2.2⟩
    | 27 => λ x => ⟨x.1, x.2.1, x.2.2⟩
    | 28 => λ x => ⟨x.1, x.2.1, x.2.2⟩
    | 29 => λ x => ⟨x.1, x.2.1, x.2.2.1, x.2.2.2.1, x.2.2.2.2.1, x.2.2.2.2.2⟩
    | 30 => λ x => ⟨x.1, x.2⟩
    | 31 => λ x => ⟨x.1, x.2.1, x.2.2.1, x.2.2.2⟩
    | 32 => λ x => ⟨x.1, x.2.1, x.2.2.1, x.2.2.2⟩
    | 33 => λ x => x
    | 34 => λ x => ⟨x.1, x.2.1, x.2.2⟩
    | 35 => λ x => ⟨x.1, x.2.1, x.2.2.1, x.2.2.2.1, x.2.2.2.2.1, x.2.2.2.2.2.1, x.2.2.2.2.2.2⟩
    | 36 => λ x => ⟨x.1, x.2.1, x.2.2.1, x.2.2.2⟩
    | _ + 37 => λ _ => ()
  zero := λ n => match n with
    | 0 => (default : bX)
    | 1 => (default : fe)
    | 2 => (default : ay)
    | 3 => (default : Phase)
    | 4 => (default : aF)
    | 5 => (default : Box)
    | 6 => (default : Entry)
    | 7 => (default : aP)
    | 8 => (default : az)
    | 9 => (default : Def)
    | 10 => (default : Expr)
    | 11 => (default : Table)
    | 12 => (default : E0)
    | 13 => (default : EY)
    | 14 => (default : rb)
    | 15 => (default : Cap)
    | 16 => (default : View)
    | 17 => (default : bq)
    | 18 => (default : Lot)
    | 19 => (default : lO)
    | 20 => (default : mC)
    | 21 => (default : cD)
    | 22 => (default : ct)
    | 23 => (default : ag)
    | 24 => (default : aB)
    | 25 => (default : bn)
    | 26 => (default : cg)
    | 27 => (default : cU)
    | 28 => (default : aq)
    | 29 => (default : ai)
    | 30 => (default : ax)
    | 31 => (default : bN)
    | 32 => (default : aG)
    | 33 => (default : (ByteArray × ByteArray × ByteArray × ByteArray × ByteArray × ByteArray))
    | 34 => (default : jP)
    | 35 => (default : fM)
    | 36 => (default : qJ)
    | _ + 37 => ()
  deq := λ n => match n with
    | 0 => (inferInstance : DecidableEq bX)
    | 1 => (inferInstance : DecidableEq fe)
    | 2 => (inferInstance : DecidableEq ay)
    | 3 => (inferInstance : DecidableEq Phase)
    | 4 => (inferInstance : DecidableEq aF)
    | 5 => (inferInstance : DecidableEq Box)
    | 6 => (inferInstance : DecidableEq Entry)
    | 7 => (inferInstance : DecidableEq aP)
    | 8 => (inferInstance : DecidableEq az)
    | 9 => (inferInstance : DecidableEq Def)
    | 10 => (inferInstance : DecidableEq Expr)
    | 11 => (inferInstance : DecidableEq Table)
    | 12 => (inferInstance : DecidableEq E0)
    | 13 => (inferInstance : DecidableEq EY)
    | 14 => (inferInstance : DecidableEq rb)
    | 15 => (inferInstance : DecidableEq Cap)
    | 16 => (inferInstance : DecidableEq View)
    | 17 => (inferInstance : DecidableEq bq)
    | 18 => (inferInstance : DecidableEq Lot)
    | 19 => (inferInstance : DecidableEq lO)
    | 20 => (inferInstance : DecidableEq mC)
    | 21 => (inferInstance : DecidableEq cD)
    | 22 => (inferInstance : DecidableEq ct)
    | 23 => (inferInstance : DecidableEq ag)
    | 24 => (inferInstance : DecidableEq aB)
    | 25 => (inferInstance : DecidableEq bn)
    | 26 => (inferInstance : DecidableEq cg)
    | 27 => (inferInstance : DecidableEq cU)
    | 28 => (inferInstance : DecidableEq aq)
    | 29 => (inferInstance : DecidableEq ai)
    | 30 => (inferInstance : DecidableEq ax)
    | 31 => (inferInstance : DecidableEq bN)
    | 32 => (inferInstance : DecidableEq aG)
    | 33 => (inferInstance : DecidableEq (ByteArray × ByteArray × ByteArray × ByteArray × ByteArray × ByteArray))
    | 34 => (inferInstance : DecidableEq jP)
    | 35 => (inferInstance : DecidableEq fM)
    | 36 => (inferInstance : DecidableEq qJ)
    | _ + 37 => (inferInstance : DecidableEq Unit)
  enc := λ n => match n with
    | 0 => (inferInstance : Enc bX)
    | 1 => (inferInstance : Enc fe)
    | 2 => (inferInstance : Enc ay)
    | 3 => (inferInstance : Enc Phase)
    | 4 => (inferInstance : Enc aF)
    | 5 => (inferInstance : Enc Box)
    | 6 => (inferInstance : Enc Entry)
    | 7 => (inferInstance : Enc aP)
    | 8 => (inferInstance : Enc az)
    | 9 => (inferInstance : Enc Def)
    | 10 => (inferInstance : Enc Expr)
    | 11 => (inferInstance : Enc Table)
    | 12 => (inferInstance : Enc E0)
    | 13 => (inferInstance : Enc EY)
    | 14 => (inferInstance : Enc rb)
    | 15 => (inferInstance : Enc Cap)
    | 16 => (inferInstance : Enc View)
    | 17 => (inferInstance : Enc bq)
    | 18 => (inferInstance : Enc Lot)
    | 19 => (inferInstance : Enc lO)
    | 20 => (inferInstance : Enc mC)
    | 21 => (inferInstance : Enc cD)
    | 22 => (inferInstance : Enc ct)
    | 23 => (inferInstance : Enc ag)
    | 24 => (inferInstance : Enc aB)
    | 25 => (inferInstance : Enc bn)
    | 26 => (inferInstance : Enc cg)
    | 27 => (inferInstance : Enc cU)
    | 28 => (inferInstance : Enc aq)
    | 29 => (inferInstance : Enc ai)
    | 30 => (inferInstance : Enc ax)
    | 31 => (inferInstance : Enc bN)
    | 32 => (inferInstance : Enc aG)
    | 33 => (inferInstance : Enc (ByteArray × ByteArray × ByteArray × ByteArray × ByteArray × ByteArray))
    | 34 => (inferInstance : Enc jP)
    | 35 => (inferInstance : Enc fM)
    | 36 => (inferInstance : Enc qJ)
    | _ + 37 => Enc.ofMap (σ := Unit) (β := Unit) λ x => x
  to_of := λ n => match n with
    | 0 => λ _ => rfl
    | 1 => λ _ => rfl
    | 2 => λ _ => rfl
    | 3 => λ _ => rfl
    | 4 => λ _ => rfl
    | 5 => λ _ => rfl
    | 6 => λ _ => rfl
    | 7 => λ _ => rfl
    | 8 => λ _ => rfl
    | 9 => λ _ => rfl
    | 10 => λ _ => rfl
    | 11 => λ _ => rfl
    | 12 => λ _ => rfl
    | 13 => λ _ => rfl
    | 14 => λ _ => rfl
    | 15 => λ _ => rfl
    | 16 => λ _ => rfl
    | 17 => λ _ => rfl
    | 18 => λ _ => rfl
    | 19 => λ _ => rfl
    | 20 => λ _ => rfl
    | 21 => λ _ => rfl
    | 22 => λ _ => rfl
    | 23 => λ _ => rfl
    | 24 => λ _ => rfl
    | 25 => λ _ => rfl
    | 26 => λ _ => rfl
    | 27 => λ _ => rfl
    | 28 => λ _ => rfl
    | 29 => λ _ => rfl
    | 30 => λ _ => rfl
    | 31 => λ _ => rfl
    | 32 => λ _ => rfl
    | 33 => λ _ => rfl
    | 34 => λ _ => rfl
    | 35 => λ _ => rfl
    | 36 => λ _ => rfl
    | _ + 37 => λ _ => rfl
  zero_eq := λ n => match n with
    | 0 => rfl
    | 1 => rfl
    | 2 => rfl
    | 3 => rfl
    | 4 => rfl
    | 5 => rfl
    | 6 => rfl
    | 7 => rfl
    | 8 => rfl
    | 9 => rfl
    | 10 => rfl
    | 11 => rfl
    | 12 => rfl
    | 13 => rfl
    | 14 => rfl
    | 15 => rfl
    | 16 => rfl
    | 17 => rfl
    | 18 => rfl
    | 19 => rfl
    | 20 => rfl
    | 21 => rfl
    | 22 => rfl
    | 23 => rfl
    | 24 => rfl
    | 25 => rfl
    | 26 => rfl
    | 27 => rfl
    | 28 => rfl
    | 29 => rfl
    | 30 => rfl
    | 31 => rfl
    | 32 => rfl
    | 33 => rfl
    | 34 => rfl
    | 35 => rfl
    | 36 => rfl
    | _ + 37 => rfl
  enc_eq := λ n => match n with
    | 0 => rfl
    | 1 => rfl
    | 2 => rfl
    | 3 => rfl
    | 4 => rfl
    | 5 => rfl
    | 6 => rfl
    | 7 => rfl
    | 8 => rfl
    | 9 => rfl
    | 10 => rfl
    | 11 => rfl
    | 12 => rfl
    | 13 => rfl
    | 14 => rfl
    | 15 => rfl
    | 16 => rfl
    | 17 => rfl
    | 18 => rfl
    | 19 => rfl
    | 20 => rfl
    | 21 => rfl
    | 22 => rfl
    | 23 => rfl
    | 24 => rfl
    | 25 => rfl
    | 26 => rfl
    | 27 => rfl
    | 28 => rfl
    | 29 => rfl
    | 30 => rfl
    | 31 => rfl
    | 32 => rfl
    | 33 => rfl
    | 34 => rfl
    | 35 => rfl
    | 36 => rfl
    | _ + 37 => rfl
  RD := λ n => match n with | 0 => Option CC | 1 => Option DC | 2 => aP | 3 => aP | 4 => jP | 5 => Bv ByteArray Bool | 6 => List (ByteArray × Int) | 7 => List (Int × Bool) | _ + 8 => Unit
  RP := λ n => match n with | 0 => CnN | 1 => wc | 2 => λ x F v k => ∃ b, fO b [zY] [zY] x F v k | 3 => λ x F v k => ∃ b, fO b [gZ, ia] [gZ, ia] x F v k | 4 => λ x F v k => ∃ b, fO b [gX] [gX] x F v k | 5 => λ x => McR Value.string x.l | 6 => λ x => McR Value.string x | 7 => λ x => McR (Value.int .i64) x | _ + 8 => λ _ _ _ _ => False
  RPok := λ n => match n with | 0 => PT | 1 => yc | 2 => λ x => Rsc.ex λ b => inferInstanceAs (Rsc (fO b [zY] [zY] x)) | 3 => λ x => Rsc.ex λ b => inferInstanceAs (Rsc (fO b [gZ, ia] [gZ, ia] x)) | 4 => λ x => Rsc.ex λ b => inferInstanceAs (Rsc (fO b [gX] [gX] x)) | 5 => λ x => inferInstanceAs (Rsc (McR Value.string x.l)) | 6 => λ x => inferInstanceAs (Rsc (McR Value.string x)) | 7 => λ x => inferInstanceAs (Rsc (McR (Value.int .i64) x)) | _ + 8 => λ _ => ⟨λ h => h.elim, λ h => h.elim, λ h => h.elim, λ h => h.elim⟩
  RPone := λ n => match n with | 0 => Qc | 1 => CD | 2 => λ x y F G v k h h' => h.elim λ _ h => h'.elim λ _ h' => h.one h' | 3 => λ x y F G v k h h' => h.elim λ _ h => h'.elim λ _ h' => h.one h' | 4 => λ x y F G v k h h' => h.elim λ _ h => h'.elim λ _ h' => h.one h' | 5 => λ x y F G v k h h' => h.one h' | 6 => λ x y F G v k h h' => h.one h' | 7 => λ x y F G v k h h' => h.one h' | _ + 8 => λ _ _ _ _ _ _ h => h.elim
  RN := λ n => match n with | 0 => λ x => some x.isNone | 1 => λ x => some x.isNone | 2 => λ _ => none | 3 => λ _ => none | 4 => λ _ => none | 5 => λ _ => none | 6 => λ _ => none | 7 => λ _ => none | _ + 8 => λ _ => none
  RNok := λ n => match n with | 0 => QO | 1 => LR | 2 => (λ _ _ _ _ _ _ h => by cases h) | 3 => (λ _ _ _ _ _ _ h => by cases h) | 4 => (λ _ _ _ _ _ _ h => by cases h) | 5 => (λ _ _ _ _ _ _ h => by cases h) | 6 => (λ _ _ _ _ _ _ h => by cases h) | 7 => (λ _ _ _ _ _ _ h => by cases h) | _ + 8 => λ _ _ _ _ _ h => h.elim
  RZ := λ n => match n with | 0 => none | 1 => none | 2 => default | 3 => default | 4 => default | 5 => default | 6 => [] | 7 => [] | _ + 8 => ()
  RProot := λ n => match n with | 0 => λ x F v k b h hv _ => ND x F v k b h hv | 1 => λ x F v k b h hv _ => IE x F v k b h hv | 2 => λ x F v k b h hv _ => h.elim λ _ h => h.root hv | 3 => λ x F v k b h hv _ => h.elim λ _ h => h.root hv | 4 => λ x F v k b h hv _ => h.elim λ _ h => h.root hv | 5 => λ x F v k b h hv _ => h.root hv | 6 => λ x F v k b h hv _ => h.root hv | 7 => λ x F v k b h hv _ => h.root hv | _ + 8 => λ _ _ _ _ _ h => h.elim
  RL := λ n => match n with | 0 => λ _ => none | 1 => λ _ => none | 2 => λ _ => none | 3 => λ _ => none | 4 => λ _ => none | 5 => λ _ => none | 6 => λ _ => none | 7 => λ _ => none | _ + 8 => λ _ => none
  RLok := λ n => match n with | 0 => (λ _ _ _ _ _ _ _ h => by cases h) | 1 => (λ _ _ _ _ _ _ _ h => by cases h) | 2 => (λ _ _ _ _ _ _ _ h => by cases h) | 3 => (λ _ _ _ _ _ _ _ h => by cases h) | 4 => (λ _ _ _ _ _ _ _ h => by cases h) | 5 => (λ _ _ _ _ _ _ _ h => by cases h) | 6 => (λ _ _ _ _ _ _ _ h => by cases h) | 7 => (λ _ _ _ _ _ _ _ h => by cases h) | _ + 8 => (λ _ _ _ _ _ _ _ h => by cases h)
  MM := λ n => match n with | 0 => none | 1 => none | 2 => none | 3 => none | 4 => none | 5 => some (mcO (hd := inferInstanceAs (DecidableEq ByteArray)) 251 9 4 .str .bool Value.string Bv.l Bv.mk (λ _ => rfl) false T4 (λ _ _ _ h => cY.1 h) Tryz.underlying251 z4) | 6 => some (mcO (hd := inferInstanceAs (DecidableEq ByteArray)) 113 9 3 .str .int Value.string id id (λ _ => rfl) 0 T4 (λ _ _ _ h => cY.1 h) Tryz.underlying113 z3) | 7 => some (mcO (hd := inferInstanceAs (DecidableEq Int)) 201 3 4 .int .bool (Value.int .i64) id id (λ _ => rfl) false WE (λ _ _ _ h => au.1 h) Tryz.underlying201 z4) | _ + 8 => none
  MT := λ t => bif Nat.beq t 251 then some 5 else bif Nat.beq t 113 then some 6 else bif Nat.beq t 201 then some 7 else none
  SG := λ n => match n with | 0 => some ⟨.st 36, λ (x : qJ) => x.p.a⟩ | _ + 1 => none
  SD := λ m m2 => match m, m2 with | 0, 1 => some λ z => z.map λ c => c.dc | 0, 0 => none | 0, _ + 2 => none | _ + 1, _ => none
  SDok := λ m m2 => match m, m2 with | 0, 1 => (λ z f F b t g x q k h1 h2 h3 h4 h5 => by cases h2; cases h5; exact Vb z F b x q k h1 h3 h4) | 0, 0 => (λ _ _ _ _ _ _ _ _ _ _ _ _ _ h => by cases h) | 0, _ + 2 => (λ _ _ _ _ _ _ _ _ _ _ _ _ _ h => by cases h) | _ + 1, _ => (λ _ _ _ _ _ _ _ _ _ _ _ _ _ h => by cases h)
def tid:TypeId->Option Tp:=U8 [(87, .st 32),(9, .str),(3, .int),(30, .st 8),(37, .st 7),(42, .st 30),(44, .st 29),(54, .st 28),(61, .st 17),(63, .st 20),(65, .st 27),(69, .list (.st 2)),(71, .st 18),(90, .st 15),(92, .st 34),(99, .st 16),(101, .st 11),(126, .st 2),(128, .st 5),(130, .st 4),(132, .st 21),(135, .st 6),(139, .st 3),(165, .list (.st 22)),(196, .st 1),(216, .st 22),(219, .st 26),(221, .st 25),(267, .st 0),(287, .list (.st 23)),(289, .st 24),(299, .st 33),(308, .st 23)]
def eqs:List (TypeId×Nat):=[(308,23),(126,2),(61,17),(130,4),(135,6),(87,32)]
theorem uk:xB Tryz.prog tb eqs:=⟨RO,RM,T0,Rf,QZ,Ug,trivial⟩
def mk(f:FuncId)(dom cod:List Tp)(run:HL tb.S dom->Option (HL tb.S cod))(ks:List (Fk tb Tryz.prog))(own:List Nat)(fn:Func)(h:Hn tb)(hf:Tryz.prog.funcs[f]?=some fn)(hc:∀args w,(callFunc f args).run Tryz.prog w= .ok (.enter f args) w)(hb:fn.body=some (body fn))(hl:Nat.ble dom.length fn.ntmps=true)(he:∀x,evF ⟨Tryz.prog,tid,eqs,gx ks,[],false,own,fn.results.toList,fn.ntmps,vU,λc=>c∈fQ (body fn),[]⟩ (body fn) h dom cod x=run x):Fk tb Tryz.prog:=⟨f,⟨dom,cod,run⟩,Ue ks own fn h uk lS rfl hf hc hb hl he⟩
def mkc(f:FuncId)(dom cod:List Tp)(run:HL tb.S dom->Option (HL tb.S cod))(ks:List (Fk tb Tryz.prog))(rks:List (FkR tb Tryz.prog))(own:List Nat)(fn:Func)(h:Hn tb)(hf:Tryz.prog.funcs[f]?=some fn)(hc:∀args w,(callFunc f args).run Tryz.prog w= .ok (.enter f args) w)(hb:fn.body=some (body fn))(hl:Nat.ble dom.length fn.ntmps=true)(he:∀x,evF ⟨Tryz.prog,tid,eqs,gx ks,fN rks,false,own,fn.results.toList,fn.ntmps,vU,λc=>c∈fQ (body fn),[]⟩ (body fn) h dom cod x=run x):Fk tb Tryz.prog:=⟨f,⟨dom,cod,run⟩,E9 ks rks [] false own fn vU (qq rfl) h uk lS rfl hf hc hb hl he⟩
def mkR(f:FuncId)(d:FnR tb)(pr:d.tu.D tb×d.ro.D tb×HL tb.S d.cod->d.ρ)(hpr:∀r,d.inj (pr r)=r)(ks:List (Fk tb Tryz.prog))(rks:List (FkR tb Tryz.prog))(wr:Bool)(own:List Nat)(fn:Func)(h:Hn tb)(sl:Nat)(hf:Tryz.prog.funcs[f]?=some fn)(hc:∀args w,(callFunc f args).run Tryz.prog w= .ok (.enter f args) w)(hb:fn.body=some (body fn))(hl:Nat.ble d.pm.length fn.ntmps=true)(hs:R2 d sl (body fn)=true)(he:∀x y z,SL ⟨Tryz.prog,tid,eqs,gx ks,fN rks,wr,own,fn.results.toList,fn.ntmps,vU,λc=>c∈fQ (body fn),[]⟩ (body fn) h d pr hpr sl x y z=d.run x y z):FkR tb Tryz.prog:=⟨f,d,RJ pr hpr ks rks [] wr own fn vU (qq rfl) h sl uk lS rfl hf hc hb hl hs he⟩
def mkO(f:FuncId)(dom cod:List Tp)(run:HL tb.S dom->Option (HL tb.S cod))(hc:∀args w,(callFunc f args).run Tryz.prog w= .ok (.enter f args) w)(ok:∀(k0:K)(vs:List Value)(x:HL tb.S dom)(r:HL tb.S cod),GOk tb k0->HIs dom x vs k0->run x=some r->Calls Tryz.prog f vs.toArray k0.w (Ret k0 λu k=>(mH cod r).is ⟨#[],[]⟩ u k)):Fk tb Tryz.prog:=⟨f,⟨dom,cod,run⟩,hc,ok⟩
def glv:Nat->Option (Σ t:Tp,t.den tb.S):=λg=>match g with|_=>none
theorem gl0:(∀g,tb.gl g=none)/\tb.gi=none:=⟨λ _=>rfl,rfl⟩
def giv:Option Nat:=some 0
noncomputable def tbg:Tb:=tb.A3 glv giv
theorem MR:xB Tryz.prog tbg eqs:=⟨RO,RM,T0,Rf,QZ,Ug,trivial⟩
def mkg(f:FuncId)(dom cod:List Tp)(run:HL tbg.S dom->Option (HL tbg.S cod))(ks:List (Fk tbg Tryz.prog))(own:List Nat)(fn:Func)(h:Hn tbg)(hf:Tryz.prog.funcs[f]?=some fn)(hc:∀args w,(callFunc f args).run Tryz.prog w= .ok (.enter f args) w)(hb:fn.body=some (body fn))(hl:Nat.ble dom.length fn.ntmps=true)(he:∀x,evF ⟨Tryz.prog,tid,eqs,gx ks,[],false,own,fn.results.toList,fn.ntmps,vU,λc=>c∈fQ (body fn),[]⟩ (body fn) h dom cod x=run x):Fk tbg Tryz.prog:=⟨f,⟨dom,cod,run⟩,Ue ks own fn h (T:=tbg) MR lS rfl hf hc hb hl he⟩
def V8(f:FuncId)(dom cod:List Tp)(run:HL tbg.S dom->Option (HL tbg.S cod))(hc:∀args w,(callFunc f args).run Tryz.prog w= .ok (.enter f args) w)(ok:∀(k0:K)(vs:List Value)(x:HL tbg.S dom)(r:HL tbg.S cod),GOk tbg k0->HIs dom x vs k0->run x=some r->Calls Tryz.prog f vs.toArray k0.w (Ret k0 λu k=>(mH cod r).is ⟨#[],[]⟩ u k)):Fk tbg Tryz.prog:=⟨f,⟨dom,cod,run⟩,hc,ok⟩
def chZ(own:List Nat)(fn:Func):Cx tb:=⟨Tryz.prog,tid,eqs,[],[],false,own,fn.results.toList,fn.ntmps,vU,λ _=>True,[]⟩
theorem M6(own:List Nat)(fn:Func):rX (chZ own fn):=⟨lq (P:=Tryz.prog) [],jr (P:=Tryz.prog) [],uk.at,lS,rfl,jk (P:=Tryz.prog) []⟩
def lC(n_:Int):Option (Int):=some (min (max n_ (-1099511627776)) 1099511627776)
def k96:=mk 96 [.int] [.int] (λx=>lC x) [] [] Tryz.f96 (.n) Tryz.func96 Tryz.call96 rfl rfl λx=>by kernel_rfl
theorem AT{k0:K}{v0:Value}{x0:Int}{r:Int}(i0:(IsV x0) v0 k0)(hr:lC x0=some r):Calls Tryz.prog 96 #[v0] k0.w (Ret k0 (IsV r)):=(k96.ok.ok k0 [v0] x0 r (GOk.none (λ _=>rfl) λ _ e=>by cases e) i0 hr)
def o6(l_:(List Entry))(c_:Cap)(s1:Int×Int):Option (aY (Int×Int) (Int)):=if(decide (s1.2<(l_.length:Int)))then(aL l_ s1.2).bind λx1=>(if((x1.Name.toList==c_.Name.toList))then(lC x1.N).bind λx2=>(bh s1.1 x2).bind λx3=>some x3 else some s1.1).bind λs2=>(bh s1.2 1).bind λx4=>some (.go (s2,x4))else some (.ex 0 (s1.1,s1.2))
def sb(l_:(List Entry))(c_:Cap):Option (Int):=(ar (o6 l_ c_) (l_.length+1) (0,0)).bind λf1=>match f1 with| .go _=>none| .ex _ s1=>some s1.1| .ret r1=>some r1
def k84:=mk 84 [.list (.st 6), .st 15] [.int] (λx=>sb x.1 x.2) [k96] [] Tryz.f84 (.s .n (.s .n (.s (.s .n (.l [] [(5, .v .int),(10, .v .int)] [(0,[10],[])] (fI 9) (.s .n (.s .n (.s (.s .n (.s .n (.j [] [(5, .v .int)] ([],[]) (.s .n .n)))) .n))))) .n))) Tryz.func84 Tryz.call84 rfl rfl λx=>by kernel_rfl
def eZ(r_:ay):Option (Bool):=some ((((((decide (0<=r_.X0))&&(decide (r_.X0<r_.X1)))&&(decide (r_.X1<=1048576)))&&(decide (0<=r_.Y0)))&&(decide (r_.Y0<r_.Y1)))&&(decide (r_.Y1<=1048576)))
def Iu:=mk 124 [.st 2] [.bool] (λx=>eZ x) [] [] Tryz.f124 (.n) Tryz.func124 Tryz.call124 rfl rfl λx=>by kernel_rfl
def dh(v_:aF):Option (Bool):=(eZ v_.Box.Base).bind λx1=>if((((!x1)||(decide (v_.Box.Z0<0)))||(decide (v_.Box.Z1<=v_.Box.Z0)))||(decide (4096<v_.Box.Z1)))then some false else if((v_.Use !=0)&&(v_.Units !=0))then some false else some ((((decide (0<=v_.Use))&&(decide (v_.Use<6)))&&(decide (0<=v_.Units)))&&(decide (v_.Units<=1048576)))
def Pz:=mk 128 [.st 4] [.bool] (λx=>dh x) [Iu] [] Tryz.f128 (.n) Tryz.func128 Tryz.call128 rfl rfl λx=>by kernel_rfl
def iQ(p_:(List fe))(s1:(List bX)×Int):Option (aY ((List bX)×Int) ((List bX))):=if(decide (s1.2<(p_.length:Int)))then(aL p_ s1.2).bind λx1=>(bh s1.2 1).bind λx2=>(Kv x2 (p_.length:Int)).bind λx3=>(aL p_ x3).bind λx4=>(aL s1.1 s1.2).bind λx5=>(some (s1.1.set (s1.2).toNat (⟨x1,x4⟩:bX))).bind λx6=>(bh s1.2 1).bind λx7=>some (.go (x6,x7))else some (.ex 0 (s1.1,s1.2))
def jt(p_:(List fe)):Option ((List bX)):=(CX (p_.length:Int) (⟨(⟨0,0⟩:fe),(⟨0,0⟩:fe)⟩:bX)).bind λx1=>(ar (iQ p_) (p_.length+1) (x1,0)).bind λf1=>match f1 with| .go _=>none| .ex _ s1=>some s1.1| .ret r1=>some r1
def T6:=mk 178 [.list (.st 1)] [.list (.st 0)] (λx=>jt x) [] [3,7] Tryz.f178 (.s .n (.s .n (.s (.s .n (.l [] [(3, .o 267 (.st 0)),(10, .v .int)] [(0,[10],[])] (fI 9) .n)) (.s (.f [3] .n) .n)))) Tryz.func178 Tryz.call178 rfl rfl λx=>by kernel_rfl
def qf(p_:fe):Option (Bool):=some ((((decide (0<=p_.X))&&(decide (p_.X<=1048576)))&&(decide (0<=p_.Y)))&&(decide (p_.Y<=1048576)))
def XX:=mk 206 [.st 1] [.bool] (λx=>qf x) [] [] Tryz.f206 (.n) Tryz.func206 Tryz.call206 rfl rfl λx=>by kernel_rfl
def dA(s_:bX):Option (Bool):=some (s_.a.X==s_.b.X)
def Uz:=mk 179 [.st 0] [.bool] (λx=>dA x) [] [] Tryz.f179 (.n) Tryz.func179 Tryz.call179 rfl rfl λx=>by kernel_rfl
def cmp_isNaN_int(x_:Int):Option (Bool):=some (x_ !=x_)
def Vt:=mk 106 [.int] [.bool] (λx=>cmp_isNaN_int x) [] [] Tryz.f106 (.n) Tryz.func106 Tryz.call106 rfl rfl λx=>by kernel_rfl
def cE(x_:Int)(y_:Int):Option (Int):=(cmp_isNaN_int x_).bind λx1=>(cmp_isNaN_int y_).bind λx2=>if x1 then if x2 then some 0 else some (-1)else if x2 then some 1 else if(decide (x_<y_))then some (-1)else if(decide (y_<x_))then some 1 else some 0
def k68:=mk 68 [.int, .int] [.int] (λx=>cE x.1 x.2) [Vt] [] Tryz.f68 (.n) Tryz.func68 Tryz.call68 rfl rfl λx=>by kernel_rfl
def nw(vals_:(List Int))(s1:Int):Option (aY (Int) (Int)):=if(decide (s1<(vals_.length:Int)))then(aL vals_ s1).bind λx1=>if(x1 !=0)then some (.ret x1)else(bh s1 1).bind λx2=>some (.go x2)else some (.ex 0 s1)
def mV(vals_:(List Int)):Option (Int):=(ar (nw vals_) (vals_.length+1) 0).bind λf1=>match f1 with| .go _=>none| .ex _ _=>some 0| .ret r1=>some r1
def k67:=mk 67 [.list .int] [.int] (λx=>mV x) [] [] Tryz.f67 (.s .n (.s .n (.s (.s .n (.l [] [(8, .v .int)] [(0,[8],[])] (fI 7) .n)) .n))) Tryz.func67 Tryz.call67 rfl rfl λx=>by kernel_rfl
def kO(a_:fe)(b_:fe):Option (Int):=(cE a_.X b_.X).bind λx1=>(cE a_.Y b_.Y).bind λx2=>(mV ([x1,x2])).bind λx3=>some x3
def VH:=mk 207 [.st 1, .st 1] [.int] (λx=>kO x.1 x.2) [k68,k67] [] Tryz.f207 (.n) Tryz.func207 Tryz.call207 rfl rfl λx=>by kernel_rfl
def iX(s_:bX)(t_:bX):Option (Bool):=some ((decide ((max (min s_.a.X s_.b.X) (min t_.a.X t_.b.X))<=(min (max s_.a.X s_.b.X) (max t_.a.X t_.b.X))))&&(decide ((max (min s_.a.Y s_.b.Y) (min t_.a.Y t_.b.Y))<=(min (max s_.a.Y s_.b.Y) (max t_.a.Y t_.b.Y)))))
def WI:=mk 208 [.st 0, .st 0] [.bool] (λx=>iX x.1 x.2) [] [] Tryz.f208 (.n) Tryz.func208 Tryz.call208 rfl rfl λx=>by kernel_rfl
def jH(p_:(List fe))(x1:(List bX))(s1:Int):Option (aY (Int) (Bool)):=if(decide (s1<(x1.length:Int)))then(aL x1 s1).bind λx2=>(bh s1 1).bind λx3=>(Kv x3 (x1.length:Int)).bind λx4=>(aL x1 x4).bind λx5=>(qf x2.a).bind λx6=>(if((!x6)||((x2.a.X==x2.b.X)==(x2.a.Y==x2.b.Y)))then some true else(dA x2).bind λx7=>(dA x5).bind λx8=>some (x7==x8)).bind λx9=>if x9 then some (.ret false)else(if(decide (0<s1))then(aL p_ 0).bind λx10=>(aL p_ s1).bind λx11=>(kO x10 x11).bind λx12=>some (decide (0<=x12))else some false).bind λx13=>if x13 then some (.ret false)else(bh s1 1).bind λx14=>some (.go x14)else some (.ex 0 s1)
def eI(x1:(List bX))(s1:Int)(s2:Int):Option (aY (Int) (Bool)):=if(decide (s2<(x1.length:Int)))then(bh s1 (x1.length:Int)).bind λx2=>(fi x2 s2).bind λx3=>(if(decide (1<x3))then(aL x1 s1).bind λx4=>(aL x1 s2).bind λx5=>(iX x4 x5).bind λx6=>some x6 else some false).bind λx7=>if x7 then some (.ret false)else(bh s2 1).bind λx8=>some (.go x8)else some (.ex 4 s2)
def mY(x1:(List bX))(s1:Int):Option (aY (Int) (Bool)):=if(decide (s1<(x1.length:Int)))then(bh s1 2).bind λx2=>(ar (eI x1 s1) (x1.length+1) x2).bind λf1=>match f1 with| .go _=>none| .ex _ _=>(bh s1 1).bind λx3=>some (.go x3)| .ret r1=>some (.ret r1)else some (.ex 2 s1)
def qO(p_:(List fe)):Option (Bool):=if((decide ((p_.length:Int)<4))||(decide (60<(p_.length:Int))))then some false else(jt p_).bind λx1=>(ar (jH p_ x1) (x1.length+1) 0).bind λf1=>match f1 with
 | .go _=>none| .ex _ _=>(ar (mY x1) (x1.length+1) 0).bind λf2=>match f2 with| .go _=>none| .ex _ _=>(aL x1 0).bind λx2=>(dA x2).bind λx3=>some (!x3)| .ret r1=>some r1
 | .ret r2=>some r2
def XO:=mk 175 [.list (.st 1)] [.bool] (λx=>qO x) [T6,XX,Uz,VH,WI] [] Tryz.f175 (.s .n (.s .n (.s .n (.s (.s .n (.l [] [(21, .v .int)] [(0,[21],[])] (fI 20) .n)) (.s (.s .n (.l [] [(78, .v .int)] [(2,[78],[])] (fI 77) (.s .n (.s .n (.s (.s .n (.s .n (.l [] [(8, .v .int)] [(4,[8],[])] (fL [3]) .n))) .n))))) .n))))) Tryz.func175 Tryz.call175 rfl rfl λx=>by kernel_rfl
section
open Go.Proofs Go.RowKit Go.Lib Go.Sort Go.Shelf
def Tryz.Cc:Go.Shelf.Ren:=⟨λ|189=>176|125=>101|257=>209|128=>148|129=>149|294=>228|295=>229|296=>230|297=>231|298=>232|299=>233|216=>170|300=>234|301=>235|328=>243|329=>185|330=>186|331=>244|332=>245|215=>106|343=>251|n=>n,λ|28=>38|3=>3|46=>158|0=>0|51=>242|53=>244|4=>4|183=>236|182=>235|131=>108|5=>5|9=>9|218=>272|222=>276|228=>302|229=>303|n=>n,λ|n=>n⟩
theorem Tryz.Dy:Go.Proofs.Lays.n189 Tryz.prog Tryz.Cc:={mixed:=by kernel_rfl,f125:=Tryz.func101.trans (congrArg some (by kernel_rfl)),f128:=Tryz.func148.trans (congrArg some (by kernel_rfl)),f129:=Tryz.func149.trans (congrArg some (by kernel_rfl)),f189:=Tryz.func176.trans (congrArg some (by kernel_rfl)),f215:=Tryz.func106.trans (congrArg some (by kernel_rfl)),f216:=Tryz.func170.trans (congrArg some (by kernel_rfl)),f257:=Tryz.func209.trans (congrArg some (by kernel_rfl)),f294:=Tryz.func228.trans (congrArg some (by kernel_rfl)),f295:=Tryz.func229.trans (congrArg some (by kernel_rfl)),f296:=Tryz.func230.trans (congrArg some (by kernel_rfl)),f297:=Tryz.func231.trans (congrArg some (by kernel_rfl)),f298:=Tryz.func232.trans (congrArg some (by kernel_rfl)),f299:=Tryz.func233.trans (congrArg some (by kernel_rfl)),f300:=Tryz.func234.trans (congrArg some (by kernel_rfl)),f301:=Tryz.func235.trans (congrArg some (by kernel_rfl)),f328:=Tryz.func243.trans (congrArg some (by kernel_rfl)),f329:=Tryz.func185.trans (congrArg some (by kernel_rfl)),f330:=Tryz.func186.trans (congrArg some (by kernel_rfl)),f331:=Tryz.func244.trans (congrArg some (by kernel_rfl)),f332:=Tryz.func245.trans (congrArg some (by kernel_rfl)),f343:=Tryz.func251.trans (congrArg some (by kernel_rfl)),t0:=Tryz.underlying0,a0:=Tryz.isAgg0,z0:=Tryz.sizeOf0,v0:=Tryz.zeroValue0,t3:=Tryz.underlying3,a3:=Tryz.isAgg3,z3:=Tryz.sizeOf3,v3:=Tryz.zeroValue3,t4:=Tryz.underlying4,a4:=Tryz.isAgg4,z4:=Tryz.sizeOf4,v4:=Tryz.zeroValue4,t5:=Tryz.underlying5,a5:=Tryz.isAgg5,z5:=Tryz.sizeOf5,v5:=Tryz.zeroValue5,t9:=Tryz.underlying9,a9:=Tryz.isAgg9,z9:=Tryz.sizeOf9,v9:=Tryz.zeroValue9,t28:=Tryz.underlying38,a28:=Tryz.isAgg38,z28:=Tryz.sizeOf38,v28:=Tryz.zeroValue38,t46:=Tryz.underlying158,a46:=Tryz.isAgg158,z46:=Tryz.sizeOf158,v46:=Tryz.zeroValue158,t51:=Tryz.underlying242,a51:=Tryz.isAgg242,z51:=Tryz.sizeOf242,v51:=Tryz.zeroValue242,t53:=Tryz.underlying244,a53:=Tryz.isAgg244,z53:=Tryz.sizeOf244,v53:=Tryz.zeroValue244,t131:=Tryz.underlying108,a131:=Tryz.isAgg108,z131:=Tryz.sizeOf108,v131:=Tryz.zeroValue108,t182:=Tryz.underlying235,a182:=Tryz.isAgg235,z182:=Tryz.sizeOf235,v182:=Tryz.zeroValue235,t183:=Tryz.underlying236,a183:=Tryz.isAgg236,z183:=Tryz.sizeOf236,v183:=Tryz.zeroValue236,t218:=Tryz.underlying272,a218:=Tryz.isAgg272,z218:=Tryz.sizeOf272,v218:=Tryz.zeroValue272,t222:=Tryz.underlying276,a222:=Tryz.isAgg276,z222:=Tryz.sizeOf276,v222:=Tryz.zeroValue276,t228:=Tryz.underlying302,a228:=Tryz.isAgg302,z228:=Tryz.sizeOf302,v228:=Tryz.zeroValue302,t229:=Tryz.underlying303,a229:=Tryz.isAgg303,z229:=Tryz.sizeOf303,v229:=Tryz.zeroValue303}
theorem Gh{k0:K}{v0:Value}{l r:List Int}(i0:ah 0 3 l v0 k0)(hr:kq l=some r):Calls Tryz.prog 176 #[v0] k0.w (cr (obF v0) k0 λ_ k'=>ah 0 3 r v0 k'):=by
 unfold kq at hr;rw[OU]at hr;split at hr
 .rename_i hl;obtain rfl:=ae hr;refine Li (S:=λl=>l.mergeSort λx y=>decide (x<=y)) (List.length_mergeSort _) (λp cap w=>?_) (λblk off cap w hH hblk=>?_) i0;.have hcon:=Any.slices_Sort_int_none Tryz.Dy p cap w;change Calls Tryz.prog 176 _ _ _ at hcon;exact hcon
  .have hcon:=Any.slices_Sort_int Tryz.Dy blk off cap l w hH hblk (by omega);change Calls Tryz.prog 176 _ _ _ at hcon;exact hcon
 .simp at hr
end
def Kk:FkR tb Tryz.prog:=⟨176,fnT tb [.tu] 3 .int (λx y=>kq y),NF Tryz.call176 λk0 vs u1 u2 x y r hG h hy hr=>by obtain⟨vs0,rfl,h1⟩:=h.tu;obtain rfl:=h1.nil;exact Gh hy hr⟩
section
open Go.Proofs Go.RowKit Go.Lib Go.Sort Go.Shelf
def Tryz.EP:Go.Shelf.Ren:=⟨λ|20=>177|n=>n,λ|22=>38|3=>3|4=>4|0=>0|n=>n,λ|n=>n⟩
theorem Tryz.Ga:Go.Proofs.Lays2.n20 Tryz.prog Tryz.EP:={mixed:=by kernel_rfl,f20:=Tryz.func177.trans (congrArg some (by kernel_rfl)),t0:=Tryz.underlying0,a0:=Tryz.isAgg0,z0:=Tryz.sizeOf0,v0:=Tryz.zeroValue0,t3:=Tryz.underlying3,a3:=Tryz.isAgg3,z3:=Tryz.sizeOf3,v3:=Tryz.zeroValue3,t4:=Tryz.underlying4,a4:=Tryz.isAgg4,z4:=Tryz.sizeOf4,v4:=Tryz.zeroValue4,t22:=Tryz.underlying38,a22:=Tryz.isAgg38,z22:=Tryz.sizeOf38,v22:=Tryz.zeroValue38,i3:=by kernel_rfl}
theorem Bc{k0:K}{v0:Value}{l r:List Int}(i0:ah 0 3 l v0 k0)(hr:gn l=some r):Calls Tryz.prog 177 #[v0] k0.w (cr (obF v0) k0 (EE v0 k0 3 r)):=by
 unfold gn at hr;split at hr
 .rename_i hl;obtain rfl:=ae hr;refine EC AK hl (λp cap w=>?_) (λblk off cap w hH hc=>?_) i0;.have hcon:=Any.slices_Compact_int_empty Tryz.Ga p cap w;change Calls Tryz.prog 177 _ _ _ at hcon;exact hcon
  .have hcon:=Any.slices_Compact_int Tryz.Ga blk off cap l w hH (by omega) hc;change Calls Tryz.prog 177 _ _ _ at hcon;exact hcon
 .simp at hr
end
def JL:FkR tb Tryz.prog:=⟨177,fnK tb [.tk] 3 .int 3 .int (λx z=>gn z),SU Tryz.call177 λk0 vs u1 u2 x z r hG h hz hr=>by obtain⟨vs0,rfl,h1⟩:=h.tk;obtain rfl:=h1.nil;exact Bc hz hr⟩
def iS(p_:(List fe))(s1:(List Int)×Int):Option (aY ((List Int)×Int) ((List ay)×Int)):=if(decide (s1.2<(p_.length:Int)))then(aL p_ s1.2).bind λx1=>(eb s1.1 ([x1.X])).bind λx2=>(bh s1.2 1).bind λx3=>some (.go (x2,x3))else some (.ex 0 (s1.1,s1.2))
def gd(x1:(List Int))(x2:(List bX))(s1:(List ay)×Int)(s2:(List Int)×Int):Option (aY ((List Int)×Int) ((List ay)×Int)):=if(decide (s2.2<(x2.length:Int)))then(aL x2 s2.2).bind λx3=>(dA x3).bind λx4=>(if(!x4)then(aL x1 s1.2).bind λx5=>some (decide ((min x3.a.X x3.b.X)<=x5))else some false).bind λx6=>(if x6 then(aL x1 s1.2).bind λx7=>some (decide (x7<(max x3.a.X x3.b.X)))else some false).bind λx8=>(if x8 then(eb s2.1 ([x3.a.Y])).bind λx9=>some x9 else some s2.1).bind λs3=>(bh s2.2 1).bind λx10=>some (.go (s3,x10))else some (.ex 4 (s2.1,s2.2))
def gm(x1:(List Int))(s1:(List ay)×Int)(x2:(List Int))(s2:(List ay)×Int):Option (aY ((List ay)×Int) ((List ay)×Int)):=(bh s2.2 1).bind λx3=>if(decide (x3<(x2.length:Int)))then(aL x1 s1.2).bind λx4=>(aL x2 s2.2).bind λx5=>(bh s1.2 1).bind λx6=>(aL x1 x6).bind λx7=>(bh s2.2 1).bind λx8=>(aL x2 x8).bind λx9=>(eb s2.1 ([(⟨x4,x5,x7,x9⟩:ay)])).bind λx10=>(bh s2.2 2).bind λx11=>some (.go (x10,x11))else some (.ex 6 (s2.1,s2.2))
def iU(x1:(List Int))(x2:(List bX))(x3:Int)(s1:(List ay)×Int):Option (aY ((List ay)×Int) ((List ay)×Int)):=if(decide (s1.2<x3))then(ar (gd x1 x2 s1) (x2.length+1) (([]:List Int),0)).bind λf1=>match f1 with
 | .go _=>none| .ex _ s2=>(kq s2.1).bind λx4=>(ar (gm x1 s1 x4) (x1.length+x2.length+s1.1.length+x4.length+1) (s1.1,0)).bind λf2=>match f2 with| .go _=>none| .ex _ s3=>(bh s1.2 1).bind λx5=>some (.go (s3.1,x5))| .ret r1=>some (.ret r1)
 | .ret r2=>some (.ret r2)else some (.ex 2 (s1.1,s1.2))
def mo(p_:(List fe)):Option ((List ay)×Int):=(qO p_).bind λx1=>if(!x1)then some (([]:List ay),10)else(ar (iS p_) (p_.length+1) (([]:List Int),0)).bind λf1=>match f1 with
 | .go _=>none| .ex _ s1=>(kq s1.1).bind λx2=>(gn x2).bind λx3=>(jt p_).bind λx4=>(fi (x3.length:Int) 1).bind λx5=>(ar (iU x3 x4 x5) (x5.toNat+1) (([]:List ay),0)).bind λf2=>match f2 with| .go _=>none| .ex _ s2=>if(decide (200<(s2.1.length:Int)))then some (([]:List ay),6)else some (s2.1,0)| .ret r1=>some r1
 | .ret r2=>some r2
def Xi:=mkc 129 [.list (.st 1)] [.list (.st 2), .int] (λx=>mo x) [XO,T6,Uz] [Kk,JL] [4,8,10,23,27,29,31,78,83,85,94,115] Tryz.f129 (.s .n (.s .n (.s .n (.s (.s .n (.l [] [(4, .o 3 .int),(19, .v .int)] [(0,[19],[])] (fI 18) .n)) (.s .n (.s .n (.s (.f [4] .n) (.s (.f [4] .n) (.s (.s (.f [4] .n) (.l [] [(8, .o 126 (.st 2)),(38, .v .int)] [(2,[38],[])] (fI 37) (.s (.f [4] .n) (.s .n (.s (.s (.f [4] .n) (.s (.f [4] .n) (.s (.s (.f [4] .n) (.l [] [(10, .o 3 .int),(43, .v .int)] [(4,[43],[])] (fI 42) (.s (.f [4] .n) (.s .n (.s (.s (.f [4] .n) (.s (.f [4] .n) (.j [] [(10, .o 3 .int)] ([],[]) (.s (.f [4] .n) .n)))) (.f [4] .n)))))) (.s (.f [4] .n) (.s (.f [4,10] .n) (.l [] [(8, .o 126 (.st 2)),(13, .v .int)] [(6,[13],[])] (fL [4,7,8,10]) (.s (.s (.f [4,10] .n) .n) (.s (.f [4,10] .n) (.f [4,10] .n))))))))) (.f [4] .n)))))) (.s (.s (.f [8] .n) .n) (.s (.f [8] .n) .n))))))))))) Tryz.func129 Tryz.call129 rfl rfl λx=>by kernel_rfl
def jJ(r_:ay):Option (ay×Bool):=(eZ r_).bind λx1=>if x1 then some (r_,true)else some ((⟨0,0,0,0⟩:ay),false)
def Ur:=mk 168 [.st 2] [.st 2, .bool] (λx=>jJ x) [Iu] [2] Tryz.f168 (.n) Tryz.func168 Tryz.call168 rfl rfl λx=>by kernel_rfl
def gK(a_:ay)(b_:ay):Option (ay×Bool):=(eZ a_).bind λx1=>(if(!x1)then some true else(eZ b_).bind λx2=>some (!x2)).bind λx3=>if x3 then some ((⟨0,0,0,0⟩:ay),false)else(jJ (⟨(max a_.X0 b_.X0),(max a_.Y0 b_.Y0),(min a_.X1 b_.X1),(min a_.Y1 b_.Y1)⟩:ay)).bind λx4=>some (x4.1,x4.2)
def TX:=mk 131 [.st 2, .st 2] [.st 2, .bool] (λx=>gK x.1 x.2) [Iu,Ur] [4] Tryz.f131 (.n) Tryz.func131 Tryz.call131 rfl rfl λx=>by kernel_rfl
def mN(s_:(List ay))(f_:(ay->Option (Bool))):Option (Int):=BV s_ f_
def XQ:=mk 180 [.list (.st 2), .f1 (.st 2) .bool] [.int] (λx=>mN x.1 x.2) [] [] Tryz.f180 (.s .n (.s (.s .n (.l [] [(8, .v .int)] [(0,[8],[])] (fI 7) .n)) .n)) Tryz.func180 Tryz.call180 rfl rfl λx=>by kernel_rfl
def de(s_:(List ay))(f_:(ay->Option (Bool))):Option (Bool):=(mN s_ f_).bind λx1=>some (decide (0<=x1))
def Sr:=mk 132 [.list (.st 2), .f1 (.st 2) .bool] [.bool] (λx=>de x.1 x.2) [XQ] [] Tryz.f132 (.n) Tryz.func132 Tryz.call132 rfl rfl λx=>by kernel_rfl
def hY(s_:(List Entry))(f_:(Entry->Option (Bool))):Option (Int):=BV s_ f_
def XZ:=mk 210 [.list (.st 6), .f1 (.st 6) .bool] [.int] (λx=>hY x.1 x.2) [] [] Tryz.f210 (.s .n (.s (.s .n (.l [] [(8, .v .int)] [(0,[8],[])] (fI 7) .n)) .n)) Tryz.func210 Tryz.call210 rfl rfl λx=>by kernel_rfl
def nD(e_:Entry)(p1_:(ByteArray×ByteArray×ByteArray×ByteArray×ByteArray×ByteArray))(p2_:Int):Option (Bool):=(aL ([p1_.1,p1_.2.1,p1_.2.2.1,p1_.2.2.2.1,p1_.2.2.2.2.1,p1_.2.2.2.2.2]:List ByteArray) p2_).bind λx1=>some ((e_.Name.toList==x1.toList))
def WQ:=mk 211 [.st 6, .rf (.st 33), .rf .int] [.bool] (λx=>nD x.1 x.2.1 x.2.2) [] [] Tryz.f211 (.n) Tryz.func211 Tryz.call211 rfl rfl λx=>by kernel_rfl
def lW(p_:az)(use_:Int)(s1:Int):Option (aY (Int) (Int)):=if(decide (s1<(p_.Tables.length:Int)))then(aL p_.Tables s1).bind λx1=>if(!(x1.Name.toList==(⟨#[116,114,97,102,102,105,99]⟩:ByteArray).toList))then(bh s1 1).bind λx2=>some (.go x2)else(hY x1.Rows (λy0=>nD y0 (((⟨#[104,111,109,101]⟩:ByteArray),(⟨#[115,104,111,112]⟩:ByteArray),(⟨#[119,111,114,107]⟩:ByteArray),(⟨#[112,97,114,107]⟩:ByteArray),(⟨#[112,108,97,110,116]⟩:ByteArray),(⟨#[104,97,108,108]⟩:ByteArray)):(ByteArray×ByteArray×ByteArray×ByteArray×ByteArray×ByteArray)) use_)).bind λx3=>(if(decide (0<=x3))then(aL x1.Rows x3).bind λx4=>some x4.N else some x1.Else).bind λs2=>some (.ret (max 0 (min s2 1048576)))else some (.ex 0 s1)
def qp(p_:az)(use_:Int):Option (Int):=(ar (lW p_ use_) (p_.Tables.length+1) 0).bind λf1=>match f1 with| .go _=>none| .ex _ _=>some 0| .ret r1=>some r1
def VE:=mk 181 [.st 8, .int] [.int] (λx=>qp x.1 x.2) [WQ,XZ] [] Tryz.f181 (.s .n (.s .n (.s (.s .n (.l [] [(14, .v .int)] [(0,[14],[])] (fI 13) (.s .n (.s .n (.s (.s .n (.s .n (.s .n (.s (.s .n (.s .n (.j [] [(8, .v .int)] ([],[]) (.s .n .n)))) .n)))) .n))))) .n))) Tryz.func181 Tryz.call181 rfl rfl λx=>by kernel_rfl
def iG(r_:ay):Option (Int):=(jJ r_).bind λx1=>(fi x1.1.X1 x1.1.X0).bind λx2=>(fi x1.1.Y1 x1.1.Y0).bind λx3=>(El x2 x3).bind λx4=>some x4
def P6:=mk 120 [.st 2] [.int] (λx=>iG x) [Ur] [1] Tryz.f120 (.n) Tryz.func120 Tryz.call120 rfl rfl λx=>by kernel_rfl
def kV(v_:aF):Option (Int):=(if v_.Extra then some true else(dh v_).bind λx1=>some (!x1)).bind λx2=>if x2 then some 0 else(fi v_.Box.Z1 v_.Box.Z0).bind λx3=>(bh x3 3).bind λx4=>(fi x4 1).bind λx5=>(HY x5 3).bind λx6=>some x6
def X4:=mk 212 [.st 4] [.int] (λx=>kV x) [Pz] [] Tryz.f212 (.n) Tryz.func212 Tryz.call212 rfl rfl λx=>by kernel_rfl
def nF(v_:aF):Option (Int):=(dh v_).bind λx1=>if(!x1)then some 0 else(iG v_.Box.Base).bind λx2=>(kV v_).bind λx3=>(El x2 x3).bind λx4=>some x4
def WA:=mk 182 [.st 4] [.int] (λx=>nF x) [Pz,P6,X4] [] Tryz.f182 (.n) Tryz.func182 Tryz.call182 rfl rfl λx=>by kernel_rfl
def kC(p_:az)(v_:aF):Option (Int):=(qp p_ v_.Use).bind λx1=>(nF v_).bind λx2=>(if(decide (0<x1))then(HY 109951162777600 x1).bind λx3=>some (decide (x3<x2))else some false).bind λx4=>if x4 then some 1099511627776 else(El x1 x2).bind λx5=>(bh x5 100).bind λx6=>(fi x6 1).bind λx7=>(HY x7 100).bind λx8=>some x8
def VU:=mk 133 [.st 8, .st 4] [.int] (λx=>kC x.1 x.2) [VE,WA] [] Tryz.f133 (.n) Tryz.func133 Tryz.call133 rfl rfl λx=>by kernel_rfl
def qj(r_:ay)(p1_:aF):Option (Bool):=(gK r_ p1_.Box.Base).bind λx1=>some x1.2
def Wk:=mk 130 [.st 2, .rf (.st 4)] [.bool] (λx=>qj x.1 x.2) [TX] [] Tryz.f130 (.n) Tryz.func130 Tryz.call130 rfl rfl λx=>by kernel_rfl
def hM(p_:az)(c_:Cap)(v_:aF):Option (Int):=(dh v_).bind λx1=>if(!x1)then some 0 else(mo c_.Corners).bind λx2=>(if(x2.2!=0)then some true else(de x2.1 (λy0=>qj y0 v_)).bind λx3=>some (!x3)).bind λx4=>if x4 then some 0 else if(c_.Load==0)then some v_.Units else if(c_.Load==1)then(kC p_ v_).bind λx5=>some x5 else if(c_.Load==2)then(iG v_.Box.Base).bind λx6=>some x6 else some 0
def k85:=mk 85 [.st 8, .st 15, .st 4] [.int] (λx=>hM x.1 x.2.1 x.2.2) [Pz,Xi,Wk,Sr,VU,P6] [] Tryz.f85 (.n) Tryz.func85 Tryz.call85 rfl rfl λx=>by kernel_rfl
def qG(t_:aP)(c_:Cap)(s1:Int×Int):Option (aY (Int×Int) (Int)):=if(decide (s1.2<(t_.Built.length:Int)))then(aL t_.Built s1.2).bind λx1=>(hM t_.az c_ x1.aF).bind λx2=>(bh s1.1 x2).bind λx3=>(bh s1.2 1).bind λx4=>some (.go (x3,x4))else some (.ex 0 (s1.1,s1.2))
def rM(t_:aP)(c_:Cap):Option (Int):=(sb t_.Base c_).bind λx1=>(ar (qG t_ c_) (t_.Built.length+1) (x1,0)).bind λf1=>match f1 with| .go _=>none| .ex _ s1=>some s1.1| .ret r1=>some r1
def k51:=mk 51 [.st 7, .st 15] [.int] (λx=>rM x.1 x.2) [k84,k85] [] Tryz.f51 (.s .n (.s .n (.s (.s .n (.l [] [(5, .v .int),(15, .v .int)] [(0,[15],[])] (fI 14) .n)) .n))) Tryz.func51 Tryz.call51 rfl rfl λx=>by kernel_rfl
theorem F5{k0:K}{v0 v1:Value}{x0:aP}{x1:Cap}{r:Int}(i0:(IsV x0) v0 k0)(i1:(IsV x1) v1 k0)(hr:rM x0 x1=some r):Calls Tryz.prog 51 #[v0,v1] k0.w (Ret k0 (IsV r)):=(k51.ok.ok k0 [v0,v1] (x0,x1) r (GOk.none (λ _=>rfl) λ _ e=>by cases e) ⟨i0,i1⟩ hr)
def gy(r_:ai):Option (Bool):=some (((!r_.Over)&&(decide (0<=r_.Used)))&&(decide (r_.Used<(r_.ax.Phases.length:Int))))
def k22:=mk 22 [.st 29] [.bool] (λx=>gy x) [] [] Tryz.f22 (.n) Tryz.func22 Tryz.call22 rfl rfl λx=>by kernel_rfl
def ew(s_:(List aF)):Option ((List aF)):=(eb [] s_).bind λx1=>some x1
theorem tG{k0:K}{v0:Value}{s_:(List aF)}{r:(List aF)}(i0:(IsV s_) v0 k0)(hr:ew s_=some r):Calls Tryz.prog 82 #[v0] k0.w (Ret k0 (IsV r)):=pP (yI Tryz.func82 (by kernel_rfl) Tryz.ntmps82 rfl Tryz.underlying137 UJ i0 hr)
def k82:=mkO 82 [.list (.st 4)] [.list (.st 4)] (λx=>ew x) Tryz.call82 λk0 vs x r hG h hr=>by obtain⟨v0,rfl,i0⟩:=h.one;exact tG i0 hr
def bW(s_:(List Entry)):Option ((List Entry)):=(eb [] s_).bind λx1=>some x1
theorem mg{k0:K}{v0:Value}{s_:(List Entry)}{r:(List Entry)}(i0:(IsV s_) v0 k0)(hr:bW s_=some r):Calls Tryz.prog 54 #[v0] k0.w (Ret k0 (ah k0.w.heap.size 135 r)):=yI Tryz.func54 (by kernel_rfl) Tryz.ntmps54 rfl Tryz.underlying35 OP i0 hr
theorem tQ{k0:K}{v0:Value}{s_:(List Entry)}{r:(List Entry)}(i0:(IsV s_) v0 k0)(hr:bW s_=some r):Calls Tryz.prog 54 #[v0] k0.w (Ret k0 (IsV r)):=pP (mg i0 hr)
def k54:=mkO 54 [.list (.st 6)] [.list (.st 6)] (λx=>bW x) Tryz.call54 λk0 vs x r hG h hr=>by obtain⟨v0,rfl,i0⟩:=h.one;exact tQ i0 hr
def jK(l_:(List Phase))(s1:(List Phase)×Int):Option (aY ((List Phase)×Int) ((List Phase))):=if(decide (s1.2<(l_.length:Int)))then(aL l_ s1.2).bind λx1=>(ew x1.Volumes).bind λx2=>(bW x1.cd).bind λx3=>(eb s1.1 ([(⟨x2,x3⟩:Phase)])).bind λx4=>(bh s1.2 1).bind λx5=>some (.go (x4,x5))else some (.ex 0 (s1.1,s1.2))
def nA(l_:(List Phase)):Option ((List Phase)):=(ar (jK l_) (l_.length+1) (([]:List Phase),0)).bind λf1=>match f1 with| .go _=>none| .ex _ s1=>some s1.1| .ret r1=>some r1
def k95:=mk 95 [.list (.st 3)] [.list (.st 3)] (λx=>nA x) [k82,k54] [3,12,21] Tryz.f95 (.s .n (.s .n (.s (.s .n (.l [] [(3, .o 139 (.st 3)),(8, .v .int)] [(0,[8],[])] (fI 7) .n)) (.s (.f [3] .n) .n)))) Tryz.func95 Tryz.call95 rfl rfl λx=>by kernel_rfl
def nJ(r_:ai):Option ((List Phase)):=(gy r_).bind λx1=>if(!x1)then some ([]:List Phase)else(ic r_.ax.Phases r_.Used (r_.ax.Phases.length:Int)).bind λx2=>(nA x2).bind λx3=>some x3
def k55:=mk 55 [.st 29] [.list (.st 3)] (λx=>nJ x) [k22,k95] [] Tryz.f55 (.n) Tryz.func55 Tryz.call55 rfl rfl λx=>by kernel_rfl
def o8(p_:az)(c_:Cap)(ph_:Phase)(s1:Int×Int):Option (aY (Int×Int) (Int)):=if(decide (s1.2<(ph_.Volumes.length:Int)))then(aL ph_.Volumes s1.2).bind λx1=>(hM p_ c_ x1).bind λx2=>(bh s1.1 x2).bind λx3=>(bh s1.2 1).bind λx4=>some (.go (x3,x4))else some (.ex 0 (s1.1,s1.2))
def vh(p_:az)(c_:Cap)(ph_:Phase):Option (Int):=(sb ph_.cd c_).bind λx1=>(fi 0 x1).bind λx2=>(ar (o8 p_ c_ ph_) (ph_.Volumes.length+1) (x2,0)).bind λf1=>match f1 with| .go _=>none| .ex _ s1=>some s1.1| .ret r1=>some r1
def WZ:=mk 105 [.st 8, .st 15, .st 3] [.int] (λx=>vh x.1 x.2.1 x.2.2) [k84,k85] [] Tryz.f105 (.s .n (.s .n (.s (.s .n (.l [] [(7, .v .int),(18, .v .int)] [(0,[18],[])] (fI 17) .n)) .n))) Tryz.func105 Tryz.call105 rfl rfl λx=>by kernel_rfl
def pa(p_:az)(c_:Cap)(x1:(List Phase))(s1:(List Int)×Int):Option (aY ((List Int)×Int) ((List Int))):=if(decide (s1.2<(x1.length:Int)))then(aL x1 s1.2).bind λx2=>(vh p_ c_ x2).bind λx3=>(eb s1.1 ([x3])).bind λx4=>(bh s1.2 1).bind λx5=>some (.go (x4,x5))else some (.ex 0 (s1.1,s1.2))
def po(p_:az)(c_:Cap)(r_:ai):Option ((List Int)):=(nJ r_).bind λx1=>(ar (pa p_ c_ x1) (x1.length+1) (([]:List Int),0)).bind λf1=>match f1 with| .go _=>none| .ex _ s1=>some s1.1| .ret r1=>some r1
def k63:=mk 63 [.st 8, .st 15, .st 29] [.list .int] (λx=>po x.1 x.2.1 x.2.2) [k55,WZ] [7,17,23] Tryz.f63 (.s .n (.s .n (.s (.s .n (.l [] [(7, .o 3 .int),(13, .v .int)] [(0,[13],[])] (fI 12) .n)) (.s (.f [7] .n) .n)))) Tryz.func63 Tryz.call63 rfl rfl λx=>by kernel_rfl
theorem Eu{k0:K}{v0 v1 v2:Value}{x0:az}{x1:Cap}{x2:ai}{r:(List Int)}(i0:(IsV x0) v0 k0)(i1:(IsV x1) v1 k0)(i2:(IsV x2) v2 k0)(hr:po x0 x1 x2=some r):Calls Tryz.prog 63 #[v0,v1,v2] k0.w (Ret k0 (IsV r)):=(k63.ok.ok k0 [v0,v1,v2] (x0,x1,x2) r (GOk.none (λ _=>rfl) λ _ e=>by cases e) ⟨i0,i1,i2⟩ hr)
def ib(l_:(List Int))(s1:(List Int)×Int):Option (aY ((List Int)×Int) ((List Int))):=if(decide (s1.2<(l_.length:Int)))then(aL l_ s1.2).bind λx1=>(aL s1.1 s1.2).bind λx2=>(bh x2 x1).bind λx3=>(eb s1.1 ([x3])).bind λx4=>(bh s1.2 1).bind λx5=>some (.go (x4,x5))else some (.ex 0 (s1.1,s1.2))
def kX(l_:(List Int)):Option ((List Int)):=(ar (ib l_) (l_.length+1) ([0],0)).bind λf1=>match f1 with| .go _=>none| .ex _ s1=>some s1.1| .ret r1=>some r1
def Xq:=mk 104 [.list .int] [.list .int] (λx=>kX x) [] [3,6,14,22] Tryz.f104 (.s .n (.s .n (.s (.s .n (.l [] [(3, .o 3 .int),(9, .v .int)] [(0,[9],[])] (fI 8) .n)) (.s (.f [3] .n) .n)))) Tryz.func104 Tryz.call104 rfl rfl λx=>by kernel_rfl
def iR(x_:(List Int))(s1:Int×Int):Option (aY (Int×Int) (Int)):=if(decide (s1.2<(x_.length:Int)))then(aL x_ s1.2).bind λx1=>(bh s1.2 1).bind λx2=>some (.go ((max s1.1 x1),x2))else some (.ex 0 (s1.1,s1.2))
def mr(x_:(List Int)):Option (Int):=if(decide ((x_.length:Int)<1))then none else(aL x_ 0).bind λx1=>(ar (iR x_) (x_.length+1) (x1,1)).bind λf1=>match f1 with| .go _=>none| .ex _ s1=>some s1.1| .ret r1=>some r1
def Wg:=mk 103 [.list .int] [.int] (λx=>mr x) [] [] Tryz.f103 (.s .n (.s .n (.s .n (.s (.s .n (.l [] [(3, .v .int),(4, .v .int)] [(0,[4],[])] (fL [0]) .n)) .n)))) Tryz.func103 Tryz.call103 rfl rfl λx=>by kernel_rfl
def lu(l_:(List Int)):Option (Int):=(kX l_).bind λx1=>(mr x1).bind λx2=>some x2
def k62:=mk 62 [.list .int] [.int] (λx=>lu x) [Xq,Wg] [] Tryz.f62 (.n) Tryz.func62 Tryz.call62 rfl rfl λx=>by kernel_rfl
theorem Bp{k0:K}{v0:Value}{x0:(List Int)}{r:Int}(i0:(IsV x0) v0 k0)(hr:lu x0=some r):Calls Tryz.prog 62 #[v0] k0.w (Ret k0 (IsV r)):=(k62.ok.ok k0 [v0] x0 r (GOk.none (λ _=>rfl) λ _ e=>by cases e) i0 hr)
def qz(t_:aP)(rights_:(List ai))(c_:Cap)(s1:jP×Int):Option (aY (jP×Int) (jP)):=if(decide (s1.2<(rights_.length:Int)))then(aL rights_ s1.2).bind λx1=>(po t_.az c_ x1).bind λx2=>(lu x2).bind λx3=>(eb s1.1.Tops ([x3])).bind λx4=>(bh s1.2 1).bind λx5=>some (.go ({s1.1 with Tops:=x4},x5))else some (.ex 0 (s1.1,s1.2))
def pG(t_:aP)(rights_:(List ai))(c_:Cap):Option (jP):=(rM t_ c_).bind λx1=>(ar (qz t_ rights_ c_) (rights_.length+1) ((⟨c_.Name,x1,[]⟩:jP),0)).bind λf1=>match f1 with| .go _=>none| .ex _ s1=>some s1.1| .ret r1=>some r1
def IG:Nat->Code->Env tb->(R:Type)->(Env tb->Option R)->Option R|0, .region 1 _ _,e,_,K=>(qC e 3 (.st 7)).bind λ (t:aP)=>(qC e 5 (.st 15)).bind λ (c:Cap)=>bif pS [7,10,11,12,13,14,15] e then(rM t c).bind λn=>K ((7, .rs false 4 (⟨c.Name,n,[]⟩:jP))::iV (klA 7) e)else none|1, .region 5 _ _,e,_,K=>(eV e 7 (.c 4)).bind λ (x:jP)=>(qC e 3 (.st 7)).bind λ (t:aP)=>(qC e 5 (.st 15)).bind λ (c:Cap)=>(qC e 9 (.st 29)).bind λ (y:ai)=>bif pS [22,23,24,25,26,27,28,29,30,31,32] e then(po t.az c y).bind λl=>(lu l).bind λu=>(eb x.Tops [u]).bind λz=>K ((7, .rs false 4 ({x with Tops:=z}:jP))::iV (klA 7) e)else none|2, .region 7 A d,e,_,K=>(eV e 7 (.c 4)).bind λ (x:jP)=>evR (chZ [6,7] Tryz.f23) A.toList d ((7, .ref (.st 34) x)::iV (klA 7) e) K|_,_,_,_,_=>none
def SQ(ks:List (Fk tb Tryz.prog))(rks:List (FkR tb Tryz.prog)):Cx tb:=⟨Tryz.prog,tid,eqs,gx ks,fN rks,false,[6,7],Tryz.f23.results.toList,Tryz.f23.ntmps,IG,λc=>c∈fQ (body Tryz.f23),gE (P:=Tryz.prog) []⟩
section
variable {A:Array Oper}{d:Bool}{e:Env tb}{R:Type}{K:Env tb->Option R}{r:R}{ks:List (Fk tb Tryz.prog)}{rks:List (FkR tb Tryz.prog)}
set_option maxHeartbeats 4000000
theorem QH(hc:Code.region 1 A d∈fQ (body Tryz.f23))(h:IG 0 (.region 1 A d) e R K=some r):Ct (SQ ks rks) (.region 1 A d) e K r:=by obtain⟨rfl,rfl⟩:=q7 (show(fQ (body Tryz.f23)).filter (zt 1)=[.region 1 _ _]from rfl) hc;intro F k0 W a0 a k Q hW hl hgo;replace h:(qC e 3 (.st 7)).bind _=some r:=h;obtain⟨(t:aP),h3,h⟩:=bind_some h;obtain⟨(c:Cap),h5,h⟩:=bind_some h;have i3:aS t (a.get 3) k:=kg hl h3;have i5:aS c (a.get 5) k:=kg hl h5;cases ht:pS [7,10,11,12,13,14,15] e with|false=>rw[ht]at h;simp at h;|true=>
 rw[ht]at h;simp only[cond_true]at h;obtain⟨n,hn,h⟩:=bind_some h;refine region (a0:=a) (k0:=k) (n:=35) (m:=7) (_::_::_::_::_::⟨some (I0 [gX.off] (⟨c.Name,n,[]⟩:jP)),[(11,some 1),(14,some 4)]⟩::⟨some (gV k.w.heap.size (⟨(⟨#[]⟩:ByteArray),0,[]⟩:jP)),[]⟩::[]) lS hl.s (by kernel_rfl) ⟨o1 [(5,none)] rfl λ _ _ h n=>bF rfl Sz (Ou _) ((up i5 h n.1)).ptr,o1 [(10,some 0)] rfl λ _ _ h n=>aR rfl ty9 n.1,o1 [(3,none)] rfl λ _ _ h n=>aR rfl N3 ((up i3 h n.1)).ptr,o1 [(5,none)] rfl λ _ _ h n=>aR rfl TN ((up i5 h n.1)).ptr,o1 [(12,some 2),(13,some 3)] rfl λ _ _ h n=>bU rfl Tryz.call51 (F5 n.1 n.2.1 hn),ob1 rfl λ _ _ h n=>KP rfl (Jm n.1 n.2.1),ob1 rfl λ _ _ h n=>gu _ h.size rfl z92,trivial⟩ trivial λb q p=>?_;obtain⟨bb,hv,hbb,hB⟩:(gV k.w.heap.size (⟨(⟨#[]⟩:ByteArray),0,[]⟩:jP)) (b.get 7) q:=p.val 6 7 _ _ (by decide) rfl rfl;have j15:(I0 [gX.off] (⟨c.Name,n,[]⟩:jP)) (b.get 15) q:=p.val 5 15 _ _ (by decide) rfl rfl;refine E8 (i:=7) rfl rfl rfl rfl UE hv hB j15 λq2 hch hz hnn=>?_;have hRP:tb.RP 4 (⟨c.Name,n,[]⟩:jP) _ (b.get 7) q2:=⟨bb,fO.WJ (g:=gX) (Gb.Box.open hz Qu hv) (hnn _ (.head _)) rfl⟩;refine aj (k:=q2) (hgo _ _ _ h (hl.QS (G:=noF) (D:=[7,10,11,12,13,14,15]) ht (λt hm=>hW t ?_) (.inl (hW 7 (by decide))) (((Chg.refl noF k).then p.grow).step hch λc hc=> .inr (hc▸hbb)) (λ _ h=>h.elim) p.size p.defers (λt hm _=>p.old t (by simp at hm;simp[allI];omega)) ⟨_,hRP⟩ (λ _=>rfl) λc hc=> .inr ?_));.revert t;decide
 .have hc:Rk.fp tb (.c 4) (b.get 7) q2 c:=hc;rw[iB hRP]at hc;exact hc▸hbb
theorem P7(hc:Code.region 5 A d∈fQ (body Tryz.f23))(h:IG 1 (.region 5 A d) e R K=some r):Ct (SQ ks rks) (.region 5 A d) e K r:=by obtain⟨rfl,rfl⟩:=q7 (show(fQ (body Tryz.f23)).filter (zt 5)=[.region 5 _ _]from rfl) hc;intro F k0 W a0 a k Q hW hl hgo;replace h:(eV e 7 (.c 4)).bind _=some r:=h;obtain⟨(x:jP),hx,h⟩:=bind_some h;obtain⟨(t:aP),h3,h⟩:=bind_some h;obtain⟨(c:Cap),h5,h⟩:=bind_some h;obtain⟨(y:ai),h9,h⟩:=bind_some h;have i3:aS t (a.get 3) k:=kg hl h3;have i5:aS c (a.get 5) k:=kg hl h5;have i9:aS y (a.get 9) k:=kg hl h9;obtain⟨hlk,G,bb,hG⟩:=CM hl hx;have hG:fO bb [gX] [gX] (x:jP) G (a.get 7) k:=hG;cases ht:pS [22,23,24,25,26,27,28,29,30,31,32] e with|false=>rw[ht]at h;simp at h;|true=>rw[ht]at h;simp only[cond_true]at h;obtain⟨l,h1,h⟩:=bind_some h;obtain⟨u,h2,h⟩:=bind_some h;obtain⟨z,hal,h⟩:=bind_some h;refine region (a0:=a) (k0:=k) (n:=35) (m:=9) (_::⟨some (xX bb gX.off),[(22,some 0)]⟩::_::_::_::_::_::_::⟨some (IsV (α:=(List Int)) ([u])),[(29,some 7)]⟩::[]) lS hl.s (by kernel_rfl) ⟨o1 [(7,none)] rfl λ _ _ h n=>aV rfl Ot (upE hG.ptr n.1),ob1 rfl λ _ _ h n=>AR (g:=gX) rfl Tryz.underlying38 Rm n.1 (Rsc.grow hG h) (.head _),o1 [(3,none)] rfl λ _ _ h n=>bF rfl S4 (KJ _) ((up i3 h n.1)).ptr,o1 [(24,some 2)] rfl λ _ _ h n=>aR rfl VI n.1,o1 [(5,none)] rfl λ _ _ h n=>aR rfl TN ((up i5 h n.1)).ptr,o1 [(9,none)] rfl λ _ _ h n=>aR rfl IQ ((up i9 h n.1)).ptr,o1 [(25,some 3),(26,some 4),(27,some 5)] rfl λ _ _ h n=>bU rfl Tryz.call63 (Eu n.1 n.2.1 n.2.2.1 h1),o1 [(28,some 6)] rfl λ _ _ h n=>bU rfl Tryz.call62 (Bp n.1 h2),ob1 rfl λ _ _ h n=>dL rfl Tryz.underlying38 eo3 rfl (by decide) (by decide) ⟨rfl,n.1,trivial⟩,trivial⟩ trivial λb q p=>?_;exact S7 (N:=35) (i:=9) (x':=({x with Tops:=z}:jP)) (X':=({x with Tops:=z}:jP)) (D:=[22,23,24,25,26,27,28,29,30,31,32]) (g:=gX) (l:=[u]) hl hlk ⟨bb,hG⟩ hG ht (λt hm=>hW t (by revert t;decide)) (by decide) p.grow p.size p.defers (λt ht=>p.old t (by simp at ht;simp[allI];omega)) rfl rfl rfl rfl rfl rfl rfl rfl rfl rfl rfl rfl (hl.s:a.tmps.size=35) (by decide) (by decide) Tryz.underlying38 eo3 Ot Rm id (λh=>⟨bb,h⟩) (by decide) rfl (λ _ _ _ h=>h) (λ _ h=>nomatch h) (.head _) (p.val 1 23 _ _ (by decide) rfl rfl) (show cM [u] (b.get 30) q from IsV.rd (p.val 8 30 _ _ (by decide) rfl rfl)) hal λa' k'=>hgo _ _ _ h
theorem Pk(hc:Code.region 7 A d∈fQ (body Tryz.f23))(h:IG 2 (.region 7 A d) e R K=some r):Ct (SQ ks rks) (.region 7 A d) e K r:=by replace h:(eV e 7 (.c 4)).bind _=some r:=h;obtain⟨(x:jP),hx,h⟩:=bind_some h;exact Pp (M6 _ _) rfl rfl hx (λG v k ⟨_,h⟩=>fO.ref h (PN _) (λ _ h=>h)) h
end
def k23:Fk tb Tryz.prog:=⟨23,⟨[.st 7, .list (.st 29), .st 15],[.st 34],λx=>pG x.1 x.2.1 x.2.2⟩,E9 [] [] [] false [6,7] Tryz.f23 IG (λi c e R K r hc h=>by
 have h0:=h;replace h:IG i c e R K=some r:=h;unfold IG at h;split at h;.exact QH hc h0
 .exact P7 hc h0
 .exact Pk hc h0
 .simp at h) (.s .n (.s (.h 0) (.s (.s .n (.l [] [(7, .c 4),(18, .v .int)] [(0,[18],[])] (fI 17) (.s .n (.s .n (.s (.s .n (.h 1)) .n))))) (.s (.h 2) .n)))) uk lS rfl Tryz.func23 Tryz.call23 rfl rfl λx=>by kernel_rfl⟩
def di(s_:(List cD)):Option ((List cD)):=(eb [] s_).bind λx1=>some x1
theorem lF{k0:K}{v0:Value}{s_:(List cD)}{r:(List cD)}(i0:(IsV s_) v0 k0)(hr:di s_=some r):Calls Tryz.prog 53 #[v0] k0.w (Ret k0 (ah k0.w.heap.size 132 r)):=yI Tryz.func53 (by kernel_rfl) Tryz.ntmps53 rfl Tryz.underlying34 Mx i0 hr
theorem sV{k0:K}{v0:Value}{s_:(List cD)}{r:(List cD)}(i0:(IsV s_) v0 k0)(hr:di s_=some r):Calls Tryz.prog 53 #[v0] k0.w (Ret k0 (IsV r)):=pP (lF i0 hr)
def k53:=mkO 53 [.list (.st 21)] [.list (.st 21)] (λx=>di x) Tryz.call53 λk0 vs x r hG h hr=>by obtain⟨v0,rfl,i0⟩:=h.one;exact sV i0 hr
def kU(lot_:Int)(ph_:Phase)(s1:aP×Int):Option (aY (aP×Int) (aP)):=if(decide (s1.2<(ph_.Volumes.length:Int)))then(aL ph_.Volumes s1.2).bind λx1=>(eb s1.1.Built ([(⟨lot_,x1⟩:cD)])).bind λx2=>(bh s1.2 1).bind λx3=>some (.go ({s1.1 with Built:=x2},x3))else some (.ex 0 (s1.1,s1.2))
def kJ(ph_:Phase)(s1:aP×Int):Option (aY (aP×Int) (aP)):=if(decide (s1.2<(ph_.cd.length:Int)))then(aL ph_.cd s1.2).bind λx1=>(lC x1.N).bind λx2=>(fi 0 x2).bind λx3=>(eb s1.1.Base ([(⟨x1.Name,x3⟩:Entry)])).bind λx4=>(bh s1.2 1).bind λx5=>some (.go ({s1.1 with Base:=x4},x5))else some (.ex 2 (s1.1,s1.2))
def oU(t_:aP)(lot_:Int)(ph_:Phase):Option (aP):=(di t_.Built).bind λx1=>(bW t_.Base).bind λx2=>(ar (kU lot_ ph_) (ph_.Volumes.length+1) ({({t_ with Built:=x1}:aP)with Base:=x2},0)).bind λf1=>match f1 with
 | .go _=>none| .ex _ s1=>(ar (kJ ph_) (ph_.cd.length+1) (s1.1,0)).bind λf2=>match f2 with| .go _=>none| .ex _ s2=>some s2.1| .ret r1=>some r1
 | .ret r2=>some r2
def Gm:Nat->Code->Env tb->(R:Type)->(Env tb->Option R)->Option R|0, .region 1 _ _,e,_,K=>(eV e 3 (.b (.st 7))).bind λ (x:aP)=>bif pS [11,12,13,14,15,16,17,18] e then(di x.Built).bind λl=>(bW x.Base).bind λm=>K ((3, .rs false 3 ({({x with Built:=l}:aP)with Base:=m}:aP))::iV (klA 3) e)else none|1, .region 5 _ _,e,_,K=>(eV e 3 (.c 3)).bind λ (x:aP)=>(eV e 1 (.v .int)).bind λ (n:Int)=>(qC e 8 (.st 4)).bind λ (v:aF)=>bif pS [26,27,28,29,30,31,32,33] e then(eb x.Built [(⟨n,v⟩:cD)]).bind λl=>K ((3, .rs false 3 ({x with Built:=l}:aP))::iV (klA 3) e)else none|2, .region 10 _ _,e,_,K=>(eV e 3 (.c 3)).bind λ (x:aP)=>(qC e 10 (.st 6)).bind λ (y:Entry)=>bif pS [42,43,44,45,46,47,48,49,50,51,52,53] e then(lC y.N).bind λu=>(fi 0 u).bind λw=>(eb x.Base [(⟨y.Name,w⟩:Entry)]).bind λl=>K ((3, .rs false 3 ({x with Base:=l}:aP))::iV (klA 3) e)else none|3, .region 12 A d,e,_,K=>(eV e 3 (.c 3)).bind λ (x:aP)=>evR (chZ [3,6] Tryz.f56) A.toList d ((3, .ref (.st 7) x)::iV (klA 3) e) K|_,_,_,_,_=>none
def Ql(ks:List (Fk tb Tryz.prog))(rks:List (FkR tb Tryz.prog)):Cx tb:=⟨Tryz.prog,tid,eqs,gx ks,fN rks,false,[3,6],Tryz.f56.results.toList,Tryz.f56.ntmps,Gm,λc=>c∈fQ (body Tryz.f56),gE (P:=Tryz.prog) []⟩
section
variable {A:Array Oper}{d:Bool}{e:Env tb}{R:Type}{K:Env tb->Option R}{r:R}{ks:List (Fk tb Tryz.prog)}{rks:List (FkR tb Tryz.prog)}
set_option maxHeartbeats 4000000
theorem QR(hc:Code.region 1 A d∈fQ (body Tryz.f56))(h:Gm 0 (.region 1 A d) e R K=some r):Ct (Ql ks rks) (.region 1 A d) e K r:=by obtain⟨rfl,rfl⟩:=q7 (show(fQ (body Tryz.f56)).filter (zt 1)=[.region 1 _ _]from rfl) hc;intro F k0 W a0 a k Q hW hl hgo;replace h:(eV e 3 (.b (.st 7))).bind _=some r:=h;obtain⟨(x:aP),hx,h⟩:=bind_some h;obtain⟨hlk,bb,hv,hB⟩:=UY hl hx;have hB:Gb.Box bb (x:aP) k:=hB;cases ht:pS [11,12,13,14,15,16,17,18] e with|false=>rw[ht]at h;simp at h;|true=>
 rw[ht]at h;simp only[cond_true]at h;obtain⟨l,h1,h⟩:=bind_some h;obtain⟨m,h2,h⟩:=bind_some h;refine region (a0:=a) (k0:=k) (n:=56) (m:=7) (_::_::_::_::_::_::_::[]) lS hl.s (by kernel_rfl) ⟨o1 [(3,none)] rfl λ _ _ h n=>bF rfl DS (Lb _) ⟨_,(upE hv n.1),(hB.grow h).at⟩,o1 [(11,some 0)] rfl λ _ _ h n=>aR rfl WC n.1,o1 [(12,some 1)] rfl λ _ _ h n=>bU rfl Tryz.call53 (wA h.size (lF n.1 h1)),o1 [(3,none)] rfl λ _ _ h n=>bF rfl Ez (KI _) ⟨_,(upE hv n.1),(hB.grow h).at⟩,o1 [(14,some 3)] rfl λ _ _ h n=>aR rfl Xo n.1,o1 [(15,some 4)] rfl λ _ _ h n=>bU rfl Tryz.call54 (wA h.size (mg n.1 h2)),o1 [(3,none)] rfl λ _ _ h n=>aV rfl DS (upE hv n.1),trivial⟩ trivial λb q p=>?_;have hs:b.tmps.size=56:=p.size.trans hl.s;have hg:=p.grow;have ho:∀t,¬t∈[11,12,13,14,15,16,17,18]->b.get t=a.get t:=λt ht=>p.old t (by simp at ht;simp[allI];omega);have j13:ah k.w.heap.size 132 l (b.get 13) q:=p.val 2 13 _ _ (by decide) rfl rfl;have j16:ah k.w.heap.size 135 m (b.get 16) q:=p.val 5 16 _ _ (by decide) rfl rfl;have j17:cw bb 11 (b.get 17) q:=p.val 6 17 _ _ (by decide) rfl rfl;have w13:bj (Eq bb) (obF (b.get 13)):=bj.new hB.ltF j13.loF;have w16:bj (Eq bb) (obF (b.get 16)):=bj.new hB.ltF j16.loF;have x13:=j13.loF;have x16:=j16.loF;replace j13:=j13.weaken (bY _);replace j16:=j16.weaken (bY _);have w2:bj (obF (b.get 13)) (obF (b.get 16)):=Pq j13 j16 (by decide);have hO:=Gb.Box.open (all:=[gZ,ia]) (hB.grow hg) EO hv;refine uC (i:=7) (g:=gZ) (x':=({x with Built:=l}:aP)) rfl rfl rfl rfl Na j17 hO (by decide) ⟨_, .head _,rfl⟩ rfl (λ _ _ _ h=>h) (λ _ h=>nomatch h) j13 w13.symm λq2 F2 c2 B2 hF2=>?_;have ns:=Rsc.nsh hO;refine bL (i:=8) (d:=18) rfl rfl rfl (by rw[hs];decide) trivial (aV rfl Ez (show b.get 3=_ from(ho 3 (by decide)).trans hv)) λb3 q3 hs1 hd3 ho3 hg3 j18=>?_;have e16:b3.get 16=b.get 16:=ho3 16 (by decide);replace j16:=aZ.mono hg3 (ah.keep j16 c2 w16.symm ns);rw[<-e16]at j16;refine uC (i:=9) (g:=ia) (x':=({({x with Built:=l}:aP)with Base:=m}:aP)) rfl rfl rfl rfl MY j18 (Rsc.grow B2 hg3) (by decide) ⟨_, .tail _ (.head _),rfl⟩ rfl (λ _ _ _ h=>h) (λ _ h=>by cases h with|head=>decide|tail _ h=>exact nomatch h) j16 (by show bj (obF (b3.get 16)) F2;rw[e16];exactλc h hF=>(hF2 c hF).elim (λg=>w16 c g h) λg=>w2 c g h) λq4 F4 c4 B4 hF4=>?_;have e3:b3.get 3=a.get 3:=by rw[ho3 3 (by decide),ho 3 (by decide)]
 have hRP:tb.RP 3 ({({x with Built:=l}:aP)with Base:=m}:aP) F4 (b3.get 3) q4:=⟨bb,by rw[e3];exact B4.swap⟩;have hfp:∀c,bb=c->unl (lk e 3)=true/\(lk e 3).fp (a.get 3) k c:=λc hc=>by rw[hlk];exact⟨rfl,hc▸hv⟩
 have f1:∀c,F2 c->bb=c∨k.w.heap.size<=c:=λc h=>(hF2 c h).imp id (x13 c);refine aj (k:=q4) (hgo _ _ _ h (hl.QS (D:=[11,12,13,14,15,16,17,18]) ht (λt hm=>hW t ?_) (.inr e3) (((((Chg.refl (Eq bb) k).then hg).step c2 λc hc=> .inl hc).then hg3).step c4 f1) hfp (hs1.trans (hs.trans hl.s.symm)) (hd3.trans p.defers) (λt hm hne=>?_) ⟨_,hRP⟩ (λ _=>rfl) λc hc=>?_));.revert t;decide
 .rw[ho3 t (λe=>hm (by rw[e];decide)),ho t hm]
 .have hc:Rk.fp tb (.c 3) (b3.get 3) q4 c:=hc;rw[iB hRP]at hc;rcases hF4 c hc with h|h;.exact(f1 c h).imp (hfp c) id
  .exact .inr (x16 c (by have h:obF (b3.get 16) c:=h;rw[e16]at h;exact h))
theorem Qb(hc:Code.region 5 A d∈fQ (body Tryz.f56))(h:Gm 1 (.region 5 A d) e R K=some r):Ct (Ql ks rks) (.region 5 A d) e K r:=by obtain⟨rfl,rfl⟩:=q7 (show(fQ (body Tryz.f56)).filter (zt 5)=[.region 5 _ _]from rfl) hc;intro F k0 W a0 a k Q hW hl hgo;replace h:(eV e 3 (.c 3)).bind _=some r:=h;obtain⟨(x:aP),hx,h⟩:=bind_some h;obtain⟨(n:Int),hn,h⟩:=bind_some h;obtain⟨(v:aF),hy,h⟩:=bind_some h;have hi:aS v (a.get 8) k:=kg hl hy;have hn:IsV n (a.get 1) k:=(gQ (T:=tb) (t:= .int) (x:=n)).1 (uc hl hn).1;obtain⟨hlk,G,bb,hG⟩:=CM hl hx;have hG:fO bb [gZ,ia] [gZ,ia] (x:aP) G (a.get 3) k:=hG;cases ht:pS [26,27,28,29,30,31,32,33] e with|false=>rw[ht]at h;simp at h;|true=>rw[ht]at h;simp only[cond_true]at h;obtain⟨l,hal,h⟩:=bind_some h;refine xv (a0:=a) (k0:=k) (n:=56) (m:=6) (_::⟨some (xX bb gZ.off),[(26,some 0)]⟩::_::_::⟨some (IsV (⟨n,v⟩:cD)),[(28,some 2),(29,some 3)]⟩::⟨some (IsV (α:=(List cD)) ([(⟨n,v⟩:cD)])),[(30,some 4)]⟩::[]) hl.s (by kernel_rfl) ⟨o1 [(3,none)] rfl λ _ _ h n=>aV rfl DS (upE hG.ptr n.1),ob1 rfl λ _ _ h n=>AR (g:=gZ) rfl Tryz.underlying34 Na n.1 (Rsc.grow hG h) (.head _),mu rfl hn,o1 [(8,none)] rfl λ _ _ h n=>aR rfl UP ((up hi h n.1)).ptr,ob1 rfl λ _ _ h n=>fF rfl (Ig n.1 n.2.1),ob1 rfl λ _ _ h n=>dL rfl Tryz.underlying34 Mx rfl (by decide) (by decide) ⟨rfl,n.1,trivial⟩,trivial⟩ trivial λb q p=>?_;exact S7 (N:=56) (i:=6) (x':=({x with Built:=l}:aP)) (X':=({x with Built:=l}:aP)) (D:=[26,27,28,29,30,31,32,33]) (g:=gZ) (l:=[(⟨n,v⟩:cD)]) hl hlk ⟨bb,hG⟩ hG ht (λt hm=>hW t (by revert t;decide)) (by decide) p.grow p.size p.defers (λt ht=>p.old t (by simp at ht;simp[allI];omega)) rfl rfl rfl rfl rfl rfl rfl rfl rfl rfl rfl rfl (hl.s:a.tmps.size=56) (by decide) (by decide) Tryz.underlying34 Mx DS Na id (λh=>⟨bb,h⟩) (by decide) rfl (λ _ _ _ h=>h) (λ _ h=>by cases h with|head=>decide|tail _ h=>exact nomatch h) (.head _) (p.val 1 27 _ _ (by decide) rfl rfl) (show cM [(⟨n,v⟩:cD)] (b.get 31) q from IsV.rd (p.val 5 31 _ _ (by decide) rfl rfl)) hal λa' k'=>hgo _ _ _ h
theorem Nv(hc:Code.region 10 A d∈fQ (body Tryz.f56))(h:Gm 2 (.region 10 A d) e R K=some r):Ct (Ql ks rks) (.region 10 A d) e K r:=by obtain⟨rfl,rfl⟩:=q7 (show(fQ (body Tryz.f56)).filter (zt 10)=[.region 10 _ _]from rfl) hc;intro F k0 W a0 a k Q hW hl hgo;replace h:(eV e 3 (.c 3)).bind _=some r:=h;obtain⟨(x:aP),hx,h⟩:=bind_some h;obtain⟨(y:Entry),hy,h⟩:=bind_some h;have hi:aS y (a.get 10) k:=kg hl hy;obtain⟨hlk,G,bb,hG⟩:=CM hl hx;have hG:fO bb [gZ,ia] [gZ,ia] (x:aP) G (a.get 3) k:=hG;cases ht:pS [42,43,44,45,46,47,48,49,50,51,52,53] e with|false=>rw[ht]at h;simp at h;|true=>rw[ht]at h;simp only[cond_true]at h;obtain⟨u,h1,h⟩:=bind_some h;obtain⟨w,h2,h⟩:=bind_some h;obtain⟨l,hal,h⟩:=bind_some h;refine region (a0:=a) (k0:=k) (n:=56) (m:=10) (_::⟨some (xX bb ia.off),[(42,some 0)]⟩::_::_::_::_::_::⟨some (IsV w),[(48,some 6)]⟩::⟨some (IsV (⟨y.Name,w⟩:Entry)),[(45,some 3),(49,some 7)]⟩::⟨some (IsV (α:=(List Entry)) ([(⟨y.Name,w⟩:Entry)])),[(50,some 8)]⟩::[]) lS hl.s (by kernel_rfl) ⟨o1 [(3,none)] rfl λ _ _ h n=>aV rfl Ez (upE hG.ptr n.1),ob1 rfl λ _ _ h n=>AR (g:=ia) rfl Tryz.underlying35 MY n.1 (Rsc.grow hG h) (.tail _ (.head _)),o1 [(10,none)] rfl λ _ _ h n=>bF rfl Qj (Jb _) ((up hi h n.1)).ptr,o1 [(44,some 2)] rfl λ _ _ h n=>aR rfl ty9 n.1,o1 [(10,none)] rfl λ _ _ h n=>bF rfl Pg (Ib _) ((up hi h n.1)).ptr,o1 [(46,some 4)] rfl λ _ _ h n=>aR rfl ty3 n.1,o1 [(47,some 5)] rfl λ _ _ h n=>bU rfl Tryz.call96 (AT n.1 h1),ob1 rfl λ _ _ h n=>OD rfl n.1 h2,ob1 rfl λ _ _ h n=>fF rfl (Jj n.1 n.2.1),ob1 rfl λ _ _ h n=>dL rfl Tryz.underlying35 OP rfl (by decide) (by decide) ⟨rfl,n.1,trivial⟩,trivial⟩ trivial λb q p=>?_;exact S7 (N:=56) (i:=10) (x':=({x with Base:=l}:aP)) (X':=({x with Base:=l}:aP)) (D:=[42,43,44,45,46,47,48,49,50,51,52,53]) (g:=ia) (l:=[(⟨y.Name,w⟩:Entry)]) hl hlk ⟨bb,hG⟩ hG ht (λt hm=>hW t (by revert t;decide)) (by decide) p.grow p.size p.defers (λt ht=>p.old t (by simp at ht;simp[allI];omega)) rfl rfl rfl rfl rfl rfl rfl rfl rfl rfl rfl rfl (hl.s:a.tmps.size=56) (by decide) (by decide) Tryz.underlying35 OP Ez MY fO.swap (λh=>⟨bb,h.swap⟩) (by decide) rfl (λ _ _ _ h=>h) (λ _ h=>by cases h with|head=>decide|tail _ h=>exact nomatch h) (.tail _ (.head _)) (p.val 1 43 _ _ (by decide) rfl rfl) (show cM [(⟨y.Name,w⟩:Entry)] (b.get 51) q from IsV.rd (p.val 9 51 _ _ (by decide) rfl rfl)) hal λa' k'=>hgo _ _ _ h
theorem NN(hc:Code.region 12 A d∈fQ (body Tryz.f56))(h:Gm 3 (.region 12 A d) e R K=some r):Ct (Ql ks rks) (.region 12 A d) e K r:=by replace h:(eV e 3 (.c 3)).bind _=some r:=h;obtain⟨(x:aP),hx,h⟩:=bind_some h;exact Pp (M6 _ _) rfl rfl hx (λG v k ⟨_,h⟩=>h.ref (Ex _) (λ _ h=>h)) h
end
def k56:Fk tb Tryz.prog:=⟨56,⟨[.st 7, .int, .st 3],[.st 7],λx=>oU x.1 x.2.1 x.2.2⟩,E9 [] [] [] false [3,6] Tryz.f56 Gm (λi c e R K r hc h=>by
 have h0:=h;replace h:Gm i c e R K=some r:=h;unfold Gm at h;split at h;.exact QR hc h0
 .exact Qb hc h0
 .exact Nv hc h0
 .exact NN hc h0
 .simp at h) (.s .n (.s (.h 0) (.s (.s .n (.l [] [(3, .c 3),(22, .v .int)] [(0,[22],[])] (fI 21) (.s .n (.s .n (.s (.s .n (.h 1)) .n))))) (.s (.s .n (.l [] [(3, .c 3),(38, .v .int)] [(2,[38],[])] (fI 37) (.s .n (.s .n (.s (.s .n (.h 2)) .n))))) (.s (.h 3) .n))))) uk lS rfl Tryz.func56 Tryz.call56 rfl rfl λx=>by kernel_rfl⟩
def jh(x1:ai)(x2:(List Phase))(s1:Int×aP):Option (aY (Int×aP) (aP)):=if(decide (s1.1<(x2.length:Int)))then(aL x2 s1.1).bind λx3=>(oU s1.2 x1.ax.Lot x3).bind λx4=>(bh s1.1 1).bind λx5=>some (.go (x5,x4))else some (.ex 2 (s1.1,s1.2))
def mc(rights_:(List ai))(s1:Int×aP):Option (aY (Int×aP) (aP)):=if(decide (s1.1<(rights_.length:Int)))then(aL rights_ s1.1).bind λx1=>(nJ x1).bind λx2=>(ar (jh x1 x2) (x2.length+1) (0,s1.2)).bind λf1=>match f1 with| .go _=>none| .ex _ s2=>(bh s1.1 1).bind λx3=>some (.go (x3,s2.2))| .ret r1=>some (.ret r1)else some (.ex 0 (s1.1,s1.2))
def qy(t_:aP)(rights_:(List ai)):Option (aP):=(di t_.Built).bind λx1=>(bW t_.Base).bind λx2=>(ar (mc rights_) (rights_.length+1) (0,{{t_ with Built:=x1}with Base:=x2})).bind λf1=>match f1 with| .go _=>none| .ex _ s1=>some s1.2| .ret r1=>some r1
def k14:=mk 14 [.st 7, .list (.st 29)] [.st 7] (λx=>qy x.1 x.2) [k53,k54,k55,k56] [2,4] Tryz.f14 (.s .n (.s .n (.s (.s .n (.l [] [(19, .v .int),(2, .b (.st 7))] [(0,[19],[])] (fI 18) (.s .n (.s .n (.s (.s .n (.s .n (.l [] [(26, .v .int),(2, .b (.st 7))] [(2,[26],[])] (fI 25) .n))) .n))))) .n))) Tryz.func14 Tryz.call14 rfl rfl λx=>by kernel_rfl
def jG(v_:aF):Option (Bool):=(eZ v_.Box.Base).bind λx1=>some (((((x1&&(decide (0<=v_.Box.Z0)))&&(decide (v_.Box.Z0<v_.Box.Z1)))&&(decide (v_.Box.Z1<=4096)))&&(decide (0<=v_.Use)))&&(decide (v_.Use<6)))
def UR:=mk 134 [.st 4] [.bool] (λx=>jG x) [Iu] [] Tryz.f134 (.n) Tryz.func134 Tryz.call134 rfl rfl λx=>by kernel_rfl
def tl(v_:aF):Option ((List ct)):=some ([(⟨v_.Box.Z0,v_.Box.Z1,[v_.Box.Base]⟩:ct)])
def WH:=mk 135 [.st 4] [.list (.st 22)] (λx=>tl x) [] [] Tryz.f135 (.n) Tryz.func135 Tryz.call135 rfl rfl λx=>by kernel_rfl
def jR(t_:aP)(but_:(Int->Option (Bool)))(s1:(List (List ct))×Int):Option (aY ((List (List ct))×Int) ((List (List ct)))):=if(decide (s1.2<(t_.Built.length:Int)))then(aL t_.Built s1.2).bind λx1=>(jG x1.aF).bind λx2=>(if x2 then(but_ x1.Lot).bind λx3=>some (!x3)else some false).bind λx4=>(if x4 then(tl x1.aF).bind λx5=>(eb s1.1 ([x5])).bind λx6=>some x6 else some s1.1).bind λs2=>(bh s1.2 1).bind λx7=>some (.go (s2,x7))else some (.ex 0 (s1.1,s1.2))
def kf(t_:aP)(but_:(Int->Option (Bool))):Option ((List (List ct))):=(ar (jR t_ but_) (t_.Built.length+1) (([]:List (List ct)),0)).bind λf1=>match f1 with| .go _=>none| .ex _ s1=>some s1.1| .ret r1=>some r1
def k86:=mk 86 [.st 7, .f1 .int .bool] [.list (.list (.st 22))] (λx=>kf x.1 x.2) [UR,WH] [5,25,30] Tryz.f86 (.s .n (.s .n (.s (.s .n (.l [] [(5, .o 165 (.list (.st 22))),(11, .v .int)] [(0,[11],[])] (fI 10) (.s .n (.s .n (.s (.s .n (.s .n (.j [] [(5, .o 165 (.list (.st 22)))] ([],[]) (.s .n .n)))) .n))))) (.s (.f [5] .n) .n)))) Tryz.func86 Tryz.call86 rfl rfl λx=>by kernel_rfl
def rS(p_:bq):Option (Bool):=some (((decide (0<=(min (min p_.X p_.Y) p_.Z)))&&(decide ((max p_.X p_.Y)<=1048576)))&&(decide (p_.Z<=4096)))
def Vi:=mk 125 [.st 17] [.bool] (λx=>rS x) [] [] Tryz.f125 (.n) Tryz.func125 Tryz.call125 rfl rfl λx=>by kernel_rfl
section
open Go.Proofs Go.RowKit Go.Lib Go.Sort Go.Shelf
def Tryz.D7:Go.Shelf.Ren:=⟨λ|4=>236|n=>n,λ|22=>69|25=>126|3=>3|4=>4|9=>9|20=>20|0=>0|n=>n,λ|n=>n⟩
theorem Tryz.GN:Go.Proofs.Lays8.n4 Tryz.prog Tryz.D7:={mixed:=by kernel_rfl,f4:=⟨Tryz.f236.name,by decide,Tryz.func236.trans (congrArg some (by kernel_rfl))⟩,t0:=Tryz.underlying0,a0:=Tryz.isAgg0,z0:=Tryz.sizeOf0,v0:=Tryz.zeroValue0,t3:=Tryz.underlying3,a3:=Tryz.isAgg3,z3:=Tryz.sizeOf3,v3:=Tryz.zeroValue3,t4:=Tryz.underlying4,a4:=Tryz.isAgg4,z4:=Tryz.sizeOf4,v4:=Tryz.zeroValue4,t9:=Tryz.underlying9,a9:=Tryz.isAgg9,z9:=Tryz.sizeOf9,v9:=Tryz.zeroValue9,t20:=Tryz.underlying20,a20:=Tryz.isAgg20,z20:=Tryz.sizeOf20,v20:=Tryz.zeroValue20,t22:=Tryz.underlying69,a22:=Tryz.isAgg69,z22:=Tryz.sizeOf69,v22:=Tryz.zeroValue69}
theorem uQ{k0:K}{v0 v1:Value}{n:Int}{r:List ay}(i0:v0= .slice none 0 0)(i1:IsV n v1 k0)(hr:Ax ay n=some r):Calls Tryz.prog 236 #[v0,v1] k0.w (Ret k0 (ah k0.w.heap.size 126 r)):=by
 refine Ge zi i0 i1 hr ?_ λm i z h0 hm hi hz hs hb=>?_;.have hcon:=Any8.slices_Grow_room Tryz.GN none 0 0 0 k0.w (by omega) (by omega) (by omega) (by omega);change Calls Tryz.prog 236 _ _ _ at hcon;exact hcon
 .have hcon:=Any8.slices_Grow_grow Tryz.GN i z hi hz hs none 0 0 m [] k0.w (by omega) (by omega) (by have:(0+m)*i.bytes<=1073741824*65536:=mw (by omega) hb;omega) (by omega) (by simp) (λ _=>rfl) (λa h=>by simp at h);change Calls Tryz.prog 236 _ _ _ at hcon;exact hcon
end
def fB(slices_:(List (List ay))):Option ((List ay)):=vA slices_
theorem sL{k0:K}{v0:Value}{slices_:(List (List ay))}{r:(List ay)}(i0:(IsV slices_) v0 k0)(hr:fB slices_=some r):Calls Tryz.prog 216 #[v0] k0.w (Ret k0 (ah k0.w.heap.size 126 r)):=Ju Tryz.func216 (by kernel_rfl) Tryz.ntmps216 rfl Tryz.underlying247 Tryz.underlying69 VX zi Tryz.call236 uQ i0 hr
theorem tO{k0:K}{v0:Value}{slices_:(List (List ay))}{r:(List ay)}(i0:(IsV slices_) v0 k0)(hr:fB slices_=some r):Calls Tryz.prog 216 #[v0] k0.w (Ret k0 (IsV r)):=pP (sL i0 hr)
def Uv:=mkO 216 [.list (.list (.st 2))] [.list (.st 2)] (λx=>fB x) Tryz.call216 λk0 vs x r hG h hr=>by obtain⟨v0,rfl,i0⟩:=h.one;exact tO i0 hr
def kA(a_:ag)(b_:ag):Option (Int):=(cE a_.from_ b_.from_).bind λx1=>some x1
def XN:=mk 238 [.st 23, .st 23] [.int] (λx=>kA x.1 x.2) [k68] [] Tryz.f238 (.n) Tryz.func238 Tryz.call238 rfl rfl λx=>by kernel_rfl
theorem wP{k0:K}{v0 v1:Value}{x0:ag}{x1:ag}{r:Int}(i0:(IsV x0) v0 k0)(i1:(IsV x1) v1 k0)(hr:kA x0 x1=some r):Calls Tryz.prog 238 #[v0,v1] k0.w (Ret k0 (IsV r)):=(XN.ok.ok k0 [v0,v1] (x0,x1) r (GOk.none (λ _=>rfl) λ _ e=>by cases e) ⟨i0,i1⟩ hr)
section
open Go.Proofs Go.RowKit Go.Lib Go.Sort Go.Shelf
def Tryz.AU:Go.Shelf.Ren:=⟨λ|6=>237|15=>101|14=>246|28=>148|29=>149|20=>252|21=>253|22=>254|23=>255|24=>256|25=>257|26=>258|27=>259|46=>262|47=>185|48=>186|49=>263|50=>264|57=>265|n=>n,λ|22=>287|24=>308|25=>324|3=>3|39=>158|0=>0|53=>242|55=>244|4=>4|46=>236|45=>235|50=>108|5=>5|9=>9|66=>272|70=>276|76=>302|77=>303|n=>n,λ|n=>n⟩
theorem Tryz.AJ:Go.Proofs.SlLaysF0.n6 Tryz.prog Tryz.AU:={mixed:=by kernel_rfl,f6:=⟨Tryz.f237.name,by decide,Tryz.func237.trans (congrArg some (by kernel_rfl))⟩,f14:=⟨Tryz.f246.name,by decide,Tryz.func246.trans (congrArg some (by kernel_rfl))⟩,f15:=Tryz.func101.trans (congrArg some (by kernel_rfl)),f20:=⟨Tryz.f252.name,by decide,Tryz.func252.trans (congrArg some (by kernel_rfl))⟩,f21:=⟨Tryz.f253.name,by decide,Tryz.func253.trans (congrArg some (by kernel_rfl))⟩,f22:=⟨Tryz.f254.name,by decide,Tryz.func254.trans (congrArg some (by kernel_rfl))⟩,f23:=⟨Tryz.f255.name,by decide,Tryz.func255.trans (congrArg some (by kernel_rfl))⟩,f24:=⟨Tryz.f256.name,by decide,Tryz.func256.trans (congrArg some (by kernel_rfl))⟩,f25:=⟨Tryz.f257.name,by decide,Tryz.func257.trans (congrArg some (by kernel_rfl))⟩,f26:=⟨Tryz.f258.name,by decide,Tryz.func258.trans (congrArg some (by kernel_rfl))⟩,f27:=⟨Tryz.f259.name,by decide,Tryz.func259.trans (congrArg some (by kernel_rfl))⟩,f28:=Tryz.func148.trans (congrArg some (by kernel_rfl)),f29:=Tryz.func149.trans (congrArg some (by kernel_rfl)),f46:=⟨Tryz.f262.name,by decide,Tryz.func262.trans (congrArg some (by kernel_rfl))⟩,f47:=Tryz.func185.trans (congrArg some (by kernel_rfl)),f48:=Tryz.func186.trans (congrArg some (by kernel_rfl)),f49:=⟨Tryz.f263.name,by decide,Tryz.func263.trans (congrArg some (by kernel_rfl))⟩,f50:=⟨Tryz.f264.name,by decide,Tryz.func264.trans (congrArg some (by kernel_rfl))⟩,f57:=⟨Tryz.f265.name,by decide,Tryz.func265.trans (congrArg some (by kernel_rfl))⟩,t0:=Tryz.underlying0,a0:=Tryz.isAgg0,z0:=Tryz.sizeOf0,v0:=Tryz.zeroValue0,t3:=Tryz.underlying3,a3:=Tryz.isAgg3,z3:=Tryz.sizeOf3,v3:=Tryz.zeroValue3,t4:=Tryz.underlying4,a4:=Tryz.isAgg4,z4:=Tryz.sizeOf4,v4:=Tryz.zeroValue4,t5:=Tryz.underlying5,a5:=Tryz.isAgg5,z5:=Tryz.sizeOf5,v5:=Tryz.zeroValue5,t9:=Tryz.underlying9,a9:=Tryz.isAgg9,z9:=Tryz.sizeOf9,v9:=Tryz.zeroValue9,t22:=Tryz.underlying287,a22:=Tryz.isAgg287,z22:=Tryz.sizeOf287,v22:=Tryz.zeroValue287,t25:=Tryz.underlying324,a25:=Tryz.isAgg324,z25:=Tryz.sizeOf324,v25:=Tryz.zeroValue324,t39:=Tryz.underlying158,a39:=Tryz.isAgg158,z39:=Tryz.sizeOf158,v39:=Tryz.zeroValue158,t45:=Tryz.underlying235,a45:=Tryz.isAgg235,z45:=Tryz.sizeOf235,v45:=Tryz.zeroValue235,t46:=Tryz.underlying236,a46:=Tryz.isAgg236,z46:=Tryz.sizeOf236,v46:=Tryz.zeroValue236,t50:=Tryz.underlying108,a50:=Tryz.isAgg108,z50:=Tryz.sizeOf108,v50:=Tryz.zeroValue108,t53:=Tryz.underlying242,a53:=Tryz.isAgg242,z53:=Tryz.sizeOf242,v53:=Tryz.zeroValue242,t55:=Tryz.underlying244,a55:=Tryz.isAgg244,z55:=Tryz.sizeOf244,v55:=Tryz.zeroValue244,t66:=Tryz.underlying272,a66:=Tryz.isAgg272,z66:=Tryz.sizeOf272,v66:=Tryz.zeroValue272,t70:=Tryz.underlying276,a70:=Tryz.isAgg276,z70:=Tryz.sizeOf276,v70:=Tryz.zeroValue276,t76:=Tryz.underlying302,a76:=Tryz.isAgg302,z76:=Tryz.sizeOf302,v76:=Tryz.zeroValue302,t77:=Tryz.underlying303,a77:=Tryz.isAgg303,z77:=Tryz.sizeOf303,v77:=Tryz.zeroValue303}
instance:cS ag:=cS.ofMap λx:ag=>(x.from_,x.to_)
def kD(x y:ag):Int:=if x.from_<y.from_ then-1 else if y.from_<x.from_ then 1 else 0
theorem vT(x y:ag):kA x y=some (kD x y):=by
 unfold kA cE cmp_isNaN_int kD;by_cases h:x.from_<y.from_;.simp[h]
 .by_cases h2:y.from_<x.from_<;>simp[h,h2]
theorem Dj(x y:ag):ltOf kD x y=decide (x.from_<y.from_):=by
 unfold ltOf kD;congr 1;rw[eq_iff_iff];split;.simp[*]
 .split<;>simp[*]
theorem ug:SWO (ltOf kD):=by constructor<;>simp only[Dj,decide_eq_true_eq,decide_eq_false_iff_not]<;>intros<;>omega
def rZ(l:List ag):Option (List ag):=if l.length<=1073741824 then some (pdq (ltOf kD) l.toArray 0 l.toArray.size (Lib.bitLen l.toArray.size) true true).toList else none
theorem Bw{l:List ag}(h:l.length<=1000000):∃r,rZ l=some r/\r.Perm l/\r.Pairwise λa b=>a.from_<=b.from_:=by
 obtain⟨⟨h1,_,h2⟩,h3⟩:=pdq_sorts (ltOf kD) ug l.toArray 0 l.toArray.size (Lib.bitLen l.toArray.size) true true (bY _) (aA _) (Or.inl rfl);refine⟨_,if_pos (by omega),?_,?_⟩
 .generalize pdq (ltOf kD) l.toArray 0 l.toArray.size (Lib.bitLen l.toArray.size) true true=r at h1 h2;have e:r.extract 0 l.toArray.size=r:=by rw[<-h1];simp
  rw[e]at h2;simpa using h2
 .rw[fK];intro i j hi hj hij;have:=h3 i j (bY _) hij (by rw[<-h1];simpa using hj);rw[getElem!_pos _ j (by simpa using hj),getElem!_pos _ i (by simpa using hi)]at this;rw[Dj,decide_eq_false_iff_not]at this;simp only[rW];omega
theorem Cr(d:Array ag):(pdq (ltOf kD) d 0 d.size (Lib.bitLen d.size) true true).size=d.size:=(pdq_sorts (ltOf kD) ug d 0 d.size (Lib.bitLen d.size) true true (bY _) (aA _) (Or.inl rfl)).1.1
set_option maxHeartbeats 2000000 in theorem DZ{k0:K}{v0:Value}{l r:List ag}(i0:ah 0 308 l v0 k0)(hr:rZ l=some r):Calls Tryz.prog 237 #[v0, .func (.func 238) #[] #[]] k0.w (cr (obF v0) k0 λ_ k'=>ah 0 308 r v0 k'):=by
 unfold rZ at hr;split at hr
 .rename_i h12;obtain rfl:=ae hr;refine Fu (S:=λd=>pdq (ltOf kD) d 0 d.size (Lib.bitLen d.size) true true) Cr (λp cap w=>?_) (λblk off cap w hH hblk=>?_) i0;.have hcon:=AnyF.slices_SortFunc_none {Tryz.AJ with} p cap (.func (.func 238) #[] #[]) w;change Calls Tryz.prog 237 _ _ _ at hcon;exact hcon
  .have hcon:=AnyQ.slices_SortFunc_eq Tryz.AJ 2 Tryz.isAgg308 Tryz.sizeOf308 (cS.enc (α:=ag)) (λ _=>rfl) (λx v hv=>GU k0 x v hv) kD ug 238 #[] blk off cap l.toArray w (enters_of Tryz.func238 (by kernel_rfl) rfl) (λ _ _ _ _ x y=>J9 (k:=RA _) (wP (xw rfl x _) (xw rfl y _) (vT x y))) hH hblk (by simp;omega);change Calls Tryz.prog 237 _ _ _ at hcon;exact hcon
 .simp at hr
end
def Uq:FkR tb Tryz.prog:=⟨237,fnT tb [.tu, .fn 238] 308 (.st 23) (λx y=>rZ y),NF Tryz.call237 λk0 vs u1 u2 x y r hG h hy hr=>by obtain⟨vs0,rfl,h1⟩:=h.tu;obtain⟨vs1,rfl,h2⟩:=h1.fn;obtain rfl:=h2.nil;exact DZ hy hr⟩
def jN(l_:(List ay))(x_:Int)(s1:(List ag)×Int):Option (aY ((List ag)×Int) ((List ag))):=if(decide (s1.2<(l_.length:Int)))then(aL l_ s1.2).bind λx1=>(if((decide (x1.X0<=x_))&&(decide (x_<x1.X1)))then(eb s1.1 ([(⟨x1.Y0,x1.Y1⟩:ag)])).bind λx2=>some x2 else some s1.1).bind λs2=>(bh s1.2 1).bind λx3=>some (.go (s2,x3))else some (.ex 0 (s1.1,s1.2))
def gH(x1:(List ag))(s1:(List ag)×Int):Option (aY ((List ag)×Int) ((List ag))):=if(decide (s1.2<(x1.length:Int)))then(aL x1 s1.2).bind λx2=>(if(decide (0<(s1.1.length:Int)))then(fi (s1.1.length:Int) 1).bind λx3=>(aL s1.1 x3).bind λx4=>some (decide (x2.from_<=x4.to_))else some false).bind λx5=>(if x5 then(fi (s1.1.length:Int) 1).bind λx6=>(fi (s1.1.length:Int) 1).bind λx7=>(aL s1.1 x7).bind λx8=>(aL s1.1 x6).bind λx9=>(some (s1.1.set (x6).toNat ({x9 with to_:=(max x8.to_ x2.to_)}))).bind λx10=>some x10 else(eb s1.1 ([x2])).bind λx11=>some x11).bind λs2=>(bh s1.2 1).bind λx12=>some (.go (s2,x12))else some (.ex 2 (s1.1,s1.2))
def nv(l_:(List ay))(x_:Int):Option ((List ag)):=(ar (jN l_ x_) (l_.length+1) (([]:List ag),0)).bind λf1=>match f1 with
 | .go _=>none| .ex _ s1=>(rZ s1.1).bind λx1=>(ar (gH x1) (x1.length+1) (([]:List ag),0)).bind λf2=>match f2 with| .go _=>none| .ex _ s2=>some s2.1| .ret r1=>some r1
 | .ret r2=>some r2
def U4:=mkc 217 [.list (.st 2), .int] [.list (.st 23)] (λx=>nv x.1 x.2) [] [Uq] [5,8,28,35,37,74,77] Tryz.f217 (.s .n (.s .n (.s (.s .n (.l [] [(5, .o 308 (.st 23)),(14, .v .int)] [(0,[14],[])] (fI 13) (.s .n (.s .n (.s (.s .n (.s .n (.j [] [(5, .o 308 (.st 23))] ([],[]) (.s .n .n)))) .n))))) (.s .n (.s (.f [5] .n) (.s (.s (.f [5] .n) (.l [] [(8, .o 308 (.st 23)),(41, .v .int)] [(2,[41],[])] (fI 40) (.s .n (.s .n (.s (.s .n (.s .n (.s .n (.j [] [(8, .o 308 (.st 23))] ([],[]) (.s .n .n))))) .n))))) (.s (.f [8] .n) .n))))))) Tryz.func217 Tryz.call217 rfl rfl λx=>by kernel_rfl
def gP(x1:(List ay))(s1:(List Int)×Int):Option (aY ((List Int)×Int) ((List aB))):=if(decide (s1.2<(x1.length:Int)))then(aL x1 s1.2).bind λx2=>(eb s1.1 ([x2.X0,x2.X1])).bind λx3=>(bh s1.2 1).bind λx4=>some (.go (x3,x4))else some (.ex 0 (s1.1,s1.2))
def gG(x1:(List ay))(x2:(List Int))(s1:(List aB)×Int):Option (aY ((List aB)×Int) ((List aB))):=if(decide (s1.2<(x2.length:Int)))then(fi s1.2 1).bind λx3=>(aL x2 x3).bind λx4=>(aL x2 s1.2).bind λx5=>(fi s1.2 1).bind λx6=>(aL x2 x6).bind λx7=>(nv x1 x7).bind λx8=>(eb s1.1 ([(⟨x4,x5,x8⟩:aB)])).bind λx9=>(bh s1.2 1).bind λx10=>some (.go (x9,x10))else some (.ex 2 (s1.1,s1.2))
def ef(lists_:(List (List ay))):Option ((List aB)):=(fB lists_).bind λx1=>(ar (gP x1) (x1.length+1) (([]:List Int),0)).bind λf1=>match f1 with
 | .go _=>none| .ex _ s1=>(kq s1.1).bind λx2=>(gn x2).bind λx3=>(ar (gG x1 x3) (x1.length+x3.length+([]:List aB).length+1) (([]:List aB),1)).bind λf2=>match f2 with| .go _=>none| .ex _ s2=>some s2.1| .ret r1=>some r1
 | .ret r2=>some r2
def T7:=mkR 195 (fnO tb [.v (.list (.list (.st 2)))] 289 (.st 24) (λx=>ef x)) (λr=>r.2.1) (λ _=>rfl) [Uv,U4] [Kk,JL] false [2,4,7,17,23,25,27,35,54,55] Tryz.f195 (.s .n (.s .n (.s .n (.s (.s .n (.l [] [(4, .o 3 .int),(13, .v .int)] [(0,[13],[])] (fI 12) .n)) (.s .n (.s .n (.s (.f [4] .n) (.s (.s (.f [4] .n) (.l [] [(7, .o 289 (.st 24)),(8, .v .int)] [(2,[8],[])] (fL [3,4,7]) (.s (.s (.f [4] .n) .n) (.s (.f [4] .n) (.f [4] .n))))) .n)))))))) 0 Tryz.func195 Tryz.call195 rfl rfl rfl λx y z=>by kernel_rfl
def Tu:=mkc 195 [.list (.list (.st 2))] [.list (.st 24)] (λx=>ef x) [Uv,U4] [Kk,JL] [2,4,7,17,23,25,27,35,54,55] Tryz.f195 (.s .n (.s .n (.s .n (.s (.s .n (.l [] [(4, .o 3 .int),(13, .v .int)] [(0,[13],[])] (fI 12) .n)) (.s .n (.s .n (.s (.f [4] .n) (.s (.s (.f [4] .n) (.l [] [(7, .o 289 (.st 24)),(8, .v .int)] [(2,[8],[])] (fL [3,4,7]) (.s (.s (.f [4] .n) .n) (.s (.f [4] .n) (.f [4] .n))))) .n)))))))) Tryz.func195 Tryz.call195 rfl rfl λx=>by kernel_rfl
theorem yM{k0:K}{v0:Value}{x0:(List (List ay))}{r:(List aB)}(i0:(IsV x0) v0 k0)(hr:ef x0=some r):Calls Tryz.prog 195 #[v0] k0.w (Ret k0 (IsV r)):=(Tu.ok.ok k0 [v0] x0 r (GOk.none (λ _=>rfl) λ _ e=>by cases e) i0 hr)
def mE(s1_:(List ag))(s2_:(List ag)):Option (Bool):=eqM s1_ s2_
def WN:=mk 215 [.list (.st 23), .list (.st 23)] [.bool] (λx=>mE x.1 x.2) [] [] Tryz.f215 (.s .n (.s .n (.s (.s .n (.l [] [(13, .v .int)] [(0,[13],[])] (fI 12) .n)) .n))) Tryz.func215 Tryz.call215 rfl rfl λx=>by kernel_rfl
def dR(l_:(List aB))(s1:(List ay)×Int)(s2:Int):Option (aY (Int) ((List ay))):=(if(decide (s2<(l_.length:Int)))then(aL l_ s2).bind λx1=>(aL l_ s1.2).bind λx2=>(mE x1.column x2.column).bind λx3=>some x3 else some false).bind λx4=>if x4 then(bh s2 1).bind λx5=>some (.go x5)else some (.ex 2 s2)
def kM(l_:(List aB))(s1:(List ay)×Int)(s2:Int)(x2:aB)(s3:(List ay)×Int):Option (aY ((List ay)×Int) ((List ay))):=if(decide (s3.2<(x2.column.length:Int)))then(aL x2.column s3.2).bind λx3=>(aL l_ s1.2).bind λx4=>(fi s2 1).bind λx5=>(aL l_ x5).bind λx6=>(eb s3.1 ([(⟨x4.x0,x3.from_,x6.x1,x3.to_⟩:ay)])).bind λx7=>(bh s3.2 1).bind λx8=>some (.go (x7,x8))else some (.ex 4 (s3.1,s3.2))
def kP(l_:(List aB))(s1:(List ay)×Int):Option (aY ((List ay)×Int) ((List ay))):=if(decide (s1.2<(l_.length:Int)))then(bh s1.2 1).bind λx1=>(ar (dR l_ s1) (l_.length+s1.1.length+1) x1).bind λf1=>match f1 with
 | .go _=>none| .ex _ s2=>(aL l_ s1.2).bind λx2=>(ar (kM l_ s1 s2 x2) (x2.column.length+1) (s1.1,0)).bind λf2=>match f2 with| .go _=>none| .ex _ s3=>some (.go (s3.1,s2))| .ret r1=>some (.ret r1)
 | .ret r2=>some (.ret r2)else some (.ex 0 (s1.1,s1.2))
def gh(l_:(List aB)):Option ((List ay)):=(ar (kP l_) (l_.length+([]:List ay).length+1) (([]:List ay),0)).bind λf1=>match f1 with| .go _=>none| .ex _ s1=>some s1.1| .ret r1=>some r1
def Te:=mk 194 [.list (.st 24)] [.list (.st 2)] (λx=>gh x) [WN] [3,43,61] Tryz.f194 (.s .n (.s .n (.s (.s .n (.l [] [(3, .o 126 (.st 2)),(4, .v .int)] [(0,[4],[])] (fL [0,3]) (.s .n (.s .n (.s (.l [] [(5, .v .int)] [(2,[],[])] (fL [0,3]) .n) (.s (.s .n (.l [] [(3, .o 126 (.st 2)),(39, .v .int)] [(4,[39],[])] (fI 38) .n)) .n)))))) (.s (.f [3] .n) .n)))) Tryz.func194 Tryz.call194 rfl rfl λx=>by kernel_rfl
theorem zN{k0:K}{v0:Value}{x0:(List aB)}{r:(List ay)}(i0:(IsV x0) v0 k0)(hr:gh x0=some r):Calls Tryz.prog 194 #[v0] k0.w (Ret k0 (IsV r)):=(Te.ok.ok k0 [v0] x0 r (GOk.none (λ _=>rfl) λ _ e=>by cases e) i0 hr)
def jm(l_:(List ay)):Option ((List ay)×Int):=if(decide (200<(l_.length:Int)))then some (([]:List ay),6)else some (l_,0)
def T2:=mk 199 [.list (.st 2)] [.list (.st 2), .int] (λx=>jm x) [] [] Tryz.f199 (.n) Tryz.func199 Tryz.call199 rfl rfl λx=>by kernel_rfl
def jA(l_:(List ay))(s1:Int):Option (aY (Int) ((List ay)×Int)):=if(decide (s1<(l_.length:Int)))then(aL l_ s1).bind λx1=>(eZ x1).bind λx2=>if(!x2)then some (.ret (([]:List ay),1))else(bh s1 1).bind λx3=>some (.go x3)else some (.ex 0 s1)
def ly(l_:(List ay)):Option ((List ay)×Int):=(ar (jA l_) (l_.length+1) 0).bind λf1=>match f1 with| .go _=>none| .ex _ _=>if(decide (400<(l_.length:Int)))then some (([]:List ay),6)else(ef ([l_])).bind λx1=>(gh x1).bind λx2=>(jm x2).bind λx3=>some (x3.1,x3.2)| .ret r1=>some r1
def XF:=mk 163 [.list (.st 2)] [.list (.st 2), .int] (λx=>ly x) [Iu,Tu,Te,T2] [] Tryz.f163 (.s .n (.s (.s .n (.l [] [(8, .v .int)] [(0,[8],[])] (fI 7) .n)) .n)) Tryz.func163 Tryz.call163 rfl rfl λx=>by kernel_rfl
def iM(s1_:(List ay))(s2_:(List ay)):Option (Bool):=eqM s1_ s2_
def UQ:=mk 164 [.list (.st 2), .list (.st 2)] [.bool] (λx=>iM x.1 x.2) [] [] Tryz.f164 (.s .n (.s .n (.s (.s .n (.l [] [(13, .v .int)] [(0,[13],[])] (fI 12) .n)) .n))) Tryz.func164 Tryz.call164 rfl rfl λx=>by kernel_rfl
def dP(a_:(List ay)):Option (Bool):=(ly a_).bind λx1=>(if(x1.2==0)then(iM x1.1 a_).bind λx2=>some x2 else some false).bind λx3=>some x3
def Nu:=mk 116 [.list (.st 2)] [.bool] (λx=>dP x) [XF,UQ] [] Tryz.f116 (.n) Tryz.func116 Tryz.call116 rfl rfl λx=>by kernel_rfl
theorem zV{k0:K}{v0:Value}{x0:(List ay)}{r:Bool}(i0:(IsV x0) v0 k0)(hr:dP x0=some r):Calls Tryz.prog 116 #[v0] k0.w (Ret k0 (IsV r)):=(Nu.ok.ok k0 [v0] x0 r (GOk.none (λ _=>rfl) λ _ e=>by cases e) i0 hr)
def lz(a_:(List ay))(b_:(List ay)):Option (Bool):=(iM a_ b_).bind λx1=>some x1
def We:=mk 227 [.list (.st 2), .list (.st 2)] [.bool] (λx=>lz x.1 x.2) [UQ] [] Tryz.f227 (.n) Tryz.func227 Tryz.call227 rfl rfl λx=>by kernel_rfl
def gU(s_:(List ct))(s1:Int):Option (aY (Int) (Bool)):=if(decide (s1<(s_.length:Int)))then((aL s_ s1).bind λx1=>(if((((decide (x1.Z0<0))||(decide (x1.Z1<=x1.Z0)))||(decide (4096<x1.Z1)))||((x1.Area.length:Int)==0))then some true else(dP x1.Area).bind λx2=>some (!x2)).bind λx3=>if x3 then some (.ret false)else if(s1==0)then some (.go ())else(fi s1 1).bind λx4=>(aL s_ x4).bind λx5=>(if(decide (x1.Z0<x5.Z1))then some true else(if(x5.Z1==x1.Z0)then(lz x5.Area x1.Area).bind λx6=>some x6 else some false).bind λx7=>some x7).bind λx8=>if x8 then some (.ret false)else some (.go ()):Option (aY (Unit) (Bool))).bind λf1=>match f1 with| .go _=>(bh s1 1).bind λx9=>some (.go x9)| .ex _ _=>none| .ret r1=>some (.ret r1)else some (.ex 0 s1)
def lE(s_:(List ct)):Option (Bool):=if(decide (80<(s_.length:Int)))then some false else(ar (gU s_) (s_.length+1) 0).bind λf1=>match f1 with| .go _=>none| .ex _ _=>some true| .ret r1=>some r1
def Ws:=mk 202 [.list (.st 22)] [.bool] (λx=>lE x) [Nu,We] [] Tryz.f202 (.s .n (.s .n (.s (.s .n (.l [] [(11, .v .int)] [(0,[11],[])] (fI 10) (.s .n (.s .n (.s (.jf [] [] ([],[]) [] .n) .n))))) .n))) Tryz.func202 Tryz.call202 rfl rfl λx=>by kernel_rfl
def my(x1:ct)(s1:(List Box)×Int):Option (aY ((List Box)×Int) ((List Box))):=if(decide (s1.2<(x1.Area.length:Int)))then(aL x1.Area s1.2).bind λx2=>(eb s1.1 ([(⟨x2,x1.Z0,x1.Z1⟩:Box)])).bind λx3=>(bh s1.2 1).bind λx4=>some (.go (x3,x4))else some (.ex 2 (s1.1,s1.2))
def l7(s_:(List ct))(s1:(List Box)×Int):Option (aY ((List Box)×Int) ((List Box))):=if(decide (s1.2<(s_.length:Int)))then(aL s_ s1.2).bind λx1=>(ar (my x1) (x1.Area.length+1) (s1.1,0)).bind λf1=>match f1 with| .go _=>none| .ex _ s2=>(bh s1.2 1).bind λx2=>some (.go (s2.1,x2))| .ret r1=>some (.ret r1)else some (.ex 0 (s1.1,s1.2))
def lJ(s_:(List ct)):Option ((List Box)):=(lE s_).bind λx1=>if(!x1)then some ([]:List Box)else(ar (l7 s_) (s_.length+1) (([]:List Box),0)).bind λf1=>match f1 with| .go _=>none| .ex _ s1=>some s1.1| .ret r1=>some r1
def XT:=mk 172 [.list (.st 22)] [.list (.st 5)] (λx=>lJ x) [Ws] [3,24,32] Tryz.f172 (.s .n (.s .n (.s .n (.s (.s .n (.l [] [(3, .o 128 (.st 5)),(13, .v .int)] [(0,[13],[])] (fI 12) (.s .n (.s .n (.s (.s .n (.s .n (.l [] [(3, .o 128 (.st 5)),(20, .v .int)] [(2,[20],[])] (fI 19) .n))) .n))))) (.s (.f [3] .n) .n))))) Tryz.func172 Tryz.call172 rfl rfl λx=>by kernel_rfl
def eu(b_:cg)(c_:cg):Option (Int):=(El b_.n c_.d).bind λx1=>(El c_.n b_.d).bind λx2=>(cE x1 x2).bind λx3=>some x3
def Si:=mk 205 [.st 26, .st 26] [.int] (λx=>eu x.1 x.2) [k68] [] Tryz.f205 (.n) Tryz.func205 Tryz.call205 rfl rfl λx=>by kernel_rfl
def eO(i_:bn)(b_:cg):Option (bn):=(eu b_ i_.lo).bind λx1=>(if(decide (0<x1))then some {i_ with lo:=b_}else(if(x1==0)then some {i_ with lo:={i_.lo with open_:=(i_.lo.open_||b_.open_)}}else some i_).bind λs1=>some s1).bind λs2=>some s2
def Vp:=mkR 203 (fnB tb [.tu, .v (.st 26)] (.st 25) (λx y=>eO y x)) (λr=>r.1) (λ _=>rfl) [Si] [] false [0] Tryz.f203 (.s .n (.s .n (.s .n (.j [] [(0, .b (.st 25))] ([],[]) (.s .n (.s .n (.j [] [(0, .b (.st 25))] ([],[]) (.s .n .n)))))))) 0 Tryz.func203 Tryz.call203 rfl rfl rfl λx y z=>by kernel_rfl
def eQ(i_:bn)(b_:cg):Option (bn):=(if i_.top then(eu b_ i_.hi).bind λx1=>some x1 else some (-1)).bind λs1=>(if(decide (s1<0))then some {{i_ with hi:=b_}with top:=true}else(if(s1==0)then some {i_ with hi:={i_.hi with open_:=(i_.hi.open_||b_.open_)}}else some i_).bind λs2=>some s2).bind λs3=>some s3
def UH:=mkR 204 (fnB tb [.tu, .v (.st 26)] (.st 25) (λx y=>eQ y x)) (λr=>r.1) (λ _=>rfl) [Si] [] false [0] Tryz.f204 (.s .n (.s .n (.s (.s .n (.j [] [(4, .v .int)] ([],[]) (.s .n .n))) (.s .n (.j [] [(0, .b (.st 25))] ([],[]) (.s .n (.s .n (.j [] [(0, .b (.st 25))] ([],[]) (.s .n .n))))))))) 0 Tryz.func204 Tryz.call204 rfl rfl rfl λx y z=>by kernel_rfl
def dK(i_:bn)(at_:Int)(by_:Int)(from_:Int)(to_:Int):Option (bn):=(if(decide (0<by_))then(fi from_ at_).bind λx1=>(eO i_ (⟨x1,by_,false⟩:cg)).bind λx2=>(fi to_ at_).bind λx3=>(eQ x2 (⟨x3,by_,true⟩:cg)).bind λx4=>some x4 else(if(decide (by_<0))then(fi at_ to_).bind λx5=>(fi 0 by_).bind λx6=>(eO i_ (⟨x5,x6,true⟩:cg)).bind λx7=>(fi at_ from_).bind λx8=>(fi 0 by_).bind λx9=>(eQ x7 (⟨x8,x9,false⟩:cg)).bind λx10=>some x10 else(if((decide (at_<from_))||(decide (to_<=at_)))then some {i_ with none_:=true}else some i_).bind λs1=>some s1).bind λs2=>some s2).bind λs3=>some s3
def Up:=mkR 173 (fnB tb [.tu, .v .int, .v .int, .v .int, .v .int] (.st 25) (λx y=>dK y x.1 x.2.1 x.2.2.1 x.2.2.2)) (λr=>r.1) (λ _=>rfl) [] [Vp,UH] false [0] Tryz.f173 (.s .n (.j [] [(0, .b (.st 25))] ([],[]) (.s .n (.s .n (.j [] [(0, .b (.st 25))] ([],[]) (.s .n (.s .n (.j [] [(0, .b (.st 25))] ([],[]) (.s .n .n))))))))) 0 Tryz.func173 Tryz.call173 rfl rfl rfl λx y z=>by kernel_rfl
def fU(i_:bn):Option (Bool):=if(i_.none_||(!i_.top))then some i_.none_ else(eu i_.lo i_.hi).bind λx1=>some ((decide (0<x1))||((x1==0)&&(i_.lo.open_||i_.hi.open_)))
def XC:=mk 174 [.rf (.st 25)] [.bool] (λx=>fU x) [Si] [] Tryz.f174 (.n) Tryz.func174 Tryz.call174 rfl rfl λx=>by kernel_rfl
def jq(p_:bq)(v_:bq)(t_:bn)(x1:(List Box))(s1:Int):Option (aY (Int) (Bool)):=if(decide (s1<(x1.length:Int)))then(aL x1 s1).bind λx2=>(dK t_ p_.X v_.X x2.Base.X0 x2.Base.X1).bind λx3=>(dK x3 p_.Y v_.Y x2.Base.Y0 x2.Base.Y1).bind λx4=>(dK x4 p_.Z v_.Z x2.Z0 x2.Z1).bind λx5=>(fU x5).bind λx6=>if(!x6)then some (.ret true)else(bh s1 1).bind λx7=>some (.go x7)else some (.ex 0 s1)
def nR(s_:(List ct))(p_:bq)(v_:bq)(t_:bn):Option (Bool):=(lJ s_).bind λx1=>(ar (jq p_ v_ t_ x1) (x1.length+1) 0).bind λf1=>match f1 with| .go _=>none| .ex _ _=>some false| .ret r1=>some r1
def Uw:=mkc 126 [.list (.st 22), .st 17, .st 17, .st 25] [.bool] (λx=>nR x.1 x.2.1 x.2.2.1 x.2.2.2) [XT,XC] [Up] [11] Tryz.f126 (.s .n (.s (.s .n (.l [] [(16, .v .int)] [(0,[16],[])] (fI 15) (.s .n (.s .n (.s (.s .n (.s .n (.s .n (.s .n (.s .n (.s .n (.s (.f [11] .n) .n))))))) .n))))) .n)) Tryz.func126 Tryz.call126 rfl rfl λx=>by kernel_rfl
def mS(s_:(List ct))(p_:bq)(d_:bq):Option (Bool):=(rS p_).bind λx1=>if((((!x1)||(decide (d_=(⟨0,0,0⟩:bq))))||(decide ((min (min d_.X d_.Y) d_.Z)<(-1048576))))||(decide (1048576<(max (max d_.X d_.Y) d_.Z))))then some false else(nR s_ p_ d_ (⟨(⟨0,1,true⟩:cg),(⟨0,0,false⟩:cg),false,false⟩:bn)).bind λx2=>some x2
def k76:=mk 76 [.list (.st 22), .st 17, .st 17] [.bool] (λx=>mS x.1 x.2.1 x.2.2) [Vi,Uw] [] Tryz.f76 (.n) Tryz.func76 Tryz.call76 rfl rfl λx=>by kernel_rfl
def mK(s_:(List (List ct)))(f_:((List ct)->Option (Bool))):Option (Int):=BV s_ f_
def V4:=mk 183 [.list (.list (.st 22)), .f1 (.list (.st 22)) .bool] [.int] (λx=>mK x.1 x.2) [] [] Tryz.f183 (.s .n (.s (.s .n (.l [] [(8, .v .int)] [(0,[8],[])] (fI 7) .n)) .n)) Tryz.func183 Tryz.call183 rfl rfl λx=>by kernel_rfl
def gC(s_:(List (List ct)))(f_:((List ct)->Option (Bool))):Option (Bool):=(mK s_ f_).bind λx1=>some (decide (0<=x1))
def Xz:=mk 136 [.list (.list (.st 22)), .f1 (.list (.st 22)) .bool] [.bool] (λx=>gC x.1 x.2) [V4] [] Tryz.f136 (.n) Tryz.func136 Tryz.call136 rfl rfl λx=>by kernel_rfl
def qM(s_:(List ct))(p1_:((List ct)->bq->Option (Bool)))(p2_:bq):Option (Bool):=(p1_ s_ p2_).bind λx1=>some x1
def WB:=mk 137 [.list (.st 22), .rf (.f2 (.list (.st 22)) (.st 17) .bool), .rf (.st 17)] [.bool] (λx=>qM x.1 x.2.1 x.2.2) [] [] Tryz.f137 (.n) Tryz.func137 Tryz.call137 rfl rfl λx=>by kernel_rfl
def l5(points_:(List bq))(solids_:(List (List ct)))(blocks_:((List ct)->bq->Option (Bool)))(s1:Int×Int):Option (aY (Int×Int) (Int)):=if(decide (s1.2<(points_.length:Int)))then(aL points_ s1.2).bind λx1=>(gC solids_ (λy0=>qM y0 blocks_ x1)).bind λx2=>(if(!x2)then(bh s1.1 1).bind λx3=>some x3 else some s1.1).bind λs2=>(bh s1.2 1).bind λx4=>some (.go (s2,x4))else some (.ex 0 (s1.1,s1.2))
def oh(points_:(List bq))(solids_:(List (List ct)))(blocks_:((List ct)->bq->Option (Bool))):Option (Int):=(ar (l5 points_ solids_ blocks_) (points_.length+1) (0,0)).bind λf1=>match f1 with| .go _=>none| .ex _ s1=>some s1.1| .ret r1=>some r1
def k88:=mk 88 [.list (.st 17), .list (.list (.st 22)), .f2 (.list (.st 22)) (.st 17) .bool] [.int] (λx=>oh x.1 x.2.1 x.2.2) [WB,Xz] [] Tryz.f88 (.s .n (.s .n (.s (.s .n (.l [] [(7, .v .int),(12, .v .int)] [(0,[12],[])] (fI 11) (.s .n (.s .n (.s (.s .n (.s .n (.j [] [(7, .v .int)] ([],[]) (.s .n .n)))) .n))))) .n))) Tryz.func88 Tryz.call88 rfl rfl λx=>by kernel_rfl
def pO(p0_:Int):Option (Bool):=some false
def k90:=mk 90 [.int] [.bool] (λx=>pO x) [] [] Tryz.f90 (.n) Tryz.func90 Tryz.call90 rfl rfl λx=>by kernel_rfl
def gA(s_:(List ct))(p_:bq)(q_:bq):Option (Bool):=(rS p_).bind λx1=>(if(!x1)then some true else(rS q_).bind λx2=>some (!x2)).bind λx3=>if x3 then some false else(fi q_.X p_.X).bind λx4=>(fi q_.Y p_.Y).bind λx5=>(fi q_.Z p_.Z).bind λx6=>(nR s_ p_ (⟨x4,x5,x6⟩:bq) (⟨(⟨0,1,true⟩:cg),(⟨1,1,true⟩:cg),true,false⟩:bn)).bind λx7=>some x7
def k79:=mk 79 [.list (.st 22), .st 17, .st 17] [.bool] (λx=>gA x.1 x.2.1 x.2.2) [Vi,Uw] [] Tryz.f79 (.n) Tryz.func79 Tryz.call79 rfl rfl λx=>by kernel_rfl
def jo(a_:aF)(b_:aF):Option (Bool):=(jG a_).bind λx1=>(if(!x1)then some true else(jG b_).bind λx2=>some (!x2)).bind λx3=>if x3 then some false else(gK a_.Box.Base b_.Box.Base).bind λx4=>some (x4.2&&(decide ((max a_.Box.Z0 b_.Box.Z0)<(min a_.Box.Z1 b_.Box.Z1))))
def k94:=mk 94 [.st 4, .st 4] [.bool] (λx=>jo x.1 x.2) [UR,TX] [] Tryz.f94 (.n) Tryz.func94 Tryz.call94 rfl rfl λx=>by kernel_rfl
def lM(s_:(List cD))(f_:(cD->Option (Bool))):Option (Int):=BV s_ f_
def XP:=mk 138 [.list (.st 21), .f1 (.st 21) .bool] [.int] (λx=>lM x.1 x.2) [] [] Tryz.f138 (.s .n (.s (.s .n (.l [] [(8, .v .int)] [(0,[8],[])] (fI 7) .n)) .n)) Tryz.func138 Tryz.call138 rfl rfl λx=>by kernel_rfl
def fE(s_:(List cD))(f_:(cD->Option (Bool))):Option (Bool):=(lM s_ f_).bind λx1=>some (decide (0<=x1))
def k92:=mk 92 [.list (.st 21), .f1 (.st 21) .bool] [.bool] (λx=>fE x.1 x.2) [XP] [] Tryz.f92 (.n) Tryz.func92 Tryz.call92 rfl rfl λx=>by kernel_rfl
def qd(lot_:Int)(p1_:mC):Option (Bool):=some (lot_==p1_.Lot)
def k87:=mk 87 [.int, .rf (.st 20)] [.bool] (λx=>qd x.1 x.2) [] [] Tryz.f87 (.n) Tryz.func87 Tryz.call87 rfl rfl λx=>by kernel_rfl
def lZ(s_:(List ct))(d_:bq)(p2_:mC):Option (Bool):=(mS s_ p2_.At d_).bind λx1=>some x1
def k89:=mk 89 [.list (.st 22), .st 17, .rf (.st 20)] [.bool] (λx=>lZ x.1 x.2.1 x.2.2) [k76] [] Tryz.f89 (.n) Tryz.func89 Tryz.call89 rfl rfl λx=>by kernel_rfl
def mD(s_:(List ct))(q_:bq)(p2_:View):Option (Bool):=(gA s_ p2_.Eye q_).bind λx1=>some x1
def k91:=mk 91 [.list (.st 22), .st 17, .rf (.st 16)] [.bool] (λx=>mD x.1 x.2.1 x.2.2) [k79] [] Tryz.f91 (.n) Tryz.func91 Tryz.call91 rfl rfl λx=>by kernel_rfl
def me(a_:cD)(p1_:cD):Option (Bool):=(jo a_.aF p1_.aF).bind λx1=>some x1
def k93:=mk 93 [.st 21, .rf (.st 21)] [.bool] (λx=>me x.1 x.2) [k94] [] Tryz.f93 (.n) Tryz.func93 Tryz.call93 rfl rfl λx=>by kernel_rfl
def kI(t_:aP)(s1:Int×cU):Option (aY (Int×cU) (cU×Bool)):=if(decide (s1.1<(t_.Windows.length:Int)))then(aL t_.Windows s1.1).bind λx1=>(kf t_ (λy0=>qd y0 x1)).bind λx2=>(oh t_.az.Sun x2 (λy0 y1=>lZ y0 y1 x1)).bind λx3=>if(decide (x3<t_.az.Hours))then some (.ret ((⟨2,(⟨#[]⟩:ByteArray),s1.1⟩:cU),false))else(bh s1.1 1).bind λx4=>some (.go (x4,s1.2))else some (.ex 0 (s1.1,s1.2))
def kH(t_:aP)(x1:(List (List ct)))(s1:Int×cU):Option (aY (Int×cU) (cU×Bool)):=if(decide (s1.1<(t_.az.Views.length:Int)))then(aL t_.az.Views s1.1).bind λx2=>(oh x2.Targets x1 (λy0 y1=>mD y0 y1 x2)).bind λx3=>if(decide (x3<x2.Least))then some (.ret ((⟨3,x2.Name,0⟩:cU),false))else(bh s1.1 1).bind λx4=>some (.go (x4,s1.2))else some (.ex 2 (s1.1,s1.2))
def kE(t_:aP)(s1:Int×cU):Option (aY (Int×cU) (cU×Bool)):=if(decide (s1.1<(t_.Built.length:Int)))then(aL t_.Built s1.1).bind λx1=>(ic t_.Built 0 s1.1).bind λx2=>(fE x2 (λy0=>me y0 x1)).bind λx3=>if x3 then some (.ret ((⟨5,(⟨#[]⟩:ByteArray),s1.1⟩:cU),false))else(bh s1.1 1).bind λx4=>some (.go (x4,s1.2))else some (.ex 4 (s1.1,s1.2))
def oS(t_:aP):Option (cU×Bool):=(ar (kI t_) (t_.Windows.length+1) (0,(⟨0,(⟨#[]⟩:ByteArray),0⟩:cU))).bind λf1=>match f1 with
 | .go _=>none| .ex _ s1=>(kf t_ pO).bind λx1=>(ar (kH t_ x1) (t_.az.Views.length+1) (0,s1.2)).bind λf2=>match f2 with
  | .go _=>none| .ex _ s2=>(ar (kE t_) (t_.Built.length+1) (0,s2.2)).bind λf3=>match f3 with| .go _=>none| .ex _ _=>some ((⟨0,(⟨#[]⟩:ByteArray),0⟩:cU),true)| .ret r1=>some r1
  | .ret r2=>some r2
 | .ret r3=>some r3
def k52:=mk 52 [.st 7] [.st 27, .bool] (λx=>oS x) [k87,k86,k89,k88,k90,k91,k93,k92] [2] Tryz.f52 (.s .n (.s (.s .n (.l [] [(15, .v .int),(2, .b (.st 27))] [(0,[15],[])] (fI 14) .n)) (.s .n (.s (.s .n (.l [] [(42, .v .int),(2, .b (.st 27))] [(2,[42],[])] (fI 41) .n)) (.s (.s .n (.l [] [(61, .v .int),(2, .b (.st 27))] [(4,[61],[])] (fI 60) .n)) .n))))) Tryz.func52 Tryz.call52 rfl rfl λx=>by kernel_rfl
def lQ(x1:jP)(s1:Int×Int):Option (aY (Int×Int) (cU×Bool)):=if(decide (s1.2<(x1.Tops.length:Int)))then(aL x1.Tops s1.2).bind λx2=>(bh s1.1 x2).bind λx3=>(bh s1.2 1).bind λx4=>some (.go (x3,x4))else some (.ex 2 (s1.1,s1.2))
def lY(t_:aP)(rights_:(List ai))(s1:Int×cU):Option (aY (Int×cU) (cU×Bool)):=if(decide (s1.1<(t_.az.Caps.length:Int)))then(aL t_.az.Caps s1.1).bind λx1=>(pG t_ rights_ x1).bind λx2=>(ar (lQ x2) (x2.Tops.length+1) (x2.Base,0)).bind λf1=>match f1 with| .go _=>none| .ex _ s2=>if(decide (x1.cU<s2.1))then some (.ret ((⟨1,x1.Name,0⟩:cU),false))else(bh s1.1 1).bind λx3=>some (.go (x3,s1.2))| .ret r1=>some (.ret r1)else some (.ex 0 (s1.1,s1.2))
def lD(t_:aP)(rights_:(List ai)):Option (cU×Bool):=(ar (lY t_ rights_) (t_.az.Caps.length+1) (0,(⟨0,(⟨#[]⟩:ByteArray),0⟩:cU))).bind λf1=>match f1 with| .go _=>none| .ex _ _=>(qy t_ rights_).bind λx1=>(oS x1).bind λx2=>some (x2.1,x2.2)| .ret r1=>some r1
def k45:=mk 45 [.st 7, .list (.st 29)] [.st 27, .bool] (λx=>lD x.1 x.2) [k23,k14,k52] [4] Tryz.f45 (.s .n (.s (.s .n (.l [] [(16, .v .int),(4, .b (.st 27))] [(0,[16],[])] (fI 15) (.s .n (.s .n (.s (.s .n (.s .n (.s .n (.s (.s .n (.l [] [(9, .v .int),(29, .v .int)] [(2,[29],[])] (fI 28) .n)) .n)))) .n))))) .n)) Tryz.func45 Tryz.call45 rfl rfl λx=>by kernel_rfl
def hK(d_:ax)(from_:Int)(to_:Int)(s1:(List aF)×Int):Option (aY ((List aF)×Int) ((List aF))):=if(decide (s1.2<(d_.Phases.length:Int)))then(aL d_.Phases s1.2).bind λx1=>(if((decide (from_<=s1.2))&&(decide (s1.2<to_)))then(eb s1.1 x1.Volumes).bind λx2=>some x2 else some s1.1).bind λs2=>(bh s1.2 1).bind λx3=>some (.go (s2,x3))else some (.ex 0 (s1.1,s1.2))
def oF(d_:ax)(from_:Int)(to_:Int):Option ((List aF)):=(ar (hK d_ from_ to_) (d_.Phases.length+1) (([]:List aF),0)).bind λf1=>match f1 with| .go _=>none| .ex _ s1=>some s1.1| .ret r1=>some r1
def X5:=mk 165 [.st 30, .int, .int] [.list (.st 4)] (λx=>oF x.1 x.2.1 x.2.2) [] [7,26,29] Tryz.f165 (.s .n (.s .n (.s (.s .n (.l [] [(7, .o 130 (.st 4)),(13, .v .int)] [(0,[13],[])] (fI 12) (.s .n (.s .n (.s (.s .n (.s .n (.j [] [(7, .o 130 (.st 4))] ([],[]) (.s .n .n)))) .n))))) (.s (.f [7] .n) .n)))) Tryz.func165 Tryz.call165 rfl rfl λx=>by kernel_rfl
def og(d_:ax):Option ((List aF)):=(oF d_ 0 (d_.Phases.length:Int)).bind λx1=>some x1
def UD:=mk 117 [.st 30] [.list (.st 4)] (λx=>og x) [X5] [] Tryz.f117 (.n) Tryz.func117 Tryz.call117 rfl rfl λx=>by kernel_rfl
def sH(a_:Box)(b_:Box):Option (Bool):=(gK a_.Base b_.Base).bind λx1=>some ((x1.2&&(decide (a_.Z0<b_.Z1)))&&(decide (b_.Z0<a_.Z1)))
def WS:=mk 161 [.st 5, .st 5] [.bool] (λx=>sH x.1 x.2) [TX] [] Tryz.f161 (.n) Tryz.func161 Tryz.call161 rfl rfl λx=>by kernel_rfl
def lH(s_:(List aF))(f_:(aF->Option (Bool))):Option (Int):=BV s_ f_
def VO:=mk 196 [.list (.st 4), .f1 (.st 4) .bool] [.int] (λx=>lH x.1 x.2) [] [] Tryz.f196 (.s .n (.s (.s .n (.l [] [(8, .v .int)] [(0,[8],[])] (fI 7) .n)) .n)) Tryz.func196 Tryz.call196 rfl rfl λx=>by kernel_rfl
def ek(s_:(List aF))(f_:(aF->Option (Bool))):Option (Bool):=(lH s_ f_).bind λx1=>some (decide (0<=x1))
def Xk:=mk 159 [.list (.st 4), .f1 (.st 4) .bool] [.bool] (λx=>ek x.1 x.2) [VO] [] Tryz.f159 (.n) Tryz.func159 Tryz.call159 rfl rfl λx=>by kernel_rfl
def la(c_:(IK .u8)):Option (Bool):=some ((decide ((IK.mk 97:IK .u8).n<=c_.n))&&(decide (c_.n<=(IK.mk 122:IK .u8).n)))
theorem v8{k0:K}{v0:Value}{c_:(IK .u8)}{r:Bool}(i0:(IsV c_) v0 k0)(hr:la c_=some r):Calls Tryz.prog 218 #[v0] k0.w (Ret k0 (IsV r)):=by
 unfold la at hr;refine Ret.ofC ?_;refine cO Tryz.func218 rfl Tryz.ntmps218 (show 1<=9 by decide) λa k hk0 hs hd ha=>?_;obtain⟨e0,_⟩:=ha;replace i0:(IsV c_) (a.get 0) k:=by rw[e0,hk0];exact i0
 have hQ:Gb.LetsOut (bodyPost Tryz.prog Tryz.f218 (cr noF k0 (IsV r))):=ch;have hg:Chg noF k0 k:=by rw[hk0];exact Chg.refl _ k0
 refine aK 1 (⟨some (IsV false),[]⟩::[]) rfl ⟨hg,hs,hd⟩ (by kernel_rfl) ⟨ob1 rfl λ _ _ h n=>aQ rfl (aE.2 rfl),trivial⟩ [⟨_,_⟩] (λb q p=>⟨p.ke 0 rfl i0,trivial⟩) ?_;rintro a k ⟨⟨hg,hs,hd⟩,i0,_⟩;refine aK 7 (_::⟨some (IsV (decide ((IK.mk 97:IK .u8).n<=c_.n))),[(3,some 0)]⟩::_::_::⟨some (Gd ((decide ((IK.mk 97:IK .u8).n<=c_.n))=true) (IsV (decide (c_.n<=(IK.mk 122:IK .u8).n)))),[(6,some 3)]⟩::_::_::[]) rfl ⟨hg,hs,hd⟩ (by kernel_rfl) ⟨mu rfl i0,ob1 rfl λ _ _ h n=>Ko rfl n.1 (dr.2 rfl),cm 1 rfl rfl,mT rfl rfl i0,gdT rfl rfl λhp _ _ h n=>Ke rfl (Gd.get n.1 hp) (dr.2 rfl),o1 [(5,some 2),(7,some 4)] rfl λ _ _ h n=>wx rfl n.1 (Gd.get n.2.1) (cB rfl),cp 5 rfl rfl,trivial⟩ [⟨_,_⟩] (λb q p=>⟨p.ou 6 2 rfl,trivial⟩) ?_;rintro a k ⟨⟨hg,hs,hd⟩,i2,_⟩;refine wp_ret ?_;obtain rfl:=ae hr;exact cZ rfl hd hg i2
def XL:=mkO 218 [.ik .u8] [.bool] (λx=>la x) Tryz.call218 λk0 vs x r hG h hr=>by obtain⟨v0,rfl,i0⟩:=h.one;exact v8 i0 hr
def qA(s_:ByteArray)(is_:((IK .u8)->Option (Bool)))(s1:Int):Option (aY (Int) (Int)):=(if(decide (s1<(s_.size:Int)))then(HS s_ s1).bind λx1=>(is_ x1).bind λx2=>some x2 else some false).bind λx3=>if x3 then(bh s1 1).bind λx4=>some (.go x4)else some (.ex 0 s1)
def xo(s_:ByteArray)(is_:((IK .u8)->Option (Bool))):Option (Int):=(ar (qA s_ is_) (s_.size+1) 0).bind λf1=>match f1 with| .go _=>none| .ex _ s1=>some s1| .ret r1=>some r1
theorem Fp{k0:K}{v0 v1:Value}{s_:ByteArray}{is_:((IK .u8)->Option (Bool))}{r:Int}(i0:(IsV s_) v0 k0)(i1:(rF Tryz.prog is_) v1 k0)(hr:xo s_ is_=some r):Calls Tryz.prog 219 #[v0,v1] k0.w (Ret k0 (IsV r)):=by
 unfold xo at hr;refine Ret.ofC ?_;refine cO Tryz.func219 rfl Tryz.ntmps219 (show 2<=20 by decide) λa k hk0 hs hd ha=>?_;obtain⟨e0,e1,_⟩:=ha;replace i0:(IsV s_) (a.get 0) k:=by rw[e0,hk0];exact i0
 replace i1:(rF Tryz.prog is_) (a.get 1) k:=by rw[e1,hk0];exact i1
 have hQ:Gb.LetsOut (bodyPost Tryz.prog Tryz.f219 (cr noF k0 (IsV r))):=ch;have hg:Chg noF k0 k:=by rw[hk0];exact Chg.refl _ k0
 refine aK 1 (⟨some (IsI 0),[]⟩::[]) rfl ⟨hg,hs,hd⟩ (by kernel_rfl) ⟨aI rfl rfl,trivial⟩ [⟨_,_⟩,⟨_,_⟩] (λb q p=>⟨p.ke 0 rfl i0,p.ke 1 rfl i1,trivial⟩) ?_;rintro a k ⟨⟨hg,hs,hd⟩,i0,i1,_⟩;refine aK 1 (⟨some (IsI 0),[]⟩::[]) rfl ⟨hg,hs,hd⟩ (by kernel_rfl) ⟨aI rfl rfl,trivial⟩ [⟨_,_⟩,⟨_,_⟩,⟨_,_⟩] (λb q p=>⟨p.ke 0 rfl i0,p.ke 1 rfl i1,p.ou 0 5 rfl,trivial⟩) ?_;rintro a k ⟨⟨hg,hs,hd⟩,i0,i1,i5,_⟩;refine wp_seq ?_;refine wp_block ?_;obtain⟨f1,hf1,hr⟩:=bind_some hr;refine pC f1 (λs' c l=>Bs noF k0 20 c l/\IsV s_ (c.get 0) l/\rF Tryz.prog is_ (c.get 1) l/\IsV s' (c.get 5) l/\True) (λi' s' c l=>(i'=0/\Bs noF k0 20 c l/\IsV s' (c.get 5) l/\True)) (λr' c l=>bodyPost Tryz.prog Tryz.f219 (cr noF k0 (IsV r')) .ret c l.w) ?_ hQ ?_ ?_ ?_
 .intro Q1 W1 hgo hex hret;refine gj ?_ _ _ _ _ _ hf1 ⟨⟨hg,hs,hd⟩,i0,i1,i5,trivial⟩ Q1 W1 hgo hex hret;clear hr hf1 hgo hex hret W1 hQ hg hs hd i0 i1 i5;intro s1 fl_ a k hr hS Q hQ hgo2446 hex2447 hret2448;obtain⟨⟨hg,hs,hd⟩,i0,i1,i5,_⟩:=hS;unfold qA at hr;refine wp_seq ?_;refine wp_seq ?_;obtain⟨x1,hx1,hr⟩:=bind_some hr;obtain⟨x2,hx2,hx1⟩:=sv hx1;obtain⟨x3,hx3,hx1⟩:=sv hx1;refine cut (λa' k'=>Bs noF k0 20 a' k'/\(IsV s_) (a'.get 0) k'/\(rF Tryz.prog is_) (a'.get 1) k'/\(IsV s1) (a'.get 5) k'/\(IsV x1) (a'.get 16) k'/\True) ?_ hQ ?_;.intro Q2 W2 w1;refine gS 11 (_::_::⟨some (IsI (s_.size:Int)),[(7,some 1)]⟩::_::_::_::_::_::⟨some (Gd ((decide (s1<(s_.size:Int)))=true) (IsV x2)),[(12,some 6),(13,some 7)]⟩::⟨some (Gd ((decide (s1<(s_.size:Int)))=true) (IsV x3)),[(11,some 5),(14,some 8)]⟩::_::[]) hs (by kernel_rfl) ⟨mu rfl i5,mu rfl i0,ob1 rfl λ _ _ h n=>Es rfl rfl Tryz.underlying9 n.1,o1 [(6,some 0),(8,some 2)] rfl λ _ _ h n=>jY rfl n.1 n.2.1,cm 3 rfl rfl,mT rfl rfl i1,mT rfl rfl i0,mT rfl rfl i5,gdT rfl rfl λhp _ _ h n=>JI rfl Tryz.underlying9 (Gd.get n.1 hp) (Gd.get n.2.1 hp) (hx2 hp),gdT rfl rfl λhp _ _ h n=>C9 rfl (Gd.get n.1 hp) (Gd.get n.2.1 hp) (hx3 hp),o1 [(10,some 4),(15,some 9)] rfl λ _ _ h n=>mG rfl n.1 hx1 (Gd.get n.2.1) (cB rfl),trivial⟩ W2 λb q p=>?_;exact aj (k:=q) (w1 _ _ ⟨Bs.post ⟨hg,hs,hd⟩ p,p.ke 0 rfl i0,p.ke 1 rfl i1,p.ke 5 rfl i5,p.ou 10 16 rfl,trivial⟩)
  rintro a k ⟨⟨hg,hs,hd⟩,i0,i1,i5,i16,_⟩;refine wp_cond_split (isBool i16) (λhc2453=>?_) (λhc2453=>?_)
  .rw[if_pos hc2453]at hr;refine wp_skip ?_;refine wp_block ?_;obtain⟨x4,hx4,hr⟩:=bind_some hr;refine cut (λa' k'=>Bs noF k0 20 a' k'/\(IsV s_) (a'.get 0) k'/\(rF Tryz.prog is_) (a'.get 1) k'/\(IsV x4) (a'.get 5) k'/\True) ?_ hQ ?_;.intro Q3 W3 w2;refine gS 3 (_::_::_::[]) hs (by kernel_rfl) ⟨mu rfl i5,o1 [(17,some 0)] rfl λ _ _ h n=>iK rfl n.1 (cI rfl) hx4,cp 1 rfl rfl,trivial⟩ W3 λb q p=>?_;exact aj (k:=q) (w2 _ _ ⟨Bs.post ⟨hg,hs,hd⟩ p,p.ke 0 rfl i0,p.ke 1 rfl i1,p.ou 2 5 rfl,trivial⟩)
   rintro a k ⟨⟨hg,hs,hd⟩,i0,i1,i5,_⟩;exact hgo2446 _ _ _ (ae hr).symm ⟨⟨hg,hs,hd⟩,i0,i1,i5,trivial⟩
  rw[if_neg (by rw[hc2453];decide)]at hr;refine wp_exit ?_;exact hex2447 _ _ _ _ (ae hr).symm ⟨rfl,⟨hg,hs,hd⟩,i5,trivial⟩
 .rintro r1 a k rfl hR;dsimp only at hr;obtain rfl:=ae hr;exact hR
 .rintro _ _ _ rfl _;simp at hr
 clear hf1;rintro _ s2 a k rfl ⟨rfl,⟨hg,hs,hd⟩,i5,_⟩;dsimp only at hr;refine aK 2 (_::_::[]) rfl ⟨hg,hs,hd⟩ (by kernel_rfl) ⟨mu rfl i5,cp 0 rfl rfl,trivial⟩ [⟨_,_⟩] (λb q p=>⟨p.ou 1 4 rfl,trivial⟩) ?_;rintro a k ⟨⟨hg,hs,hd⟩,i4,_⟩;refine wp_ret ?_;obtain rfl:=ae hr;exact cZ rfl hd hg i4
def sw(c_:(IK .u8)):Option (Bool):=some ((decide ((IK.mk 48:IK .u8).n<=c_.n))&&(decide (c_.n<=(IK.mk 57:IK .u8).n)))
theorem ET{k0:K}{v0:Value}{c_:(IK .u8)}{r:Bool}(i0:(IsV c_) v0 k0)(hr:sw c_=some r):Calls Tryz.prog 221 #[v0] k0.w (Ret k0 (IsV r)):=by
 unfold sw at hr;refine Ret.ofC ?_;refine cO Tryz.func221 rfl Tryz.ntmps221 (show 1<=9 by decide) λa k hk0 hs hd ha=>?_;obtain⟨e0,_⟩:=ha;replace i0:(IsV c_) (a.get 0) k:=by rw[e0,hk0];exact i0
 have hQ:Gb.LetsOut (bodyPost Tryz.prog Tryz.f221 (cr noF k0 (IsV r))):=ch;have hg:Chg noF k0 k:=by rw[hk0];exact Chg.refl _ k0
 refine aK 1 (⟨some (IsV false),[]⟩::[]) rfl ⟨hg,hs,hd⟩ (by kernel_rfl) ⟨ob1 rfl λ _ _ h n=>aQ rfl (aE.2 rfl),trivial⟩ [⟨_,_⟩] (λb q p=>⟨p.ke 0 rfl i0,trivial⟩) ?_;rintro a k ⟨⟨hg,hs,hd⟩,i0,_⟩;refine aK 7 (_::⟨some (IsV (decide ((IK.mk 48:IK .u8).n<=c_.n))),[(3,some 0)]⟩::_::_::⟨some (Gd ((decide ((IK.mk 48:IK .u8).n<=c_.n))=true) (IsV (decide (c_.n<=(IK.mk 57:IK .u8).n)))),[(6,some 3)]⟩::_::_::[]) rfl ⟨hg,hs,hd⟩ (by kernel_rfl) ⟨mu rfl i0,ob1 rfl λ _ _ h n=>Ko rfl n.1 (dr.2 rfl),cm 1 rfl rfl,mT rfl rfl i0,gdT rfl rfl λhp _ _ h n=>Ke rfl (Gd.get n.1 hp) (dr.2 rfl),o1 [(5,some 2),(7,some 4)] rfl λ _ _ h n=>wx rfl n.1 (Gd.get n.2.1) (cB rfl),cp 5 rfl rfl,trivial⟩ [⟨_,_⟩] (λb q p=>⟨p.ou 6 2 rfl,trivial⟩) ?_;rintro a k ⟨⟨hg,hs,hd⟩,i2,_⟩;refine wp_ret ?_;obtain rfl:=ae hr;exact cZ rfl hd hg i2
def Wh:=mkO 221 [.ik .u8] [.bool] (λx=>sw x) Tryz.call221 λk0 vs x r hG h hr=>by obtain⟨v0,rfl,i0⟩:=h.one;exact ET i0 hr
def sZ(c_:(IK .u8)):Option (Bool):=(la c_).bind λx1=>(if x1 then some true else(sw c_).bind λx2=>some x2).bind λx3=>some x3
def XU:=mk 220 [.ik .u8] [.bool] (λx=>sZ x) [XL,Wh] [] Tryz.f220 (.n) Tryz.func220 Tryz.call220 rfl rfl λx=>by kernel_rfl
theorem Cm{k0:K}{v0:Value}{x0:(IK .u8)}{r:Bool}(i0:(IsV x0) v0 k0)(hr:sZ x0=some r):Calls Tryz.prog 220 #[v0] k0.w (Ret k0 (IsV r)):=(XU.ok.ok k0 [v0] x0 r (GOk.none (λ _=>rfl) λ _ e=>by cases e) i0 hr)
def rR(s_:ByteArray):Option (Bool):=(if((s_.toList==(⟨#[]⟩:ByteArray).toList))then some true else(HS s_ 0).bind λx1=>(la x1).bind λx2=>some (!x2)).bind λx3=>if(x3||(decide (20<(s_.size:Int))))then some false else(xo s_ sZ).bind λx4=>some (x4==(s_.size:Int))
theorem Ha{k0:K}{v0:Value}{s_:ByteArray}{r:Bool}(i0:(IsV s_) v0 k0)(hr:rR s_=some r):Calls Tryz.prog 197 #[v0] k0.w (Ret k0 (IsV r)):=by
 unfold rR at hr;refine Ret.ofC ?_;refine cO Tryz.func197 rfl Tryz.ntmps197 (show 1<=21 by decide) λa k hk0 hs hd ha=>?_;obtain⟨e0,_⟩:=ha;replace i0:(IsV s_) (a.get 0) k:=by rw[e0,hk0];exact i0
 have hQ:Gb.LetsOut (bodyPost Tryz.prog Tryz.f197 (cr noF k0 (IsV r))):=ch;have hg:Chg noF k0 k:=by rw[hk0];exact Chg.refl _ k0
 refine aK 1 (⟨some (IsV false),[]⟩::[]) rfl ⟨hg,hs,hd⟩ (by kernel_rfl) ⟨ob1 rfl λ _ _ h n=>aQ rfl (aE.2 rfl),trivial⟩ [⟨_,_⟩] (λb q p=>⟨p.ke 0 rfl i0,trivial⟩) ?_;rintro a k ⟨⟨hg,hs,hd⟩,i0,_⟩;refine wp_seq ?_;refine wp_seq ?_;obtain⟨x1,hx1,hr⟩:=bind_some hr;obtain⟨x2,hx2,hx1⟩:=pb hx1;obtain⟨x3,hx3,hx1⟩:=pb hx1;refine cut (λa' k'=>Bs noF k0 21 a' k'/\(IsV s_) (a'.get 0) k'/\(IsV (x1||(decide (20<(s_.size:Int))))) (a'.get 15) k'/\True) ?_ hQ ?_;.intro Q1 W1 w1;refine gS 13 (_::⟨some (IsV ((s_.toList==(⟨#[]⟩:ByteArray).toList))),[(3,some 0)]⟩::_::_::⟨some (Gd (((s_.toList==(⟨#[]⟩:ByteArray).toList))=false) (IsV x2)),[(6,some 3)]⟩::_::_::_::_::_::⟨some (Gd (x1=false) (IsI (s_.size:Int))),[(12,some 9)]⟩::_::_::[]) hs (by kernel_rfl) ⟨mu rfl i0,ob1 rfl λ _ _ h n=>Nh rfl n.1 (cY.2 rfl),cm 1 rfl rfl,mF rfl rfl i0,gdF rfl rfl λhp _ _ h n=>JI rfl Tryz.underlying9 (Gd.get n.1 hp) (cI rfl) (hx2 hp),gF [(7,some 4)] rfl rfl λhp _ _ h n=>bU rfl Tryz.call218 (v8 (Gd.get n.1 hp) (hx3 hp)),gF [(8,some 5)] rfl rfl λhp _ _ h n=>pW rfl (Gd.get n.1 hp),o1 [(5,some 2),(9,some 6)] rfl λ _ _ h n=>mG rfl n.1 hx1 (cB rfl) (Gd.get n.2.1),cm 7 rfl rfl,mF rfl rfl i0,gdF rfl rfl λhp _ _ h n=>Es rfl rfl Tryz.underlying9 (Gd.get n.1 hp),gF [(13,some 10)] rfl rfl λhp _ _ h n=>sU rfl (Gd.get n.1 hp) (cI rfl),o1 [(11,some 8),(14,some 11)] rfl λ _ _ h n=>yg rfl n.1 (cB rfl) (Gd.get n.2.1),trivial⟩ W1 λb q p=>?_;exact aj (k:=q) (w1 _ _ ⟨Bs.post ⟨hg,hs,hd⟩ p,p.ke 0 rfl i0,p.ou 12 15 rfl,trivial⟩)
 rintro a k ⟨⟨hg,hs,hd⟩,i0,i15,_⟩;refine wp_cond_split (isBool i15) (λhc2487=>?_) (λhc2487=>?_);.rw[if_pos hc2487]at hr;refine aK 1 (⟨some (IsV false),[]⟩::[]) rfl ⟨hg,hs,hd⟩ (by kernel_rfl) ⟨ob1 rfl λ _ _ h n=>aQ rfl (aE.2 rfl),trivial⟩ [⟨_,_⟩] (λb q p=>⟨p.ou 0 2 rfl,trivial⟩) ?_;rintro a k ⟨⟨hg,hs,hd⟩,i2,_⟩;refine wp_ret ?_;obtain rfl:=ae hr;exact cZ rfl hd hg i2
 rw[if_neg (by rw[hc2487];decide)]at hr;refine wp_skip ?_;refine wp_seq ?_;obtain⟨x4,hx4,hr⟩:=bind_some hr;refine cut (λa' k'=>Bs noF k0 21 a' k'/\(IsV (x4==(s_.size:Int))) (a'.get 2) k'/\True) ?_ hQ ?_;.intro Q2 W2 w2;refine gS 6 (_::_::_::⟨some (IsI (s_.size:Int)),[(18,some 2)]⟩::_::_::[]) hs (by kernel_rfl) ⟨mu rfl i0,o1 [(16,some 0)] rfl λ _ _ h n=>bU rfl Tryz.call219 (Fp n.1 ⟨220,_,_,rfl,Tryz.call220,λk9 hk9 _ _ _ hx0 hy9=>by simpa[U0]using Cm hx0 hy9⟩ hx4),mu rfl i0,ob1 rfl λ _ _ h n=>Es rfl rfl Tryz.underlying9 n.1,o1 [(17,some 1),(19,some 3)] rfl λ _ _ h n=>Eb rfl n.1 n.2.1,cp 4 rfl rfl,trivial⟩ W2 λb q p=>?_;exact aj (k:=q) (w2 _ _ ⟨Bs.post ⟨hg,hs,hd⟩ p,p.ou 5 2 rfl,trivial⟩)
 rintro a k ⟨⟨hg,hs,hd⟩,i2,_⟩;refine wp_ret ?_;obtain rfl:=ae hr;exact cZ rfl hd hg i2
section
open Go.Proofs Go.RowKit Go.Lib Go.Sort Go.Shelf
def Tryz.CA:Go.Shelf.Ren:=⟨λ|144=>198|143=>222|219=>239|217=>247|225=>248|224=>249|267=>250|266=>260|314=>261|n=>n,λ|9=>9|4=>4|3=>3|5=>5|46=>158|146=>339|51=>242|n=>n,λ|1=>0|n=>n⟩
theorem Tryz.CG:Go.Proofs.LaysM.n144 Tryz.prog Tryz.CA:={mixed:=by kernel_rfl,f143:=Tryz.func222.trans (congrArg some (by kernel_rfl)),f144:=Tryz.func198.trans (congrArg some (by kernel_rfl)),f217:=Tryz.func247.trans (congrArg some (by kernel_rfl)),f219:=Tryz.func239.trans (congrArg some (by kernel_rfl)),f224:=Tryz.func249.trans (congrArg some (by kernel_rfl)),f225:=Tryz.func248.trans (congrArg some (by kernel_rfl)),f266:=Tryz.func260.trans (congrArg some (by kernel_rfl)),f267:=Tryz.func250.trans (congrArg some (by kernel_rfl)),f314:=Tryz.func261.trans (congrArg some (by kernel_rfl)),t3:=Tryz.underlying3,a3:=Tryz.isAgg3,z3:=Tryz.sizeOf3,v3:=Tryz.zeroValue3,t4:=Tryz.underlying4,a4:=Tryz.isAgg4,z4:=Tryz.sizeOf4,v4:=Tryz.zeroValue4,t5:=Tryz.underlying5,a5:=Tryz.isAgg5,z5:=Tryz.sizeOf5,v5:=Tryz.zeroValue5,t9:=Tryz.underlying9,a9:=Tryz.isAgg9,z9:=Tryz.sizeOf9,v9:=Tryz.zeroValue9,t46:=Tryz.underlying158,a46:=Tryz.isAgg158,z46:=Tryz.sizeOf158,v46:=Tryz.zeroValue158,t51:=Tryz.underlying242,a51:=Tryz.isAgg242,z51:=Tryz.sizeOf242,v51:=Tryz.zeroValue242,t146:=Tryz.underlying339,a146:=Tryz.isAgg339,z146:=Tryz.sizeOf339,v146:=Tryz.zeroValue339,g1:=by kernel_rfl,i3:=by kernel_rfl,i4:=by kernel_rfl,i5:=by kernel_rfl,i9:=by kernel_rfl,i46:=by kernel_rfl,i51:=by kernel_rfl,i146:=by kernel_rfl,m1:=by kernel_rfl,s1_3:=λw h=>Go.Proofs.cell_of_shapedOpen_int (zero:=#[.int .i64 0]) (t:=3) h (of_decide_eq_true (by kernel_rfl)) (by kernel_rfl) rfl (by kernel_rfl) (by kernel_rfl) Tryz.underlying3}
def strings_Contains(s sub:ByteArray):Option Bool:=if s.size<4294967281 then some (Lib.contains s.data.toList sub.data.toList)else none
theorem vR{k0:K}{v0 v1:Value}{s sub:ByteArray}{r:Bool}(hG:GOk tbg k0)(i0:IsV s v0 k0)(i1:IsV sub v1 k0)(hr:strings_Contains s sub=some r):Calls Tryz.prog 198 #[v0,v1] k0.w (Ret k0 (IsV r)):=by
 unfold strings_Contains at hr;split at hr;.rename_i hs;obtain rfl:=ae hr;obtain rfl:=cY.1 i0;obtain rfl:=cY.1 i1;obtain⟨m,hm⟩:=hG.2 0 rfl;have hcon:=Any.strings_Contains Tryz.CG.ton144 s sub m k0.w hs (Of hm);change Calls Tryz.prog 198 _ _ _ at hcon;refine hcon.mono λe w' h=>?_;obtain⟨rfl,rfl⟩:=h;exact⟨k0,rfl,bE.refl k0,aE.2 rfl⟩
 .simp at hr
end
def jc(s_:ByteArray):Option (Bool):=(rR s_).bind λx1=>(if x1 then(GQ (⟨#[32]⟩:ByteArray) s_).bind λx2=>(GQ x2 (⟨#[32]⟩:ByteArray)).bind λx3=>(strings_Contains (⟨#[32,97,110,100,32,97,112,97,114,116,32,98,97,115,101,32,99,97,112,32,100,101,102,105,110,101,32,101,108,115,101,32,101,120,99,101,112,116,32,102,114,111,109,32,103,114,97,99,101,32,104,111,117,114,115,32,105,102,32,105,110,32,108,101,97,115,116,32,110,111,116,32,111,114,32,111,118,101,114,108,97,121,32,112,108,97,110,101,32,114,117,108,101,32,115,108,111,112,101,32,115,117,110,32,116,97,98,108,101,32,116,104,101,110,32,117,110,116,105,108,32,117,115,101,115,32,118,97,114,121,32,118,105,101,119,32,122,111,110,101,32]⟩:ByteArray) x3).bind λx4=>some (!x4)else some false).bind λx5=>some x5
theorem Aw{k0:K}{v0:Value}{s_:ByteArray}{r:Bool}(hG:GOk tbg k0)(i0:(IsV s_) v0 k0)(hr:jc s_=some r):Calls Tryz.prog 162 #[v0] k0.w (Ret k0 (IsV r)):=by
 unfold jc at hr;refine Ret.ofC ?_;refine cO Tryz.func162 rfl Tryz.ntmps162 (show 1<=12 by decide) λa k hk0 hs hd ha=>?_;obtain⟨e0,_⟩:=ha;replace i0:(IsV s_) (a.get 0) k:=by rw[e0,hk0];exact i0
 have hQ:Gb.LetsOut (bodyPost Tryz.prog Tryz.f162 (cr noF k0 (IsV r))):=ch;have hg:Chg noF k0 k:=by rw[hk0];exact Chg.refl _ k0
 refine aK 1 (⟨some (IsV false),[]⟩::[]) rfl ⟨hg,hs,hd⟩ (by kernel_rfl) ⟨ob1 rfl λ _ _ h n=>aQ rfl (aE.2 rfl),trivial⟩ [⟨_,_⟩] (λb q p=>⟨p.ke 0 rfl i0,trivial⟩) ?_;rintro a k ⟨⟨hg,hs,hd⟩,i0,_⟩;refine wp_seq ?_;obtain⟨x1,hx1,hr⟩:=bind_some hr;obtain⟨x2,hx2,hr⟩:=bind_some hr;obtain⟨x3,hx3,hx2⟩:=sv hx2;obtain⟨x4,hx4,hx2⟩:=sv hx2;obtain⟨x5,hx5,hx2⟩:=sv hx2;refine cut (λa' k'=>Bs noF k0 12 a' k'/\(IsV x2) (a'.get 2) k'/\True) ?_ hQ ?_;.intro Q1 W1 w1;refine gS 10 (_::_::_::_::⟨some (Gd (x1=true) (IsV x3)),[(6,some 3)]⟩::⟨some (Gd (x1=true) (IsV x4)),[(7,some 4)]⟩::_::_::_::_::[]) hs (by kernel_rfl) ⟨mu rfl i0,o1 [(3,some 0)] rfl λ _ _ h n=>bU rfl Tryz.call197 (Ha n.1 hx1),cm 1 rfl rfl,mT rfl rfl i0,gdT rfl rfl λhp _ _ h n=>Kl rfl (cY.2 rfl) (Gd.get n.1 hp) (hx3 hp),gdT rfl rfl λhp _ _ h n=>Kl rfl (Gd.get n.1 hp) (cY.2 rfl) (hx4 hp),gT [(8,some 5)] rfl rfl λhp _ _ h n=>bU rfl Tryz.call198 (vR (hG.at hg h) (cY.2 rfl) (Gd.get n.1 hp) (hx5 hp)),gT [(9,some 6)] rfl rfl λhp _ _ h n=>pW rfl (Gd.get n.1 hp),o1 [(5,some 2),(10,some 7)] rfl λ _ _ h n=>mG rfl n.1 hx2 (Gd.get n.2.1) (cB rfl),cp 8 rfl rfl,trivial⟩ W1 λb q p=>?_;exact aj (k:=q) (w1 _ _ ⟨Bs.post ⟨hg,hs,hd⟩ p,p.ou 9 2 rfl,trivial⟩)
 rintro a k ⟨⟨hg,hs,hd⟩,i2,_⟩;refine wp_ret ?_;obtain rfl:=ae hr;exact cZ rfl hd hg i2
def VK:=V8 162 [.str] [.bool] (λx=>jc x) Tryz.call162 λk0 vs x r hG h hr=>by obtain⟨v0,rfl,i0⟩:=h.one;exact Aw hG i0 hr
def pU(w_:aF)(p1_:aF):Option (Bool):=(sH p1_.Box w_.Box).bind λx1=>some x1
def Xc:=mk 160 [.st 4, .rf (.st 4)] [.bool] (λx=>pU x.1 x.2) [WS] [] Tryz.f160 (.n) Tryz.func160 Tryz.call160 rfl rfl λx=>by kernel_rfl
def kT(x1:(List aF))(s1:Int):Option (aY (Int) (Bool)):=if(decide (s1<(x1.length:Int)))then(aL x1 s1).bind λx2=>(dh x2).bind λx3=>(if(!x3)then some true else(ic x1 0 s1).bind λx4=>(ek x4 (λy0=>pU y0 x2)).bind λx5=>some x5).bind λx6=>if x6 then some (.ret false)else(bh s1 1).bind λx7=>some (.go x7)else some (.ex 0 s1)
def kQ(x1:Phase)(s1:(Bv ByteArray Bool)×Int):Option (aY ((Bv ByteArray Bool)×Int) (Bool)):=if(decide (s1.2<(x1.cd.length:Int)))then(aL x1.cd s1.2).bind λx2=>(if((bz (s1.1).l x2.Name).getD false)then some true else(jc x2.Name).bind λx3=>some (!x3)).bind λx4=>if((x4||(decide (x2.N<0)))||(decide (1073741824<x2.N)))then some (.ret false)else(bh s1.2 1).bind λx5=>some (.go ((Bv.mk (dQ (s1.1).l x2.Name true):(Bv ByteArray Bool)),x5))else some (.ex 4 (s1.1,s1.2))
def kF(d_:ax)(s1:Int):Option (aY (Int) (Bool)):=if(decide (s1<(d_.Phases.length:Int)))then(aL d_.Phases s1).bind λx1=>(ar (kQ x1) (x1.cd.length+1) ((⟨[]⟩:(Bv ByteArray Bool)),0)).bind λf1=>match f1 with| .go _=>none| .ex _ _=>if(decide (30<(x1.cd.length:Int)))then some (.ret false)else(bh s1 1).bind λx2=>some (.go x2)| .ret r1=>some (.ret r1)else some (.ex 2 s1)
def oY(d_:ax):Option (Bool):=(og d_).bind λx1=>if((((((decide (d_.Lot<0))||(decide (1073741824<d_.Lot)))||(decide ((d_.Phases.length:Int)<1)))||(decide (8<(d_.Phases.length:Int))))||(decide ((x1.length:Int)<1)))||(decide (40<(x1.length:Int))))then some false else(ar (kT x1) (x1.length+1) 0).bind λf1=>match f1 with
 | .go _=>none| .ex _ _=>(ar (kF d_) (d_.Phases.length+1) 0).bind λf2=>match f2 with| .go _=>none| .ex _ _=>some true| .ret r1=>some r1
 | .ret r2=>some r2
def Ww:=mkg 115 [.st 30] [.bool] (λx=>oY x) [UD.lift glv giv gl0,Pz.lift glv giv gl0,Xc.lift glv giv gl0,Xk.lift glv giv gl0,VK] [8,68] Tryz.f115 (.s .n (.s .n (.s .n (.s (.s .n (.l [] [(45, .v .int)] [(0,[45],[])] (fI 44) .n)) (.s (.s .n (.l [] [(64, .v .int)] [(2,[64],[])] (fI 63) (.s .n (.s .n (.s (.s .n (.s .n (.s (.s .n (.l [] [(8, .c 5),(72, .v .int)] [(4,[8,72],[])] (fI 71) .n)) .n))) .n))))) .n))))) Tryz.func115 Tryz.call115 rfl rfl λx=>by kernel_rfl
def cP(x_:(List aB))(target_:Int)(cmp_:(aB->Int->Option (Int)))(s1:Int×Int):Option (aY (Int×Int) (Int×Bool)):=if(decide (s1.1<s1.2))then(bh s1.1 s1.2).bind λx1=>(aL x_ (IntKind.i64.wrap (IK.shr (IK.mk (IntKind.u64.wrap x1):IK .u64) 1).n)).bind λx2=>(cmp_ x2 target_).bind λx3=>(if(decide (x3<0))then(bh (IntKind.i64.wrap (IK.shr (IK.mk (IntKind.u64.wrap x1):IK .u64) 1).n) 1).bind λx4=>some (x4,s1.2)else some (s1.1,(IntKind.i64.wrap (IK.shr (IK.mk (IntKind.u64.wrap x1):IK .u64) 1).n))).bind λs2=>some (.go (s2.1,s2.2))else some (.ex 0 (s1.1,s1.2))
def da(x_:(List aB))(target_:Int)(cmp_:(aB->Int->Option (Int))):Option (Int×Bool):=(ar (cP x_ target_ cmp_) (x_.length+1) (0,(x_.length:Int))).bind λf1=>match f1 with| .go _=>none| .ex _ s1=>(if(decide (s1.1<(x_.length:Int)))then(aL x_ s1.1).bind λx1=>(cmp_ x1 target_).bind λx2=>some (x2==0)else some false).bind λx3=>some (s1.1,x3)| .ret r1=>some r1
def Wo:=mk 225 [.list (.st 24), .int, .f2 (.st 24) .int .int] [.int, .bool] (λx=>da x.1 x.2.1 x.2.2) [] [] Tryz.f225 (.s .n (.s .n (.s .n (.s (.l [] [(9, .v .int),(10, .v .int)] [(0,[10],[])] (fL [0]) (.s .n (.s .n (.s .n (.j [] [(9, .v .int),(10, .v .int)] ([],[]) (.s .n .n)))))) .n)))) Tryz.func225 Tryz.call225 rfl rfl λx=>by kernel_rfl
def ln(s_:aB)(x_:Int):Option (Int):=if(decide (s_.x1<=x_))then some (-1)else some 1
def Xn:=mk 226 [.st 24, .int] [.int] (λx=>ln x.1 x.2) [] [] Tryz.f226 (.n) Tryz.func226 Tryz.call226 rfl rfl λx=>by kernel_rfl
def rN(l_:(List aB))(x_:Int):Option ((List ag)):=(da l_ x_ ln).bind λx1=>(if(decide (x1.1<(l_.length:Int)))then(aL l_ x1.1).bind λx2=>some (decide (x2.x0<=x_))else some false).bind λx3=>if x3 then(aL l_ x1.1).bind λx4=>some x4.column else some ([]:List ag)
def VN:=mk 201 [.list (.st 24), .int] [.list (.st 23)] (λx=>rN x.1 x.2) [Wo,Xn] [] Tryz.f201 (.n) Tryz.func201 Tryz.call201 rfl rfl λx=>by kernel_rfl
section
open Go.Proofs Go.RowKit Go.Lib Go.Sort Go.Shelf
def Tryz.EM:Go.Shelf.Ren:=⟨λ|4=>240|n=>n,λ|22=>287|25=>308|3=>3|4=>4|9=>9|20=>20|0=>0|2=>3|n=>n,λ|n=>n⟩
theorem Tryz.GJ:Go.Proofs.Lays8.n4 Tryz.prog Tryz.EM:={mixed:=by kernel_rfl,f4:=⟨Tryz.f240.name,by decide,Tryz.func240.trans (congrArg some (by kernel_rfl))⟩,t0:=Tryz.underlying0,a0:=Tryz.isAgg0,z0:=Tryz.sizeOf0,v0:=Tryz.zeroValue0,t3:=Tryz.underlying3,a3:=Tryz.isAgg3,z3:=Tryz.sizeOf3,v3:=Tryz.zeroValue3,t4:=Tryz.underlying4,a4:=Tryz.isAgg4,z4:=Tryz.sizeOf4,v4:=Tryz.zeroValue4,t9:=Tryz.underlying9,a9:=Tryz.isAgg9,z9:=Tryz.sizeOf9,v9:=Tryz.zeroValue9,t20:=Tryz.underlying20,a20:=Tryz.isAgg20,z20:=Tryz.sizeOf20,v20:=Tryz.zeroValue20,t22:=Tryz.underlying287,a22:=Tryz.isAgg287,z22:=Tryz.sizeOf287,v22:=Tryz.zeroValue287}
theorem ud{k0:K}{v0 v1:Value}{n:Int}{r:List ag}(i0:v0= .slice none 0 0)(i1:IsV n v1 k0)(hr:Ax ag n=some r):Calls Tryz.prog 240 #[v0,v1] k0.w (Ret k0 (ah k0.w.heap.size 308 r)):=by
 refine Ge RU i0 i1 hr ?_ λm i z h0 hm hi hz hs hb=>?_;.have hcon:=Any8.slices_Grow_room Tryz.GJ none 0 0 0 k0.w (by omega) (by omega) (by omega) (by omega);change Calls Tryz.prog 240 _ _ _ at hcon;exact hcon
 .have hcon:=Any8.slices_Grow_grow Tryz.GJ i z hi hz hs none 0 0 m [] k0.w (by omega) (by omega) (by have:(0+m)*i.bytes<=1073741824*65536:=mw (by omega) hb;omega) (by omega) (by simp) (λ _=>rfl) (λa h=>by simp at h);change Calls Tryz.prog 240 _ _ _ at hcon;exact hcon
end
def fJ(slices_:(List (List ag))):Option ((List ag)):=vA slices_
theorem tx{k0:K}{v0:Value}{slices_:(List (List ag))}{r:(List ag)}(i0:(IsV slices_) v0 k0)(hr:fJ slices_=some r):Calls Tryz.prog 223 #[v0] k0.w (Ret k0 (ah k0.w.heap.size 308 r)):=Ju Tryz.func223 (by kernel_rfl) Tryz.ntmps223 rfl Tryz.underlying325 Tryz.underlying287 UC RU Tryz.call240 ud i0 hr
theorem tS{k0:K}{v0:Value}{slices_:(List (List ag))}{r:(List ag)}(i0:(IsV slices_) v0 k0)(hr:fJ slices_=some r):Calls Tryz.prog 223 #[v0] k0.w (Ret k0 (IsV r)):=pP (tx i0 hr)
def WG:=mkO 223 [.list (.list (.st 23))] [.list (.st 23)] (λx=>fJ x) Tryz.call223 λk0 vs x r hG h hr=>by obtain⟨v0,rfl,i0⟩:=h.one;exact tS i0 hr
def cR(x_:(List ag))(target_:Int)(cmp_:(ag->Int->Option (Int)))(s1:Int×Int):Option (aY (Int×Int) (Int×Bool)):=if(decide (s1.1<s1.2))then(bh s1.1 s1.2).bind λx1=>(aL x_ (IntKind.i64.wrap (IK.shr (IK.mk (IntKind.u64.wrap x1):IK .u64) 1).n)).bind λx2=>(cmp_ x2 target_).bind λx3=>(if(decide (x3<0))then(bh (IntKind.i64.wrap (IK.shr (IK.mk (IntKind.u64.wrap x1):IK .u64) 1).n) 1).bind λx4=>some (x4,s1.2)else some (s1.1,(IntKind.i64.wrap (IK.shr (IK.mk (IntKind.u64.wrap x1):IK .u64) 1).n))).bind λs2=>some (.go (s2.1,s2.2))else some (.ex 0 (s1.1,s1.2))
def dp(x_:(List ag))(target_:Int)(cmp_:(ag->Int->Option (Int))):Option (Int×Bool):=(ar (cR x_ target_ cmp_) (x_.length+1) (0,(x_.length:Int))).bind λf1=>match f1 with| .go _=>none| .ex _ s1=>(if(decide (s1.1<(x_.length:Int)))then(aL x_ s1.1).bind λx1=>(cmp_ x1 target_).bind λx2=>some (x2==0)else some false).bind λx3=>some (s1.1,x3)| .ret r1=>some r1
def VJ:=mk 241 [.list (.st 23), .int, .f2 (.st 23) .int .int] [.int, .bool] (λx=>dp x.1 x.2.1 x.2.2) [] [] Tryz.f241 (.s .n (.s .n (.s .n (.s (.l [] [(9, .v .int),(10, .v .int)] [(0,[10],[])] (fL [0]) (.s .n (.s .n (.s .n (.j [] [(9, .v .int),(10, .v .int)] ([],[]) (.s .n .n)))))) .n)))) Tryz.func241 Tryz.call241 rfl rfl λx=>by kernel_rfl
def fT(s_:ag)(y_:Int):Option (Int):=if(decide (s_.to_<=y_))then some (-1)else some 1
def Xy:=mk 242 [.st 23, .int] [.int] (λx=>fT x.1 x.2) [] [] Tryz.f242 (.n) Tryz.func242 Tryz.call242 rfl rfl λx=>by kernel_rfl
def ku(l_:(List ag))(y_:Int):Option (Bool):=(dp l_ y_ fT).bind λx1=>(if(decide (x1.1<(l_.length:Int)))then(aL l_ x1.1).bind λx2=>some (decide (x2.from_<=y_))else some false).bind λx3=>some x3
def WL:=mk 224 [.list (.st 23), .int] [.bool] (λx=>ku x.1 x.2) [VJ,Xy] [] Tryz.f224 (.n) Tryz.func224 Tryz.call224 rfl rfl λx=>by kernel_rfl
def iy(x1:(List ag))(s1:(List Int)×Int):Option (aY ((List Int)×Int) ((List ag))):=if(decide (s1.2<(x1.length:Int)))then(aL x1 s1.2).bind λx2=>(eb s1.1 ([x2.from_,x2.to_])).bind λx3=>(bh s1.2 1).bind λx4=>some (.go (x3,x4))else some (.ex 0 (s1.1,s1.2))
def fS(a_:(List ag))(b_:(List ag))(keep_:(Bool->Bool->Option (Bool)))(x1:(List Int))(s1:(List ag)×Int):Option (aY ((List ag)×Int) ((List ag))):=if(decide (s1.2<(x1.length:Int)))then((fi s1.2 1).bind λx2=>(aL x1 x2).bind λx3=>(ku a_ x3).bind λx4=>(ku b_ x3).bind λx5=>(keep_ x4 x5).bind λx6=>if(!x6)then some s1.1 else(if(decide (0<(s1.1.length:Int)))then(fi (s1.1.length:Int) 1).bind λx7=>(aL s1.1 x7).bind λx8=>some (x8.to_==x3)else some false).bind λx9=>(if x9 then(fi (s1.1.length:Int) 1).bind λx10=>(aL x1 s1.2).bind λx11=>(aL s1.1 x10).bind λx12=>(some (s1.1.set (x10).toNat ({x12 with to_:=x11}))).bind λx13=>some x13 else(aL x1 s1.2).bind λx14=>(eb s1.1 ([(⟨x3,x14⟩:ag)])).bind λx15=>some x15).bind λs2=>some s2).bind λs3=>(bh s1.2 1).bind λx16=>some (.go (s3,x16))else some (.ex 2 (s1.1,s1.2))
def oX(a_:(List ag))(b_:(List ag))(keep_:(Bool->Bool->Option (Bool))):Option ((List ag)):=(fJ ([a_,b_])).bind λx1=>(ar (iy x1) (x1.length+1) (([]:List Int),0)).bind λf1=>match f1 with
 | .go _=>none| .ex _ s1=>(kq s1.1).bind λx2=>(gn x2).bind λx3=>(ar (fS a_ b_ keep_ x3) (a_.length+b_.length+x3.length+([]:List ag).length+1) (([]:List ag),1)).bind λf2=>match f2 with| .go _=>none| .ex _ s2=>some s2.1| .ret r1=>some r1
 | .ret r2=>some r2
def Wa:=mkc 200 [.list (.st 23), .list (.st 23), .f2 .bool .bool .bool] [.list (.st 23)] (λx=>oX x.1 x.2.1 x.2.2) [WG,WL] [Kk,JL] [7,10,23,29,31,33,78,86] Tryz.f200 (.s .n (.s .n (.s (.s .n (.l [] [(7, .o 3 .int),(19, .v .int)] [(0,[19],[])] (fI 18) .n)) (.s .n (.s .n (.s (.f [7] .n) (.s (.s (.f [7] .n) (.l [] [(10, .o 308 (.st 23)),(11, .v .int)] [(2,[11],[])] (fL [0,1,7,10]) (.s (.s (.f [7] .n) .n) (.s (.j [] [(10, .o 308 (.st 23))] ([],[]) (.s (.f [7] .n) (.s (.s (.f [7] .n) .n) (.s (.f [7] .n) (.s (.f [7] .n) (.j [] [(10, .o 308 (.st 23))] ([],[]) (.s (.f [7] .n) (.f [7] .n)))))))) (.f [7] .n))))) (.s (.f [10] .n) .n)))))))) Tryz.func200 Tryz.call200 rfl rfl λx=>by kernel_rfl
def fX(keep_:(Bool->Bool->Option (Bool)))(x1:(List aB))(x2:(List aB))(x3:(List aB))(s1:(List aB)×Int):Option (aY ((List aB)×Int) ((List ay)×Int)):=if(decide (s1.2<(x3.length:Int)))then(aL s1.1 s1.2).bind λx4=>(rN x1 x4.x0).bind λx5=>(rN x2 x4.x0).bind λx6=>(oX x5 x6 keep_).bind λx7=>(aL s1.1 s1.2).bind λx8=>(some (s1.1.set (s1.2).toNat ({x8 with column:=x7}))).bind λx9=>(bh s1.2 1).bind λx10=>some (.go (x9,x10))else some (.ex 0 (s1.1,s1.2))
def gL(a_:(List ay))(b_:(List ay))(keep_:(Bool->Bool->Option (Bool))):Option ((List ay)×Int):=(dP a_).bind λx1=>(if(!x1)then some true else(dP b_).bind λx2=>some (!x2)).bind λx3=>if x3 then some (([]:List ay),1)else(ef ([a_])).bind λx4=>(ef ([b_])).bind λx5=>(ef ([a_,b_])).bind λx6=>(ar (fX keep_ x4 x5 x6) (x6.length+1) (x6,0)).bind λf1=>match f1 with| .go _=>none| .ex _ s1=>(gh s1.1).bind λx7=>(jm x7).bind λx8=>some (x8.1,x8.2)| .ret r1=>some r1
def WO:=mkc 166 [.list (.st 2), .list (.st 2), .f2 .bool .bool .bool] [.list (.st 2), .int] (λx=>gL x.1 x.2.1 x.2.2) [Nu,Tu,VN,Wa,Te,T2] [T7] [10,30] Tryz.f166 (.s .n (.s .n (.s .n (.s .n (.s (.s .n (.l [] [(10, .o 289 (.st 24)),(33, .v .int)] [(0,[33],[])] (fI 32) .n)) (.s (.f [10] .n) .n)))))) Tryz.func166 Tryz.call166 rfl rfl λx=>by kernel_rfl
def oG(a_:Bool)(b_:Bool):Option (Bool):=some (a_&&b_)
def Wq:=mk 167 [.bool, .bool] [.bool] (λx=>oG x.1 x.2) [] [] Tryz.f167 (.n) Tryz.func167 Tryz.call167 rfl rfl λx=>by kernel_rfl
def nz(a_:(List ay))(b_:(List ay)):Option ((List ay)×Int):=(gL a_ b_ oG).bind λx1=>some (x1.1,x1.2)
def Xw:=mk 118 [.list (.st 2), .list (.st 2)] [.list (.st 2), .int] (λx=>nz x.1 x.2) [WO,Wq] [] Tryz.f118 (.n) Tryz.func118 Tryz.call118 rfl rfl λx=>by kernel_rfl
def pY(a_:(List ay))(s1:Int×Int):Option (aY (Int×Int) (Int)):=if(decide (s1.2<(a_.length:Int)))then(aL a_ s1.2).bind λx1=>(iG x1).bind λx2=>(bh s1.1 x2).bind λx3=>(bh s1.2 1).bind λx4=>some (.go (x3,x4))else some (.ex 0 (s1.1,s1.2))
def nQ(a_:(List ay)):Option (Int):=(dP a_).bind λx1=>if(!x1)then some 0 else(ar (pY a_) (a_.length+1) (0,0)).bind λf1=>match f1 with| .go _=>none| .ex _ s1=>some s1.1| .ret r1=>some r1
def V1:=mk 119 [.list (.st 2)] [.int] (λx=>nQ x) [Nu,P6] [] Tryz.f119 (.s .n (.s .n (.s .n (.s (.s .n (.l [] [(3, .v .int),(11, .v .int)] [(0,[11],[])] (fI 10) .n)) .n)))) Tryz.func119 Tryz.call119 rfl rfl λx=>by kernel_rfl
def nP(s_:(List Cap))(f_:(Cap->Option (Bool))):Option (Int):=BV s_ f_
def VT:=mk 169 [.list (.st 15), .f1 (.st 15) .bool] [.int] (λx=>nP x.1 x.2) [] [] Tryz.f169 (.s .n (.s (.s .n (.l [] [(8, .v .int)] [(0,[8],[])] (fI 7) .n)) .n)) Tryz.func169 Tryz.call169 rfl rfl λx=>by kernel_rfl
def gI(s_:(List Cap))(f_:(Cap->Option (Bool))):Option (Bool):=(nP s_ f_).bind λx1=>some (decide (0<=x1))
def Xx:=mk 121 [.list (.st 15), .f1 (.st 15) .bool] [.bool] (λx=>gI x.1 x.2) [VT] [] Tryz.f121 (.n) Tryz.func121 Tryz.call121 rfl rfl λx=>by kernel_rfl
def oH(c_:Cap)(p1_:Entry):Option (Bool):=some ((c_.Name.toList==p1_.Name.toList))
def Xv:=mk 122 [.st 15, .rf (.st 6)] [.bool] (λx=>oH x.1 x.2) [] [] Tryz.f122 (.n) Tryz.func122 Tryz.call122 rfl rfl λx=>by kernel_rfl
def nc(lot_:Lot)(x1:(List aF))(s1:Int):Option (aY (Int) (Bool)):=if(decide (s1<(x1.length:Int)))then(aL x1 s1).bind λx2=>(nz lot_.Area ([x2.Box.Base])).bind λx3=>(if(x3.2!=0)then some true else(nQ x3.1).bind λx4=>(iG x2.Box.Base).bind λx5=>some (decide (x4<x5))).bind λx6=>if x6 then some (.ret false)else(bh s1 1).bind λx7=>some (.go x7)else some (.ex 0 s1)
def jL(p_:az)(x1:Phase)(s1:Int):Option (aY (Int) (Bool)):=if(decide (s1<(x1.cd.length:Int)))then(aL x1.cd s1).bind λx2=>(gI p_.Caps (λy0=>oH y0 x2)).bind λx3=>if(!x3)then some (.ret false)else(bh s1 1).bind λx4=>some (.go x4)else some (.ex 4 s1)
def mR(p_:az)(d_:ax)(s1:Int):Option (aY (Int) (Bool)):=if(decide (s1<(d_.Phases.length:Int)))then(aL d_.Phases s1).bind λx1=>(ar (jL p_ x1) (x1.cd.length+1) 0).bind λf1=>match f1 with| .go _=>none| .ex _ _=>(bh s1 1).bind λx2=>some (.go x2)| .ret r1=>some (.ret r1)else some (.ex 2 s1)
def ny(p_:az)(lot_:Lot)(d_:ax):Option (Bool):=(oY d_).bind λx1=>(if((!x1)||(lot_.Id !=d_.Lot))then some true else(dP lot_.Area).bind λx2=>some (!x2)).bind λx3=>if x3 then some false else(og d_).bind λx4=>(ar (nc lot_ x4) (x4.length+1) 0).bind λf1=>match f1 with
 | .go _=>none| .ex _ _=>(ar (mR p_ d_) (d_.Phases.length+1) 0).bind λf2=>match f2 with| .go _=>none| .ex _ _=>some true| .ret r1=>some r1
 | .ret r2=>some r2
def k72:=mkg 72 [.st 8, .st 18, .st 30] [.bool] (λx=>ny x.1 x.2.1 x.2.2) [Ww,Nu.lift glv giv gl0,UD.lift glv giv gl0,Xw.lift glv giv gl0,V1.lift glv giv gl0,P6.lift glv giv gl0,Xv.lift glv giv gl0,Xx.lift glv giv gl0] [] Tryz.f72 (.s .n (.s .n (.s (.s .n (.l [] [(34, .v .int)] [(0,[34],[])] (fI 33) .n)) (.s (.s .n (.l [] [(63, .v .int)] [(2,[63],[])] (fI 62) (.s .n (.s .n (.s (.s .n (.s .n (.l [] [(70, .v .int)] [(4,[70],[])] (fI 69) .n))) .n))))) .n)))) Tryz.func72 Tryz.call72 rfl rfl λx=>by kernel_rfl
def pI(r_:ai)(s1:(List Phase)×Int):Option (aY ((List Phase)×Int) (ai)):=if(decide (s1.2<(r_.ax.Phases.length:Int)))then(aL r_.ax.Phases s1.2).bind λx1=>(ew x1.Volumes).bind λx2=>(bW x1.cd).bind λx3=>(eb s1.1 ([(⟨x2,x3⟩:Phase)])).bind λx4=>(bh s1.2 1).bind λx5=>some (.go (x4,x5))else some (.ex 0 (s1.1,s1.2))
def lI(r_:ai):Option (ai):=(ar (pI r_) (r_.ax.Phases.length+1) (([]:List Phase),0)).bind λf1=>match f1 with| .go _=>none| .ex _ s1=>some ({r_ with ax:={r_.ax with Phases:=s1.1}})| .ret r1=>some r1
def k49:=mk 49 [.st 29] [.st 29] (λx=>lI x) [k82,k54] [1,2,3,14,23] Tryz.f49 (.s .n (.s .n (.s (.s .n (.l [] [(3, .o 139 (.st 3)),(10, .v .int)] [(0,[10],[])] (fI 9) .n)) (.s (.f [3] .n) .n)))) Tryz.func49 Tryz.call49 rfl rfl λx=>by kernel_rfl
def k8(l_:(List aq))(s1:(List aq)×Int):Option (aY ((List aq)×Int) ((List aq))):=if(decide (s1.2<(l_.length:Int)))then(aL l_ s1.2).bind λx1=>(lI x1.ai).bind λx2=>(eb s1.1 ([{x1 with ai:=x2}])).bind λx3=>(bh s1.2 1).bind λx4=>some (.go (x3,x4))else some (.ex 0 (s1.1,s1.2))
def bI(l_:(List aq)):Option ((List aq)):=(ar (k8 l_) (l_.length+1) (([]:List aq),0)).bind λf1=>match f1 with| .go _=>none| .ex _ s1=>some s1.1| .ret r1=>some r1
def k33:=mk 33 [.list (.st 28)] [.list (.st 28)] (λx=>bI x) [k49] [3,5,16,19] Tryz.f33 (.s .n (.s .n (.s (.s .n (.l [] [(3, .o 54 (.st 28)),(8, .v .int)] [(0,[8],[])] (fI 7) .n)) (.s (.f [3] .n) .n)))) Tryz.func33 Tryz.call33 rfl rfl λx=>by kernel_rfl
def dC(s1_:(List Phase))(s2_:(List Phase))(eq_:(Phase->Phase->Option (Bool)))(s1:Int):Option (aY (Int) (Bool)):=if(decide (s1<(s1_.length:Int)))then(aL s1_ s1).bind λx1=>(aL s2_ s1).bind λx2=>(eq_ x1 x2).bind λx3=>if(!x3)then some (.ret false)else(bh s1 1).bind λx4=>some (.go x4)else some (.ex 0 s1)
def cX(s1_:(List Phase))(s2_:(List Phase))(eq_:(Phase->Phase->Option (Bool))):Option (Bool):=if((s1_.length:Int)!=(s2_.length:Int))then some false else(ar (dC s1_ s2_ eq_) (s1_.length+1) 0).bind λf1=>match f1 with| .go _=>none| .ex _ _=>some true| .ret r1=>some r1
def VA:=mk 107 [.list (.st 3), .list (.st 3), .f2 (.st 3) (.st 3) .bool] [.bool] (λx=>cX x.1 x.2.1 x.2.2) [] [] Tryz.f107 (.s .n (.s .n (.s (.s .n (.l [] [(17, .v .int)] [(0,[17],[])] (fI 16) .n)) .n))) Tryz.func107 Tryz.call107 rfl rfl λx=>by kernel_rfl
def jZ(s1_:(List aF))(s2_:(List aF)):Option (Bool):=eqM s1_ s2_
def V9:=mk 109 [.list (.st 4), .list (.st 4)] [.bool] (λx=>jZ x.1 x.2) [] [] Tryz.f109 (.s .n (.s .n (.s (.s .n (.l [] [(13, .v .int)] [(0,[13],[])] (fI 12) .n)) .n))) Tryz.func109 Tryz.call109 rfl rfl λx=>by kernel_rfl
def kY(s1_:(List Entry))(s2_:(List Entry)):Option (Bool):=eqM s1_ s2_
def VG:=mk 110 [.list (.st 6), .list (.st 6)] [.bool] (λx=>kY x.1 x.2) [] [] Tryz.f110 (.s .n (.s .n (.s (.s .n (.l [] [(13, .v .int)] [(0,[13],[])] (fI 12) .n)) .n))) Tryz.func110 Tryz.call110 rfl rfl λx=>by kernel_rfl
def jg(x_:Phase)(y_:Phase):Option (Bool):=(jZ x_.Volumes y_.Volumes).bind λx1=>(if x1 then(kY x_.cd y_.cd).bind λx2=>some x2 else some false).bind λx3=>some x3
def WD:=mk 108 [.st 3, .st 3] [.bool] (λx=>jg x.1 x.2) [V9,VG] [] Tryz.f108 (.n) Tryz.func108 Tryz.call108 rfl rfl λx=>by kernel_rfl
def sY(a_:ax)(b_:ax):Option (Bool):=(if(a_.Lot==b_.Lot)then(cX a_.Phases b_.Phases jg).bind λx1=>some x1 else some false).bind λx2=>some x2
def k69:=mk 69 [.st 30, .st 30] [.bool] (λx=>sY x.1 x.2) [VA,WD] [] Tryz.f69 (.n) Tryz.func69 Tryz.call69 rfl rfl λx=>by kernel_rfl
def counter_same(a_:ai)(b_:ai):Option (Bool):=(if(((((a_.Id==b_.Id)&&(a_.Holder==b_.Holder))&&(a_.Used==b_.Used))&&(a_.Until==b_.Until))&&(a_.Over==b_.Over))then(sY a_.ax b_.ax).bind λx1=>some x1 else some false).bind λx2=>some x2
def k32:=mk 32 [.st 29, .st 29] [.bool] (λx=>counter_same x.1 x.2) [k69] [] Tryz.f32 (.n) Tryz.func32 Tryz.call32 rfl rfl λx=>by kernel_rfl
def iP(x1:Phase)(s1:(List (List ct))×Int):Option (aY ((List (List ct))×Int) ((List (List ct)))):=if(decide (s1.2<(x1.Volumes.length:Int)))then(aL x1.Volumes s1.2).bind λx2=>(eZ x2.Box.Base).bind λx3=>(if(((((x3&&(decide (0<=x2.Box.Z0)))&&(decide (x2.Box.Z0<x2.Box.Z1)))&&(decide (x2.Box.Z1<=4096)))&&(decide (0<=x2.Use)))&&(decide (x2.Use<6)))then(eb s1.1 ([[(⟨x2.Box.Z0,x2.Box.Z1,[x2.Box.Base]⟩:ct)]])).bind λx4=>some x4 else some s1.1).bind λs2=>(bh s1.2 1).bind λx5=>some (.go (s2,x5))else some (.ex 2 (s1.1,s1.2))
def lP(x1:(List Phase))(s1:(List (List ct))×Int):Option (aY ((List (List ct))×Int) ((List (List ct)))):=if(decide (s1.2<(x1.length:Int)))then(aL x1 s1.2).bind λx2=>(ar (iP x2) (x2.Volumes.length+1) (s1.1,0)).bind λf1=>match f1 with| .go _=>none| .ex _ s2=>(bh s1.2 1).bind λx3=>some (.go (s2.1,x3))| .ret r1=>some (.ret r1)else some (.ex 0 (s1.1,s1.2))
def mi(r_:ai):Option ((List (List ct))):=(nJ r_).bind λx1=>(ar (lP x1) (x1.length+1) (([]:List (List ct)),0)).bind λf1=>match f1 with| .go _=>none| .ex _ s1=>some s1.1| .ret r1=>some r1
def k74:=mk 74 [.st 29] [.list (.list (.st 22))] (λx=>mi x) [k55,Iu] [3,55,66] Tryz.f74 (.s .n (.s .n (.s (.s .n (.l [] [(3, .o 165 (.list (.st 22))),(12, .v .int)] [(0,[12],[])] (fI 11) (.s .n (.s .n (.s (.s .n (.s .n (.l [] [(3, .o 165 (.list (.st 22))),(19, .v .int)] [(2,[19],[])] (fI 18) (.s .n (.s .n (.s (.s .n (.s .n (.s .n (.j [] [(3, .o 165 (.list (.st 22)))] ([],[]) (.s .n .n))))) .n)))))) .n))))) (.s (.f [3] .n) .n)))) Tryz.func74 Tryz.call74 rfl rfl λx=>by kernel_rfl
def eM(a_:aq)(b_:aq):Option (Int):=(cE a_.Counter b_.Counter).bind λx1=>(cE a_.Number b_.Number).bind λx2=>(mV ([x1,x2])).bind λx3=>some x3
def k30:=mk 30 [.st 28, .st 28] [.int] (λx=>eM x.1 x.2) [k68,k67] [] Tryz.f30 (.n) Tryz.func30 Tryz.call30 rfl rfl λx=>by kernel_rfl
def iO(s_:(List ay)):Option ((List ay)):=(eb [] s_).bind λx1=>some x1
theorem uM{k0:K}{v0:Value}{s_:(List ay)}{r:(List ay)}(i0:(IsV s_) v0 k0)(hr:iO s_=some r):Calls Tryz.prog 97 #[v0] k0.w (Ret k0 (IsV r)):=pP (yI Tryz.func97 (by kernel_rfl) Tryz.ntmps97 rfl Tryz.underlying69 zi i0 hr)
def k97:=mkO 97 [.list (.st 2)] [.list (.st 2)] (λx=>iO x) Tryz.call97 λk0 vs x r hG h hr=>by obtain⟨v0,rfl,i0⟩:=h.one;exact uM i0 hr
def dZ(s_:(List Int)):Option ((List Int)):=(eb [] s_).bind λx1=>some x1
theorem jW{k0:K}{v0:Value}{s_:(List Int)}{r:(List Int)}(i0:(IsV s_) v0 k0)(hr:dZ s_=some r):Calls Tryz.prog 29 #[v0] k0.w (Ret k0 (IsV r)):=pP (yI Tryz.func29 (by kernel_rfl) Tryz.ntmps29 rfl Tryz.underlying38 eo3 i0 hr)
def k29:=mkO 29 [.list .int] [.list .int] (λx=>dZ x) Tryz.call29 λk0 vs x r hG h hr=>by obtain⟨v0,rfl,i0⟩:=h.one;exact jW i0 hr
def oT(t_:Lot):Option (Lot):=(iO t_.Area).bind λx1=>(dZ t_.From).bind λx2=>some ({{t_ with Area:=x1}with From:=x2})
def k57:=mk 57 [.st 18] [.st 18] (λx=>oT x) [k97,k29] [1,2] Tryz.f57 (.n) Tryz.func57 Tryz.call57 rfl rfl λx=>by kernel_rfl
def pM(land_:(List Lot))(id_:Int)(s1:Int×Lot):Option (aY (Int×Lot) (Lot×Bool)):=if(decide (s1.1<(land_.length:Int)))then(aL land_ s1.1).bind λx1=>if(x1.Id==id_)then(oT x1).bind λx2=>some (.ret (x2,true))else(bh s1.1 1).bind λx3=>some (.go (x3,s1.2))else some (.ex 0 (s1.1,s1.2))
def qF(land_:(List Lot))(id_:Int):Option (Lot×Bool):=(ar (pM land_ id_) (land_.length+1) (0,(⟨0,0,[],[]⟩:Lot))).bind λf1=>match f1 with| .go _=>none| .ex _ _=>some ((⟨0,0,[],[]⟩:Lot),false)| .ret r1=>some r1
def k15:=mk 15 [.list (.st 18), .int] [.st 18, .bool] (λx=>qF x.1 x.2) [k57] [4] Tryz.f15 (.s .n (.s (.s .n (.l [] [(10, .v .int),(4, .b (.st 18))] [(0,[10],[])] (fI 9) .n)) .n)) Tryz.func15 Tryz.call15 rfl rfl λx=>by kernel_rfl
def py(r_:ai)(s1:Int):Option (aY (Int) (Bool)):=if((decide (s1<(r_.ax.Phases.length:Int)))&&(decide (s1<4)))then(aL r_.ax.Phases s1).bind λx1=>(if(decide (2<(x1.Volumes.length:Int)))then some true else(aL r_.ax.Phases s1).bind λx2=>some (decide (2<(x2.cd.length:Int)))).bind λx3=>if x3 then some (.ret false)else(bh s1 1).bind λx4=>some (.go x4)else some (.ex 0 s1)
def oB(r_:ai):Option (Bool):=(ar (py r_) (5) 0).bind λf1=>match f1 with| .go _=>none| .ex _ _=>some (decide ((r_.ax.Phases.length:Int)<=3))| .ret r1=>some r1
def k27:=mk 27 [.st 29] [.bool] (λx=>oB x) [] [] Tryz.f27 (.s .n (.s (.s .n (.l [] [(3, .v .int)] [(0,[3],[])] (λ _=>5) .n)) .n)) Tryz.func27 Tryz.call27 rfl rfl λx=>by kernel_rfl
def ti(t_:aP)(s1:Int):Option (aY (Int) (Bool)):=if((decide (s1<(t_.Land.length:Int)))&&(decide (s1<6)))then(aL t_.Land s1).bind λx1=>(if(decide (4<(x1.Area.length:Int)))then some true else(aL t_.Land s1).bind λx2=>some (decide (6<(x2.From.length:Int)))).bind λx3=>if x3 then some (.ret false)else(bh s1 1).bind λx4=>some (.go x4)else some (.ex 0 s1)
def td(t_:aP)(s1:Int):Option (aY (Int) (Bool)):=if((decide (s1<(t_.az.Caps.length:Int)))&&(decide (s1<3)))then(aL t_.az.Caps s1).bind λx1=>if(decide (12<(x1.Corners.length:Int)))then some (.ret false)else(bh s1 1).bind λx2=>some (.go x2)else some (.ex 2 s1)
def sK(t_:aP)(s1:Int):Option (aY (Int) (Bool)):=if((decide (s1<(t_.az.Views.length:Int)))&&(decide (s1<3)))then(aL t_.az.Views s1).bind λx1=>if(decide (3<(x1.Targets.length:Int)))then some (.ret false)else(bh s1 1).bind λx2=>some (.go x2)else some (.ex 4 s1)
def sT(t_:aP)(s1:Int):Option (aY (Int) (Bool)):=if((decide (s1<(t_.az.Tables.length:Int)))&&(decide (s1<3)))then(aL t_.az.Tables s1).bind λx1=>if(decide (8<(x1.Rows.length:Int)))then some (.ret false)else(bh s1 1).bind λx2=>some (.go x2)else some (.ex 6 s1)
def tF(rights_:(List ai))(s1:Int):Option (aY (Int) (Bool)):=if((decide (s1<(rights_.length:Int)))&&(decide (s1<4)))then(aL rights_ s1).bind λx1=>(oB x1).bind λx2=>if(!x2)then some (.ret false)else(bh s1 1).bind λx3=>some (.go x3)else some (.ex 8 s1)
def rE(t_:aP)(rights_:(List ai)):Option (Bool):=(ar (ti t_) (7) 0).bind λf1=>match f1 with
 | .go _=>none| .ex _ _=>(ar (td t_) (4) 0).bind λf2=>match f2 with
  | .go _=>none| .ex _ _=>(ar (sK t_) (4) 0).bind λf3=>match f3 with
   | .go _=>none| .ex _ _=>(ar (sT t_) (4) 0).bind λf4=>match f4 with
    | .go _=>none| .ex _ _=>(ar (tF rights_) (5) 0).bind λf5=>match f5 with| .go _=>none| .ex _ _=>some (((((((((decide ((t_.Land.length:Int)<=5))&&(decide ((t_.az.Caps.length:Int)<=2)))&&(decide ((t_.az.Sun.length:Int)<=4)))&&(decide ((t_.Windows.length:Int)<=3)))&&(decide ((t_.az.Views.length:Int)<=2)))&&(decide ((t_.Built.length:Int)<=4)))&&(decide ((t_.Base.length:Int)<=4)))&&(decide ((t_.az.Tables.length:Int)<=2)))&&(decide ((rights_.length:Int)<=3)))| .ret r1=>some r1
    | .ret r2=>some r2
   | .ret r3=>some r3
  | .ret r4=>some r4
 | .ret r5=>some r5
def k7:=mk 7 [.st 7, .list (.st 29)] [.bool] (λx=>rE x.1 x.2) [k27] [] Tryz.f7 (.s .n (.s .n (.s (.s .n (.l [] [(6, .v .int)] [(0,[6],[])] (λ _=>7) .n)) (.s (.s .n (.l [] [(7, .v .int)] [(2,[7],[])] (λ _=>4) .n)) (.s (.s .n (.l [] [(8, .v .int)] [(4,[8],[])] (λ _=>4) .n)) (.s (.s .n (.l [] [(9, .v .int)] [(6,[9],[])] (λ _=>4) .n)) (.s (.s .n (.l [] [(10, .v .int)] [(8,[10],[])] (λ _=>5) .n)) .n))))))) Tryz.func7 Tryz.call7 rfl rfl λx=>by kernel_rfl
def lg(a_:Phase)(b_:Phase)(s1:Int):Option (aY (Int) (Bool)):=if(decide (s1<(a_.Volumes.length:Int)))then(aL a_.Volumes s1).bind λx1=>(aL b_.Volumes s1).bind λx2=>if(!decide (x1=x2))then some (.ret false)else(bh s1 1).bind λx3=>some (.go x3)else some (.ex 0 s1)
def kZ(a_:Phase)(b_:Phase)(s1:Int):Option (aY (Int) (Bool)):=if(decide (s1<(a_.cd.length:Int)))then(aL a_.cd s1).bind λx1=>(aL b_.cd s1).bind λx2=>if(!decide (x1=x2))then some (.ret false)else(bh s1 1).bind λx3=>some (.go x3)else some (.ex 2 s1)
def kG(a_:Phase)(b_:Phase):Option (Bool):=if(((a_.Volumes.length:Int)!=(b_.Volumes.length:Int))||((a_.cd.length:Int)!=(b_.cd.length:Int)))then some false else(ar (lg a_ b_) (a_.Volumes.length+1) 0).bind λf1=>match f1 with
 | .go _=>none| .ex _ _=>(ar (kZ a_ b_) (a_.cd.length+1) 0).bind λf2=>match f2 with| .go _=>none| .ex _ _=>some true| .ret r1=>some r1
 | .ret r2=>some r2
def k83:=mk 83 [.st 3, .st 3] [.bool] (λx=>kG x.1 x.2) [] [] Tryz.f83 (.s .n (.s .n (.s (.s .n (.l [] [(5, .v .int)] [(0,[5],[])] (λe=>(gt e 0 (.st 3):Phase).Volumes.length+1) .n)) (.s (.s .n (.l [] [(6, .v .int)] [(2,[6],[])] (λe=>(gt e 0 (.st 3):Phase).cd.length+1) .n)) .n)))) Tryz.func83 Tryz.call83 rfl rfl λx=>by kernel_rfl
def jX(a_:(List Phase))(b_:(List Phase))(s1:Int):Option (aY (Int) (Bool)):=if(decide (s1<(a_.length:Int)))then(aL a_ s1).bind λx1=>(aL b_ s1).bind λx2=>(kG x1 x2).bind λx3=>if(!x3)then some (.ret false)else(bh s1 1).bind λx4=>some (.go x4)else some (.ex 0 s1)
def jI(a_:(List Phase))(b_:(List Phase)):Option (Bool):=if((a_.length:Int)!=(b_.length:Int))then some false else(ar (jX a_ b_) (a_.length+b_.length+1) 0).bind λf1=>match f1 with| .go _=>none| .ex _ _=>some true| .ret r1=>some r1
def k50:=mk 50 [.list (.st 3), .list (.st 3)] [.bool] (λx=>jI x.1 x.2) [k83] [] Tryz.f50 (.s .n (.s .n (.s (.s .n (.l [] [(5, .v .int)] [(0,[5],[])] (fL [0,1]) .n)) .n))) Tryz.func50 Tryz.call50 rfl rfl λx=>by kernel_rfl
def pB(a_:ai)(b_:ai):Option (Bool):=(if((((((a_.Id==b_.Id)&&(a_.Holder==b_.Holder))&&(a_.Used==b_.Used))&&(a_.Until==b_.Until))&&(a_.Over==b_.Over))&&(a_.ax.Lot==b_.ax.Lot))then(jI a_.ax.Phases b_.ax.Phases).bind λx1=>some x1 else some false).bind λx2=>some x2
def k11:=mk 11 [.st 29, .st 29] [.bool] (λx=>pB x.1 x.2) [k50] [] Tryz.f11 (.n) Tryz.func11 Tryz.call11 rfl rfl λx=>by kernel_rfl
def xn(n_:Int):Option ((List fe)):=some ([(⟨0,0⟩:fe),(⟨n_,0⟩:fe),(⟨n_,n_⟩:fe),(⟨0,n_⟩:fe)])
def k64:=mk 64 [.int] [.list (.st 1)] (λx=>xn x) [] [] Tryz.f64 (.n) Tryz.func64 Tryz.call64 rfl rfl λx=>by kernel_rfl
def H5:Option (aP):=(xn 20).bind λx1=>some ({(⟨(⟨[],[],[],[],[],[],[],0⟩:az),[(⟨1,0,[(⟨0,0,9,9⟩:ay)],[]⟩:Lot),(⟨2,0,[(⟨9,0,18,9⟩:ay)],[]⟩:Lot)],[],[],[],[]⟩:aP)with az:={(⟨(⟨[],[],[],[],[],[],[],0⟩:az),[(⟨1,0,[(⟨0,0,9,9⟩:ay)],[]⟩:Lot),(⟨2,0,[(⟨9,0,18,9⟩:ay)],[]⟩:Lot)],[],[],[],[]⟩:aP).az with Caps:=[(⟨(⟨#[104,111,109,101,115]⟩:ByteArray),0,10,x1⟩:Cap)]}})
def k24:=mk 24 [] [.st 7] (λx=>H5) [k64] [0,1] Tryz.f24 (.n) Tryz.func24 Tryz.call24 rfl rfl λx=>by kernel_rfl
def Gr(id_:Int)(lot_:Int)(x_:Int)(n_:Int):Option (ai):=(bh x_ 1).bind λx1=>some (⟨id_,0,(⟨lot_,[(⟨[(⟨(⟨(⟨x_,0,x1,1⟩:ay),0,3⟩:Box),0,n_,false⟩:aF)],[]⟩:Phase)]⟩:ax),0,9,false⟩:ai)
def k25:=mk 25 [.int, .int, .int, .int] [.st 29] (λx=>Gr x.1 x.2.1 x.2.2.1 x.2.2.2) [] [8] Tryz.f25 (.n) Tryz.func25 Tryz.call25 rfl rfl λx=>by kernel_rfl
def qn(q_:ay)(p1_:ay):Option (Bool):=some ((decide ((max p1_.X0 q_.X0)<(min p1_.X1 q_.X1)))&&(decide ((max p1_.Y0 q_.Y0)<(min p1_.Y1 q_.Y1))))
def Xm:=mk 158 [.st 2, .rf (.st 2)] [.bool] (λx=>qn x.1 x.2) [] [] Tryz.f158 (.n) Tryz.func158 Tryz.call158 rfl rfl λx=>by kernel_rfl
def vY(p_:ay)(p1_:(List ay)):Option (Bool):=(de p1_ (λy0=>qn y0 p_)).bind λx1=>some x1
def XD:=mk 157 [.st 2, .rf (.list (.st 2))] [.bool] (λx=>vY x.1 x.2) [Xm,Sr] [] Tryz.f157 (.n) Tryz.func157 Tryz.call157 rfl rfl λx=>by kernel_rfl
def ur(a_:(List ay))(b_:(List ay)):Option (Bool):=(de a_ (λy0=>vY y0 b_)).bind λx1=>some x1
def Vr:=mk 114 [.list (.st 2), .list (.st 2)] [.bool] (λx=>ur x.1 x.2) [XD,Sr] [] Tryz.f114 (.n) Tryz.func114 Tryz.call114 rfl rfl λx=>by kernel_rfl
def ka(l_:(List Int))(s1:Int):Option (aY (Int) (Bool)):=if(decide (s1<(l_.length:Int)))then(fi s1 1).bind λx1=>(aL l_ x1).bind λx2=>(aL l_ s1).bind λx3=>if(decide (x3<=x2))then some (.ret false)else(bh s1 1).bind λx4=>some (.go x4)else some (.ex 0 s1)
def mQ(l_:(List Int)):Option (Bool):=(ar (ka l_) (l_.length+1) 1).bind λf1=>match f1 with| .go _=>none| .ex _ _=>some true| .ret r1=>some r1
def Xf:=mk 153 [.list .int] [.bool] (λx=>mQ x) [] [] Tryz.f153 (.s .n (.s (.s .n (.l [] [(3, .v .int)] [(0,[3],[])] (fL [0]) .n)) .n)) Tryz.func153 Tryz.call153 rfl rfl λx=>by kernel_rfl
def qH(n_:Int):Option (Bool):=some ((decide (1<=n_))&&(decide (n_<=1073741824)))
def UZ:=mk 151 [.int] [.bool] (λx=>qH x) [] [] Tryz.f151 (.n) Tryz.func151 Tryz.call151 rfl rfl λx=>by kernel_rfl
def xQ(n_:Int):Option (Bool):=some ((decide (0<=n_))&&(decide (n_<=1073741824)))
def WT:=mk 152 [.int] [.bool] (λx=>xQ x) [] [] Tryz.f152 (.n) Tryz.func152 Tryz.call152 rfl rfl λx=>by kernel_rfl
def yb(a_:ay)(b_:ay):Option (Int×Int):=(fi (max a_.X0 b_.X0) (min a_.X1 b_.X1)).bind λx1=>(fi (max a_.Y0 b_.Y0) (min a_.Y1 b_.Y1)).bind λx2=>some (x1,x2)
def XY:=mk 214 [.st 2, .st 2] [.int, .int] (λx=>yb x.1 x.2) [] [] Tryz.f214 (.n) Tryz.func214 Tryz.call214 rfl rfl λx=>by kernel_rfl
def sN(a_:ay)(b_:ay):Option (Bool):=(eZ a_).bind λx1=>(if(!x1)then some true else(eZ b_).bind λx2=>some (!x2)).bind λx3=>if x3 then some false else(yb a_ b_).bind λx4=>some (((x4.1==0)&&(decide (x4.2<0)))||((x4.2==0)&&(decide (x4.1<0))))
def XK:=mk 193 [.st 2, .st 2] [.bool] (λx=>sN x.1 x.2) [Iu,XY] [] Tryz.f193 (.n) Tryz.func193 Tryz.call193 rfl rfl λx=>by kernel_rfl
def jd(l_:(List fM))(s1:Int)(s2:Int):Option (aY (Int) (Bool)):=(aL l_ s1).bind λx1=>if(decide (s2<(x1.Filings.length:Int)))then(aL l_ s1).bind λx2=>(aL x2.Filings s2).bind λx3=>(oB x3.ai).bind λx4=>if(!x4)then some (.ret false)else(bh s2 1).bind λx5=>some (.go x5)else some (.ex 2 s2)
def p6(l_:(List fM))(s1:Int):Option (aY (Int) (Bool)):=if((decide (s1<(l_.length:Int)))&&(decide (s1<13)))then(aL l_ s1).bind λx1=>(oB x1.ai).bind λx2=>(if(!x2)then some true else(aL l_ s1).bind λx3=>some (decide (4<(x3.Filings.length:Int)))).bind λx4=>if x4 then some (.ret false)else(ar (jd l_ s1) (5) 0).bind λf1=>match f1 with| .go _=>none| .ex _ _=>(bh s1 1).bind λx5=>some (.go x5)| .ret r1=>some (.ret r1)else some (.ex 0 s1)
def oE(l_:(List fM)):Option (Bool):=(ar (p6 l_) (14) 0).bind λf1=>match f1 with| .go _=>none| .ex _ _=>some (decide ((l_.length:Int)<=12))| .ret r1=>some r1
def k16:=mk 16 [.list (.st 35)] [.bool] (λx=>oE x) [k27] [] Tryz.f16 (.s .n (.s (.s .n (.l [] [(3, .v .int)] [(0,[3],[])] (λ _=>14) (.s .n (.s (.s .n (.s .n (.l [] [(4, .v .int)] [(2,[4],[])] (λ _=>5) .n))) .n)))) .n)) Tryz.func16 Tryz.call16 rfl rfl λx=>by kernel_rfl
def qL(a_:(List aq))(b_:(List aq))(s1:Int):Option (aY (Int) (Bool)):=if(decide (s1<(a_.length:Int)))then(aL a_ s1).bind λx1=>(aL b_ s1).bind λx2=>(if(x1.Counter !=x2.Counter)then some true else(aL a_ s1).bind λx3=>(aL b_ s1).bind λx4=>some (x3.Number !=x4.Number)).bind λx5=>(if x5 then some true else(aL a_ s1).bind λx6=>(aL b_ s1).bind λx7=>(pB x6.ai x7.ai).bind λx8=>some (!x8)).bind λx9=>if x9 then some (.ret false)else(bh s1 1).bind λx10=>some (.go x10)else some (.ex 0 s1)
def s8(a_:(List aq))(b_:(List aq)):Option (Bool):=if((a_.length:Int)!=(b_.length:Int))then some false else(ar (qL a_ b_) (a_.length+b_.length+1) 0).bind λf1=>match f1 with| .go _=>none| .ex _ _=>some true| .ret r1=>some r1
def k19:=mk 19 [.list (.st 28), .list (.st 28)] [.bool] (λx=>s8 x.1 x.2) [k11] [] Tryz.f19 (.s .n (.s .n (.s (.s .n (.l [] [(5, .v .int)] [(0,[5],[])] (fL [0,1]) .n)) .n))) Tryz.func19 Tryz.call19 rfl rfl λx=>by kernel_rfl
def kc(a_:(List aG))(b_:(List aG))(s1:Int):Option (aY (Int) (Bool)):=if(decide (s1<(a_.length:Int)))then(aL a_ s1).bind λx1=>(aL b_ s1).bind λx2=>if(!decide (x1=x2))then some (.ret false)else(bh s1 1).bind λx3=>some (.go x3)else some (.ex 0 s1)
def jC(a_:(List aG))(b_:(List aG)):Option (Bool):=if((a_.length:Int)!=(b_.length:Int))then some false else(ar (kc a_ b_) (a_.length+b_.length+1) 0).bind λf1=>match f1 with| .go _=>none| .ex _ _=>some true| .ret r1=>some r1
def k20:=mk 20 [.list (.st 32), .list (.st 32)] [.bool] (λx=>jC x.1 x.2) [] [] Tryz.f20 (.s .n (.s .n (.s (.s .n (.l [] [(5, .v .int)] [(0,[5],[])] (fL [0,1]) .n)) .n))) Tryz.func20 Tryz.call20 rfl rfl λx=>by kernel_rfl
def cj(x_:(List aq))(target_:aq)(cmp_:(aq->aq->Option (Int)))(s1:Int×Int):Option (aY (Int×Int) (Int×Bool)):=if(decide (s1.1<s1.2))then(bh s1.1 s1.2).bind λx1=>(aL x_ (IntKind.i64.wrap (IK.shr (IK.mk (IntKind.u64.wrap x1):IK .u64) 1).n)).bind λx2=>(cmp_ x2 target_).bind λx3=>(if(decide (x3<0))then(bh (IntKind.i64.wrap (IK.shr (IK.mk (IntKind.u64.wrap x1):IK .u64) 1).n) 1).bind λx4=>some (x4,s1.2)else some (s1.1,(IntKind.i64.wrap (IK.shr (IK.mk (IntKind.u64.wrap x1):IK .u64) 1).n))).bind λs2=>some (.go (s2.1,s2.2))else some (.ex 0 (s1.1,s1.2))
def cJ(x_:(List aq))(target_:aq)(cmp_:(aq->aq->Option (Int))):Option (Int×Bool):=(ar (cj x_ target_ cmp_) (x_.length+1) (0,(x_.length:Int))).bind λf1=>match f1 with| .go _=>none| .ex _ s1=>(if(decide (s1.1<(x_.length:Int)))then(aL x_ s1.1).bind λx1=>(cmp_ x1 target_).bind λx2=>some (x2==0)else some false).bind λx3=>some (s1.1,x3)| .ret r1=>some r1
def k31:=mk 31 [.list (.st 28), .st 28, .f2 (.st 28) (.st 28) .int] [.int, .bool] (λx=>cJ x.1 x.2.1 x.2.2) [] [] Tryz.f31 (.s .n (.s .n (.s .n (.s (.l [] [(9, .v .int),(10, .v .int)] [(0,[10],[])] (fL [0]) (.s .n (.s .n (.s .n (.j [] [(9, .v .int),(10, .v .int)] ([],[]) (.s .n .n)))))) .n)))) Tryz.func31 Tryz.call31 rfl rfl λx=>by kernel_rfl
def ll(s_:(List ai)):Option ((List ai)):=(eb [] s_).bind λx1=>some x1
theorem sS{k0:K}{v0:Value}{s_:(List ai)}{r:(List ai)}(i0:(IsV s_) v0 k0)(hr:ll s_=some r):Calls Tryz.prog 35 #[v0] k0.w (Ret k0 (ah k0.w.heap.size 44 r)):=yI Tryz.func35 (by kernel_rfl) Tryz.ntmps35 rfl Tryz.underlying47 LO i0 hr
def lX(s_:(List ai))(f_:(ai->Option (Bool))):Option (Int):=BV s_ f_
def k80:=mk 80 [.list (.st 29), .f1 (.st 29) .bool] [.int] (λx=>lX x.1 x.2) [] [] Tryz.f80 (.s .n (.s (.s .n (.l [] [(8, .v .int)] [(0,[8],[])] (fI 7) .n)) .n)) Tryz.func80 Tryz.call80 rfl rfl λx=>by kernel_rfl
def jV(s_:(List ai))(f_:(ai->Option (Bool))):Option (Bool):=(lX s_ f_).bind λx1=>some (decide (0<=x1))
def k41:=mk 41 [.list (.st 29), .f1 (.st 29) .bool] [.bool] (λx=>jV x.1 x.2) [k80] [] Tryz.f41 (.n) Tryz.func41 Tryz.call41 rfl rfl λx=>by kernel_rfl
def lL(s_:(List bq))(f_:(bq->Option (Bool))):Option (Int):=BV s_ f_
def V7:=mk 127 [.list (.st 17), .f1 (.st 17) .bool] [.int] (λx=>lL x.1 x.2) [] [] Tryz.f127 (.s .n (.s (.s .n (.l [] [(8, .v .int)] [(0,[8],[])] (fI 7) .n)) .n)) Tryz.func127 Tryz.call127 rfl rfl λx=>by kernel_rfl
def dy(s_:(List bq))(f_:(bq->Option (Bool))):Option (Bool):=(lL s_ f_).bind λx1=>some (decide (0<=x1))
def k77:=mk 77 [.list (.st 17), .f1 (.st 17) .bool] [.bool] (λx=>dy x.1 x.2) [V7] [] Tryz.f77 (.n) Tryz.func77 Tryz.call77 rfl rfl λx=>by kernel_rfl
def cmp_Less_int(x_:Int)(y_:Int):Option (Bool):=(cmp_isNaN_int x_).bind λx1=>(if x1 then(cmp_isNaN_int y_).bind λx2=>some (!x2)else some false).bind λx3=>some (x3||(decide (x_<y_)))
def XH:=mk 170 [.int, .int] [.bool] (λx=>cmp_Less_int x.1 x.2) [Vt] [] Tryz.f170 (.n) Tryz.func170 Tryz.call170 rfl rfl λx=>by kernel_rfl
def jD(x_:Int):Option (Bool):=some (x_ !=x_)
def Wj:=mk 171 [.int] [.bool] (λx=>jD x) [] [] Tryz.f171 (.n) Tryz.func171 Tryz.call171 rfl rfl λx=>by kernel_rfl
def eg(x_:(List Int))(target_:Int)(s1:Int×Int):Option (aY (Int×Int) (Int×Bool)):=if(decide (s1.1<s1.2))then(bh s1.1 s1.2).bind λx1=>(aL x_ (IntKind.i64.wrap (IK.shr (IK.mk (IntKind.u64.wrap x1):IK .u64) 1).n)).bind λx2=>(cmp_Less_int x2 target_).bind λx3=>(if x3 then(bh (IntKind.i64.wrap (IK.shr (IK.mk (IntKind.u64.wrap x1):IK .u64) 1).n) 1).bind λx4=>some (x4,s1.2)else some (s1.1,(IntKind.i64.wrap (IK.shr (IK.mk (IntKind.u64.wrap x1):IK .u64) 1).n))).bind λs2=>some (.go (s2.1,s2.2))else some (.ex 0 (s1.1,s1.2))
def gR(x_:(List Int))(target_:Int):Option (Int×Bool):=(ar (eg x_ target_) (x_.length+1) (0,(x_.length:Int))).bind λf1=>match f1 with| .go _=>none| .ex _ s1=>(if(decide (s1.1<(x_.length:Int)))then(aL x_ s1.1).bind λx1=>(if(x1==target_)then some true else(aL x_ s1.1).bind λx2=>(jD x2).bind λx3=>(if x3 then(jD target_).bind λx4=>some x4 else some false).bind λx5=>some x5).bind λx6=>some x6 else some false).bind λx7=>some (s1.1,x7)| .ret r1=>some r1
def Wz:=mk 123 [.list .int, .int] [.int, .bool] (λx=>gR x.1 x.2) [XH,Wj] [] Tryz.f123 (.s .n (.s .n (.s .n (.s (.l [] [(7, .v .int),(8, .v .int)] [(0,[8],[])] (fL [0]) (.s .n (.s .n (.s .n (.j [] [(7, .v .int),(8, .v .int)] ([],[]) (.s .n .n)))))) .n)))) Tryz.func123 Tryz.call123 rfl rfl λx=>by kernel_rfl
def nW(s_:(List Int))(f_:(Int->Option (Bool))):Option (Int):=BV s_ f_
def Xa:=mk 190 [.list .int, .f1 .int .bool] [.int] (λx=>nW x.1 x.2) [] [] Tryz.f190 (.s .n (.s (.s .n (.l [] [(8, .v .int)] [(0,[8],[])] (fI 7) .n)) .n)) Tryz.func190 Tryz.call190 rfl rfl λx=>by kernel_rfl
def lB(s_:(List Int))(f_:(Int->Option (Bool))):Option (Bool):=(nW s_ f_).bind λx1=>some (decide (0<=x1))
def Wl:=mk 154 [.list .int, .f1 .int .bool] [.bool] (λx=>lB x.1 x.2) [Xa] [] Tryz.f154 (.n) Tryz.func154 Tryz.call154 rfl rfl λx=>by kernel_rfl
def eh(c_:bN)(lot_:Int):Option (Bool):=(gR c_.district lot_).bind λx1=>some x1.2
def k73:=mk 73 [.rf (.st 31), .int] [.bool] (λx=>eh x.1 x.2) [Wz] [] Tryz.f73 (.n) Tryz.func73 Tryz.call73 rfl rfl λx=>by kernel_rfl
def tE(d:bq)(s:List ct)(w:mC):Option Bool:=(mS s w.At d).bind λx=>some x
def k75:=mk 75 [.st 17, .rf (.list (.st 22)), .rf (.st 20)] [.bool] (λx=>tE x.1 x.2.1 x.2.2) [k76] [] Tryz.f75 .n Tryz.func75 Tryz.call75 rfl rfl λx=>by kernel_rfl
def th(q:bq)(s:List ct)(v:View):Option Bool:=(gA s v.Eye q).bind λx=>some x
def k78:=mk 78 [.st 17, .rf (.list (.st 22)), .rf (.st 16)] [.bool] (λx=>th x.1 x.2.1 x.2.2) [k79] [] Tryz.f78 .n Tryz.func78 Tryz.call78 rfl rfl λx=>by kernel_rfl
def uP(c:bN)(t:aP)(s:List ct)(i:Int):Option (aY Int Bool):=if decide (i<(t.Windows.length:Int))then(aL t.Windows i).bind λw=>(eh c w.Lot).bind λb=>(if(!b)then(dy t.az.Sun (λd=>tE d s w)).bind λx=>some x else some false).bind λx=>if x then some (.ret true)else(bh i 1).bind λj=>some (.go j)else some (.ex 2 i)
def uh(t:aP)(s:List ct)(i:Int):Option (aY Int Bool):=if decide (i<(t.az.Views.length:Int))then(aL t.az.Views i).bind λv=>(dy v.Targets (λq=>th q s v)).bind λx=>if x then some (.ret true)else(bh i 1).bind λj=>some (.go j)else some (.ex 4 i)
def ub(c:bN)(t:aP)(l:List (List ct))(i:Int):Option (aY Int Bool):=if decide (i<(l.length:Int))then(aL l i).bind λs=>(ar (uP c t s) (t.Windows.length+1) 0).bind λf=>match f with
 | .go _=>none| .ex _ _=>(ar (uh t s) (t.az.Views.length+1) 0).bind λf=>match f with| .go _=>none| .ex _ _=>(bh i 1).bind λj=>some (.go j)| .ret b=>some (.ret b)
 | .ret b=>some (.ret b)else some (.ex 0 i)
def jB(c:bN)(t:aP)(r:ai):Option Bool:=(eh c r.ax.Lot).bind λb=>if(!b)then some true else(mi r).bind λl=>(ar (ub c t l) (l.length+1) 0).bind λf=>match f with| .go _=>none| .ex _ _=>some false| .ret b=>some b
def k39:=mk 39 [.rf (.st 31), .st 7, .st 29] [.bool] (λx=>jB x.1 x.2.1 x.2.2) [k73,k74,k75,k78,k77] [] Tryz.f39 (.s .n (.s .n (.s (.s .n (.l [] [(23, .v .int)] [(0,[23],[])] (fI 22) (.s .n (.s .n (.s (.s .n (.s (.s .n (.l [] [(30, .v .int)] [(2,[30],[])] (fI 29) .n)) (.s .n (.l [] [(52, .v .int)] [(4,[52],[])] (fI 51) .n)))) .n))))) .n))) Tryz.func39 Tryz.call39 rfl rfl λx=>by kernel_rfl
theorem gok{k:K}:GOk tb k:=GOk.none (λ _=>rfl) λ _ e=>by cases e
theorem QP{x:Int}{v:Value}{k e:K}(h:(mH (T:=tb) [.int] x).is ⟨#[],[]⟩ v k):IsV x v e:=by have h:IsV x v k:=(gQ (T:=tb) (t:= .int) (x:=x)).1 h;rw[au]at h⊢;exact h
theorem Bb{x:Bool}{v:Value}{k e:K}(h:(mH (T:=tb) [.bool] x).is ⟨#[],[]⟩ v k):IsV x v e:=by have h:IsV x v k:=(gQ (T:=tb) (t:= .bool) (x:=x)).1 h;rw[aE]at h⊢;exact h
theorem BB{f:FuncId}{e:Array Value}{k:K}{x:Bool}(h:Calls Tryz.prog f e k.w (Ret k λv g=>(mH (T:=tb) [.bool] x).is ⟨#[],[]⟩ v g)):Calls Tryz.prog f e k.w (Ret k (IsV x)):=tB h λv g h=>Bb h
abbrev zR:ay:=⟨0,0,0,0⟩
theorem J2:Ty Tryz.prog 69 fD:=⟨⟨_,Tryz.underlying69,rfl⟩,by kernel_rfl⟩
def qE(e f:Nat)(i:Int)(part:List ay):FP->Pred:=λF _ k=>∃h,Gb.Box e (⟨[h]⟩:dt 1) k/\ah 0 126 part h k/\Gb.Box f i k/\e≠f/\¬obF h e/\¬obF h f/\F=λc=>c=e∨c=f∨obF h c
instance{z E:Nat}{i:Int}{part:List ay}:Rsc (qE z E i part)where
 keep:=λ ⟨u,h1,j,m,w,x,y,e⟩g q F=>by subst e;exact⟨u,h1.keep g (λh=>q z (.inl rfl) h) F,j.keep g (λc f=>q c (.inr (.inr f))) F,m.keep g (λh=>q E (.inr (.inl rfl)) h) F,w,x,y,rfl⟩
 handed:=λ ⟨u,h1,j,m,w,x,y,e⟩g q=>by subst e;exact⟨u,h1.handed g (λh=>q z (.inl rfl) h),j.handed g (λc f=>q c (.inr (.inr f))),m.handed g (λh=>q E (.inr (.inl rfl)) h),w,x,y,rfl⟩
 lt:=λ ⟨u,h1,j,m,w,x,y,e⟩c f=>by
  subst e;rcases f with rfl|rfl|f;.exact h1.lt
  .exact m.lt
  .exact j.ltF c f
 nsh:=λ ⟨u,h1,j,m,w,x,y,e⟩c f=>by
  subst e;rcases f with rfl|rfl|f;.exact h1.own
  .exact m.own
  .exact j.jl c f
def yF(i:Int)(part:List ay)(x:ay):Option (List ay×Bool):=(aL part i).bind λy=>(sN y x).bind λt=>if t then(eb part [x]).bind λp=>some (p,true)else some (part,false)
theorem Fg{k0:K}{j E:Nat}{i:Int}{part:List ay}{F:FP}{u v0:Value}{x:ay}{r:List ay×Bool}(h:qE j E i part F u k0)(i0:IsV x v0 k0)(W:yF i part x=some r):Calls Tryz.prog 192 #[v0,aw j,aw E] k0.w (cr F k0 λv k=>(∃G,qE j E i r.1 G u k/\Wr F k0 G)/\IsV r.2 v k):=by
 obtain⟨z,P,O,R,hne,n5,n6,rfl⟩:=h;unfold yF at W;obtain⟨y,hy,W⟩:=bind_some W;obtain⟨t,ht,W⟩:=bind_some W;refine cO Tryz.func192 rfl Tryz.ntmps192 (show 3<=15 by decide) λa k hk0 I J ha=>?_;obtain⟨e0,e1,e2,_⟩:=ha;replace i0:IsV x (a.get 0) k:=by rw[e0,hk0];exact i0
 have i1:Is (aw j) (a.get 1) k:=e1;have i2:Is (aw E) (a.get 2) k:=e2;rw[<-hk0]at P O R;have hQ:Gb.LetsOut (bodyPost Tryz.prog Tryz.f192 (cr (λc=>c=j∨c=E∨obF z c) k0 λv k=>(∃G,qE j E i r.1 G u k/\Wr (λc=>c=j∨c=E∨obF z c) k0 G)/\IsV r.2 v k)):=ch;have M:Chg (λc=>c=j∨c=E∨obF z c) k0 k:=by rw[hk0];exact Chg.refl _ k0
 clear e0 e1 e2;refine aK 2 (⟨some (aS x),[(0,none)]⟩::⟨some (IsV false),[]⟩::[]) rfl ⟨M,I,J⟩ (by kernel_rfl) ⟨ob1 rfl λ _ _ g n=>o7 rfl (up i0 g n.1),ob1 rfl λ _ _ g n=>aQ rfl (aE.2 rfl),trivial⟩ [⟨1,Is (aw j)⟩,⟨2,Is (aw E)⟩,⟨3,aS x⟩,⟨0,λ _ k=>Gb.Box j (⟨[z]⟩:dt 1) k/\ah 0 126 part z k/\Gb.Box E i k⟩] (λb q p=>⟨p.ke 1 rfl i1,p.ke 2 rfl i2,p.ou 0 3 rfl,⟨P.grow p.grow,aZ.mono p.grow O,R.grow p.grow⟩,trivial⟩) ?_;clear i0 i1 i2 P O R M I J;rintro a k ⟨⟨M,I,J⟩,i1,i2,i3,⟨P,O,R⟩,_⟩;refine wp_seq ?_;refine wp_seq ?_;refine cut (λT k'=>Bs (λc=>c=j∨c=E∨obF z c) k0 15 T k'/\Is (aw j) (T.get 1) k'/\aS x (T.get 3) k'/\IsV t (T.get 10) k'/\Gb.Box j (⟨[z]⟩:dt 1) k'/\ah 0 126 part z k'/\Gb.Box E i k') ?_ hQ ?_;·intro Q1 W1 w1;refine region (a0:=a) (k0:=k) (n:=15) (m:=6) (⟨some (Is z),[(1,none)]⟩::⟨some (IsV i),[(2,none)]⟩::⟨some (eE y),[(5,some 0),(6,some 1)]⟩::⟨some (IsV y),[(7,some 2)]⟩::⟨some (IsV x),[(3,none)]⟩::⟨some (IsV t),[(8,some 3),(9,some 4)]⟩::[]) lS I (by kernel_rfl) ⟨ob1 rfl λT _ g n=>bV (off:=0) rfl J2 (show cw j 0 (T.eval (.tmp 1)) _ from up i1 g n.1) (P.grow g) rfl,ob1 rfl λT _ g n=>aR rfl ty3 (show eE i (T.eval (.tmp 2)) _ from⟨_,up i2 g n.1,(R.grow g).at⟩),ob1 rfl λT _ g n=>dj rfl Tryz.underlying69 rC (by rw[show T.eval (.tmp 5)=z from n.1];exact(aZ.mono g O:ah 0 126 part z _).rd) n.2.1 hy,ob1 rfl λ _ _ g n=>aR rfl rC n.1,ob1 rfl λ _ _ g n=>aR rfl rC (up i3 g n.1).ptr,ob1 rfl λ _ _ g n=>bU rfl Tryz.call193 (BB (XK.ok.ok _ _ (y,x) t gok ⟨n.1,n.2.1⟩ ht)),trivial⟩ W1 λb q p=>?_;exact aj (k:=q) (w1 _ _ ⟨Bs.post ⟨M,I,J⟩ p,p.ke 1 rfl i1,p.ke 3 rfl i3,p.ou 5 10 rfl,P.grow p.grow,aZ.mono p.grow O,R.grow p.grow⟩)
 clear i1 i2 i3 P O R M I J;rintro a k ⟨⟨M,I,J⟩,i1,i3,i10,P,O,R⟩;refine wp_cond_split (isBool i10) (λH=>?_) (λH=>?_)
 .rw[if_pos H]at W;obtain⟨p1,hp1,W⟩:=bind_some W;obtain rfl:=ae W;refine wp_seq ?_;refine cut (λT k'=>Bs (λc=>c=j∨c=E∨obF z c) k0 15 T k'/\∃G,qE j E i p1 G u k'/\Wr (λc=>c=j∨c=E∨obF z c) k0 G) ?_ hQ ?_
  .intro Q1 W1 w1;refine gS 3 (⟨some (Is z),[(1,none)]⟩::⟨some (IsV x),[(3,none)]⟩::⟨some (IsV [x]),[(12,some 1)]⟩::[]) I (by kernel_rfl) ⟨ob1 rfl λT _ g n=>bV (off:=0) rfl J2 (show cw j 0 (T.eval (.tmp 1)) _ from up i1 g n.1) (P.grow g) rfl,ob1 rfl λ _ _ g n=>aR rfl rC (up i3 g n.1).ptr,ob1 rfl λ _ _ g n=>dL rfl Tryz.underlying69 zi rfl (by decide) (by decide) ⟨rfl,n.1,trivial⟩,trivial⟩ W1 λb q p=>?_;have hgq:=M.then p.grow;have hsb:=p.size.trans I;have e11:b.get 11=z:=(show Is z (b.get 11) q from p.ou 0 11 rfl);have j13:IsV [x] (b.get 13) q:=p.ou 2 13 rfl;have j1:Is (aw j) (b.get 1) q:=p.ke 1 rfl i1;have Oq:ah 0 126 part z q:=aZ.mono p.grow O;have B5q:=P.grow p.grow;have B6q:=R.grow p.grow;refine fZ (i:=3) (d:=14) rfl rfl rfl rfl (by rw[hsb];decide) (e:=126) Tryz.underlying69 zi (by rw[show b.eval (.tmp 11)=z from e11];exact Oq) (IsV.rd j13) hp1 λb2 q2 hsz2 hdf2 hoth2 U hown2 V=>?_;rw[show b.eval (.tmp 11)=z from e11]at U V;have hns:=Oq.jl;have wv:Wr (λc=>c=j∨c=E∨obF z c) k0 (obF z):=λc H=> .inl (.inr (.inr H));have B52:=B5q.keep U n5 hns;have B62:=B6q.keep U n6 hns;have hn5':¬obF (b2.get 14) j:=λH=>(V j H).elim n5 λh=>by have:=B5q.lt;omega
   have hn6':¬obF (b2.get 14) E:=λH=>(V E H).elim n6 λh=>by have:=B6q.lt;omega
   refine jb (i:=4) (off:=0) (w:=b2.get 14) rfl rfl rfl rfl (by kernel_rfl) (by decide) (show cw j 0 (b2.get 1) q2 by rw[hoth2 1 (by decide)];exact j1) B52 rfl (sJ hown2) λq3 hch3 hz3=>?_;have hsh:∀c,j=c->¬q2.sh c:=λc e=>e▸B52.own;have hgs:=hgq.size;refine aj (k:=q3) (w1 _ _ ⟨⟨(hgq.step U wv).step hch3 λc e=> .inl (.inl e.symm),by rw[hsz2,hsb],by rw[hdf2,p.defers,J]⟩,_,⟨b2.get 14,hz3,hown2.keep hch3 (λc H e=>hn5' (e▸H)) hsh,B62.keep hch3 hne hsh,hne,hn5',hn6',rfl⟩,λc H=>?_⟩);rcases H with rfl|rfl|H;.exact .inl (.inl rfl)
   .exact .inl (.inr (.inl rfl))
   .exact(V c H).imp (λh=> .inr (.inr h)) λh=>bB hgs h
  clear i1 i3 i10 P O R M I J;rintro a k ⟨⟨M,I,J⟩,G,hP,hW⟩;refine aK 1 (⟨some (IsV true),[]⟩::[]) rfl ⟨M,I,J⟩ (by kernel_rfl) ⟨ob1 rfl λ _ _ g n=>aQ rfl (aE.2 rfl),trivial⟩ [⟨4,IsV true⟩,⟨0,λ _ k=>qE j E i p1 G u k⟩] (λb q p=>⟨p.ou 0 4 rfl,Rsc.keep hP (Chg.of (F:=noF) p.grow) (λ _ _ f=>f) (λ _ f=>f.elim),trivial⟩) ?_;rintro a k ⟨⟨M,I,J⟩,i4,hP,_⟩;refine wp_ret ?_;exact cZ rfl J M ⟨⟨G,hP,hW⟩,i4⟩
 ·rw[if_neg (by rw[H];decide)]at W;obtain rfl:=ae W;refine wp_skip ?_;refine aK 1 (⟨some (IsV false),[]⟩::[]) rfl ⟨M,I,J⟩ (by kernel_rfl) ⟨ob1 rfl λ _ _ g n=>aQ rfl (aE.2 rfl),trivial⟩ [⟨4,IsV false⟩,⟨0,λ _ k=>Gb.Box j (⟨[z]⟩:dt 1) k/\ah 0 126 part z k/\Gb.Box E i k⟩] (λb q p=>⟨p.ou 0 4 rfl,⟨P.grow p.grow,aZ.mono p.grow O,R.grow p.grow⟩,trivial⟩) ?_;clear i1 i3 i10 P O R M I J;rintro a k ⟨⟨M,I,J⟩,i4,⟨P,O,R⟩,_⟩;refine wp_ret ?_;exact cZ rfl J M ⟨⟨_,⟨z,P,O,R,hne,n5,n6,rfl⟩,λc H=> .inl H⟩,i4⟩
abbrev HT:Value:= .tuple #[]
def cvP(e f:Nat):Value:= .func (.func 192) #[] #[aw e,aw f]
def PS(e f:Nat)(i:Int)(part:List ay)(F:FP)(g:K)(v0:Value):K->Prop:=λk=>∃G,qE e f i part G HT k/\Wr F g G/\bj G (obF v0)
section
variable {b5 b6:Nat}{i:Int}{part part':List ay}{F:FP}{k0 k k':K}{v0:Value}{G:FP}
theorem PS.grow(h:PS b5 b6 i part F k0 v0 k)(g:bE k k'):PS b5 b6 i part F k0 v0 k':=let⟨G,h1,e,j⟩:=h;⟨G,Rsc.keep h1 (Chg.of (F:=noF) g) (λ _ _ f=>f) (λ _ f=>f.elim),e,j⟩
theorem PS.next(j:k0.w.heap.size<=k.w.heap.size)(m:∀c,obF v0 c->c<k.w.heap.size)(q:Wr F k0 G)(u:bj G (obF v0))(h:∃f,qE b5 b6 i part' f HT k'/\Wr G k f):PS b5 b6 i part' F k0 v0 k':=by
 obtain⟨f,g1,g2⟩:=h;refine⟨f,g1,λc g=>?_,λc g e=>?_⟩
 · rcases g2 c g with h|h;.exact q c h
   .exact .inr (bB j h)
 · rcases g2 c g with h|h;.exact u c h e
   .have:=m c e;omega
theorem PS.other(h:PS b5 b6 i part F k0 v0 k)(g:Chg (obF v0) k k')(f:∀c,obF v0 c->¬k.sh c):PS b5 b6 i part F k0 v0 k':=let⟨G,h1,j,e⟩:=h;⟨G,Rsc.keep h1 g e f,j,e⟩
theorem PS.new(h:PS b5 b6 i part F k0 v0 k){b:Nat}(f:Lo k (Eq b)):∃G,qE b5 b6 i part G HT k/\Wr F k0 G/\bj G (obF v0)/\bj G (Eq b):=by obtain⟨G,h1,g,j⟩:=h;exact⟨G,h1,g,j,λc m e=>by have q:=Rsc.lt h1 c m;have u:=f b rfl;subst e;omega⟩
end
def ML(i:Int)(e:List ay)(s:List ay×Int):Option (aY (List ay×Int) (List ay×Int)):=if decide (s.2<(e.length:Int))then(aL e s.2).bind λx=>(yF i s.1 x).bind λq=>if q.2 then some (.ret (q.1,s.2))else(bh s.2 1).bind λj=>some (.go (q.1,j))else some (.ex 0 s)
def MO(i:Int)(x part:List ay):Option (List ay×Int):=(ar (ML i x) (x.length+1) (part,0)).bind λf=>match f with| .ex _ s=>some (s.1,-1)| .ret r=>some r| .go _=>none
theorem Tk{k0:K}{b5 b6:Nat}{i:Int}{H part:List ay}{F:FP}{v0:Value}{r:List ay×Int}(O:ah 0 126 H v0 k0)(h:qE b5 b6 i part F HT k0)(ap:bj F (obF v0))(y:MO i H part=some r):Calls Tryz.prog 180 #[v0,cvP b5 b6] k0.w (cr F k0 λv k=>PS b5 b6 i r.1 F k0 v0 k/\IsV r.2 v k):=by
 unfold MO at y;have hnF:∀c,F c->¬k0.sh c:=Rsc.nsh h;have hlo:∀c,obF v0 c->c<k0.w.heap.size:=O.ltF;refine cO Tryz.func180 rfl Tryz.ntmps180 (show 2<=19 by decide) λa k hk0 e m ha=>?_;obtain⟨e0,e1,_⟩:=ha;have i0:bC v0 0 126 H (a.get 0) k:=by rw[e0,hk0];exact⟨rfl,O⟩
 have z:Is (cvP b5 b6) (a.get 1) k:=e1;have P:PS b5 b6 i part F k0 v0 k:=by rw[hk0];exact⟨F,h,λc W=> .inl W,ap⟩
 have hQ:Gb.LetsOut (bodyPost Tryz.prog Tryz.f180 (cr F k0 λv k=>PS b5 b6 i r.1 F k0 v0 k/\IsV r.2 v k)):=ch;have u:Chg F k0 k:=by rw[hk0];exact Chg.refl _ k0
 clear e0 e1;refine aK 1 (⟨some (IsI 0),[]⟩::[]) rfl ⟨u,e,m⟩ (by kernel_rfl) ⟨aI rfl rfl,trivial⟩ [⟨0,bC v0 0 126 H⟩,⟨1,Is (cvP b5 b6)⟩,⟨0,λ _ k=>PS b5 b6 i part F k0 v0 k⟩] (λb q p=>⟨p.ke 0 rfl i0,p.ke 1 rfl z,P.grow p.grow,trivial⟩) ?_;clear i0 z P u e m;rintro a k ⟨⟨u,e,m⟩,i0,z,P,_⟩;replace P:PS b5 b6 i part F k0 v0 k:=P;refine wp_seq ?_;refine aK 3 (⟨some (bC v0 0 126 H),[(0,none)]⟩::⟨some (IsL H),[(6,some 0)]⟩::⟨some (IsI 0),[]⟩::[]) rfl ⟨u,e,m⟩ (by kernel_rfl) ⟨ob1 rfl λ _ _ g n=>dH (.inl rfl) (up i0 g n.1),ob1 rfl λ _ _ h n=>gM rfl rfl Tryz.underlying69 n.1.2.rd,ob1 rfl λ _ _ h n=>du rfl (Gb.cI rfl),trivial⟩ [⟨0,bC v0 0 126 H⟩,⟨1,Is (cvP b5 b6)⟩,⟨7,IsL H⟩,⟨8,IsV (0:Int)⟩,⟨0,λ _ k=>PS b5 b6 i part F k0 v0 k⟩] (λb q p=>⟨p.ke 0 rfl i0,p.ke 1 rfl z,p.ou 1 7 rfl,p.ou 2 8 rfl,P.grow p.grow,trivial⟩) ?_;clear i0 z P u e m;rintro a k ⟨⟨u,e,m⟩,i0,z,J,I,P,_⟩;replace P:PS b5 b6 i part F k0 v0 k:=P;refine wp_block ?_;obtain⟨f1,hf1,y⟩:=bind_some y;refine pC f1 (λs' c l=>Bs F k0 19 c l/\bC v0 0 126 H (c.get 0) l/\Is (cvP b5 b6) (c.get 1) l/\IsL H (c.get 7) l/\IsV s'.2 (c.get 8) l/\PS b5 b6 i s'.1 F k0 v0 l) (λi' s' c l=>i'=0/\Bs F k0 19 c l/\PS b5 b6 i s'.1 F k0 v0 l) (λr' c l=>Bs F k0 19 c l/\IsV r'.2 (c.get 4) l/\PS b5 b6 i r'.1 F k0 v0 l) ?_ hQ ?_ ?_ ?_
 .intro Q1 W1 hgo hex M;refine gj ?_ _ _ _ _ _ hf1 ⟨⟨u,e,m⟩,i0,z,J,I,P⟩ Q1 W1 hgo hex M;clear y hf1 hgo hex M W1 hQ u e m i0 z J I P;intro T fl_ a k y hS Q hQ hgo hex M;obtain⟨⟨u,e,m⟩,i0,z,J,I,P⟩:=hS;unfold ML at y;refine aK 1 (⟨some (IsV (decide (T.2<(H.length:Int)))),[(8,none),(7,none)]⟩::[]) rfl ⟨u,e,m⟩ (by kernel_rfl) ⟨ob1 rfl λ _ _ h n=>jY rfl (up I h n.1) (up J h n.2.1),trivial⟩ [⟨0,bC v0 0 126 H⟩,⟨1,Is (cvP b5 b6)⟩,⟨7,IsL H⟩,⟨8,IsV T.2⟩,⟨9,IsV (decide (T.2<(H.length:Int)))⟩,⟨0,λ _ k=>PS b5 b6 i T.1 F k0 v0 k⟩] (λb q p=>⟨p.ke 0 rfl i0,p.ke 1 rfl z,p.ke 7 rfl J,p.ke 8 rfl I,p.ou 0 9 rfl,P.grow p.grow,trivial⟩) ?_;clear i0 z J I P u e m;rintro a k ⟨⟨u,e,m⟩,i0,z,J,I,i9,P,_⟩;replace P:PS b5 b6 i T.1 F k0 v0 k:=P;refine wp_seq ?_;refine wp_cond_split (isBool i9) (λW=>?_) (λW=>?_)
  .rw[if_pos W]at y;refine wp_skip ?_;refine wp_seq ?_;refine wp_block ?_;refine aK 2 (_::_::[]) rfl ⟨u,e,m⟩ (by kernel_rfl) ⟨mu rfl I,cp 0 rfl rfl,trivial⟩ [⟨0,bC v0 0 126 H⟩,⟨1,Is (cvP b5 b6)⟩,⟨5,IsV T.2⟩,⟨7,IsL H⟩,⟨8,IsV T.2⟩,⟨0,λ _ k=>PS b5 b6 i T.1 F k0 v0 k⟩] (λb q p=>⟨p.ke 0 rfl i0,p.ke 1 rfl z,p.ou 1 5 rfl,p.ke 7 rfl J,p.ke 8 rfl I,P.grow p.grow,trivial⟩) ?_;clear i0 z J I i9 P u e m;rintro a k ⟨⟨u,e,m⟩,i0,z,i5,J,I,P,_⟩;replace P:PS b5 b6 i T.1 F k0 v0 k:=P;obtain⟨x,hx,y⟩:=bind_some y;obtain⟨q0,hq0,y⟩:=bind_some y;refine wp_seq ?_;refine cut (λR k'=>Bs F k0 19 R k'/\bC v0 0 126 H (R.get 0) k'/\Is (cvP b5 b6) (R.get 1) k'/\IsV T.2 (R.get 5) k'/\IsL H (R.get 7) k'/\IsV T.2 (R.get 8) k'/\IsV q0.2 (R.get 16) k'/\PS b5 b6 i q0.1 F k0 v0 k') ?_ hQ ?_
   .intro Q2 W2 w2;refine gS 5 (_::⟨some (bC v0 0 126 H),[(0,none)]⟩::_::⟨some (eE x),[(12,some 1),(13,some 2)]⟩::⟨some (IsV x),[(14,some 3)]⟩::[]) e (by kernel_rfl) ⟨mu rfl z,ob1 rfl λ _ _ g n=>dH (.inl rfl) (up i0 g n.1),mu rfl i5,ob1 rfl λ _ _ h n=>dj rfl Tryz.underlying69 rC n.1.2.rd n.2.1 hx,ob1 rfl λ _ _ h n=>aR rfl rC n.1,trivial⟩ W2 λb q p=>?_;have hgq:=u.then p.grow;have hsb:=p.size.trans e;obtain⟨G,h1,h2,h3⟩:=P.grow p.grow;have j11:Is (cvP b5 b6) (b.get 11) q:=p.ou 0 11 rfl;have j15:IsV x (b.get 15) q:=p.ou 4 15 rfl;have j0:bC v0 0 126 H (b.get 0) q:=p.ke 0 rfl i0;have j1:Is (cvP b5 b6) (b.get 1) q:=p.ke 1 rfl z;have j5:=p.ke 5 rfl i5;have j7:=p.ke 7 rfl J;have j8:=p.ke 8 rfl I;refine wM (F:=G) (i:=5) (d:=16) (as_:=[.tmp 15]) (f:=192) (first:=#[]) (capt:=#[aw b5,aw b6]) rfl rfl rfl rfl (by rw[hsb];decide) j11 Tryz.call192 W2 (Fg h1 j15 hq0) λb2 q2 hsz2 hdf2 E U hres=>?_;obtain⟨hP,j16⟩:=hres;have hns:∀c,G c->¬q.sh c:=Rsc.nsh h1;have hle:=U.le hns;have hob:∀c,obF v0 c->c<q.w.heap.size:=λc W=>j0.2.ltF c (by rw[j0.1];exact W);refine aj (k:=q2) (w2 _ _ ⟨⟨hgq.step U h2,hsz2.trans hsb,hdf2.trans (p.defers.trans m)⟩,?_,?_,?_,?_,?_,j16,PS.next hgq.size hob h2 h3 hP⟩);.rw[E 0 (by decide)];exact⟨j0.1,j0.2.keep U (λc W hG=>h3 c hG (by rw[<-j0.1];exact W)) hns⟩
    .rw[E 1 (by decide)];exact j1
    .rw[E 5 (by decide)];exact aW.pers hle j5
    .rw[E 7 (by decide)];exact aW.pers hle j7
    .rw[E 8 (by decide)];exact aW.pers hle j8
   clear i0 z i5 J I P u e m;rintro a k ⟨⟨u,e,m⟩,i0,z,i5,J,I,i16,P⟩;refine wp_cond_split (isBool i16) (λV=>?_) (λV=>?_);·rw[if_pos V]at y;refine aK 2 (_::_::[]) rfl ⟨u,e,m⟩ (by kernel_rfl) ⟨mu rfl i5,cp 0 rfl rfl,trivial⟩ [⟨4,IsV T.2⟩,⟨0,λ _ k=>PS b5 b6 i q0.1 F k0 v0 k⟩] (λb q p=>⟨p.ou 1 4 rfl,P.grow p.grow,trivial⟩) ?_;rintro a k ⟨hB,i4,P1,_⟩;refine wp_ret ?_;exact M _ _ _ (ae y).symm ⟨hB,i4,P1⟩
   rw[if_neg (by rw[V];decide)]at y;refine wp_skip ?_;obtain⟨j,hj,y⟩:=bind_some y;refine cut (λR k'=>Bs F k0 19 R k'/\bC v0 0 126 H (R.get 0) k'/\Is (cvP b5 b6) (R.get 1) k'/\IsL H (R.get 7) k'/\IsV j (R.get 8) k'/\PS b5 b6 i q0.1 F k0 v0 k') ?_ hQ ?_;·intro Q3 W3 w3;refine gS 2 (⟨some (IsV j),[(8,none)]⟩::_::[]) e (by kernel_rfl) ⟨ob1 rfl λ _ _ h n=>iK rfl (up I h n.1) (Gb.cI rfl) hj,cm 0 rfl rfl,trivial⟩ W3 λb q p=>?_;exact aj (k:=q) (w3 _ _ ⟨Bs.post ⟨u,e,m⟩ p,p.ke 0 rfl i0,p.ke 1 rfl z,p.ke 7 rfl J,p.ou 1 8 rfl,P.grow p.grow⟩)
   clear i0 z i5 J I P u e m;rintro a k ⟨hB,i0,z,J,I,P⟩;exact hgo _ _ _ (ae y).symm ⟨hB,i0,z,J,I,P⟩
  ·rw[if_neg (by rw[W];decide)]at y;refine wp_exit ?_;exact hex _ _ _ _ (ae y).symm ⟨rfl,⟨u,e,m⟩,P⟩
 ·rintro r1 a k rfl ⟨hB,i4,P1⟩;dsimp only at y;obtain rfl:=ae y;exact cZ rfl hB.d hB.g ⟨P1,i4⟩
 ·rintro _ _ _ rfl _;simp at y
 clear hf1 i0 z J I P u e m;rintro _ s2 a k rfl ⟨rfl,⟨u,e,m⟩,P⟩;dsimp only at y;obtain rfl:=ae y;refine aK 1 (⟨some (IsI (-1)),[]⟩::[]) rfl ⟨u,e,m⟩ (by kernel_rfl) ⟨aI rfl rfl,trivial⟩ [⟨4,IsV (-1:Int)⟩,⟨0,λ _ k=>PS b5 b6 i s2.1 F k0 v0 k⟩] (λb q p=>⟨p.ou 0 4 rfl,P.grow p.grow,trivial⟩) ?_;rintro a k ⟨⟨u,e,m⟩,i4,P1,_⟩;refine wp_ret ?_;exact cZ rfl m u ⟨P1,i4⟩
def OH(i:Int)(s:List ay×List ay×Int×Int):Option (aY (List ay×List ay×Int×Int) Unit):=if decide (s.2.2.2<(s.2.1.length:Int))then(aL s.2.1 s.2.2.2).bind λx=>(yF i s.1 x).bind λq=>(if(!q.2)then(aL s.2.1 s.2.2.1).bind λ_=>(bh s.2.2.1 1).bind λw=>some (s.2.1.set s.2.2.1.toNat x,w)else some (s.2.1,s.2.2.1)).bind λe=>(bh s.2.2.2 1).bind λj=>some (.go (q.1,e.1,e.2,j))else some (.ex 0 s)
def OL(i:Int)(x part:List ay):Option (List ay×List ay):=(MO i x part).bind λq=>if q.2==-1 then some (q.1,x)else(bh q.2 1).bind λj=>(ar (OH i) (x.length+1) (q.1,x,q.2,j)).bind λf=>match f with| .ex _ s=>if s.2.2.1.toNat<s.2.1.length then(ic s.2.1 0 s.2.2.1).bind λl=>some (s.1,l)else none|_=>none
theorem SC{z:K}{m u:Nat}{i:Int}{xs part:List ay}{F:FP}{v0:Value}{r:List ay×List ay}(O:ah 0 126 xs v0 z)(h:qE m u i part F HT z)(ap:bj F (obF v0))(T:OL i xs part=some r):
    Calls Tryz.prog 191 #[v0,cvP m u] z.w (cr (λc=>F c∨obF v0 c) z λv k=>PS m u i r.1 F z v0 k/\mm v0 0 126 r.2 v k):=by
 unfold OL at T;have hnF:∀c,F c->¬z.sh c:=Rsc.nsh h;have wv:∀{k:K},Wr (λc=>F c∨obF v0 c) k (obF v0):=λc M=> .inl (.inr M);have wF:∀{k:K} {G:FP},Wr F k G->Wr (λc=>F c∨obF v0 c) k G:=λhw c M=>(hw c M).imp .inl id;refine cO Tryz.func191 rfl Tryz.ntmps191 (show 2<=42 by decide) λa k hk0 e y ha=>?_;obtain⟨e0,e1,_⟩:=ha;have i0:bC v0 0 126 xs (a.get 0) k:=by rw[e0,hk0];exact⟨rfl,O⟩
 have H:Is (cvP m u) (a.get 1) k:=e1;have P:PS m u i part F z v0 k:=by rw[hk0];exact⟨F,h,λc M=> .inl M,ap⟩
 have hQ:Gb.LetsOut (bodyPost Tryz.prog Tryz.f191 (cr (λc=>F c∨obF v0 c) z λv k=>PS m u i r.1 F z v0 k/\mm v0 0 126 r.2 v k)):=ch;have x:Chg (λc=>F c∨obF v0 c) z k:=by rw[hk0];exact Chg.refl _ z
 clear e0 e1;refine aK 1 (⟨some ij,[]⟩::[]) rfl ⟨x,e,y⟩ (by kernel_rfl) ⟨ob1 rfl λb q h n=>aQ rfl je,trivial⟩ [⟨0,bC v0 0 126 xs⟩,⟨1,Is (cvP m u)⟩,⟨0,λ _ k=>PS m u i part F z v0 k⟩] (λb q p=>⟨p.ke 0 rfl i0,p.ke 1 rfl H,P.grow p.grow,trivial⟩) ?_;clear i0 H P x e y;rintro a k ⟨⟨x,e,y⟩,i0,H,P,_⟩;replace P:PS m u i part F z v0 k:=P;obtain⟨q0,hq0,T⟩:=bind_some T;refine wp_seq ?_;refine cut (λE j=>Bs (λc=>F c∨obF v0 c) z 42 E j/\bC v0 0 126 xs (E.get 0) j/\Is (cvP m u) (E.get 1) j/\IsV q0.2 (E.get 5) j/\PS m u i q0.1 F z v0 j) ?_ hQ ?_
 · intro Q2 W2 w2;refine gS 2 (⟨some (bC v0 0 126 xs),[(0,none)]⟩::_::[]) e (by kernel_rfl) ⟨ob1 rfl λ _ _ g n=>dH (.inl rfl) (up i0 g n.1),mu rfl H,trivial⟩ W2 λb q p=>?_;have hgq:=x.then p.grow;have hsb:=p.size.trans e;obtain⟨G,h1,h2,h3⟩:=P.grow p.grow;obtain⟨e8,j8⟩:bC v0 0 126 xs (b.get 8) q:=p.ou 0 8 rfl;have e9:b.get 9=cvP m u:=(show Is (cvP m u) (b.get 9) q from p.ou 1 9 rfl);have V:bC v0 0 126 xs (b.get 0) q:=p.ke 0 rfl i0;have j1:Is (cvP m u) (b.get 1) q:=p.ke 1 rfl H;refine iH (F:=G) (i:=2) (d:=10) (as_:=[.tmp 8, .tmp 9]) rfl rfl rfl rfl (by rw[hsb];decide) Tryz.call180 W2 (by show Calls Tryz.prog 180 #[b.get 8,b.get 9] _ _;rw[e8,e9];exact Tk (e8▸j8) h1 h3 hq0) λb2 q2 hsz2 hdf2 I hch2 hres=>?_;obtain⟨⟨G',g1,g2,g3⟩,j10⟩:=hres;have W:∀c,G c->¬q.sh c:=Rsc.nsh h1;refine dg (i:=3) (d:=5) rfl rfl (.inl rfl) rfl (by rw[hsz2,hsb];decide) λb3 hsz3 hdf3 e3 J=>?_;have hgs:=hgq.size;refine aj (k:=q2) (w2 _ _ ⟨⟨hgq.step hch2 (wF h2),hsz3.trans (hsz2.trans hsb),hdf3.trans (hdf2.trans (p.defers.trans y))⟩,?_,?_,by rw[show b3.get 5=b2.get 10 from e3];exact j10,⟨G',g1,λc M=>?_,g3⟩⟩);.rw[J 0 (by decide),I 0 (by decide)];exact⟨V.1,V.2.keep hch2 (λc M hG=>h3 c hG (by rw[<-V.1];exact M)) W⟩
   .rw[J 1 (by decide),I 1 (by decide)];exact j1
   · rcases g2 c M with h|h;.exact h2 c h
     .exact .inr (bB hgs h)
 clear i0 H P x e y;rintro a k ⟨⟨x,e,y⟩,i0,H,i5,P⟩;refine wp_seq ?_;refine aK 2 (_::⟨some (IsV (q0.2==-1)),[(11,some 0)]⟩::[]) rfl ⟨x,e,y⟩ (by kernel_rfl) ⟨mu rfl i5,ob1 rfl λ _ _ g n=>Eb rfl n.1 (Gb.cI rfl),trivial⟩ [⟨0,bC v0 0 126 xs⟩,⟨1,Is (cvP m u)⟩,⟨5,IsV q0.2⟩,⟨12,IsV (q0.2==-1)⟩,⟨0,λ _ k=>PS m u i q0.1 F z v0 k⟩] (λb q p=>⟨p.ke 0 rfl i0,p.ke 1 rfl H,p.ke 5 rfl i5,p.ou 1 12 rfl,P.grow p.grow,trivial⟩) ?_;clear i0 H i5 P x e y;rintro a k ⟨⟨x,e,y⟩,i0,H,i5,i12,P,_⟩;replace P:PS m u i q0.1 F z v0 k:=P;refine wp_cond_split (isBool i12) (λM=>?_) (λM=>?_);·rw[if_pos M]at T;obtain rfl:=ae T;refine aK 2 (⟨some (bC v0 0 126 xs),[(0,none)]⟩::_::[]) rfl ⟨x,e,y⟩ (by kernel_rfl) ⟨ob1 rfl λ _ _ g n=>dH (.inl rfl) (up i0 g n.1),cp 0 rfl rfl,trivial⟩ [⟨4,bC v0 0 126 xs⟩,⟨0,λ _ k=>PS m u i q0.1 F z v0 k⟩] (λb q p=>⟨p.ou 1 4 rfl,P.grow p.grow,trivial⟩) ?_;rintro a k ⟨⟨x,e,y⟩,i4,P1,_⟩;refine wp_ret ?_;exact cZ rfl y x (show gg _ _ _ (.tmp 4) (λv k=>PS m u i q0.1 F z v0 k/\mm v0 0 126 _ v k)from⟨P1,i4.1▸i4.2,λc M=>i4.1▸M⟩)
 rw[if_neg (by rw[M];decide)]at T;refine wp_skip ?_;obtain⟨x2,hx2,T⟩:=bind_some T;refine wp_seq ?_;refine aK 3 (_::⟨some (IsV x2),[(14,some 0)]⟩::_::[]) rfl ⟨x,e,y⟩ (by kernel_rfl) ⟨mu rfl i5,ob1 rfl λ _ _ g n=>iK rfl n.1 (Gb.cI rfl) hx2,cp 1 rfl rfl,trivial⟩ [⟨0,bC v0 0 126 xs⟩,⟨1,Is (cvP m u)⟩,⟨5,IsV q0.2⟩,⟨6,IsV x2⟩,⟨0,λ _ k=>PS m u i q0.1 F z v0 k⟩] (λb q p=>⟨p.ke 0 rfl i0,p.ke 1 rfl H,p.ke 5 rfl i5,p.ou 2 6 rfl,P.grow p.grow,trivial⟩) ?_;clear i0 H i5 i12 P M x e y;rintro a k ⟨⟨x,e,y⟩,i0,H,i5,i6,P,_⟩;replace P:PS m u i q0.1 F z v0 k:=P;refine wp_block ?_;obtain⟨f1,hf1,T⟩:=bind_some T;refine pC f1 (λs' c l=>Bs (λc=>F c∨obF v0 c) z 42 c l/\bC v0 0 126 s'.2.1 (c.get 0) l/\Is (cvP m u) (c.get 1) l/\IsV s'.2.2.1 (c.get 5) l/\IsV s'.2.2.2 (c.get 6) l/\PS m u i s'.1 F z v0 l) (λi' s' c l=>i'=0/\Bs (λc=>F c∨obF v0 c) z 42 c l/\bC v0 0 126 s'.2.1 (c.get 0) l/\IsV s'.2.2.1 (c.get 5) l/\PS m u i s'.1 F z v0 l) (λr' c l=>False) ?_ hQ ?_ ?_ ?_
 .intro Q1 W1 hgo hex hret;refine gj ?_ _ _ _ _ _ hf1 ⟨⟨x,e,y⟩,i0,H,i5,i6,P⟩ Q1 W1 hgo hex hret;clear T hf1 hgo hex hret W1 hQ x e y i0 H i5 i6 P;intro U fl_ a k T hS Q hQ hgo hex hret;obtain⟨⟨x,e,y⟩,i0,H,i5,i6,P⟩:=hS;unfold OH at T;refine wp_seq ?_;refine aK 4 (_::⟨some (bC v0 0 126 U.2.1),[(0,none)]⟩::⟨some (IsL U.2.1),[(17,some 1)]⟩::⟨some (IsV (decide (U.2.2.2<(U.2.1.length:Int)))),[(16,some 0),(18,some 2)]⟩::[]) rfl ⟨x,e,y⟩ (by kernel_rfl) ⟨mu rfl i6,ob1 rfl λ _ _ g n=>dH (.inl rfl) (up i0 g n.1),ob1 rfl λ _ _ g n=>gM rfl rfl Tryz.underlying69 n.1.2.rd,ob1 rfl λ _ _ g n=>jY rfl n.1 n.2.1,trivial⟩ [⟨0,bC v0 0 126 U.2.1⟩,⟨1,Is (cvP m u)⟩,⟨5,IsV U.2.2.1⟩,⟨6,IsV U.2.2.2⟩,⟨19,IsV (decide (U.2.2.2<(U.2.1.length:Int)))⟩,⟨0,λ _ k=>PS m u i U.1 F z v0 k⟩] (λb q p=>⟨p.ke 0 rfl i0,p.ke 1 rfl H,p.ke 5 rfl i5,p.ke 6 rfl i6,p.ou 3 19 rfl,P.grow p.grow,trivial⟩) ?_;clear i0 H i5 i6 P x e y;rintro a k ⟨⟨x,e,y⟩,i0,H,i5,i6,i19,P,_⟩;replace P:PS m u i U.1 F z v0 k:=P;refine wp_cond_split (isBool i19) (λM=>?_) (λM=>?_)
  .rw[if_pos M]at T;refine wp_skip ?_;obtain⟨x3,hx3,T⟩:=bind_some T;obtain⟨q1,hq1,T⟩:=bind_some T;obtain⟨s2,hs2,T⟩:=bind_some T;refine wp_seq ?_;refine cut (λE j=>Bs (λc=>F c∨obF v0 c) z 42 E j/\bC v0 0 126 s2.1 (E.get 0) j/\Is (cvP m u) (E.get 1) j/\IsV s2.2 (E.get 5) j/\IsV U.2.2.2 (E.get 6) j/\PS m u i q1.1 F z v0 j) ?_ hQ ?_
   .intro Q2 W2 w2;clear hQ hgo hex hret T;refine wp_block ?_;refine wp_seq ?_;refine cut (λE j=>Bs (λc=>F c∨obF v0 c) z 42 E j/\bC v0 0 126 U.2.1 (E.get 0) j/\Is (cvP m u) (E.get 1) j/\IsV U.2.2.1 (E.get 5) j/\IsV U.2.2.2 (E.get 6) j/\aS x3 (E.get 7) j/\PS m u i U.1 F z v0 j) ?_ W2 ?_;.intro Q3 W3 w3;refine gS 5 (⟨some (bC v0 0 126 U.2.1),[(0,none)]⟩::_::⟨some (eE x3),[(22,some 0),(23,some 1)]⟩::⟨some (IsV x3),[(24,some 2)]⟩::⟨some (gV k.w.heap.size zR),[]⟩::[]) e (by kernel_rfl) ⟨ob1 rfl λ _ _ g n=>dH (.inl rfl) (up i0 g n.1),mu rfl i6,ob1 rfl λ _ _ g n=>dj rfl Tryz.underlying69 rC n.1.2.rd n.2.1 hx3,ob1 rfl λ _ _ g n=>aR rfl rC n.1,ob1 rfl λ _ _ g n=>gu _ g.size rfl U3,trivial⟩ W3 λb q p=>?_;have hgq:=x.then p.grow;have hsb:=p.size.trans e;have hdb:=p.defers.trans y;have V:bC v0 0 126 U.2.1 (b.get 0) q:=p.ke 0 rfl i0;have j1:Is (cvP m u) (b.get 1) q:=p.ke 1 rfl H;have j5:=p.ke 5 rfl i5;have j6:=p.ke 6 rfl i6;have j25:IsV x3 (b.get 25) q:=p.ou 3 25 rfl;obtain⟨b7,j7,x7,z7⟩:(gV k.w.heap.size zR) (b.get 7) q:=p.ou 4 7 rfl;replace x7:Lo k (Eq b7):=Lo.eq x7;have y7:Wr (λc=>F c∨obF v0 c) z (Eq b7):=(x7.chg x).wr;have w0:bj (obF v0) (Eq b7):=bj.new (λc M=>i0.2.ltF c (i0.1▸M)) x7;obtain⟨G,h1,h2,h3,h4⟩:=P.new x7;have h1:=Rsc.keep h1 (Chg.of (F:=noF) p.grow) (λ _ _ f=>f) (λ _ f=>f.elim);have W:=z7.jl;refine cG (i:=5) rfl rfl rfl rfl BS (Upd.self (α:=ay)) j7 z7 j25 λq2 hch hz=>?_;replace hgq:=hgq.step hch y7;have hle:=hch.le W;obtain⟨q3,hsh,jn⟩:=hz.gz;rw[<-hsh.w];refine aj (k:=q3) (w3 _ _ ⟨⟨hgq.hand hsh y7,hsb,hdb⟩,⟨V.1,(V.2.keep hch (by rw[V.1];exact w0) W).handed hsh (by rw[V.1];exact w0)⟩,j1,aW.pers hsh.le (aW.pers hle j5),aW.pers hsh.le (aW.pers hle j6),?_,⟨G,Rsc.handed (Rsc.keep h1 hch h4 W) hsh h4,h2,h3⟩⟩);rw[<-j7]at jn;exact jn
    clear x e y i0 H i5 i6 i19 P;rintro a k ⟨⟨x,e,y⟩,i0,H,i5,i6,i7,P⟩;refine wp_seq ?_;refine cut (λE j=>Bs (λc=>F c∨obF v0 c) z 42 E j/\bC v0 0 126 U.2.1 (E.get 0) j/\Is (cvP m u) (E.get 1) j/\IsV U.2.2.1 (E.get 5) j/\IsV U.2.2.2 (E.get 6) j/\aS x3 (E.get 7) j/\IsV (!q1.2) (E.get 29) j/\PS m u i q1.1 F z v0 j) ?_ W2 ?_
    .intro Q3 W3 w3;refine gS 2 (_::⟨some (IsV x3),[(7,none)]⟩::[]) e (by kernel_rfl) ⟨mu rfl H,ob1 rfl λ _ _ g n=>aR rfl rC (up i7 g n.1).ptr,trivial⟩ W3 λb q p=>?_;have hgq:=x.then p.grow;have hsb:=p.size.trans e;obtain⟨G,h1,h2,h3⟩:=P.grow p.grow;have j26:Is (cvP m u) (b.get 26) q:=p.ou 0 26 rfl;have j27:IsV x3 (b.get 27) q:=p.ou 1 27 rfl;have V:bC v0 0 126 U.2.1 (b.get 0) q:=p.ke 0 rfl i0;have j1:Is (cvP m u) (b.get 1) q:=p.ke 1 rfl H;have j5:=p.ke 5 rfl i5;have j6:=p.ke 6 rfl i6;have j7:=p.ke 7 rfl i7;refine wM (F:=G) (i:=2) (d:=28) (as_:=[.tmp 27]) (f:=192) (first:=#[]) (capt:=#[aw m,aw u]) rfl rfl rfl rfl (by rw[hsb];decide) j26 Tryz.call192 W3 (Fg h1 j27 hq1) λb2 q2 hsz2 hdf2 I hch2 hres=>?_;obtain⟨hP,j28⟩:=hres;have W:∀c,G c->¬q.sh c:=Rsc.nsh h1;have hle:=hch2.le W;have hob:∀c,obF v0 c->c<q.w.heap.size:=λc M=>V.2.ltF c (by rw[V.1];exact M);refine bL (i:=3) (d:=29) (R:=IsV (!q1.2)) rfl rfl rfl (by rw[hsz2,hsb];decide) W3 (pW rfl j28) λb3 q3 hsz3 hdf3 J hg3 j29=>?_;refine aj (k:=q3) (w3 _ _ ⟨⟨(hgq.step hch2 (wF h2)).then hg3,hsz3.trans (hsz2.trans hsb),hdf3.trans (hdf2.trans (p.defers.trans y))⟩,?_,?_,?_,?_,?_,j29,(PS.next hgq.size hob h2 h3 hP).grow hg3⟩);.rw[J 0 (by decide),I 0 (by decide)];exact aZ.mono hg3 ⟨V.1,V.2.keep hch2 (λc M hG=>h3 c hG (by rw[<-V.1];exact M)) W⟩
     .rw[J 1 (by decide),I 1 (by decide)];exact j1
     .rw[J 5 (by decide),I 5 (by decide)];exact aZ.mono hg3 (aW.pers hle j5)
     .rw[J 6 (by decide),I 6 (by decide)];exact aZ.mono hg3 (aW.pers hle j6)
     .rw[J 7 (by decide),I 7 (by decide)];exact aZ.mono hg3 (aW.pers hle j7)
    clear i0 H i5 i6 i7 P x e y;rintro a k ⟨⟨x,e,y⟩,i0,H,i5,i6,i7,i29,P⟩;refine wp_cond_split (isBool i29) (λM=>?_) (λM=>?_)
    .rw[if_pos M]at hs2;obtain⟨x5,hx5,hs2⟩:=bind_some hs2;obtain⟨x6,hx6,hs2⟩:=bind_some hs2;obtain rfl:=ae hs2;obtain⟨g1,g2,_⟩:=nn hx5;refine wp_seq ?_;refine cut (λE j=>Bs (λc=>F c∨obF v0 c) z 42 E j/\bC v0 0 126 (U.2.1.set U.2.2.1.toNat x3) (E.get 0) j/\Is (cvP m u) (E.get 1) j/\IsV U.2.2.1 (E.get 5) j/\IsV U.2.2.2 (E.get 6) j/\PS m u i q1.1 F z v0 j) ?_ W2 ?_;.intro Q3 W3 w3;refine gS 3 (⟨some (bC v0 0 126 U.2.1),[(0,none)]⟩::_::⟨some (IsV x3),[(7,none)]⟩::[]) e (by kernel_rfl) ⟨ob1 rfl λ _ _ g n=>dH (.inl rfl) (up i0 g n.1),mu rfl i5,ob1 rfl λ _ _ g n=>aR rfl rC (up i7 g n.1).ptr,trivial⟩ W3 λb q p=>?_;have hgq:=x.then p.grow;have hsb:=p.size.trans e;have hdb:=p.defers.trans y;have V:bC v0 0 126 U.2.1 (b.get 0) q:=p.ke 0 rfl i0;have j1:Is (cvP m u) (b.get 1) q:=p.ke 1 rfl H;have j5:=p.ke 5 rfl i5;have j6:=p.ke 6 rfl i6;have j30:bC v0 0 126 U.2.1 (b.get 30) q:=p.ou 0 30 rfl;have j31:IsV U.2.2.1 (b.get 31) q:=p.ou 1 31 rfl;have j32:IsV x3 (b.get 32) q:=p.ou 2 32 rfl;refine bL (i:=3) (d:=33) rfl rfl rfl (by rw[hsb];decide) W3 (DM rfl Tryz.underlying69 rC j30 j31 hx5) λb2 q2 hsz hdf hoth hgr h33=>?_;rw[<-hoth 0 (by decide)]at V;rw[<-hoth 1 (by decide)]at j1;rw[<-hoth 5 (by decide)]at j5;rw[<-hoth 6 (by decide)]at j6;rw[<-hoth 32 (by decide)]at j32;replace V:bC v0 0 126 U.2.1 (b2.get 0) q2:=aZ.mono hgr V;have W:∀c,obF v0 c->¬q2.sh c:=λc M=>V.2.jl c (V.1▸M);refine za (i:=4) (off:=0) rfl rfl rfl rfl BS (Upd.self (α:=ay)) (show s5 v0 (U.2.2.1.toNat*Enc.sz ay+0) (b2.get 33) q2 from h33) (V.1▸V.2) g2 (aW.pers hgr.le j32) λq3 hch hz=>?_;have hle:=hch.le W;exact aj (k:=q3) (w3 _ _ ⟨⟨(hgq.then hgr).step hch wv,hsz.trans hsb,hdf.trans hdb⟩,⟨V.1,by rw[V.1];exact hz⟩,j1,aW.pers hle (aW.pers hgr.le j5),aW.pers hle (aW.pers hgr.le j6),((P.grow p.grow).grow hgr).other hch W⟩)
     clear x e y i0 H i5 i6 i7 i29 P;rintro a k ⟨⟨x,e,y⟩,i0,H,i5,i6,P⟩;refine gS 3 (_::⟨some (IsV x6),[(34,some 0)]⟩::_::[]) e (by kernel_rfl) ⟨mu rfl i5,ob1 rfl λ _ _ g n=>iK rfl n.1 (Gb.cI rfl) hx6,cp 1 rfl rfl,trivial⟩ W2 λb q p=>?_;exact aj (k:=q) (w2 _ _ ⟨Bs.post ⟨x,e,y⟩ p,p.ke 0 rfl i0,p.ke 1 rfl H,p.ou 2 5 rfl,p.ke 6 rfl i6,P.grow p.grow⟩)
    ·rw[if_neg (by rw[M];decide)]at hs2;obtain rfl:=ae hs2;refine wp_skip ?_;exact w2 _ _ ⟨⟨x,e,y⟩,i0,H,i5,i6,P⟩
   clear x e y i0 H i5 i6 i19 P;rintro a k ⟨⟨x,e,y⟩,i0,H,i5,i6,P⟩;obtain⟨x5,hx5,T⟩:=bind_some T;refine cut (λE j=>Bs (λc=>F c∨obF v0 c) z 42 E j/\bC v0 0 126 s2.1 (E.get 0) j/\Is (cvP m u) (E.get 1) j/\IsV s2.2 (E.get 5) j/\IsV x5 (E.get 6) j/\PS m u i q1.1 F z v0 j) ?_ hQ ?_;·intro Q3 W3 w3;refine gS 3 (_::⟨some (IsV x5),[(20,some 0)]⟩::_::[]) e (by kernel_rfl) ⟨mu rfl i6,ob1 rfl λ _ _ g n=>iK rfl n.1 (Gb.cI rfl) hx5,cp 1 rfl rfl,trivial⟩ W3 λb q p=>?_;exact aj (k:=q) (w3 _ _ ⟨Bs.post ⟨x,e,y⟩ p,p.ke 0 rfl i0,p.ke 1 rfl H,p.ke 5 rfl i5,p.ou 2 6 rfl,P.grow p.grow⟩)
   clear x e y i0 H i5 i6 P;rintro a k ⟨hB,i0,H,i5,i6,P⟩;exact hgo _ _ _ (ae T).symm ⟨hB,i0,H,i5,i6,P⟩
  ·rw[if_neg (by rw[M];decide)]at T;refine wp_exit ?_;exact hex _ _ _ _ (ae T).symm ⟨rfl,⟨x,e,y⟩,i0,i5,P⟩
 ·rintro r1 a k rfl hR;exact hR.elim
 ·rintro _ _ _ rfl _;simp at T
 clear hf1 i0 H i5 i6 P x e y;rintro _ s2 a k rfl ⟨rfl,⟨x,e,y⟩,i0,i5,P⟩;dsimp only at T;split at T;rotate_left;.simp at T
 rename_i hlt;obtain⟨l1,hl1,T⟩:=bind_some T;obtain rfl:=ae T;obtain⟨⟨_,h1,h2⟩,-⟩:=lh hl1;have i5':IsV ((s2.2.2.1.toNat:Nat):Int) (a.get 5) k:=by rw[Int.toNat_of_nonneg h1];exact i5
 refine wp_seq ?_;refine cut (λE j=>Bs (λc=>F c∨obF v0 c) z 42 E j/\bC v0 0 126 (s2.2.1.take s2.2.2.1.toNat++List.replicate (s2.2.1.length-s2.2.2.1.toNat) zR) (E.get 0) j/\IsV s2.2.2.1 (E.get 5) j/\PS m u i s2.1 F z v0 j) ?_ hQ ?_;·intro Q3 W3 w3;refine gS 3 (⟨some (bC v0 0 126 s2.2.1),[(0,none)]⟩::_::⟨some (Fj v0 s2.2.2.1.toNat (Enc.sz ay)),[(36,some 0),(37,some 1)]⟩::[]) e (by kernel_rfl) ⟨ob1 rfl λ _ _ g n=>dH (.inl rfl) (up i0 g n.1),mu rfl i5',ob1 rfl λ _ _ g n=>G3 rfl Tryz.underlying69 BS n.1 n.2.1 hlt,trivial⟩ W3 λb q p=>?_;have hgq:=x.then p.grow;have V:bC v0 0 126 s2.2.1 (b.get 0) q:=p.ke 0 rfl i0;have j5:=p.ke 5 rfl i5;have j38:Fj v0 s2.2.2.1.toNat (Enc.sz ay) (b.get 38) q:=p.ou 2 38 rfl;have W:∀c,obF v0 c->¬q.sh c:=λc M=>V.2.jl c (V.1▸M);refine IM (i:=3) rfl rfl rfl rfl Tryz.underlying69 U3 hlt j38 (V.1▸V.2) λq2 hch hz=>?_;exact aj (k:=q2) (w3 _ _ ⟨⟨hgq.step hch wv,p.size.trans e,p.defers.trans y⟩,⟨V.1,by rw[V.1];exact hz⟩,aW.pers (hch.le W) j5,(P.grow p.grow).other hch W⟩)
 clear x e y i0 i5 i5' P;rintro a k ⟨⟨x,e,y⟩,i0,i5,P⟩;have hsl:ic (s2.2.1.take s2.2.2.1.toNat++List.replicate (s2.2.1.length-s2.2.2.1.toNat) zR) 0 s2.2.2.1=some l1:=by unfold ic at hl1⊢;rw[if_pos ⟨by omega,by omega,by omega⟩]at hl1;rw[if_pos ⟨by omega,by omega,by simp;omega⟩,<-hl1];congr 2;rw[vx (by simp;omega),mj,Nat.min_self]
 refine aK 4 (⟨some (bC v0 0 126 (s2.2.1.take s2.2.2.1.toNat++List.replicate (s2.2.1.length-s2.2.2.1.toNat) zR)),[(0,none)]⟩::_::⟨some (mm v0 0 126 l1),[(39,some 0),(40,some 1)]⟩::_::[]) rfl ⟨x,e,y⟩ (by kernel_rfl) ⟨ob1 rfl λ _ _ g n=>dH (.inl rfl) (up i0 g n.1),mu rfl i5,ob1 rfl λ _ _ g n=>EW rfl Tryz.underlying69 BS n.1 n.2.1 hsl,cp 2 rfl rfl,trivial⟩ [⟨4,mm v0 0 126 l1⟩,⟨0,λ _ k=>PS m u i s2.1 F z v0 k⟩] (λb q p=>⟨p.ou 3 4 rfl,P.grow p.grow,trivial⟩) ?_;rintro a k ⟨⟨x,e,y⟩,i4,P1,_⟩;refine wp_ret ?_;exact cZ rfl y x (show gg _ _ _ (.tmp 4) (λv k=>PS m u i s2.1 F z v0 k/\mm v0 0 126 _ v k)from⟨P1,i4⟩)
theorem Ck{m:K}{v0:Value}{x:List ay}(i0:cM x v0 m)(F:x.length<=1073741824):Calls Tryz.prog 97 #[v0] m.w (Ret m (ah m.w.heap.size 126 x)):=by
 refine Ret.ofC ?_;refine cO Tryz.func97 rfl Tryz.ntmps97 (show 1<=8 by decide) λa k u j f G=>?_;obtain⟨e0,_⟩:=G;replace i0:cM x (a.get 0) k:=by rw[e0,u];exact i0
 have e:Chg noF m k:=by rw[u];exact Chg.refl _ m
 clear e0;refine aK 1 (⟨some ij,[]⟩::[]) rfl ⟨e,j,f⟩ (by kernel_rfl) ⟨ob1 rfl λb q h n=>aQ rfl je,trivial⟩ [⟨0,cM x⟩] (λb q p=>⟨p.ke 0 rfl i0,trivial⟩) ?_;clear i0;rintro a k ⟨⟨e,j,f⟩,i0,_⟩;refine wp_seq ?_;refine aK 2 (_::⟨some (Jn x),[(3,some 0)]⟩::[]) rfl ⟨e,j,f⟩ (by kernel_rfl) ⟨mu rfl i0,ob1 rfl λ _ _ g n=>Av rfl Tryz.underlying69 n.1,trivial⟩ [⟨_,_⟩,⟨4,Jn x⟩] (λb q p=>⟨p.ke 0 rfl i0,p.ou 1 4 rfl,trivial⟩) ?_;clear i0;rintro a k ⟨⟨e,j,f⟩,i0,i4,_⟩;obtain⟨c,H,y⟩:=i4;refine wp_cond_split H (λh1=>?_) (λh1=>?_);·obtain rfl:=y h1;refine aK 1 (⟨some (Is (.slice none 0 0)),[]⟩::[]) rfl ⟨e,j,f⟩ (by kernel_rfl) ⟨ob1 rfl λb q h n=>aQ rfl rfl,trivial⟩ [⟨_,_⟩] (λb q p=>⟨p.ou 0 2 rfl,trivial⟩) ?_;rintro a k ⟨⟨e,j,f⟩,i2,_⟩;refine wp_ret ?_;exact cZ rfl f e (show gg _ _ _ (.tmp 2) (ah _ 126 _)from .inl ⟨i2,rfl⟩)
 refine wp_skip ?_;refine wp_seq ?_;refine cut (λz E=>Bs noF m 8 z E/\ah m.w.heap.size 126 x (z.get 2) E) ?_ trivial ?_;·intro Q W I;refine gS 4 (⟨some ij,[]⟩::_::⟨some (ah k.w.heap.size 126 x),[(5,some 0),(6,some 1)]⟩::_::[]) j (by kernel_rfl) ⟨ob1 rfl λ _ _ h n=>mz rfl Tryz.underlying69 zi,mu rfl i0,ob1 rfl λ _ _ h n=>sC rfl Tryz.underlying69 zi h.size n.1 n.2.1 (by unfold eb;rw[if_pos (by simpa using F)];rfl),cp 2 rfl rfl,trivial⟩ W λb q p=>?_;exact aj (k:=q) (I _ _ ⟨Bs.post ⟨e,j,f⟩ p,(show ah k.w.heap.size 126 x (b.get 2) q from p.ou 3 2 rfl).weaken e.size⟩)
 rintro a k ⟨⟨e,j,f⟩,i2⟩;refine wp_ret ?_;exact cZ rfl f e (show gg _ _ _ (.tmp 2) (ah _ 126 _)from i2)
def AF(s:List ay×List ay×Int):Option (aY (List ay×List ay×Int) Unit):=if decide (s.2.2<(s.2.1.length:Int))then(OL s.2.2 s.1 s.2.1).bind λq=>(bh s.2.2 1).bind λj=>some (.go (q.2,q.1,j))else some (.ex 2 s)
def sQ(s:List ay×List (List ay)):Option (aY (List ay×List (List ay)) Unit):=if decide (0<(s.1.length:Int))then(aL s.1 0).bind λx=>(ic s.1 1 s.1.length).bind λl=>(ar AF (s.1.length+1) (l,[x],0)).bind λf=>match f with| .ex _ q=>(ef [q.2.1]).bind λst=>(gh st).bind λw=>(eb s.2 [w]).bind λo=>some (.go (q.1,o))|_=>none else some (.ex 0 s)
def jO(a:List ay):Option (List (List ay)):=(dP a).bind λb=>if(!b)then some []else if a.length<=1073741824 then(ar sQ (a.length+1) (a,[])).bind λf=>match f with| .ex _ s=>some s.2|_=>none else none
theorem RY{b:Nat}{k:K}(h:Gb.Box b ([]:List ay) k)(z:xX b 0 fo k):Gb.Box b (⟨[fo]⟩:dt 1) k:=by
 obtain⟨E,f,t,e,F⟩:=h;obtain⟨_,q,H,G,g,j⟩:=z;rw[e]at g;injection g with g;injection g with e1 _ _;subst e1;have w:f.toList.length=1:=Enc.len F;obtain⟨x,m⟩:=pz.1 w;rw[m]at j;have j:x=fo:=by simpa using j
 rw[j]at m;refine⟨E,f,t,e,m,w,?_⟩;rw[m];intro u y;simp at y;rw[y];rfl
structure PI (k0:K)(left part:List ay)(i:Int)(out:List (List ay))(a:Act)(k:K):Prop where
 bs:Bs noF k0 39 a k
 ol:ah 0 126 left (a.get 3) k
 oo:ah 0 69 out (a.get 4) k
 l3:Lo k0 (obF (a.get 3))l4:Lo k0 (obF (a.get 4))a34:bj (obF (a.get 3)) (obF (a.get 4))st:∃b5 b6 G,a.get 5=aw b5/\a.get 6=aw b6/\qE b5 b6 i part G HT k/\Lo k0 G/\bj G (obF (a.get 3))/\bj G (obF (a.get 4))
theorem PI.move{q k u:K}{left part:List ay}{i:Int}{out:List (List ay)}{a e:Act}(h:PI q left part i out a k)(g:bE k u)(y:Bs noF q 39 e u)(j:e.get 3=a.get 3)(m:e.get 4=a.get 4)(z:e.get 5=a.get 5)(E:e.get 6=a.get 6):PI q left part i out e u:=by obtain⟨_,ol,oo,l3,l4,a34,H,I,G,J,M,P,O,w,x⟩:=h;refine⟨y,by rw[j];exact aZ.mono g ol,by rw[m];exact aZ.mono g oo,by rw[j];exact l3,by rw[m];exact l4,by rw[j,m];exact a34,H,I,G,z.trans J,E.trans M,Rsc.keep P (Chg.of (F:=noF) g) (λ _ _ f=>f) (λ _ f=>f.elim),O,by rw[j];exact w,by rw[m];exact x⟩
theorem z3i:Zero Tryz.prog 3 (0:Int):=⟨_,Tryz.zeroValue3,λ _=>au.2 rfl⟩
theorem qE.un{e f:Nat}{i:Int}{part:List ay}{G:FP}{k:K}(h:qE e f i part G HT k):∃g,Gb.Box e (⟨[g]⟩:dt 1) k/\ah 0 126 part g k/\Gb.Box f i k/\e≠f/\¬obF g e/\¬obF g f/\G=λc=>c=e∨c=f∨obF g c:=h
theorem OM{V:K}{v0:Value}{l:List ay}{r:List (List ay)}(i0:IsV l v0 V)(J:jO l=some r):Calls Tryz.prog 156 #[v0] V.w (Ret V (IsV r)):=by
 unfold jO at J;refine Ret.ofC ?_;refine cO Tryz.func156 rfl Tryz.ntmps156 (show 1<=39 by decide) λa k hk0 z T ha=>?_;obtain⟨e0,_⟩:=ha;replace i0:IsV l (a.get 0) k:=by rw[e0,hk0];exact i0
 have hQ:Gb.LetsOut (bodyPost Tryz.prog Tryz.f156 (cr noF V (IsV r))):=ch;have E:Chg noF V k:=by rw[hk0];exact Chg.refl _ V
 clear e0;refine aK 1 (⟨some ij,[]⟩::[]) rfl ⟨E,z,T⟩ (by kernel_rfl) ⟨ob1 rfl λb q h n=>aQ rfl je,trivial⟩ [⟨0,IsV l⟩] (λb q p=>⟨p.ke 0 rfl i0,trivial⟩) ?_;clear i0 E z T;rintro a k ⟨⟨E,z,T⟩,i0,_⟩;obtain⟨b0,hb0,J⟩:=bind_some J;refine wp_seq ?_;refine aK 3 (_::⟨some (IsV b0),[(7,some 0)]⟩::⟨some (IsV (!b0)),[(8,some 1)]⟩::[]) rfl ⟨E,z,T⟩ (by kernel_rfl) ⟨mu rfl i0,ob1 rfl λ _ _ g n=>bU rfl Tryz.call116 (zV n.1 hb0),ob1 rfl λ _ _ g n=>pW rfl n.1,trivial⟩ [⟨0,IsV l⟩,⟨9,IsV (!b0)⟩] (λb q p=>⟨p.ke 0 rfl i0,p.ou 2 9 rfl,trivial⟩) ?_;clear i0 E z T;rintro a k ⟨⟨E,z,T⟩,i0,i9,_⟩;refine wp_cond_split (isBool i9) (λm=>?_) (λm=>?_);·rw[if_pos m]at J;obtain rfl:=ae J;refine aK 1 (⟨some (IsV (α:=List (List ay)) []),[]⟩::[]) rfl ⟨E,z,T⟩ (by kernel_rfl) ⟨ob1 rfl λb q h n=>aQ rfl (eC.2 (.inl ⟨rfl,rfl⟩)),trivial⟩ [⟨2,IsV (α:=List (List ay)) []⟩] (λb q p=>⟨p.ou 0 2 rfl,trivial⟩) ?_;rintro a k ⟨⟨E,z,T⟩,i2,_⟩;refine wp_ret ?_;exact cZ rfl T E i2
 rw[if_neg (by rw[m];decide)]at J;split at J;rotate_left;.cases J
 rename_i hlen;refine wp_skip ?_;refine aK 3 (_::⟨some (ah V.w.heap.size 126 l),[(10,some 0)]⟩::_::[]) rfl ⟨E,z,T⟩ (by kernel_rfl) ⟨mu rfl i0,ob1 rfl λ _ _ g n=>cu (bU rfl Tryz.call97 (Ck (IsV.rd n.1) hlen)) λv k' _ h=>h.weaken (bB E.size g.size),cp 1 rfl rfl,trivial⟩ [⟨3,ah V.w.heap.size 126 l⟩] (λb q p=>⟨p.ou 2 3 rfl,trivial⟩) ?_;clear i0 i9 m E z T;rintro a k ⟨⟨E,z,T⟩,i3,_⟩;replace i3:ah V.w.heap.size 126 l (a.get 3) k:=i3;refine aK 1 (⟨some (Is fo),[]⟩::[]) rfl ⟨E,z,T⟩ (by kernel_rfl) ⟨ob1 rfl λb q h n=>aQ rfl rfl,trivial⟩ [⟨3,ah V.w.heap.size 126 l⟩,⟨4,Is fo⟩] (λb q p=>⟨p.ke 3 rfl i3,p.ou 0 4 rfl,trivial⟩) ?_;clear i3 E z T;rintro a k ⟨⟨E,z,T⟩,i3,i4,_⟩;replace i3:ah V.w.heap.size 126 l (a.get 3) k:=i3;replace i4:a.get 4=fo:=i4;obtain⟨f1,hf1,J⟩:=bind_some J;refine wp_seq ?_;refine wp_block ?_;refine pC f1 (λs' c q=>Bs noF V 39 c q/\ah 0 126 s'.1 (c.get 3) q/\ah 0 69 s'.2 (c.get 4) q/\Lo V (obF (c.get 3))/\Lo V (obF (c.get 4))/\bj (obF (c.get 3)) (obF (c.get 4))) (λi' s' c q=>i'=0/\Bs noF V 39 c q/\ah 0 69 s'.2 (c.get 4) q/\Lo V (obF (c.get 4))) (λ _ _ _=>False) ?_ hQ ?_ ?_ ?_
 .intro Q1 W1 hgo hex hret;refine gj ?_ _ _ _ _ _ hf1 ⟨⟨E,z,T⟩,i3.weaken (bY _),by rw[i4];exact .inl ⟨rfl,rfl⟩,λc m=>(i3.lt c m).1,by rw[i4];intro c m;simp[obF,ob,fo]at m,by rw[i4];intro c _ m;simp[obF,ob,fo]at m⟩ Q1 W1 hgo hex hret;clear J hf1 hgo hex hret W1 E z T i3 i4;intro W fl_ a k J hS Q hQ2 hgo hex hret;obtain⟨⟨E,z,T⟩,o3,o4,l3,l4,a34⟩:=hS;unfold sQ at J;generalize hu3:a.get 3=u3 at o3 l3 a34;generalize hu4:a.get 4=u4 at o4 l4 a34;have i3:bC u3 0 126 W.1 (a.get 3) k:=⟨hu3,by rw[hu3];exact o3⟩;have i4:bC u4 0 69 W.2 (a.get 4) k:=⟨hu4,by rw[hu4];exact o4⟩;clear hu3 hu4 o3 o4;refine wp_seq ?_;refine aK 3 (⟨some (bC u3 0 126 W.1),[(3,none)]⟩::⟨some (IsL W.1),[(12,some 0)]⟩::⟨some (IsV (decide (0<(W.1.length:Int)))),[(13,some 1)]⟩::[]) rfl ⟨E,z,T⟩ (by kernel_rfl) ⟨ob1 rfl λ _ _ g n=>dH (.inl rfl) (up i3 g n.1),ob1 rfl λ _ _ g n=>gM rfl rfl Tryz.underlying69 n.1.2.rd,ob1 rfl λ _ _ g n=>sU rfl n.1 (Gb.cI rfl),trivial⟩ [⟨3,bC u3 0 126 W.1⟩,⟨4,bC u4 0 69 W.2⟩,⟨14,IsV (decide (0<(W.1.length:Int)))⟩] (λb q p=>⟨p.ke 3 rfl i3,p.ke 4 rfl i4,p.ou 2 14 rfl,trivial⟩) ?_;clear i3 i4 E z T;rintro a k ⟨⟨E,z,T⟩,i3,i4,i14,_⟩;refine wp_cond_split (isBool i14) (λm=>?_) (λm=>?_);rotate_left;·rw[if_neg (by rw[m];decide)]at J;refine wp_exit ?_;exact hex _ _ _ _ (ae J).symm ⟨rfl,⟨E,z,T⟩,i4.1▸i4.2,by rw[i4.1];exact l4⟩
  rw[if_pos m]at J;obtain⟨x,hx,J⟩:=bind_some J;obtain⟨l1,hl1,J⟩:=bind_some J;obtain⟨f2,hf2,J⟩:=bind_some J;refine wp_skip ?_;refine wp_block ?_;refine wp_seq ?_;refine cut (λH k'=>∃I hv,Bs noF V 39 H k'/\bC u3 0 126 W.1 (H.get 3) k'/\bC u4 0 69 W.2 (H.get 4) k'/\H.get 5=aw I/\Gb.Box I (⟨[hv]⟩:dt 1) k'/\ah 0 126 [x] hv k'/\¬obF hv I/\V.w.heap.size<=I/\Lo V (obF hv)/\bj (λc=>c=I∨obF hv c) (obF u3)/\bj (λc=>c=I∨obF hv c) (obF u4)) ?_ hQ2 ?_
  .intro Q2 W2 w2;refine gS 4 (⟨some (bC u3 0 126 W.1),[(3,none)]⟩::⟨some (eE x),[(15,some 0)]⟩::⟨some (IsV x),[(16,some 1)]⟩::⟨some (ah k.w.heap.size 126 [x]),[(17,some 2)]⟩::[]) z (by kernel_rfl) ⟨ob1 rfl λ _ _ g n=>dH (.inl rfl) (up i3 g n.1),ob1 rfl λ _ _ g n=>dj rfl Tryz.underlying69 rC n.1.2.rd (Gb.cI rfl) hx,ob1 rfl λ _ _ g n=>aR rfl rC n.1,ob1 rfl λ _ _ g n=>pE rfl Tryz.underlying69 zi g.size rfl (by decide) (by decide) ⟨rfl,n.1,trivial⟩,trivial⟩ W2 λb0 q0 p=>?_;have hgq0:=E.then p.grow;have hsb0:=p.size.trans z;have j18:ah k.w.heap.size 126 [x] (b0.get 18) q0:=p.ou 3 18 rfl;have j3:bC u3 0 126 W.1 (b0.get 3) q0:=p.ke 3 rfl i3;have j4:bC u4 0 69 W.2 (b0.get 4) q0:=p.ke 4 rfl i4;refine bL (i:=4) (d:=5) (R:=Be ay q0.w.heap.size) rfl rfl rfl (by rw[hsb0];decide) W2 (zD _ (aA _) rfl Tryz.zeroValue69) λb q hsz1 hdf1 hoth1 hg1 hb5=>?_;obtain⟨I,j5,x5,z5,h5⟩:=hb5;have r5:=RY z5 h5;have hgq:=hgq0.then hg1;have hsb:=hsz1.trans hsb0;rw[<-hoth1 3 (by decide)]at j3;rw[<-hoth1 4 (by decide)]at j4;rw[<-hoth1 18 (by decide)]at j18;have n18:¬obF (b.get 18) I:=λm=>by have:=(j18.lt I m).2.1;omega
   replace j3:bC u3 0 126 W.1 (b.get 3) q:=aZ.mono hg1 j3;replace j4:bC u4 0 69 W.2 (b.get 4) q:=aZ.mono hg1 j4;replace j18:ah k.w.heap.size 126 [x] (b.get 18) q:=aZ.mono hg1 j18;have gq0:=p.grow.size;have k3:∀c,obF u3 c->c<k.w.heap.size:=λc m=>i3.2.ltF c (by rw[i3.1];exact m);have k4:∀c,obF u4 c->c<k.w.heap.size:=λc m=>i4.2.ltF c (by rw[i4.1];exact m);have lo18:∀c,obF (b.get 18) c->k.w.heap.size<=c:=λc m=>(j18.lt c m).1;refine jb (i:=5) (off:=0) (w:=b.get 18) rfl rfl rfl rfl (by kernel_rfl) (by decide) (show cw I 0 (b.get 5) q from j5) r5 rfl (sJ j18) λq2 M hz=>?_;have hsh:∀c,I=c->¬q.sh c:=λc e=>e▸r5.own;have gs:=E.size;refine aj (k:=q2) (w2 _ _ ⟨I,b.get 18,⟨hgq.step M (λc e=> .inr (by subst e;omega)),hsb,hdf1.trans (p.defers.trans T)⟩,⟨j3.1,j3.2.keep M (λc m e=>by have:=k3 c (by rw[<-j3.1];exact m);omega) hsh⟩,⟨j4.1,j4.2.keep M (λc m e=>by have:=k4 c (by rw[<-j4.1];exact m);omega) hsh⟩,j5,hz,(j18.weaken (bY _)).keep M (λc m e=>n18 (e▸m)) hsh,n18,by omega,λc m=>by have:=lo18 c m;omega,?_,?_⟩)
   · rintro c (rfl|m) u;.have:=k3 c u;omega
     .have:=k3 c u;have:=lo18 c m;omega
   · rintro c (rfl|m) u;.have:=k4 c u;omega
     .have:=k4 c u;have:=lo18 c m;omega
  clear E z T i3 i4 i14 hx m;rintro a k ⟨I,hv,⟨E,z,T⟩,i3,i4,e5,B5,O,n5,lb5,lhv,ap3,ap4⟩;refine wp_seq ?_;refine cut (λH k'=>Bs noF V 39 H k'/\mm u3 0 126 l1 (H.get 3) k'/\bC u4 0 69 W.2 (H.get 4) k'/\H.get 5=aw I/\Gb.Box I (⟨[hv]⟩:dt 1) k'/\ah 0 126 [x] hv k') ?_ hQ2 ?_;·intro Q2 W2 w2;refine gS 3 (⟨some (bC u3 0 126 W.1),[(3,none)]⟩::⟨some (mm u3 0 126 l1),[(19,some 0)]⟩::_::[]) z (by kernel_rfl) ⟨ob1 rfl λ _ _ g n=>dH (.inl rfl) (up i3 g n.1),ob1 rfl λ _ _ g n=>Ef rfl Tryz.underlying69 BS n.1 (Gb.cI rfl) hl1,cp 1 rfl rfl,trivial⟩ W2 λb q p=>?_;exact aj (k:=q) (w2 _ _ ⟨Bs.post ⟨E,z,T⟩ p,p.ou 2 3 rfl,p.ke 4 rfl i4,p.ke 5 rfl (show Is (aw I) (a.get 5) k from e5),B5.grow p.grow,aZ.mono p.grow O⟩)
  clear E z T i3 i4 e5 B5 O hl1;rintro a k ⟨⟨E,z,T⟩,i3,i4,e5,B5,O⟩;refine wp_seq ?_;refine wp_seq ?_;refine cut (λH k'=>PI V l1 [x] 0 W.2 H k') ?_ hQ2 ?_
  .intro Q2 W2 w2;refine gS 1 (⟨some (gV k.w.heap.size (0:Int)),[]⟩::[]) z (by kernel_rfl) ⟨ob1 rfl λ _ _ g n=>gu _ g.size rfl z3i,trivial⟩ W2 λb q p=>?_;obtain⟨b6,j6,x6,z6⟩:(gV k.w.heap.size (0:Int)) (b.get 6) q:=p.ou 0 6 rfl;have hgq:=E.then p.grow;have hsb:=p.size.trans z;have hb5:I<k.w.heap.size:=B5.lt;have hhv:∀c,obF hv c->c<k.w.heap.size:=O.ltF;have gs:=E.size;have j3:mm u3 0 126 l1 (b.get 3) q:=p.ke 3 rfl i3;have j4:bC u4 0 69 W.2 (b.get 4) q:=p.ke 4 rfl i4;have j5:b.get 5=aw I:=p.ke 5 rfl (show Is (aw I) (a.get 5) k from e5);have f3:b.get 3=a.get 3:=show Is (a.get 3) (b.get 3) q from p.ke 3 rfl (show Is (a.get 3) (a.get 3) k from rfl);have c3:∀c,obF (b.get 3) c->c<k.w.heap.size:=λc m=>i3.1.ltF c (by rw[<-f3];exact m);have c4:∀c,obF (b.get 4) c->c<k.w.heap.size:=λc m=>i4.2.ltF c (by rw[i4.1,<-j4.1];exact m);have U:=z6.jl;refine cG (i:=1) rfl rfl rfl rfl O6 (Upd.self (α:=Int)) j6 z6 (Gb.cI rfl) λq2 M hz=>?_;refine aj (k:=q2) (w2 _ _ ⟨⟨hgq.step M (λc e=> .inr (by subst e;omega)),hsb,p.defers.trans T⟩,j3.1.keep M (λc m e=>by have:=c3 c m;omega) U,j4.2.keep M (λc m e=>by have:=c4 c m;omega) U,λc m=>l3 c (j3.2 c m),λc m=>l4 c (j4.1▸m),λc m u=>a34 c (j3.2 c m) (j4.1▸u),I,b6,_,j5,j6,⟨hv,(B5.grow p.grow).keep M (by omega) U,(aZ.mono p.grow O:ah 0 126 [x] hv q).keep M (λc m e=>by have:=hhv c m;omega) U,hz,by omega,n5,λm=>by have:=hhv b6 m;omega,rfl⟩,?_,?_,?_⟩)
   · rintro c (rfl|rfl|m);.exact lb5
     .omega
     .exact lhv c m
   · rintro c (rfl|rfl|m) u;.exact ap3 _ (.inl rfl) (j3.2 _ u)
     .have:=c3 _ u;omega
     .exact ap3 _ (.inr m) (j3.2 _ u)
   · rintro c (rfl|rfl|m) u;.exact ap4 _ (.inl rfl) (j4.1▸u)
     .have:=c4 _ u;omega
     .exact ap4 _ (.inr m) (j4.1▸u)
  clear E z T i3 i4 e5 B5 O l3 l4 a34 lb5 lhv ap3 ap4 n5;rintro a k hI;refine wp_block ?_;refine pC f2 (λs' c q=>PI V s'.1 s'.2.1 s'.2.2 W.2 c q) (λi' s' c q=>i'=2/\PI V s'.1 s'.2.1 s'.2.2 W.2 c q) (λ _ _ _=>False) ?_ hQ2 ?_ ?_ ?_
  .intro Q1 W1 hgo1 hex1 hret1;refine gj ?_ _ _ _ _ _ hf2 hI Q1 W1 hgo1 hex1 hret1;clear J hf2 hgo1 hex1 hret1 W1 hI hgo hex hret hQ2;intro s2 fl_ a k J hS Q hQ hgo hex hret;unfold AF at J;refine wp_seq ?_;refine wp_seq ?_;refine cut (λH k'=>PI V s2.1 s2.2.1 s2.2.2 W.2 H k'/\IsV (decide (s2.2.2<(s2.2.1.length:Int))) (H.get 24) k') ?_ hQ ?_;·intro Q4 W4 w4;obtain⟨I,b6,G,e5,e6,P,-⟩:=hS.st;obtain⟨hv,B5,O,B6,-⟩:=P.un;have i5:Is (aw I) (a.get 5) k:=e5;have i6:Is (aw b6) (a.get 6) k:=e6;refine gS 4 (⟨some (IsV s2.2.2),[(6,none)]⟩::⟨some (Is hv),[(5,none)]⟩::⟨some (IsL s2.2.1),[(22,some 1)]⟩::⟨some (IsV (decide (s2.2.2<(s2.2.1.length:Int)))),[(21,some 0),(23,some 2)]⟩::[]) hS.bs.s (by kernel_rfl) ⟨ob1 rfl λH _ g n=>aR rfl ty3 ⟨_,up i6 g n.1,(B6.grow g).at⟩,ob1 rfl λH _ g n=>bV (off:=0) rfl J2 (show cw I 0 (H.eval (.tmp 5)) _ from up i5 g n.1) (B5.grow g) rfl,ob1 rfl λH _ g n=>gM rfl rfl Tryz.underlying69 (by rw[show H.eval (.tmp 22)=hv from n.1];exact(aZ.mono g O:ah 0 126 _ hv _).rd),ob1 rfl λ _ _ g n=>jY rfl n.1 n.2.1,trivial⟩ W4 λb q p=>?_;exact aj (k:=q) (w4 _ _ ⟨hS.move p.grow (Bs.post hS.bs p) (show Is (a.get 3) (b.get 3) q from p.ke 3 rfl (show Is (a.get 3) (a.get 3) k from rfl)) (show Is (a.get 4) (b.get 4) q from p.ke 4 rfl (show Is (a.get 4) (a.get 4) k from rfl)) (show Is (a.get 5) (b.get 5) q from p.ke 5 rfl (show Is (a.get 5) (a.get 5) k from rfl)) (show Is (a.get 6) (b.get 6) q from p.ke 6 rfl (show Is (a.get 6) (a.get 6) k from rfl)),p.ou 3 24 rfl⟩)
   clear hS;rintro a k ⟨hS,i24⟩;refine wp_cond_split (isBool i24) (λm=>?_) (λm=>?_);rotate_left;·rw[if_neg (by rw[m];decide)]at J;refine wp_exit ?_;exact hex _ _ _ _ (ae J).symm ⟨rfl,hS⟩
   rw[if_pos m]at J;obtain⟨q1,hq1,J⟩:=bind_some J;obtain⟨j,hj,J⟩:=bind_some J;refine wp_skip ?_;refine wp_seq ?_;refine cut (λH k'=>PI V q1.2 q1.1 s2.2.2 W.2 H k') ?_ hQ ?_
   .intro Q4 W4 w4;refine wp_block ?_;obtain⟨⟨E,z,T⟩,ol,oo,l3,l4,a34,I,b6,G,e5,e6,P,lG,aG3,aG4⟩:=hS;have i3:bC (a.get 3) 0 126 s2.1 (a.get 3) k:=⟨rfl,ol⟩;have i4:bC (a.get 4) 0 69 W.2 (a.get 4) k:=⟨rfl,oo⟩;have i5:Is (aw I) (a.get 5) k:=e5;have i6:Is (aw b6) (a.get 6) k:=e6;refine gS 2 (⟨some (bC (a.get 3) 0 126 s2.1),[(3,none)]⟩::⟨some (Is (cvP I b6)),[(5,none),(6,none)]⟩::[]) z (by kernel_rfl) ⟨ob1 rfl λ _ _ g n=>dH (.inl rfl) (up i3 g n.1),ob1 rfl λH _ g n=>fq (first:=[]) (captured:=[.tmp 5, .tmp 6]) rfl (show Value.func (.func 192) #[] #[H.eval (.tmp 5),H.eval (.tmp 6)]=cvP I b6 by rw[show H.eval (.tmp 5)=aw I from up i5 g n.1,show H.eval (.tmp 6)=aw b6 from up i6 g n.2.1];rfl),trivial⟩ W4 λb q p=>?_;have hgq:=E.then p.grow;have hsb:=p.size.trans z;have j27:bC (a.get 3) 0 126 s2.1 (b.get 27) q:=p.ou 0 27 rfl;have j28:b.get 28=cvP I b6:=p.ou 1 28 rfl;have j4:bC (a.get 4) 0 69 W.2 (b.get 4) q:=p.ke 4 rfl i4;have j5:b.get 5=aw I:=p.ke 5 rfl i5;have j6:b.get 6=aw b6:=p.ke 6 rfl i6;replace P:=Rsc.keep P (Chg.of (F:=noF) p.grow) (λ _ _ f=>f) (λ _ f=>f.elim);have gs:=hgq.size;have c4:∀c,obF (a.get 4) c->c<q.w.heap.size:=λc m=>j4.2.ltF c (by rw[j4.1];exact m);have U:∀c,G c∨obF (a.get 3) c->¬q.sh c:=λc m=>m.elim (Rsc.nsh P c) (λh=>j27.2.jl c (by rw[j27.1];exact h));refine iH (F:=λc=>G c∨obF (a.get 3) c) (R:=λv k=>PS I b6 s2.2.2 q1.1 G q (a.get 3) k/\mm (a.get 3) 0 126 q1.2 v k) (i:=2) (d:=29) (f:=191) (as_:=[.tmp 27, .tmp 28]) rfl rfl rfl rfl (by rw[hsb];decide) Tryz.call191 W4 (by show Calls _ _ #[b.get 27,b.get 28] _ _;rw[j28,j27.1];exact SC (by have:=j27.2;rw[j27.1]at this;exact this) P aG3 hq1) λb2 q2 hsz2 hdf2 hoth2 hch2 hres=>?_;obtain⟨⟨G',P',wG,aG'⟩,j29⟩:=hres;refine dg (i:=3) (d:=3) rfl rfl (.inl rfl) rfl (by rw[hsz2,hsb];decide) λb3 hsz3 hdf3 e3 hoth3=>?_;replace e3:b3.get 3=b2.get 29:=e3;have f4:b3.get 4=a.get 4:=by rw[hoth3 4 (by decide),hoth2 4 (by decide)];exact j4.1
    have f5:b3.get 5=aw I:=by rw[hoth3 5 (by decide),hoth2 5 (by decide)];exact j5
    have f6:b3.get 6=aw b6:=by rw[hoth3 6 (by decide),hoth2 6 (by decide)];exact j6
    refine aj (k:=q2) (w4 _ _ ⟨⟨hgq.step hch2 (λc m=> .inr (m.elim (lG c) (l3 c))),hsz3.trans (hsz2.trans hsb),hdf3.trans (hdf2.trans (p.defers.trans T))⟩,by rw[e3];exact j29.1,?_,λc m=>l3 c (j29.2 c (e3▸m)),λc m=>l4 c (f4▸m),λc m u=>a34 c (j29.2 c (e3▸m)) (f4▸u),I,b6,G',f5,f6,P',λc m=>(wG c m).elim (lG c) (λh=>bB gs h),λc m u=>aG' c m (j29.2 c (e3▸u)),λc m u=>?_⟩);·rw[f4,<-j4.1];exact j4.2.keep hch2 (λc m h=>by rw[j4.1]at m;exact h.elim (λh=>aG4 c h m) (λh=>a34 c h m)) U
    · rw[f4]at u;rcases wG c m with h|h;.exact aG4 c h u
      .have:=c4 c u;omega
   clear hS i24 m hq1;intro a k hS;refine wp_seq ?_;refine wp_seq ?_;refine cut (λH k'=>PI V q1.2 q1.1 s2.2.2 W.2 H k'/\IsV s2.2.2 (H.get 30) k') ?_ hQ ?_;·intro Q4 W4 w4;obtain⟨I,b6,G,e5,e6,P,-⟩:=hS.st;obtain⟨hv,B5,O,B6,-⟩:=P.un;have i6:Is (aw b6) (a.get 6) k:=e6;refine gS 1 (⟨some (IsV s2.2.2),[(6,none)]⟩::[]) hS.bs.s (by kernel_rfl) ⟨ob1 rfl λH _ g n=>aR rfl ty3 ⟨_,up i6 g n.1,(B6.grow g).at⟩,trivial⟩ W4 λb q p=>?_;exact aj (k:=q) (w4 _ _ ⟨hS.move p.grow (Bs.post hS.bs p) (show Is (a.get 3) (b.get 3) q from p.ke 3 rfl (show Is (a.get 3) (a.get 3) k from rfl)) (show Is (a.get 4) (b.get 4) q from p.ke 4 rfl (show Is (a.get 4) (a.get 4) k from rfl)) (show Is (a.get 5) (b.get 5) q from p.ke 5 rfl (show Is (a.get 5) (a.get 5) k from rfl)) (show Is (a.get 6) (b.get 6) q from p.ke 6 rfl (show Is (a.get 6) (a.get 6) k from rfl)),p.ou 0 30 rfl⟩)
   clear hS;rintro a k ⟨hS,i30⟩;refine cut (λH k'=>PI V q1.2 q1.1 s2.2.2 W.2 H k') ?_ hQ ?_
   .intro Q4 W4 w4;obtain⟨⟨E,z,T⟩,ol,oo,l3,l4,a34,I,b6,G,e5,e6,P,lG,aG3,aG4⟩:=hS;obtain⟨hv,B5,O,B6,ne,n5,n6,rfl⟩:=P.un;refine gS 1 (⟨some (gV k.w.heap.size (0:Int)),[]⟩::[]) z (by kernel_rfl) ⟨ob1 rfl λ _ _ g n=>gu _ g.size rfl z3i,trivial⟩ W4 λb q p=>?_;obtain⟨b7,j6,x6,z6⟩:(gV k.w.heap.size (0:Int)) (b.get 6) q:=p.ou 0 6 rfl;have hgq:=E.then p.grow;have hsb:=p.size.trans z;have hb5:I<k.w.heap.size:=B5.lt;have hhv:∀c,obF hv c->c<k.w.heap.size:=O.ltF;have gs:=E.size;have f3:b.get 3=a.get 3:=show Is (a.get 3) (b.get 3) q from p.ke 3 rfl (show Is (a.get 3) (a.get 3) k from rfl);have f4:b.get 4=a.get 4:=show Is (a.get 4) (b.get 4) q from p.ke 4 rfl (show Is (a.get 4) (a.get 4) k from rfl);have j5:b.get 5=aw I:=p.ke 5 rfl (show Is (aw I) (a.get 5) k from e5);have j30:IsV s2.2.2 (b.get 30) q:=p.ke 30 rfl i30;have c3:∀c,obF (a.get 3) c->c<k.w.heap.size:=ol.ltF;have c4:∀c,obF (a.get 4) c->c<k.w.heap.size:=oo.ltF;have U:=z6.jl;refine cG (i:=1) rfl rfl rfl rfl O6 (Upd.self (α:=Int)) j6 z6 j30 λq2 M hz=>?_;refine aj (k:=q2) (w4 _ _ ⟨⟨hgq.step M (λc e=> .inr (by subst e;omega)),hsb,p.defers.trans T⟩,by rw[f3];exact(aZ.mono p.grow ol:ah 0 126 _ _ q).keep M (λc m e=>by have:=c3 c m;omega) U,by rw[f4];exact(aZ.mono p.grow oo:ah 0 69 _ _ q).keep M (λc m e=>by have:=c4 c m;omega) U,by rw[f3];exact l3,by rw[f4];exact l4,by rw[f3,f4];exact a34,I,b7,_,j5,j6,⟨hv,(B5.grow p.grow).keep M (by omega) U,(aZ.mono p.grow O:ah 0 126 _ hv q).keep M (λc m e=>by have:=hhv c m;omega) U,hz,by omega,n5,λm=>by have:=hhv b7 m;omega,rfl⟩,?_,?_,?_⟩)
    · rintro c (rfl|rfl|m);.exact lG _ (.inl rfl)
      .omega
      .exact lG _ (.inr (.inr m))
    · rw[f3];rintro c (rfl|rfl|m) u;.exact aG3 _ (.inl rfl) u
      .have:=c3 _ u;omega
      .exact aG3 _ (.inr (.inr m)) u
    · rw[f4];rintro c (rfl|rfl|m) u;.exact aG4 _ (.inl rfl) u
      .have:=c4 _ u;omega
      .exact aG4 _ (.inr (.inr m)) u
   clear hS i30;intro a k hS;refine cut (λH k'=>PI V q1.2 q1.1 j W.2 H k') ?_ hQ ?_;.intro Q4 W4 w4;obtain⟨⟨E,z,T⟩,ol,oo,l3,l4,a34,I,b6,G,e5,e6,P,lG,aG3,aG4⟩:=hS;obtain⟨hv,B5,O,B6,ne,n5,n6,rfl⟩:=P.un;have i6:Is (aw b6) (a.get 6) k:=e6;refine gS 2 (⟨some (IsV s2.2.2),[(6,none)]⟩::⟨some (IsV j),[(25,some 0)]⟩::[]) z (by kernel_rfl) ⟨ob1 rfl λH _ g n=>aR rfl ty3 ⟨_,up i6 g n.1,(B6.grow g).at⟩,ob1 rfl λ _ _ g n=>iK rfl n.1 (Gb.cI rfl) hj,trivial⟩ W4 λb q p=>?_;have hgq:=E.then p.grow;have f3:b.get 3=a.get 3:=show Is (a.get 3) (b.get 3) q from p.ke 3 rfl (show Is (a.get 3) (a.get 3) k from rfl);have f4:b.get 4=a.get 4:=show Is (a.get 4) (b.get 4) q from p.ke 4 rfl (show Is (a.get 4) (a.get 4) k from rfl);have j5:b.get 5=aw I:=p.ke 5 rfl (show Is (aw I) (a.get 5) k from e5);have j6:b.get 6=aw b6:=p.ke 6 rfl i6;have j26:IsV j (b.get 26) q:=p.ou 1 26 rfl;have U:=(B6.grow p.grow).jl;refine cG (i:=2) rfl rfl rfl rfl O6 (Upd.self (α:=Int)) j6 (B6.grow p.grow) j26 λq2 M hz=>?_;refine aj (k:=q2) (w4 _ _ ⟨⟨hgq.step M (λc e=> .inr (lG c (.inr (.inl e.symm)))),p.size.trans z,p.defers.trans T⟩,by rw[f3];exact(aZ.mono p.grow ol:ah 0 126 _ _ q).keep M (λc m e=>aG3 c (.inr (.inl e.symm)) m) U,by rw[f4];exact(aZ.mono p.grow oo:ah 0 69 _ _ q).keep M (λc m e=>aG4 c (.inr (.inl e.symm)) m) U,by rw[f3];exact l3,by rw[f4];exact l4,by rw[f3,f4];exact a34,I,b6,_,j5,j6,⟨hv,(B5.grow p.grow).keep M (λe=>ne e.symm) U,(aZ.mono p.grow O:ah 0 126 _ hv q).keep M (λc m e=>n6 (e▸m)) U,hz,ne,n5,n6,rfl⟩,lG,by rw[f3];exact aG3,by rw[f4];exact aG4⟩)
   intro a k hS;exact hgo _ _ _ (ae J).symm hS
  ·rintro _ _ _ _ h;exact h.elim
  ·rintro _ _ _ rfl _;simp at J
  clear hf2 hI;rintro _ s2 a k rfl ⟨rfl,hS⟩;dsimp only at J;obtain⟨st,hst,J⟩:=bind_some J;obtain⟨w,hw,J⟩:=bind_some J;obtain⟨o,ho,J⟩:=bind_some J;obtain rfl:=ae J;obtain⟨⟨E,z,T⟩,ol,oo,l3,l4,a34,I,b6,G,e5,e6,P,lG,aG3,aG4⟩:=hS;obtain⟨hv,B5,O,B6,ne,n5,n6,rfl⟩:=P.un;obtain⟨k2,hsh,iv⟩:=O.gz;have hg2:Chg noF V k2:=E.hand hsh (λc m=> .inr (lG c (.inr (.inr m))));replace ol:=ol.handed hsh (λc m u=>aG3 c (.inr (.inr u)) m);replace oo:=oo.handed hsh (λc m u=>aG4 c (.inr (.inr u)) m);replace B5:=B5.handed hsh n5;rw[<-hsh.w];clear E O B6 P;have i4:bC (a.get 4) 0 69 W.2 (a.get 4) k2:=⟨rfl,oo⟩;have i5:Is (aw I) (a.get 5) k2:=e5;refine cut (λH k'=>Bs noF V 39 H k'/\ah 0 126 s2.1 (H.get 3) k'/\ah 0 69 o (H.get 4) k'/\Lo V (obF (H.get 3))/\Lo V (obF (H.get 4))/\bj (obF (H.get 3)) (obF (H.get 4))) ?_ hQ2 ?_
  .intro Q4 W4 w4;refine gS 6 (⟨some (bC (a.get 4) 0 69 W.2),[(4,none)]⟩::⟨some (Is hv),[(5,none)]⟩::⟨some (IsV [s2.2.1]),[(32,some 1)]⟩::⟨some (IsV st),[(33,some 2)]⟩::⟨some (IsV w),[(34,some 3)]⟩::⟨some (IsV [w]),[(35,some 4)]⟩::[]) z (by kernel_rfl) ⟨ob1 rfl λ _ _ g n=>dH (.inl rfl) (up i4 g n.1),ob1 rfl λH _ g n=>bV (off:=0) rfl J2 (show cw I 0 (H.eval (.tmp 5)) _ from up i5 g n.1) (B5.grow g) rfl,ob1 rfl λH _ g n=>dL rfl Tryz.underlying247 TH rfl (by decide) (by decide) ⟨rfl,(by rw[show H.eval (.tmp 32)=hv from n.1];exact aZ.mono g iv),trivial⟩,ob1 rfl λ _ _ g n=>bU rfl Tryz.call195 (yM n.1 hst),ob1 rfl λ _ _ g n=>bU rfl Tryz.call194 (zN n.1 hw),ob1 rfl λ _ _ g n=>dL rfl Tryz.underlying247 TH rfl (by decide) (by decide) ⟨rfl,n.1,trivial⟩,trivial⟩ W4 λb q p=>?_;have hgq:=hg2.then p.grow;have hsb:=p.size.trans z;have j31:bC (a.get 4) 0 69 W.2 (b.get 31) q:=p.ou 0 31 rfl;have j36:IsV [w] (b.get 36) q:=p.ou 5 36 rfl;have f3:b.get 3=a.get 3:=show Is (a.get 3) (b.get 3) q from p.ke 3 rfl (show Is (a.get 3) (a.get 3) k2 from rfl);have gs:=hgq.size;replace ol:=(aZ.mono p.grow ol:ah 0 126 _ _ q);have c3:∀c,obF (a.get 3) c->c<q.w.heap.size:=ol.ltF;refine fZ (i:=6) (d:=37) (x:= .tmp 31) (y:= .tmp 36) rfl rfl rfl rfl (by rw[hsb];decide) Tryz.underlying247 TH j31.2 (IsV.rd j36) ho λb2 q2 hsz2 hdf2 hoth2 hch2 j37 hob=>?_;replace hch2:Chg (obF (b.get 31)) q q2:=hch2;replace hob:∀c,obF (b2.get 37) c->obF (b.get 31) c∨q.w.heap.size<=c:=hob;rw[j31.1]at hch2 hob;have U:∀c,obF (a.get 4) c->¬q.sh c:=λc m=>j31.2.jl c (by rw[j31.1];exact m);refine dg (i:=7) (d:=4) rfl rfl (.inl rfl) rfl (by rw[hsz2,hsb];decide) λb3 hsz3 hdf3 e4 hoth3=>?_;replace e4:b3.get 4=b2.get 37:=e4;have g3:b3.get 3=a.get 3:=by rw[hoth3 3 (by decide),hoth2 3 (by decide)];exact f3
   refine aj (k:=q2) (w4 _ _ ⟨⟨hgq.step hch2 (λc m=> .inr (l4 c m)),hsz3.trans (hsz2.trans hsb),hdf3.trans (hdf2.trans (p.defers.trans T))⟩,by rw[g3];exact ol.keep hch2 (λc m u=>a34 c m u) U,by rw[e4];exact j37,by rw[g3];exact l3,λc m=>(hob c (e4▸m)).elim (l4 c) (λh=>bB gs h),λc m u=>?_⟩);rw[g3]at m;rcases hob c (e4▸u)with h|h;.exact a34 c m h
   .have:=c3 c m;omega
  intro a k hS;exact hgo _ _ _ rfl hS
 .exactλ _ _ _ _ h=>h.elim
 ·rintro _ _ _ rfl _;simp at J
 clear hf1 i3 i4;rintro _ s2 a k rfl ⟨rfl,⟨E,z,T⟩,oo,l4⟩;dsimp only at J;obtain rfl:=ae J;obtain⟨k2,hsh,iv⟩:=oo.gz;have hg2:Chg noF V k2:=E.hand hsh (λc m=> .inr (l4 c m));rw[<-hsh.w];refine aK 2 (_::_::[]) rfl ⟨hg2,z,T⟩ (by kernel_rfl) ⟨mu rfl iv,cp 0 rfl rfl,trivial⟩ [⟨2,IsV s2.2⟩] (λb q p=>⟨p.ou 1 2 rfl,trivial⟩) ?_;rintro a k ⟨⟨E,z,T⟩,i2,_⟩;refine wp_ret ?_;exact cZ rfl T E i2
def V0:=mkO 156 [.list (.st 2)] [.list (.list (.st 2))] (λx=>jO x) Tryz.call156 λk0 vs x r hG h hr=>by obtain⟨v0,rfl,i0⟩:=h.one;exact OM i0 hr
def uR(n:Int):Option Bool:=(qH n).bind λx=>some (!x)
def XG:=mk 155 [.int] [.bool] (λx=>uR x) [UZ] [] Tryz.f155 .n Tryz.func155 Tryz.call155 rfl rfl λx=>by kernel_rfl
def sI(t:Lot):Option Bool:=(qH t.Id).bind λa=>(if a then(xQ t.Owner).bind λx=>some x else some false).bind λb=>(if b then(mQ t.From).bind λx=>some x else some false).bind λc=>(if c then(lB t.From uR).bind λx=>some (!x)else some false).bind λd=>(if d then(jO t.Area).bind λx=>some ((x.length:Int)==1)else some false).bind λe=>some e
def Vk:=mk 113 [.st 18] [.bool] (λx=>sI x) [UZ,WT,Xf,Wl,XG,V0] [] Tryz.f113 .n Tryz.func113 Tryz.call113 rfl rfl λx=>by kernel_rfl
def kN(land_:(List Lot))(s1:Int)(s2:Int):Option (aY (Int) (Bool)):=if(decide (s2<s1))then(aL land_ s1).bind λx1=>(aL land_ s2).bind λx2=>(ur x1.Area x2.Area).bind λx3=>if x3 then some (.ret false)else(bh s2 1).bind λx4=>some (.go x4)else some (.ex 8 s2)
def oK(land_:(List Lot))(s1:Int):Option (aY (Int) (Bool)):=if(decide (s1<(land_.length:Int)))then(ar (kN land_ s1) (s1.toNat+1) 0).bind λf1=>match f1 with| .go _=>none| .ex _ _=>(bh s1 1).bind λx1=>some (.go x1)| .ret r1=>some (.ret r1)else some (.ex 6 s1)
def A6(l:List Int)(s:List (Int×Bool)×Int):Option (aY (List (Int×Bool)×Int) Bool):=if decide (s.2<(l.length:Int))then(aL l s.2).bind λn=>(bh s.2 1).bind λj=>some (.go (dQ s.1 n true,j))else some (.ex 2 s)
def oJ(land_:List Lot)(s:List (Int×Bool)×List (Int×Bool)×Int):Option (aY (List (Int×Bool)×List (Int×Bool)×Int) Bool):=if decide (s.2.2<(land_.length:Int))then(aL land_ s.2.2).bind λx1=>(sI x1).bind λx2=>(if(!x2)then some true else(if decide (0<s.2.2)then(fi s.2.2 1).bind λy=>(aL land_ y).bind λz=>some (decide (x1.Id<=z.Id))else some false).bind λx=>some x).bind λbad=>if bad then some (.ret false)else(ar (A6 x1.From) (x1.From.length+1) (s.2.1,0)).bind λf=>match f with| .go _=>none| .ex _ u=>(bh s.2.2 1).bind λj=>some (.go (dQ s.1 x1.Id true,u.1,j))| .ret r=>some (.ret r)else some (.ex 0 s)
def E4(land_:List Lot):Option Bool:=(ar (oK land_) (land_.length+1) 0).bind λf2=>match f2 with| .go _=>none| .ex _ _=>some true| .ret r1=>some r1
def Jf(land_:List Lot)(ids old:List (Int×Bool)):Option Bool:=if old.any (λp=>(bz ids p.1).getD false)then some false else E4 land_
def jS(land_:List Lot):Option Bool:=if(decide (20000<(land_.length:Int)))then some false else(ar (oJ land_) (land_.length+1) ([],[],0)).bind λf=>match f with| .go _=>none| .ex _ s=>Jf land_ s.1 s.2.1| .ret r=>some r
def c71:Cx tb:=⟨Tryz.prog,tid,eqs,gx [Vk,Vr],fN (P:=Tryz.prog) [],false,[3,4],Tryz.f71.results.toList,Tryz.f71.ntmps,vU,λ _=>True,gE (P:=Tryz.prog) []⟩
theorem Mm:rX c71:=⟨lq [Vk,Vr],jr (P:=Tryz.prog) [],uk.at,lS,rfl,jk (P:=Tryz.prog) []⟩
def KK:Rv tb:=⟨0, .n, .n,[.bool],HL tb.S [.bool],λr=>r.2.2,λr=>((),(),r),λ _=>rfl⟩
def Y7:Code:=body Tryz.f71
def mA(e:Env tb):Option Bool:=(eV e 3 (.c 7)).bind λ (ids:List (Int×Bool))=>(eV e 4 (.c 7)).bind λ (old:List (Int×Bool))=>(eV e 0 (.v (.list (.st 18)))).bind λ (l:List Lot)=>Jf l ids old
def eA(land:List Lot):Env tb:=[(0, .v (.list (.st 18)) land)]
theorem Wx(land:List Lot):ev c71 KK (yC (Ew 4 Y7)) (.s .n (.s .n (.s .n (.s (.s .n (.l [] [(3, .c 7),(4, .c 7),(19, .v .int)] [(0,[19],[])] (fI 18) (.s .n (.s .n (.s (.s .n (.s .n (.s .n (.s .n (.l [] [(4, .c 7),(48, .v .int)] [(2,[48],[])] (fI 47) .n))))) .n))))) .n)))) Bool (eA land) ⟨mA,λ_ _=>none,some⟩=jS land:=by kernel_rfl
theorem WK(land:List Lot):ev c71 KK (Lk 5 Y7) (.s (.s .n (.l [] [(67, .v .int)] [(6,[67],[])] (fI 66) (.s .n (.s .n (.s (.s .n (.s .n (.l [] [(71, .v .int)] [(8,[71],[])] (fI 70) .n))) .n))))) .n) Bool (eA land) ⟨λ_=>none,λ_ _=>none,some⟩=E4 land:=by kernel_rfl
theorem hlA{a:Act}{k:K}{W:List Nat}{land:List Lot}(hs:a.tmps.size=87)(hd:a.defers=[])(hv:IsV land (a.get 0) k):Hl 87 noF k W a (eA land) a k:=by
 have hlk:∀t,lk (eA land) t=if 0=t then .v (.list (.st 18)) land else .top:=λt=>by show lk ((0,_)::_) t=_;rw[bg];rfl
 refine⟨Chg.refl _ k,hs,hd,λ _ _=>rfl,λt=>?_,λt s h=>?_,λt h=>?_,λt u _ b h=>?_,gok⟩
 · rw[hlk];split;.rename_i e;rw[<-e];exact hv
   .trivial
 .rw[hlk]at h;split at h<;>cases h
 .rw[hlk]at h;split at h<;>cases h
 .rw[hlk]at h;split at h<;>exact h.elim
theorem Vs{k0 k1 k:K}{a0 a:Act}{r:Bool}(g:Chg noF k0 k1)(h:qw c71 KK noF k1 a0 r a k):bodyPost Tryz.prog Tryz.f71 (cr noF k0 (IsV r)) .ret a k.w:=by obtain⟨h1,_,k2,h2,h3,_,_,h4⟩:=qw.step (a0:=a0) h g (λ _ h=>h.elim) (λh=>by simp[isN,KK]at h);obtain⟨v,h5,h6,_⟩:=h4 Tryz.f71 rfl;rw[<-h2];exact gB h1 h5 h3 h6
theorem UN:tL Tryz.prog 3 (Value.int .i64):=MN Tryz.underlying3
set_option maxHeartbeats 4000000 in
theorem zM{W:K}{v0:Value}{land:List Lot}{r:Bool}(i0:IsV land v0 W)(hr:jS land=some r):Calls Tryz.prog 71 #[v0] W.w (Ret W (IsV r)):=by
 refine Ret.ofC ?_;refine cO Tryz.func71 rfl Tryz.ntmps71 (show 1<=87 by decide) λa0 k0 hk0 hs hd ha=>?_;obtain⟨e0,_⟩:=ha;subst hk0;replace i0:IsV land (a0.get 0) k0:=by rw[e0];exact i0
 have hQ:Gb.LetsOut (bodyPost Tryz.prog Tryz.f71 (cr noF k0 (IsV r))):=ch;show Y7.wp Tryz.prog _ a0 k0.w;have hH:xC c71:=qq rfl;refine G8 Mm hH 4 (by kernel_rfl) (λ _=>trivial) ((Wx land).trans hr) (λh=>by simp[isN,KK]at h) (hlA hs hd i0) (λe a k g h=>?_) (λ _ _=>rfl) (λ _ _ _ g h=>by obtain rfl:=ae g;exact Vs (Chg.refl _ k0) h);replace g:mA e=some r:=g;obtain⟨(ids:List (Int×Bool)),g1,g⟩:=bind_some g;obtain⟨(old:List (Int×Bool)),g2,g⟩:=bind_some g;obtain⟨(ld:List Lot),g3,g⟩:=bind_some g;obtain⟨_,_,hI⟩:=CM h g1;obtain⟨_,_,hO⟩:=CM h g2;replace i0:IsV ld (a.get 0) k:=(gQ (T:=tb) (t:= .list (.st 18)) (x:=ld)).1 (uc h g3).1;replace hI:McR (Value.int .i64) ids _ (a.get 3) k:=hI;obtain⟨bi,T3,i3,_,_,_,rfl⟩:=id hI;obtain⟨bo,T,i4,eo,hm,_,_⟩:=hO;have M1:=hI;rw[i3]at M1;obtain⟨es,clk,hh,hes,hb1,hb2⟩:=hm.is;have hblt:=hm.lt;replace i3:Is (.map (some bi)) (a.get 3) k:=i3;replace i4:Is (.map (some bo)) (a.get 4) k:=i4;have hg:=h.g;replace hs:a.tmps.size=87:=h.s;replace hd:=h.d;have hr:(if old.any (λp=>(bz ids p.1).getD false)then some false else E4 ld)=some r:=g;show(Code.seq (.seq (.region 16 _ _) (.block 4 _)) (Lk 5 Y7)).wp Tryz.prog _ a k.w;refine wp_seq ?_;refine aK 2 (_::⟨some (zE k.w.heap.size bo clk),[(56,some 0)]⟩::[]) rfl ⟨hg,hs,hd⟩ (by kernel_rfl) ⟨mu rfl i4,ob1 rfl λ _ _ g n=>uF (es:=es) g.size rfl Tryz.underlying201 n.1 (by rw[g.blk bo hblt];exact hh),trivial⟩ [⟨_,_⟩,⟨3,Is (.map (some bi))⟩,⟨57,zE k.w.heap.size bo clk⟩,⟨0,λ _ k=>McR (Value.int .i64) ids (Eq bi) (.map (some bi)) k/\k.w.heap[bo]?=some (.map es clk)⟩] (λb q p=>⟨p.ke 0 rfl i0,p.ke 3 rfl i3,p.ou 1 57 rfl,⟨Rsc.grow M1 p.grow,by rw[p.grow.blk bo hblt];exact hh⟩,trivial⟩) ?_;have hk:=hg.size
 have hkeys:∀e∈es.toList,∃p∈old,e.key= .int .i64 p.1:=by
  intro e he;have:(e.key,e.val)∈(T.map λt=>(t.1,t.2.1)).map (λp=>(Value.int .i64 p.1,p.2)):=by rw[<-hes];exact aM.2 ⟨e,he,rfl⟩
  rw[dX]at this;obtain⟨p,hp,he⟩:=aM.1 this;exact⟨(p.1,p.2.2),by rw[eo];exact aM.2 ⟨p,hp,rfl⟩,(congrArg Prod.fst he).symm⟩
 have hall:∀p∈old,∃e∈es.toList,e.key= .int .i64 p.1:=by intro p hp;rw[eo]at hp;obtain⟨t,ht,rfl⟩:=aM.1 hp;have h2:(Value.int .i64 t.1,t.2.1)∈(T.map λt=>(t.1,t.2.1)).map (λp=>(Value.int .i64 p.1,p.2)):=aM.2 ⟨_,aM.2 ⟨t,ht,rfl⟩,rfl⟩;rw[<-hes]at h2;obtain⟨e,he,h3⟩:=aM.1 h2;exact⟨e,he,congrArg Prod.fst h3⟩
 clear i0 i3 i4 M1 hg hs hd hh hm hes h hI g g1 g2 g3 eo;rintro a k1 ⟨⟨hg,hs,hd⟩,i0,i3,⟨rr,e57,lor,It⟩,⟨M1,hh⟩,_⟩;refine wp_block ?_;refine pC (τ:=Unit) (if old.any (λp=>(bz ids p.1).getD false)then aY.ret false else aY.ex 4 ()) (λ _ _ _=>False) (λi' _ c l=>i'=4/\Bs noF k0 87 c l/\IsV ld (c.get 0) l) (λr' c l=>bodyPost Tryz.prog Tryz.f71 (cr noF k0 (IsV r')) .ret c l.w) ?_ hQ ?_ ?_ ?_
 .intro Q1 W1 hgo hex hret;refine sj (λm a k=>∃seen c0,m=(leftOf es seen).toList.length/\Bs noF k0 87 a k/\IsV ld (a.get 0) k/\Is (.map (some bi)) (a.get 3) k/\Is (.pointer (some ⟨rr,0,none⟩)) (a.get 57) k/\kh rr bo clk seen c0 k/\clk<=c0/\McR (Value.int .i64) ids (Eq bi) (.map (some bi)) k/\k.w.heap[bo]?=some (.map es clk)/\∀e∈es.toList,e∈(leftOf es seen).toList∨∀n,e.key= .int .i64 n->(bz ids n).getD false=false) ⟨_,#[],clk,rfl,⟨hg,hs,hd⟩,i0,i3,e57,It,aA _,M1,hh,λe he=> .inl (by unfold leftOf;simpa using he)⟩ ?_;clear hg hs hd i0 i3 e57 It M1 hh hQ hr;rintro m a k ⟨seen,c0,rfl,⟨hg,hs,hd⟩,i0,i3,e57,It,hle,M1,hh,hcov⟩;have hnr:¬rr=bo:=λe=>by subst e;have h:=It.is;rw[hh]at h;cases h
  have hnb:bj (Eq bi) (Eq rr):=λc hc e=>by subst hc;subst e;obtain⟨b',_,e',_,hm,_⟩:=M1;cases e';obtain⟨_,_,h',_⟩:=hm.is;have h:=It.is;rw[h']at h;cases h
  have lr:k0.w.heap.size<=rr:=by omega
  refine wp_seq ?_;refine cut (λa' k'=>(IsV false (a'.get 59) k'/\(leftOf es seen).toList=[]/\Bs noF k0 87 a' k'/\IsV ld (a'.get 0) k')∨(IsV true (a'.get 59) k'/\∃(i:Nat) (hi:i<(leftOf es seen).toList.length),Bs noF k0 87 a' k'/\IsV ld (a'.get 0) k'/\Is (.map (some bi)) (a'.get 3) k'/\Is (.pointer (some ⟨rr,0,none⟩)) (a'.get 57) k'/\kh rr bo clk (seen.push ((leftOf es seen).toList[i]).born) clk k'/\McR (Value.int .i64) ids (Eq bi) (.map (some bi)) k'/\k'.w.heap[bo]?=some (.map es clk))) ?_ trivial ?_
  .intro Q2 W2 w2;refine gS 0 [] hs (by kernel_rfl) trivial W2 λb1 q p=>?_;have hgq:=hg.then p.grow;have hsb:=p.size.trans hs;have hblk:bo<k.w.heap.size:=(bO.1 hh).1;have hhq:q.w.heap[bo]?=some (.map es clk):=by rw[p.grow.blk bo hblk];exact hh
   refine q9 (ty:=0) (i:=0) (d:=58) rfl rfl rfl rfl (by rw[hsb];decide) (show b1.get 57=_ from p.ke 57 rfl e57) (It.grow p.grow) hhq hb1 hle (λh0 b2 hsz2 hdf2 e58 hoth2=>?_) (λe he b2 q2 hsz2 hdf2 e58 hoth2 hch2 It2=>?_)
   · refine bL (i:=1) (d:=59) rfl rfl rfl (by rw[hsz2,hsb];decide) W2 (dV (x:= .tmp 58) rfl (show b2.get 58=_ from e58) rfl) λb3 q3 hsz3 hdf3 hoth3 hgr3 h59=>?_;refine aj (k:=q3) (w2 _ _ (.inl ⟨aE.2 h59,?_,⟨hgq.then hgr3,by rw[hsz3,hsz2,hsb],by rw[hdf3,hdf2,p.defers,hd]⟩,?_⟩));.exact iA (by rw[iE];exact h0)
     .rw[hoth3 0 (by decide),hoth2 0 (by decide)];exact aZ.mono hgr3 (p.ke 0 rfl i0)
   · obtain⟨i,hi,rfl⟩:=br he;have hns:∀c,rr=c->¬q.sh c:=λc e=>e▸(It.grow p.grow).own;have hle2:=hch2.le hns;have hh2:q2.w.heap[bo]?=some (.map es clk):=by rw[hch2.blk bo (by have:=p.grow.size;omega) hnr];exact hhq
     refine bL (i:=1) (d:=59) rfl rfl rfl (by rw[hsz2,hsb];decide) W2 (dV (x:= .tmp 58) rfl (show b2.get 58=_ from e58) rfl) λb3 q3 hsz3 hdf3 hoth3 hgr3 h59=>?_;have hbl2:bo<q2.w.heap.size:=(bO.1 hh2).1;refine aj (k:=q3) (w2 _ _ (.inr ⟨aE.2 h59,i,hi,⟨(hgq.step hch2 (λc e=> .inr (e▸lr))).then hgr3,by rw[hsz3,hsz2,hsb],by rw[hdf3,hdf2,p.defers,hd]⟩,?_,?_,?_,It2.grow hgr3,Rsc.grow (Rsc.keep (Rsc.grow M1 p.grow) hch2 hnb hns) hgr3,by rw[hgr3.blk bo hbl2];exact hh2⟩));.rw[hoth3 0 (by decide),hoth2 0 (by decide)];exact aZ.mono hgr3 (aW.pers hle2 (p.ke 0 rfl i0))
     .rw[hoth3 3 (by decide),hoth2 3 (by decide)];exact p.ke 3 rfl i3
     .rw[hoth3 57 (by decide),hoth2 57 (by decide)];exact p.ke 57 rfl e57
  clear hg hs hd i0 i3 e57 It M1 hh;rintro a k (⟨i59,hnil,hB,i0⟩|⟨i59,i,hi,⟨hg,hs,hd⟩,i0,i3,e57,It,M1,hh⟩)
  · refine wp_seq ?_;refine wp_cond_split (isBool i59) (λhc=>by cases hc) (λ _=>?_);refine wp_exit (gw (gw (hex 4 () _ _ (if_neg ?_) ⟨rfl,hB,i0⟩)));intro h;obtain⟨p,hp,h⟩:=oe.1 h;obtain⟨e,he,hk⟩:=hall p hp;rcases hcov e he with g|g;.rw[hnil]at g;cases g
    .rw[g _ hk]at h;cases h
  .refine wp_seq ?_;refine wp_cond_split (isBool i59) (λ _=>?_) (λhc=>by cases hc);refine wp_skip ?_;refine wp_block ?_;have hin:∀e∈(leftOf es seen).toList,e∈es.toList:=λe he=>by unfold leftOf at he;rw[pZ]at he;exact(bQ.1 he).1
   replace hin:=hin _ (aN hi);have hpush:=rj es seen i hi hb2
   have hcov2:∀e∈es.toList,e=(leftOf es seen).toList[i]∨e∈((leftOf es seen).toList.eraseIdx i)∨∀n,e.key= .int .i64 n->(bz ids n).getD false=false:=by
    intro e he;rcases hcov e he with h|h
    · obtain⟨j,hj,rfl⟩:=br h;by_cases hij:j=i;.subst hij;exact .inl rfl
      .exact .inr (.inl (List.mem_eraseIdx_iff_getElem.2 ⟨j,hj,hij,rfl⟩))
    .exact .inr (.inr h)
   have hlen:((leftOf es seen).toList.eraseIdx i).length<(leftOf es seen).toList.length:=by rw[rL hi];omega
   generalize(leftOf es seen).toList[i]=e at hin hpush It hcov2;rw[<-hpush]at hlen hcov2;obtain⟨⟨n,w⟩,hn,hk⟩:=hkeys e hin;replace hk:e.key= .int .i64 n:=hk;have hblk:bo<k.w.heap.size:=(bO.1 hh).1;refine aK 3 (⟨some (Is (.tuple #[e.key,e.val])),[(57,none)]⟩::⟨some (Is (.int .i64 n)),[(60,some 0)]⟩::_::[]) rfl ⟨hg,hs,hd⟩ (by kernel_rfl) ⟨ob1 rfl λa' k' g m=>um rfl (show a'.get 57=_ from up e57 g m.1) (It.grow g) (by rw[g.blk bo hblk];exact hh) hin hb2,ob1 rfl λa' _ g m=>by rw[<-hk];exact dV rfl m.1 rfl,cp 1 rfl rfl,trivial⟩ [⟨_,_⟩,⟨3,Is (.map (some bi))⟩,⟨9,Is (.int .i64 n)⟩,⟨57,Is (.pointer (some ⟨rr,0,none⟩))⟩,⟨0,λ _ q=>kh rr bo clk (seen.push e.born) clk q/\McR (Value.int .i64) ids (Eq bi) (.map (some bi)) q/\q.w.heap[bo]?=some (.map es clk)⟩] (λb1 q p=>⟨p.ke 0 rfl i0,p.ke 3 rfl i3,p.ou 2 9 rfl,p.ke 57 rfl e57,⟨It.grow p.grow,Rsc.grow M1 p.grow,by rw[p.grow.blk bo hblk];exact hh⟩,trivial⟩) ?_;clear hg hs hd i0 i3 e57 It M1 hh i59 hblk;rintro a k ⟨⟨hg,hs,hd⟩,i0,i3,i9,e57,⟨It,M1,hh⟩,_⟩;have hblk:bo<k.w.heap.size:=(bO.1 hh).1;refine aK 3 (_::_::⟨some (IsV ((bz ids n).getD false)),[(62,some 0),(63,some 1)]⟩::[]) rfl ⟨hg,hs,hd⟩ (by kernel_rfl) ⟨mu rfl i3,mu rfl i9,ob1 rfl λa' _ g m=>AP (F:=Eq bi) rfl UN Tryz.underlying201 z4 (by rw[show a'.eval (.tmp 62)=_ from m.1];exact Rsc.grow M1 g) (show a'.get 63=_ from m.2.1),trivial⟩ [⟨_,_⟩,⟨3,Is (.map (some bi))⟩,⟨57,Is (.pointer (some ⟨rr,0,none⟩))⟩,⟨64,IsV ((bz ids n).getD false)⟩,⟨0,λ _ q=>kh rr bo clk (seen.push e.born) clk q/\McR (Value.int .i64) ids (Eq bi) (.map (some bi)) q/\q.w.heap[bo]?=some (.map es clk)⟩] (λb1 q p=>⟨p.ke 0 rfl i0,p.ke 3 rfl i3,p.ke 57 rfl e57,p.ou 2 64 rfl,⟨It.grow p.grow,Rsc.grow M1 p.grow,by rw[p.grow.blk bo hblk];exact hh⟩,trivial⟩) ?_;clear hg hs hd i0 i3 i9 e57 It M1 hh hblk;rintro a k ⟨⟨hg,hs,hd⟩,i0,i3,e57,i64,⟨It,M1,hh⟩,_⟩;refine wp_cond_split (isBool i64) (λhc=>?_) (λhc=>?_);·refine aK 1 (⟨some (IsV false),[]⟩::[]) rfl ⟨hg,hs,hd⟩ (by kernel_rfl) ⟨ob1 rfl λ _ _ h n=>aQ rfl (aE.2 rfl),trivial⟩ [⟨2,IsV false⟩] (λb q p=>⟨p.ou 0 2 rfl,trivial⟩) ?_;rintro a k ⟨⟨hg,hs,hd⟩,i2,_⟩;refine wp_ret ?_;exact hret false _ _ (if_pos (oe.2 ⟨_,hn,hc⟩)) (cZ rfl hd hg i2)
   · refine wp_skip ?_;refine⟨_,k,rfl,hlen,seen.push e.born,clk,rfl,⟨hg,hs,hd⟩,i0,i3,e57,It,aA _,M1,hh,λe' he'=>?_⟩;rcases hcov2 e' he' with rfl|h|h;·refine .inr λm hm=>?_;rw[hk]at hm;injection hm with _ hm;rw[<-hm];exact hc
     .exact .inl h
     .exact .inr h
 · rintro r1 a k h hR;split at h;·rename_i ha;rw[if_pos ha]at hr;obtain rfl:=aY.ret.inj h;obtain rfl:=ae hr;exact hR
   .cases h
 ·rintro _ _ _ h _;exact absurd h (by split<;>simp)
 clear hg hs hd i0 i3 e57 lor It M1 hh hb1 hb2 hkeys hall;rintro _ _ a k h ⟨rfl,⟨hg,hs,hd⟩,i0⟩;split at h;.cases h
 rename_i ha;rw[if_neg ha]at hr;exact kW Mm hH (Lk 5 Y7) (λ _ _=>trivial) _ _ _ _ _ ((WK ld).trans hr) noF k _ a a k _ (λt ht=>ht) (λh=>by simp[isN,KK]at h) (hlA hs hd i0) (λ _ _ _ g _=>by cases g) (λ _ _ _ _ g=>by cases g) (λ _ _ _ g h=>by obtain rfl:=ae g;exact Vs hg h)
theorem D0{o:Oper}{a:Act}{k:K}{x:Operand}{p:jP}(ho:o.op= .field 92 x 2)(hx:IsV p (a.eval x) k):aX Tryz.prog o a k (IsV p.Tops):=by obtain⟨cs,e,r⟩:=hx;obtain⟨c0,c1,c2,rfl⟩:=SH (show cs.length=3 from Enc.len r);have r':Enc.rep k [c0,c1,c2] (p.Cap,p.Base,p.Tops):=r;have h2:Enc.rep k [c2] p.Tops:=r'.2.2.2.2;have hv:a.eval x= .agg #[c0,c1,c2]:=e;refine ak (v:=c2) ?_ ⟨[c2],rfl,h2⟩;simp only[execOp,ho,hv];simp[Instr.field,run_underlying Tryz.underlying92,asAgg,part,er Tryz.underlying38,uT]
def oW(c:Cap)(eT:List Int)(s:List (ByteArray×Int)×Int):Option (aY (List (ByteArray×Int)×Int) (List (ByteArray×Int))):=if decide (s.2<(eT.length:Int))then(aL eT s.2).bind λn=>(tD ((bz s.1 c.Name).getD 0) n).bind λv=>(tD s.2 1).bind λj=>some (.go (dQ s.1 c.Name v,j))else some (.ex 2 s)
def oV(t:aP)(r:ai)(s:List (ByteArray×Int)×Int):Option (aY (List (ByteArray×Int)×Int) (List (ByteArray×Int))):=if decide (s.2<(t.az.Caps.length:Int))then(aL t.az.Caps s.2).bind λc=>(pG t [r] c).bind λp=>(ar (oW c p.Tops) (p.Tops.length+1) (s.1,0)).bind λf=>match f with| .go _=>none| .ex _ u=>(tD s.2 1).bind λj=>some (.go (u.1,j))| .ret r=>some (.ret r)else some (.ex 0 s)
def dN(t:aP)(r:ai):Option (List (ByteArray×Int)):=(ar (oV t r) (t.az.Caps.length+1) ([],0)).bind λf=>match f with| .go _=>none| .ex _ s=>some s.1| .ret r=>some r
def MU:Nat->Code->Env tb->(R:Type)->(Env tb->Option R)->Option R|0, .region 5 _ _,e,_,K=>(qC e 2 (.st 7)).bind λ (t:aP)=>(qC e 3 (.st 29)).bind λ (y:ai)=>(qC e 7 (.st 15)).bind λ (c:Cap)=>bif pS [19,20,21,22,23,24,25,26] e then(pG t [y] c).bind λp=>K ((26, .v .int 0)::(25, .v .int (p.Tops.length:Int))::(24, .v (.list .int) p.Tops)::iV (klA 24) e)else none|_,_,_,_,_=>none
def VP:Cx tb:=⟨Tryz.prog,tid,eqs,gx (P:=Tryz.prog) [],fN (P:=Tryz.prog) [],true,[4,5],Tryz.f47.results.toList,Tryz.f47.ntmps,MU,λc=>c∈fQ (body Tryz.f47),gE (P:=Tryz.prog) []⟩
set_option maxHeartbeats 4000000 in theorem Pr{A:Array Oper}{d:Bool}{e:Env tb}{R:Type}{K:Env tb->Option R}{r:R}(hc:Code.region 5 A d∈fQ (body Tryz.f47))(h:MU 0 (.region 5 A d) e R K=some r):Ct VP (.region 5 A d) e K r:=by obtain⟨rfl,rfl⟩:=q7 (show(fQ (body Tryz.f47)).filter (zt 5)=[.region 5 _ _]from rfl) hc;intro F k0 W a0 a k Q hW hl hgo;replace h:(qC e 2 (.st 7)).bind _=some r:=h;obtain⟨(t:aP),h2,h⟩:=bind_some h;obtain⟨(y:ai),h3,h⟩:=bind_some h;obtain⟨(c:Cap),h7,h⟩:=bind_some h;have i2:aS t (a.get 2) k:=kg hl h2;have i3:aS y (a.get 3) k:=kg hl h3;have i7:aS c (a.get 7) k:=kg hl h7;cases ht:pS [19,20,21,22,23,24,25,26] e with|false=>rw[ht]at h;simp at h;|true=>
 rw[ht]at h;simp only[cond_true]at h;obtain⟨p0,hp,h⟩:=bind_some h;refine xv (a0:=a) (k0:=k) (n:=39) (m:=8) (_::_::⟨some (IsV [y]),[(20,some 1)]⟩::_::⟨some (IsV p0),[(19,some 0),(21,some 2),(22,some 3)]⟩::⟨some (IsV p0.Tops),[(23,some 4)]⟩::⟨some (IsL p0.Tops),[(24,some 5)]⟩::⟨some (IsI 0),[]⟩::[]) hl.s (by kernel_rfl) ⟨o1 [(2,none)] rfl λ _ _ h n=>aR rfl N3 ((up i2 h n.1)).ptr,o1 [(3,none)] rfl λ _ _ h n=>aR rfl IQ ((up i3 h n.1)).ptr,ob1 rfl λ _ _ h n=>dL rfl Tryz.underlying47 LO rfl (by decide) (by decide) ⟨rfl,n.1,trivial⟩,o1 [(7,none)] rfl λ _ _ h n=>aR rfl TN ((up i7 h n.1)).ptr,o1 [(19,some 0),(21,some 2),(22,some 3)] rfl λ _ _ h n=>bU rfl Tryz.call23 (k23.ok.ok _ [_,_,_] (t,[y],c) p0 (GOk.none (λ _=>rfl) λ _ e=>by cases e) ⟨n.1,n.2.1,n.2.2.1⟩ hp),ob1 rfl λ _ _ h n=>D0 rfl n.1,ob1 rfl λ _ _ h n=>gM rfl rfl Tryz.underlying38 (IsV.rd n.1),ob1 rfl λ _ _ h n=>du rfl (cI rfl),trivial⟩ trivial λb q p=>?_;have v24:IsV p0.Tops (b.get 24) q:=p.val 5 24 _ _ (by decide) rfl rfl;have v25:IsL p0.Tops (b.get 25) q:=p.val 6 25 _ _ (by decide) rfl rfl;have v26:IsI 0 (b.get 26) q:=p.val 7 26 _ _ (by decide) rfl rfl;have H:=hl.QS (s:=24) (av:= .v (.list .int) p0.Tops) (G:=noF) (D:=[19,20,21,22,23,24,25,26]) ht (λt hm=>hW t (by revert t;decide)) (.inl (hW 24 (by decide))) ((Chg.refl noF k).then p.grow) (λ _ h=>h.elim) p.size p.defers (λt hm _=>p.old t (by simp at hm;simp[allI];omega)) v24 (λ _=>rfl) λ _ h=>h.elim;have top:∀t∈[19,20,21,22,23,24,25,26],t≠24->lk ((24,AV.v (.list .int) p0.Tops)::iV (klA 24) e) t= .top:=λt hm hne=>by rw[bg,if_neg (Ne.symm hne),kB rfl,AG ht hm];rfl
 have H2:=H.SR (c:=25) (av:= .v .int (p0.Tops.length:Int)) (by rw[top 25 (by decide) (by decide)];rfl) rfl (λ _=>rfl) v25;exact aj (k:=q) (hgo _ _ _ h (H2.SR (c:=26) (av:= .v .int 0) (by rw[bg,if_neg (by decide),top 26 (by decide) (by decide)];rfl) rfl (λ _=>rfl) v26))
def d47:FnR tb:=⟨[.v (.st 7), .v (.st 29)], .n, .n, .c 6,[],List (ByteArray×Int),λr=>((),r,()),λx _ _=>dN x.1 x.2⟩
theorem L4:xE Tryz.prog 47 d47:=RJ (λr=>r.2.1) (λ _=>rfl) [] [] [] true [4,5] Tryz.f47 MU (λi c e R K r hc h=>by
 have h0:=h;replace h:MU i c e R K=some r:=h;unfold MU at h;split at h;.exact Pr hc h0
 .simp at h) (.s .n (.s .n (.s (.s .n (.l [] [(5, .c 6),(15, .v .int)] [(0,[15],[])] (fI 14) (.s .n (.s .n (.s (.s .n (.s (.h 0) (.l [] [(5, .c 6),(26, .v .int)] [(2,[26],[])] (fI 25) .n))) .n))))) .n))) 0 uk lS rfl Tryz.func47 Tryz.call47 rfl rfl rfl λx y z=>by kernel_rfl
theorem iZ{f:FuncId}{vs:Array Value}{k:K}{F G:FP}{R S:Pred}(h:Calls Tryz.prog f vs k.w (cr F k R))(hF:∀i,F i->G i)(hR:∀v k',Chg F k k'->R v k'->S v k'):Calls Tryz.prog f vs k.w (cr G k S):=by refine Calls.mono h λe w he=>?_;cases e with|returned v=>obtain⟨k',h1,h2,h3⟩:=he;exact⟨k',h1,⟨h2.tape,h2.os,h2.out,h2.size,λb hb hn=>h2.blk b hb (λh=>hn (hF b h)),h2.up,λb hb hs=>(h2.new b hb hs).imp id (hF b),h2.drawn⟩,hR _ _ h2 h3⟩;|panicked c=>exact he.elim;|outgrown=>exact he.elim
def RQ(p:ByteArray×Int):ByteArray×Value:=(p.1, .int .i64 p.2)
def fY(b:Nat)(m:List (ByteArray×Int))(k:K):Prop:=lN kS b (m.map RQ) k
theorem fY.grow{b:Nat}{m:List (ByteArray×Int)}{k k':K}(h:fY b m k)(g:bE k k'):fY b m k':=lN.grow h g
theorem fY.keep{b:Nat}{m:List (ByteArray×Int)}{k k':K}{G:FP}(h:fY b m k)(g:Chg G k k')(hG:¬G b):fY b m k':=lN.keep h g hG
theorem fY.lt{b:Nat}{m:List (ByteArray×Int)}{k:K}(h:fY b m k):b<k.w.heap.size:=lN.lt h
theorem N8{k0:K}{v0 v1:Value}{t:aP}{r:ai}{m:List (ByteArray×Int)}(i0:IsV t v0 k0)(i1:IsV r v1 k0)(hr:dN t r=some m):Calls Tryz.prog 47 #[v0,v1] k0.w (cr noF k0 λv k=>∃b,v= .map (some b)/\k0.w.heap.size<=b/\fY b m k):=by
 refine iZ (L4.ok k0 [v0,v1] undef undef (t,r) () () m (GOk.none (λ _=>rfl) λ _ e=>by cases e) ⟨i0,i1,trivial⟩ trivial trivial (λ _ h=>h.elim) hr) (λ _ h=>h.elim id id) λv k _ h=>?_;obtain⟨F,hR⟩:∃F,McR Value.string m F v k:=h.res;obtain⟨b,T,e1,e2,hb,hT,eF⟩:=id hR;have hn:k0.w.heap.size<=b:=(h.w2 b ⟨m,F,hR,by rw[eF]⟩).elim (λh=>h.elim False.elim False.elim) id;refine⟨b,e1,hn,?_⟩;have:m.map RQ=T.map λt=>(t.1,t.2.1):=by rw[e2,dX];exact nH λt ht=>by show(t.1,Value.int .i64 t.2.2)=_;rw[au.1 (hT t ht)]
 unfold fY;rw[this];exact hb
def FW(f:List aq)(e:List aq×Int):Option (aY (List aq×Int) (List aq×List aq)):=if(decide (e.2<(f.length:Int)))then(aL f e.2).bind λx1=>(lI x1.ai).bind λx=>(eb e.1 [({x1 with ai:=x}:aq)]).bind λg=>(bh e.2 1).bind λh=>some (.go (g,h))else some (.ex 0 e)
def BJ(e:List aq):Option (List aq×List aq):=(ar (FW e) (e.length+1) (([]:List aq),0)).bind λf1=>match f1 with| .go _=>none| .ex _ f=>some (e,f.1)| .ret g=>some g
abbrev Wp:FnR tb:=⟨[.tu], .o 54 (.st 28), .n, .n,[.list (.st 28)],List aq×List aq,λq=>(q.1,(),q.2),λ_ y _=>BJ y⟩
def V5:=mkR 33 Wp (λr=>(r.1,r.2.2)) (λ_=>rfl) [k49] [] false [3,5,16,19] Tryz.f33 (.s .n (.s .n (.s (.s .n (.l [] [(3, .o 54 (.st 28)),(8, .v .int)] [(0,[8],[])] (fI 7) .n)) (.s (.f [3] .n) .n)))) 0 Tryz.func33 Tryz.call33 rfl rfl rfl λx y z=>by kernel_rfl
end Go.Proofs.YtlckpjpbladknaaGreat
