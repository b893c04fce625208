/- For all towns, districts, lists of leases and two rights, whatever they are, the law CounterErrors returns true, and leaves its arguments as they were. -/
import Derived.HandedShaped
import Derived.Test.YtlckpjpbladknaaGreatCCounterErrors
import Derived.Test.YtlckpjpbladknaaGreatL6
set_option linter.unusedVariables false
set_option linter.unusedSimpArgs false
set_option linter.unusedSectionVars false
namespace Go.Proofs.YtlckpjpbladknaaGreat
open Go.Gb
set_option maxRecDepth 100000
theorem rd9:Rd Tryz.prog 9 ByteArray:=Ky Tryz.underlying9
theorem rd3:Rd Tryz.prog 3 Int:=Q0 Tryz.underlying3
theorem Sg:Rd Tryz.prog 359 Opq:=QD Tryz.underlying359
instance:Rg Expr:=Rg.ofMap λx=>(x.Op,x.N,x.S,x.Key,x.Args)
theorem Pt:Rd Tryz.prog 361 Expr:=cA (f:=λx=>(x.Op,x.N,x.S,x.Key,x.Args)) (λy=>⟨y.1,y.2.1,y.2.2.1,y.2.2.2.1,y.2.2.2.2⟩) Tryz.underlying361 (by kernel_rfl) rfl (λ _ _ _ h=>h) (λ _ h=>h) (RdF.cons rfl (by kernel_rfl) rd3 (RdF.cons rfl (by kernel_rfl) rd3 (RdF.cons rfl (by kernel_rfl) rd9 (RdF.cons rfl (by kernel_rfl) rd9 (RdF.one rfl (by kernel_rfl) Sg))))) (λ _=>rfl)
instance:Rg Def:=Rg.ofMap λx=>(x.Name,x.Body)
theorem Tr:Rd Tryz.prog 363 Def:=cA (f:=λx=>(x.Name,x.Body)) (λy=>⟨y.1,y.2⟩) Tryz.underlying363 (by kernel_rfl) rfl (λ _ _ _ h=>h) (λ _ h=>h) (RdF.cons rfl (by kernel_rfl) rd9 (RdF.one rfl (by kernel_rfl) Pt)) (λ _=>rfl)
theorem Uf:Rd Tryz.prog 22 (List Def):=ek Tryz.underlying22 (by kernel_rfl) (by decide) (by kernel_rfl) Tr
instance:Rg Entry:=Rg.ofMap λx=>(x.Name,x.N)
theorem Sc:Rd Tryz.prog 135 Entry:=cA (f:=λx=>(x.Name,x.N)) (λy=>⟨y.1,y.2⟩) Tryz.underlying135 (by kernel_rfl) rfl (λ _ _ _ h=>h) (λ _ h=>h) (RdF.cons rfl (by kernel_rfl) rd9 (RdF.one rfl (by kernel_rfl) rd3)) (λ _=>rfl)
theorem Rs:Rd Tryz.prog 35 (List Entry):=ek Tryz.underlying35 (by kernel_rfl) (by decide) (by kernel_rfl) Sc
instance:Rg Table:=Rg.ofMap λx=>(x.Name,x.Rows,x.Else)
theorem R0:Rd Tryz.prog 101 Table:=cA (f:=λx=>(x.Name,x.Rows,x.Else)) (λy=>⟨y.1,y.2.1,y.2.2⟩) Tryz.underlying101 (by kernel_rfl) rfl (λ _ _ _ h=>h) (λ _ h=>h) (RdF.cons rfl (by kernel_rfl) rd9 (RdF.cons rfl (by kernel_rfl) Rs (RdF.one rfl (by kernel_rfl) rd3))) (λ _=>rfl)
theorem T4:Rd Tryz.prog 23 (List Table):=ek Tryz.underlying23 (by kernel_rfl) (by decide) (by kernel_rfl) R0
theorem rd4:Rd Tryz.prog 4 Bool:=NZ Tryz.underlying4
instance:Rg fc:=Rg.ofMap λx=>(x.X,x.Y)
theorem RW:Rd Tryz.prog 196 fc:=cA (f:=λx=>(x.X,x.Y)) (λy=>⟨y.1,y.2⟩) Tryz.underlying196 (by kernel_rfl) rfl (λ _ _ _ h=>h) (λ _ h=>h) (RdF.cons rfl (by kernel_rfl) rd3 (RdF.one rfl (by kernel_rfl) rd3)) (λ _=>rfl)
theorem Sj:Rd Tryz.prog 88 (List fc):=ek Tryz.underlying88 (by kernel_rfl) (by decide) (by kernel_rfl) RW
instance:Rg C7:=Rg.ofMap λx=>(x.Name,x.Overlay,x.Corners)
theorem Sf:Rd Tryz.prog 365 C7:=cA (f:=λx=>(x.Name,x.Overlay,x.Corners)) (λy=>⟨y.1,y.2.1,y.2.2⟩) Tryz.underlying365 (by kernel_rfl) rfl (λ _ _ _ h=>h) (λ _ h=>h) (RdF.cons rfl (by kernel_rfl) rd9 (RdF.cons rfl (by kernel_rfl) rd4 (RdF.one rfl (by kernel_rfl) Sj))) (λ _=>rfl)
theorem UI:Rd Tryz.prog 24 (List C7):=ek Tryz.underlying24 (by kernel_rfl) (by decide) (by kernel_rfl) Sf
theorem Pn:Rd Tryz.prog 366 (List ByteArray):=ek Tryz.underlying366 (by kernel_rfl) (by decide) (by kernel_rfl) rd9
instance:Rg qQ:=Rg.ofMap λx=>(x.Side,x.Base,x.Num,x.Den)
theorem R2:Rd Tryz.prog 368 qQ:=cA (f:=λx=>(x.Side,x.Base,x.Num,x.Den)) (λy=>⟨y.1,y.2.1,y.2.2.1,y.2.2.2⟩) Tryz.underlying368 (by kernel_rfl) rfl (λ _ _ _ h=>h) (λ _ h=>h) (RdF.cons rfl (by kernel_rfl) rd3 (RdF.cons rfl (by kernel_rfl) rd3 (RdF.cons rfl (by kernel_rfl) rd3 (RdF.one rfl (by kernel_rfl) rd3)))) (λ _=>rfl)
instance:Rg DE:=Rg.ofMap λx=>(x.Name,x.Zones,x.Except,x.From,x.Until,x.Grace,x.Vary,x.Kind,x.Test,x.qQ,x.Uses,x.Other,x.N)
theorem Tn:Rd Tryz.prog 370 DE:=cA (f:=λx=>(x.Name,x.Zones,x.Except,x.From,x.Until,x.Grace,x.Vary,x.Kind,x.Test,x.qQ,x.Uses,x.Other,x.N)) (λy=>⟨y.1,y.2.1,y.2.2.1,y.2.2.2.1,y.2.2.2.2.1,y.2.2.2.2.2.1,y.2.2.2.2.2.2.1,y.2.2.2.2.2.2.2.1,y.2.2.2.2.2.2.2.2.1,y.2.2.2.2.2.2.2.2.2.1,y.2.2.2.2.2.2.2.2.2.2.1,y.2.2.2.2.2.2.2.2.2.2.2.1,y.2.2.2.2.2.2.2.2.2.2.2.2⟩) Tryz.underlying370 (by kernel_rfl) rfl (λ _ _ _ h=>h) (λ _ h=>h) (RdF.cons rfl (by kernel_rfl) rd9 (RdF.cons rfl (by kernel_rfl) Pn (RdF.cons rfl (by kernel_rfl) Pn (RdF.cons rfl (by kernel_rfl) rd3 (RdF.cons rfl (by kernel_rfl) rd3 (RdF.cons rfl (by kernel_rfl) rd3 (RdF.cons rfl (by kernel_rfl) rd4 (RdF.cons rfl (by kernel_rfl) rd3 (RdF.cons rfl (by kernel_rfl) Pt (RdF.cons rfl (by kernel_rfl) R2 (RdF.cons rfl (by kernel_rfl) rd3 (RdF.cons rfl (by kernel_rfl) rd3 (RdF.one rfl (by kernel_rfl) rd3))))))))))))) (λ _=>rfl)
theorem TI:Rd Tryz.prog 25 (List DE):=ek Tryz.underlying25 (by kernel_rfl) (by decide) (by kernel_rfl) Tn
instance:Rg Cap:=Rg.ofMap λx=>(x.Name,x.Load,x.cV,x.Corners)
theorem Vq:Rd Tryz.prog 90 Cap:=cA (f:=λx=>(x.Name,x.Load,x.cV,x.Corners)) (λy=>⟨y.1,y.2.1,y.2.2.1,y.2.2.2⟩) Tryz.underlying90 (by kernel_rfl) rfl (λ _ _ _ h=>h) (λ _ h=>h) (RdF.cons rfl (by kernel_rfl) rd9 (RdF.cons rfl (by kernel_rfl) rd3 (RdF.cons rfl (by kernel_rfl) rd3 (RdF.one rfl (by kernel_rfl) Sj)))) (λ _=>rfl)
theorem Ve:Rd Tryz.prog 26 (List Cap):=ek Tryz.underlying26 (by kernel_rfl) (by decide) (by kernel_rfl) Vq
instance:Rg bo:=Rg.ofMap λx=>(x.X,x.Y,x.Z)
theorem QX:Rd Tryz.prog 61 bo:=cA (f:=λx=>(x.X,x.Y,x.Z)) (λy=>⟨y.1,y.2.1,y.2.2⟩) Tryz.underlying61 (by kernel_rfl) rfl (λ _ _ _ h=>h) (λ _ h=>h) (RdF.cons rfl (by kernel_rfl) rd3 (RdF.cons rfl (by kernel_rfl) rd3 (RdF.one rfl (by kernel_rfl) rd3))) (λ _=>rfl)
theorem Td:Rd Tryz.prog 28 (List bo):=ek Tryz.underlying28 (by kernel_rfl) (by decide) (by kernel_rfl) QX
instance:Rg View:=Rg.ofMap λx=>(x.Name,x.Eye,x.Least,x.Targets)
theorem U9:Rd Tryz.prog 99 View:=cA (f:=λx=>(x.Name,x.Eye,x.Least,x.Targets)) (λy=>⟨y.1,y.2.1,y.2.2.1,y.2.2.2⟩) Tryz.underlying99 (by kernel_rfl) rfl (λ _ _ _ h=>h) (λ _ h=>h) (RdF.cons rfl (by kernel_rfl) rd9 (RdF.cons rfl (by kernel_rfl) QX (RdF.cons rfl (by kernel_rfl) rd3 (RdF.one rfl (by kernel_rfl) Td)))) (λ _=>rfl)
theorem Ug:Rd Tryz.prog 27 (List View):=ek Tryz.underlying27 (by kernel_rfl) (by decide) (by kernel_rfl) U9
instance:Rg aK:=Rg.ofMap λx=>(x.Defs,x.Tables,x.Zones,x.Rules,x.Caps,x.Views,x.Sun,x.Hours)
theorem Uu:Rd Tryz.prog 30 aK:=cA (f:=λx=>(x.Defs,x.Tables,x.Zones,x.Rules,x.Caps,x.Views,x.Sun,x.Hours)) (λy=>⟨y.1,y.2.1,y.2.2.1,y.2.2.2.1,y.2.2.2.2.1,y.2.2.2.2.2.1,y.2.2.2.2.2.2.1,y.2.2.2.2.2.2.2⟩) Tryz.underlying30 (by kernel_rfl) rfl (λ _ _ _ h=>h) (λ _ h=>h) (RdF.cons rfl (by kernel_rfl) Uf (RdF.cons rfl (by kernel_rfl) T4 (RdF.cons rfl (by kernel_rfl) UI (RdF.cons rfl (by kernel_rfl) TI (RdF.cons rfl (by kernel_rfl) Ve (RdF.cons rfl (by kernel_rfl) Ug (RdF.cons rfl (by kernel_rfl) Td (RdF.one rfl (by kernel_rfl) rd3)))))))) (λ _=>rfl)
instance:Rg aC:=Rg.ofMap λx=>(x.X0,x.Y0,x.X1,x.Y1)
theorem Px:Rd Tryz.prog 126 aC:=cA (f:=λx=>(x.X0,x.Y0,x.X1,x.Y1)) (λy=>⟨y.1,y.2.1,y.2.2.1,y.2.2.2⟩) Tryz.underlying126 (by kernel_rfl) rfl (λ _ _ _ h=>h) (λ _ h=>h) (RdF.cons rfl (by kernel_rfl) rd3 (RdF.cons rfl (by kernel_rfl) rd3 (RdF.cons rfl (by kernel_rfl) rd3 (RdF.one rfl (by kernel_rfl) rd3)))) (λ _=>rfl)
theorem Sv:Rd Tryz.prog 69 (List aC):=ek Tryz.underlying69 (by kernel_rfl) (by decide) (by kernel_rfl) Px
theorem SR:Rd Tryz.prog 38 (List Int):=ek Tryz.underlying38 (by kernel_rfl) (by decide) (by kernel_rfl) rd3
instance:Rg Lot:=Rg.ofMap λx=>(x.Id,x.Owner,x.Area,x.From)
theorem T0:Rd Tryz.prog 71 Lot:=cA (f:=λx=>(x.Id,x.Owner,x.Area,x.From)) (λy=>⟨y.1,y.2.1,y.2.2.1,y.2.2.2⟩) Tryz.underlying71 (by kernel_rfl) rfl (λ _ _ _ h=>h) (λ _ h=>h) (RdF.cons rfl (by kernel_rfl) rd3 (RdF.cons rfl (by kernel_rfl) rd3 (RdF.cons rfl (by kernel_rfl) Sv (RdF.one rfl (by kernel_rfl) SR)))) (λ _=>rfl)
theorem TY:Rd Tryz.prog 31 (List Lot):=ek Tryz.underlying31 (by kernel_rfl) (by decide) (by kernel_rfl) T0
instance:Rg lT:=Rg.ofMap λx=>(x.Lot,x.Area,x.Top)
theorem RV:Rd Tryz.prog 372 lT:=cA (f:=λx=>(x.Lot,x.Area,x.Top)) (λy=>⟨y.1,y.2.1,y.2.2⟩) Tryz.underlying372 (by kernel_rfl) rfl (λ _ _ _ h=>h) (λ _ h=>h) (RdF.cons rfl (by kernel_rfl) rd3 (RdF.cons rfl (by kernel_rfl) Sv (RdF.one rfl (by kernel_rfl) rd3))) (λ _=>rfl)
theorem Vl:Rd Tryz.prog 32 (List lT):=ek Tryz.underlying32 (by kernel_rfl) (by decide) (by kernel_rfl) RV
instance:Rg lp:=Rg.ofMap λx=>(x.Lot,x.At)
theorem Vb:Rd Tryz.prog 63 lp:=cA (f:=λx=>(x.Lot,x.At)) (λy=>⟨y.1,y.2⟩) Tryz.underlying63 (by kernel_rfl) rfl (λ _ _ _ h=>h) (λ _ h=>h) (RdF.cons rfl (by kernel_rfl) rd3 (RdF.one rfl (by kernel_rfl) QX)) (λ _=>rfl)
theorem Vf:Rd Tryz.prog 33 (List lp):=ek Tryz.underlying33 (by kernel_rfl) (by decide) (by kernel_rfl) Vb
instance:Rg Box:=Rg.ofMap λx=>(x.Base,x.Z0,x.Z1)
theorem Sn:Rd Tryz.prog 128 Box:=cA (f:=λx=>(x.Base,x.Z0,x.Z1)) (λy=>⟨y.1,y.2.1,y.2.2⟩) Tryz.underlying128 (by kernel_rfl) rfl (λ _ _ _ h=>h) (λ _ h=>h) (RdF.cons rfl (by kernel_rfl) Px (RdF.cons rfl (by kernel_rfl) rd3 (RdF.one rfl (by kernel_rfl) rd3))) (λ _=>rfl)
instance:Rg aD:=Rg.ofMap λx=>(x.Box,x.Use,x.Units,x.Extra)
theorem PF:Rd Tryz.prog 130 aD:=cA (f:=λx=>(x.Box,x.Use,x.Units,x.Extra)) (λy=>⟨y.1,y.2.1,y.2.2.1,y.2.2.2⟩) Tryz.underlying130 (by kernel_rfl) rfl (λ _ _ _ h=>h) (λ _ h=>h) (RdF.cons rfl (by kernel_rfl) Sn (RdF.cons rfl (by kernel_rfl) rd3 (RdF.cons rfl (by kernel_rfl) rd3 (RdF.one rfl (by kernel_rfl) rd4)))) (λ _=>rfl)
instance:Rg cw:=Rg.ofMap λx=>(x.Lot,x.aD)
theorem S6:Rd Tryz.prog 132 cw:=cA (f:=λx=>(x.Lot,x.aD)) (λy=>⟨y.1,y.2⟩) Tryz.underlying132 (by kernel_rfl) rfl (λ _ _ _ h=>h) (λ _ h=>h) (RdF.cons rfl (by kernel_rfl) rd3 (RdF.one rfl (by kernel_rfl) PF)) (λ _=>rfl)
theorem TV:Rd Tryz.prog 34 (List cw):=ek Tryz.underlying34 (by kernel_rfl) (by decide) (by kernel_rfl) S6
instance:Rg aT:=Rg.ofMap λx=>(x.aK,x.Land,x.Easements,x.Windows,x.Built,x.Base)
theorem Um:Rd Tryz.prog 37 aT:=cA (f:=λx=>(x.aK,x.Land,x.Easements,x.Windows,x.Built,x.Base)) (λy=>⟨y.1,y.2.1,y.2.2.1,y.2.2.2.1,y.2.2.2.2.1,y.2.2.2.2.2⟩) Tryz.underlying37 (by kernel_rfl) rfl (λ _ _ _ h=>h) (λ _ h=>h) (RdF.cons rfl (by kernel_rfl) Uu (RdF.cons rfl (by kernel_rfl) TY (RdF.cons rfl (by kernel_rfl) Vl (RdF.cons rfl (by kernel_rfl) Vf (RdF.cons rfl (by kernel_rfl) TV (RdF.one rfl (by kernel_rfl) Rs)))))) (λ _=>rfl)
instance:Rg bn:=Rg.ofMap λx=>(x.Cap,x.Counter,x.Held,x.Used)
theorem Uh:Rd Tryz.prog 87 bn:=cA (f:=λx=>(x.Cap,x.Counter,x.Held,x.Used)) (λy=>⟨y.1,y.2.1,y.2.2.1,y.2.2.2⟩) Tryz.underlying87 (by kernel_rfl) rfl (λ _ _ _ h=>h) (λ _ h=>h) (RdF.cons rfl (by kernel_rfl) rd9 (RdF.cons rfl (by kernel_rfl) rd3 (RdF.cons rfl (by kernel_rfl) rd3 (RdF.one rfl (by kernel_rfl) rd3)))) (λ _=>rfl)
theorem U6:Rd Tryz.prog 39 (List bn):=ek Tryz.underlying39 (by kernel_rfl) (by decide) (by kernel_rfl) Uh
theorem RT:Rd Tryz.prog 137 (List aD):=ek Tryz.underlying137 (by kernel_rfl) (by decide) (by kernel_rfl) PF
instance:Rg Phase:=Rg.ofMap λx=>(x.Volumes,x.ba)
theorem Sb:Rd Tryz.prog 139 Phase:=cA (f:=λx=>(x.Volumes,x.ba)) (λy=>⟨y.1,y.2⟩) Tryz.underlying139 (by kernel_rfl) rfl (λ _ _ _ h=>h) (λ _ h=>h) (RdF.cons rfl (by kernel_rfl) RT (RdF.one rfl (by kernel_rfl) Rs)) (λ _=>rfl)
theorem UZ:Rd Tryz.prog 40 (List Phase):=ek Tryz.underlying40 (by kernel_rfl) (by decide) (by kernel_rfl) Sb
instance:Rg ay:=Rg.ofMap λx=>(x.Lot,x.Phases)
theorem UQ:Rd Tryz.prog 42 ay:=cA (f:=λx=>(x.Lot,x.Phases)) (λy=>⟨y.1,y.2⟩) Tryz.underlying42 (by kernel_rfl) rfl (λ _ _ _ h=>h) (λ _ h=>h) (RdF.cons rfl (by kernel_rfl) rd3 (RdF.one rfl (by kernel_rfl) UZ)) (λ _=>rfl)
instance:Rg aq:=Rg.ofMap λx=>(x.Id,x.Holder,x.ay,x.Used,x.Until,x.Over)
theorem Te:Rd Tryz.prog 44 aq:=cA (f:=λx=>(x.Id,x.Holder,x.ay,x.Used,x.Until,x.Over)) (λy=>⟨y.1,y.2.1,y.2.2.1,y.2.2.2.1,y.2.2.2.2.1,y.2.2.2.2.2⟩) Tryz.underlying44 (by kernel_rfl) rfl (λ _ _ _ h=>h) (λ _ h=>h) (RdF.cons rfl (by kernel_rfl) rd3 (RdF.cons rfl (by kernel_rfl) rd3 (RdF.cons rfl (by kernel_rfl) UQ (RdF.cons rfl (by kernel_rfl) rd3 (RdF.cons rfl (by kernel_rfl) rd3 (RdF.one rfl (by kernel_rfl) rd4)))))) (λ _=>rfl)
theorem rF{k0:K}{v0:Value}{x0:aT}{v1:Value}{x1:(List Int)}{v2:Value}{x2:(List bn)}{v3:Value}{x3:aq}{v4:Value}{x4:aq}{r:Bool}(hG:GOk tbg k0)(i0:IsV x0 v0 k0)(i1:IsV x1 v1 k0)(i2:IsV x2 v2 k0)(i3:IsV x3 v3 k0)(i4:IsV x4 v4 k0)(hr:ez x0 x1 x2 x3 x4=some r):Calls Tryz.prog 3 #[v0,v1,v2,v3,v4] k0.w (Ret k0 (IsV r)):=k3.ok.ok k0 [v0,v1,v2,v3,v4] (x0,x1,x2,x3,x4) r hG ⟨i0,i1,i2,i3,i4⟩ hr
open Go.ChangeShapes Go.WideShapes Go.ChangeAt Go.RowKit
theorem Tryz.own:ownKnob Tryz.prog.godebug=none:=by kernel_rfl
theorem Tryz.laidOut:laidOutB Tryz.prog=true:=by kernel_rfl
set_option maxRecDepth 100000 in theorem Hy(law:∀(x0:aT)(x1:(List Int))(x2:(List bn))(x3:aq)(x4:aq),Rg.rg x0->Rg.rg x1->Rg.rg x2->Rg.rg x3->Rg.rg x4->ez x0 x1 x2 x3 x4=some true)(os:Os)(started:os.Started)(H:Type)(enc:TypeId×Value->H):ReturnsInHanded {} Tryz.checked os 3 .any (Rows.counterErrorsSpec.pre6 enc Tryz.prog Tryz.f3 Rows.counterErrorsRow.domain false) (Rows.counterErrorsSpec.post enc Tryz.prog Tryz.f3 false true false false):=by
 refine returnsInHanded_of_change_shaped (C:=Tryz.checked) Tryz.own started (by kernel_rfl) Tryz.func3 (ChangeSpec.witness6 (enc:=enc) (C:=Tryz.checked) false ⟨#[],#[.agg #[.slice none 0 0, .slice none 0 0, .slice none 0 0, .slice none 0 0, .slice none 0 0, .slice none 0 0, .slice none 0 0, .int .i64 0, .slice none 0 0, .slice none 0 0, .slice none 0 0, .slice none 0 0, .slice none 0 0], .slice none 0 0, .slice none 0 0, .agg #[.int .i64 0, .int .i64 0, .int .i64 0, .slice none 0 0, .int .i64 0, .int .i64 0, .bool false], .agg #[.int .i64 0, .int .i64 0, .int .i64 0, .slice none 0 0, .int .i64 0, .int .i64 0, .bool false]],[]⟩ 8 (by kernel_rfl) (by kernel_rfl) (by kernel_rfl) (by kernel_rfl)) ?_;intro W base args ds gs before hval0 hW _ hwt hsh _;have hval:∀(j:Nat) t v,Tryz.f3.params[j]?=some t->args[j]?=some v->Value.okWide Tryz.prog W .any base t v:=hval0;have hW':=hW;have hG:GOk tbg (kOf W):=GOk.none (λ _=>rfl) λg0 e=>by obtain rfl:0=g0:=ae e;exact(Tryz.CU.s1_3 W hsh).imp λ _ h=>E4 h
 obtain⟨p,q,hA0,hV,rfl,hfz,hnd⟩:=hW;have hA:DataW.TrodAll enc Tryz.prog W 0 (λ _=>true) true Tryz.f3.params.toList args.toList ds p:=hA0;rw[Tryz.params3]at hA hval;obtain⟨args⟩:=args;obtain⟨v0,vs0,d0,ds0,p0,q0,hargs0,rfl,rfl,h0,hA0⟩:=trodAll_cons hA;obtain⟨v1,vs1,d1,ds1,p1,q1,hargs1,rfl,rfl,h1,hA1⟩:=trodAll_cons hA0;obtain⟨v2,vs2,d2,ds2,p2,q2,hargs2,rfl,rfl,h2,hA2⟩:=trodAll_cons hA1;obtain⟨v3,vs3,d3,ds3,p3,q3,hargs3,rfl,rfl,h3,hA3⟩:=trodAll_cons hA2;obtain⟨v4,vs4,d4,ds4,p4,q4,hargs4,rfl,rfl,h4,hA4⟩:=trodAll_cons hA3;obtain⟨hargs5,rfl,rfl⟩:=trodAll_nil hA4;subst hargs5 hargs4 hargs3 hargs2 hargs1 hargs0;obtain⟨rfl,rfl⟩:=trodVars_none hV;obtain⟨y0,hy0,hr0⟩:=zO Um h0 (hval 0 37 v0 rfl rfl) λn hn=>of_decide_eq_true (br.1 hwt n (DataW.weights_mem_each (j:=0) rfl rfl n hn));obtain⟨y1,hy1,hr1⟩:=zO SR h1 (hval 1 38 v1 rfl rfl) λn hn=>of_decide_eq_true (br.1 hwt n (DataW.weights_mem_each (j:=1) rfl rfl n hn));obtain⟨y2,hy2,hr2⟩:=zO U6 h2 (hval 2 39 v2 rfl rfl) λn hn=>of_decide_eq_true (br.1 hwt n (DataW.weights_mem_each (j:=2) rfl rfl n hn));obtain⟨y3,hy3,hr3⟩:=zO Te h3 (hval 3 44 v3 rfl rfl) λn hn=>of_decide_eq_true (br.1 hwt n (DataW.weights_mem_each (j:=3) rfl rfl n hn));obtain⟨y4,hy4,hr4⟩:=zO Te h4 (hval 4 44 v4 rfl rfl) λn hn=>of_decide_eq_true (br.1 hwt n (DataW.weights_mem_each (j:=4) rfl rfl n hn));refine Jt (rF (k0:=kOf W) hG hy0 hy1 hy2 hy3 hy4 (law y0 y1 y2 y3 y4 hr0 hr1 hr2 hr3 hr4)) λk' hg=>?_;exact⟨_,rfl,Lu hW' Tryz.laidOut (by kernel_rfl) rfl rfl Tryz.underlying4 rfl hg⟩
theorem KK(law:∀(x0:aT)(x1:(List Int))(x2:(List bn))(x3:aq)(x4:aq),Rg.rg x0->Rg.rg x1->Rg.rg x2->Rg.rg x3->Rg.rg x4->ez x0 x1 x2 x3 x4=some true):Rows.CounterErrorsSaid:=OpenClaim.holds_of_wide 3 Tryz.f3 rfl rfl rfl rfl rfl rfl rfl ⟨rfl,rfl,rfl,rfl,rfl⟩ rfl rfl rfl rfl rfl (by kernel_rfl) Tryz.func3 row_closed (of_decide_eq_true (by kernel_rfl)) (by unfold Func.isWrapper;first|(rw[if_pos (by decide+kernel)];kernel_rfl)|(rw[if_neg (by decide+kernel)];exact⟨rfl,rfl⟩)) (λos started H enc _=>Hy law os started H enc)
theorem counter_errors_holds:Rows.CounterErrorsSaid:=KK (λt d l r x _ _ _ _ _=>Pl.wZ t d l r x)
#print axioms counter_errors_holds
end Go.Proofs.YtlckpjpbladknaaGreat
