/- For all towns, districts, lists of leases and rights, whatever they are, the law CounterShades returns true, and leaves its arguments as they were. -/
import Derived.HandedShaped
import Derived.Test.YtlckpjpbladknaaGreatCCounterShades
import Derived.Test.YtlckpjpbladknaaGreatL6
set_option linter.unusedVariables false
set_option linter.unusedSimpArgs false
set_option linter.unusedSectionVars false
namespace Go.Proofs.YtlckpjpbladknaaGreat
open Go.Gb
set_option maxRecDepth 100000
theorem rd9:Rd Tryz.prog 9 ByteArray:=KM Tryz.underlying9
theorem rd3:Rd Tryz.prog 3 Int:=QM Tryz.underlying3
theorem TA:Rd Tryz.prog 359 Opq:=RQ Tryz.underlying359
instance:Rg Expr:=Rg.ofMap λx=>(x.Op,x.N,x.S,x.Key,x.Args)
theorem Qq:Rd Tryz.prog 361 Expr:=cD (f:=λx=>(x.Op,x.N,x.S,x.Key,x.Args)) (λy=>⟨y.1,y.2.1,y.2.2.1,y.2.2.2.1,y.2.2.2.2⟩) Tryz.underlying361 (by kernel_rfl) rfl (λ _ _ _ h=>h) (λ _ h=>h) (RdF.cons rfl (by kernel_rfl) rd3 (RdF.cons rfl (by kernel_rfl) rd3 (RdF.cons rfl (by kernel_rfl) rd9 (RdF.cons rfl (by kernel_rfl) rd9 (RdF.one rfl (by kernel_rfl) TA))))) (λ _=>rfl)
instance:Rg Def:=Rg.ofMap λx=>(x.Name,x.Body)
theorem TR:Rd Tryz.prog 363 Def:=cD (f:=λx=>(x.Name,x.Body)) (λy=>⟨y.1,y.2⟩) Tryz.underlying363 (by kernel_rfl) rfl (λ _ _ _ h=>h) (λ _ h=>h) (RdF.cons rfl (by kernel_rfl) rd9 (RdF.one rfl (by kernel_rfl) Qq)) (λ _=>rfl)
theorem UJ:Rd Tryz.prog 22 (List Def):=eh Tryz.underlying22 (by kernel_rfl) (by decide) (by kernel_rfl) TR
instance:Rg Entry:=Rg.ofMap λx=>(x.Name,x.N)
theorem TV:Rd Tryz.prog 135 Entry:=cD (f:=λx=>(x.Name,x.N)) (λy=>⟨y.1,y.2⟩) Tryz.underlying135 (by kernel_rfl) rfl (λ _ _ _ h=>h) (λ _ h=>h) (RdF.cons rfl (by kernel_rfl) rd9 (RdF.one rfl (by kernel_rfl) rd3)) (λ _=>rfl)
theorem Sg:Rd Tryz.prog 35 (List Entry):=eh Tryz.underlying35 (by kernel_rfl) (by decide) (by kernel_rfl) TV
instance:Rg Table:=Rg.ofMap λx=>(x.Name,x.Rows,x.Else)
theorem SF:Rd Tryz.prog 101 Table:=cD (f:=λx=>(x.Name,x.Rows,x.Else)) (λy=>⟨y.1,y.2.1,y.2.2⟩) Tryz.underlying101 (by kernel_rfl) rfl (λ _ _ _ h=>h) (λ _ h=>h) (RdF.cons rfl (by kernel_rfl) rd9 (RdF.cons rfl (by kernel_rfl) Sg (RdF.one rfl (by kernel_rfl) rd3))) (λ _=>rfl)
theorem Vj:Rd Tryz.prog 23 (List Table):=eh Tryz.underlying23 (by kernel_rfl) (by decide) (by kernel_rfl) SF
theorem rd4:Rd Tryz.prog 4 Bool:=Ps Tryz.underlying4
instance:Rg fq:=Rg.ofMap λx=>(x.X,x.Y)
theorem S9:Rd Tryz.prog 196 fq:=cD (f:=λx=>(x.X,x.Y)) (λy=>⟨y.1,y.2⟩) Tryz.underlying196 (by kernel_rfl) rfl (λ _ _ _ h=>h) (λ _ h=>h) (RdF.cons rfl (by kernel_rfl) rd3 (RdF.one rfl (by kernel_rfl) rd3)) (λ _=>rfl)
theorem SY:Rd Tryz.prog 88 (List fq):=eh Tryz.underlying88 (by kernel_rfl) (by decide) (by kernel_rfl) S9
instance:Rg De:=Rg.ofMap λx=>(x.Name,x.Overlay,x.Corners)
theorem SM:Rd Tryz.prog 365 De:=cD (f:=λx=>(x.Name,x.Overlay,x.Corners)) (λy=>⟨y.1,y.2.1,y.2.2⟩) Tryz.underlying365 (by kernel_rfl) rfl (λ _ _ _ h=>h) (λ _ h=>h) (RdF.cons rfl (by kernel_rfl) rd9 (RdF.cons rfl (by kernel_rfl) rd4 (RdF.one rfl (by kernel_rfl) SY))) (λ _=>rfl)
theorem VN:Rd Tryz.prog 24 (List De):=eh Tryz.underlying24 (by kernel_rfl) (by decide) (by kernel_rfl) SM
theorem Qb:Rd Tryz.prog 366 (List ByteArray):=eh Tryz.underlying366 (by kernel_rfl) (by decide) (by kernel_rfl) rd9
instance:Rg rk:=Rg.ofMap λx=>(x.Side,x.Base,x.Num,x.Den)
theorem TT:Rd Tryz.prog 368 rk:=cD (f:=λx=>(x.Side,x.Base,x.Num,x.Den)) (λy=>⟨y.1,y.2.1,y.2.2.1,y.2.2.2⟩) Tryz.underlying368 (by kernel_rfl) rfl (λ _ _ _ h=>h) (λ _ h=>h) (RdF.cons rfl (by kernel_rfl) rd3 (RdF.cons rfl (by kernel_rfl) rd3 (RdF.cons rfl (by kernel_rfl) rd3 (RdF.one rfl (by kernel_rfl) rd3)))) (λ _=>rfl)
instance:Rg DI:=Rg.ofMap λx=>(x.Name,x.Zones,x.Except,x.From,x.Until,x.Grace,x.Vary,x.Kind,x.Test,x.rk,x.Uses,x.Other,x.N)
theorem Tx:Rd Tryz.prog 370 DI:=cD (f:=λx=>(x.Name,x.Zones,x.Except,x.From,x.Until,x.Grace,x.Vary,x.Kind,x.Test,x.rk,x.Uses,x.Other,x.N)) (λy=>⟨y.1,y.2.1,y.2.2.1,y.2.2.2.1,y.2.2.2.2.1,y.2.2.2.2.2.1,y.2.2.2.2.2.2.1,y.2.2.2.2.2.2.2.1,y.2.2.2.2.2.2.2.2.1,y.2.2.2.2.2.2.2.2.2.1,y.2.2.2.2.2.2.2.2.2.2.1,y.2.2.2.2.2.2.2.2.2.2.2.1,y.2.2.2.2.2.2.2.2.2.2.2.2⟩) Tryz.underlying370 (by kernel_rfl) rfl (λ _ _ _ h=>h) (λ _ h=>h) (RdF.cons rfl (by kernel_rfl) rd9 (RdF.cons rfl (by kernel_rfl) Qb (RdF.cons rfl (by kernel_rfl) Qb (RdF.cons rfl (by kernel_rfl) rd3 (RdF.cons rfl (by kernel_rfl) rd3 (RdF.cons rfl (by kernel_rfl) rd3 (RdF.cons rfl (by kernel_rfl) rd4 (RdF.cons rfl (by kernel_rfl) rd3 (RdF.cons rfl (by kernel_rfl) Qq (RdF.cons rfl (by kernel_rfl) TT (RdF.cons rfl (by kernel_rfl) rd3 (RdF.cons rfl (by kernel_rfl) rd3 (RdF.one rfl (by kernel_rfl) rd3))))))))))))) (λ _=>rfl)
theorem V5:Rd Tryz.prog 25 (List DI):=eh Tryz.underlying25 (by kernel_rfl) (by decide) (by kernel_rfl) Tx
instance:Rg Cap:=Rg.ofMap λx=>(x.Name,x.Load,x.bZ,x.Corners)
theorem Ue:Rd Tryz.prog 90 Cap:=cD (f:=λx=>(x.Name,x.Load,x.bZ,x.Corners)) (λy=>⟨y.1,y.2.1,y.2.2.1,y.2.2.2⟩) Tryz.underlying90 (by kernel_rfl) rfl (λ _ _ _ h=>h) (λ _ h=>h) (RdF.cons rfl (by kernel_rfl) rd9 (RdF.cons rfl (by kernel_rfl) rd3 (RdF.cons rfl (by kernel_rfl) rd3 (RdF.one rfl (by kernel_rfl) SY)))) (λ _=>rfl)
theorem Vg:Rd Tryz.prog 26 (List Cap):=eh Tryz.underlying26 (by kernel_rfl) (by decide) (by kernel_rfl) Ue
instance:Rg bd:=Rg.ofMap λx=>(x.X,x.Y,x.Z)
theorem Rm:Rd Tryz.prog 61 bd:=cD (f:=λx=>(x.X,x.Y,x.Z)) (λy=>⟨y.1,y.2.1,y.2.2⟩) Tryz.underlying61 (by kernel_rfl) rfl (λ _ _ _ h=>h) (λ _ h=>h) (RdF.cons rfl (by kernel_rfl) rd3 (RdF.cons rfl (by kernel_rfl) rd3 (RdF.one rfl (by kernel_rfl) rd3))) (λ _=>rfl)
theorem Tg:Rd Tryz.prog 28 (List bd):=eh Tryz.underlying28 (by kernel_rfl) (by decide) (by kernel_rfl) Rm
instance:Rg View:=Rg.ofMap λx=>(x.Name,x.Eye,x.Least,x.Targets)
theorem Ui:Rd Tryz.prog 99 View:=cD (f:=λx=>(x.Name,x.Eye,x.Least,x.Targets)) (λy=>⟨y.1,y.2.1,y.2.2.1,y.2.2.2⟩) Tryz.underlying99 (by kernel_rfl) rfl (λ _ _ _ h=>h) (λ _ h=>h) (RdF.cons rfl (by kernel_rfl) rd9 (RdF.cons rfl (by kernel_rfl) Rm (RdF.cons rfl (by kernel_rfl) rd3 (RdF.one rfl (by kernel_rfl) Tg)))) (λ _=>rfl)
theorem US:Rd Tryz.prog 27 (List View):=eh Tryz.underlying27 (by kernel_rfl) (by decide) (by kernel_rfl) Ui
instance:Rg aF:=Rg.ofMap λx=>(x.Defs,x.Tables,x.Zones,x.Rules,x.Caps,x.Views,x.Sun,x.Hours)
theorem UZ:Rd Tryz.prog 30 aF:=cD (f:=λx=>(x.Defs,x.Tables,x.Zones,x.Rules,x.Caps,x.Views,x.Sun,x.Hours)) (λy=>⟨y.1,y.2.1,y.2.2.1,y.2.2.2.1,y.2.2.2.2.1,y.2.2.2.2.2.1,y.2.2.2.2.2.2.1,y.2.2.2.2.2.2.2⟩) Tryz.underlying30 (by kernel_rfl) rfl (λ _ _ _ h=>h) (λ _ h=>h) (RdF.cons rfl (by kernel_rfl) UJ (RdF.cons rfl (by kernel_rfl) Vj (RdF.cons rfl (by kernel_rfl) VN (RdF.cons rfl (by kernel_rfl) V5 (RdF.cons rfl (by kernel_rfl) Vg (RdF.cons rfl (by kernel_rfl) US (RdF.cons rfl (by kernel_rfl) Tg (RdF.one rfl (by kernel_rfl) rd3)))))))) (λ _=>rfl)
instance:Rg aC:=Rg.ofMap λx=>(x.X0,x.Y0,x.X1,x.Y1)
theorem PX:Rd Tryz.prog 126 aC:=cD (f:=λx=>(x.X0,x.Y0,x.X1,x.Y1)) (λy=>⟨y.1,y.2.1,y.2.2.1,y.2.2.2⟩) Tryz.underlying126 (by kernel_rfl) rfl (λ _ _ _ h=>h) (λ _ h=>h) (RdF.cons rfl (by kernel_rfl) rd3 (RdF.cons rfl (by kernel_rfl) rd3 (RdF.cons rfl (by kernel_rfl) rd3 (RdF.one rfl (by kernel_rfl) rd3)))) (λ _=>rfl)
theorem SO:Rd Tryz.prog 69 (List aC):=eh Tryz.underlying69 (by kernel_rfl) (by decide) (by kernel_rfl) PX
theorem SE:Rd Tryz.prog 38 (List Int):=eh Tryz.underlying38 (by kernel_rfl) (by decide) (by kernel_rfl) rd3
instance:Rg Lot:=Rg.ofMap λx=>(x.Id,x.Owner,x.Area,x.From)
theorem U7:Rd Tryz.prog 71 Lot:=cD (f:=λx=>(x.Id,x.Owner,x.Area,x.From)) (λy=>⟨y.1,y.2.1,y.2.2.1,y.2.2.2⟩) Tryz.underlying71 (by kernel_rfl) rfl (λ _ _ _ h=>h) (λ _ h=>h) (RdF.cons rfl (by kernel_rfl) rd3 (RdF.cons rfl (by kernel_rfl) rd3 (RdF.cons rfl (by kernel_rfl) SO (RdF.one rfl (by kernel_rfl) SE)))) (λ _=>rfl)
theorem V4:Rd Tryz.prog 31 (List Lot):=eh Tryz.underlying31 (by kernel_rfl) (by decide) (by kernel_rfl) U7
instance:Rg mb:=Rg.ofMap λx=>(x.Lot,x.Area,x.Top)
theorem Ti:Rd Tryz.prog 372 mb:=cD (f:=λx=>(x.Lot,x.Area,x.Top)) (λy=>⟨y.1,y.2.1,y.2.2⟩) Tryz.underlying372 (by kernel_rfl) rfl (λ _ _ _ h=>h) (λ _ h=>h) (RdF.cons rfl (by kernel_rfl) rd3 (RdF.cons rfl (by kernel_rfl) SO (RdF.one rfl (by kernel_rfl) rd3))) (λ _=>rfl)
theorem Uw:Rd Tryz.prog 32 (List mb):=eh Tryz.underlying32 (by kernel_rfl) (by decide) (by kernel_rfl) Ti
instance:Rg fu:=Rg.ofMap λx=>(x.Lot,x.At)
theorem U5:Rd Tryz.prog 63 fu:=cD (f:=λx=>(x.Lot,x.At)) (λy=>⟨y.1,y.2⟩) Tryz.underlying63 (by kernel_rfl) rfl (λ _ _ _ h=>h) (λ _ h=>h) (RdF.cons rfl (by kernel_rfl) rd3 (RdF.one rfl (by kernel_rfl) Rm)) (λ _=>rfl)
theorem Vs:Rd Tryz.prog 33 (List fu):=eh Tryz.underlying33 (by kernel_rfl) (by decide) (by kernel_rfl) U5
instance:Rg Box:=Rg.ofMap λx=>(x.Base,x.Z0,x.Z1)
theorem T4:Rd Tryz.prog 128 Box:=cD (f:=λx=>(x.Base,x.Z0,x.Z1)) (λy=>⟨y.1,y.2.1,y.2.2⟩) Tryz.underlying128 (by kernel_rfl) rfl (λ _ _ _ h=>h) (λ _ h=>h) (RdF.cons rfl (by kernel_rfl) PX (RdF.cons rfl (by kernel_rfl) rd3 (RdF.one rfl (by kernel_rfl) rd3))) (λ _=>rfl)
instance:Rg aA:=Rg.ofMap λx=>(x.Box,x.Use,x.Units,x.Extra)
theorem P3:Rd Tryz.prog 130 aA:=cD (f:=λx=>(x.Box,x.Use,x.Units,x.Extra)) (λy=>⟨y.1,y.2.1,y.2.2.1,y.2.2.2⟩) Tryz.underlying130 (by kernel_rfl) rfl (λ _ _ _ h=>h) (λ _ h=>h) (RdF.cons rfl (by kernel_rfl) T4 (RdF.cons rfl (by kernel_rfl) rd3 (RdF.cons rfl (by kernel_rfl) rd3 (RdF.one rfl (by kernel_rfl) rd4)))) (λ _=>rfl)
instance:Rg cd:=Rg.ofMap λx=>(x.Lot,x.aA)
theorem Sx:Rd Tryz.prog 132 cd:=cD (f:=λx=>(x.Lot,x.aA)) (λy=>⟨y.1,y.2⟩) Tryz.underlying132 (by kernel_rfl) rfl (λ _ _ _ h=>h) (λ _ h=>h) (RdF.cons rfl (by kernel_rfl) rd3 (RdF.one rfl (by kernel_rfl) P3)) (λ _=>rfl)
theorem UF:Rd Tryz.prog 34 (List cd):=eh Tryz.underlying34 (by kernel_rfl) (by decide) (by kernel_rfl) Sx
instance:Rg aN:=Rg.ofMap λx=>(x.aF,x.Land,x.Easements,x.Windows,x.Built,x.Base)
theorem VE:Rd Tryz.prog 37 aN:=cD (f:=λx=>(x.aF,x.Land,x.Easements,x.Windows,x.Built,x.Base)) (λy=>⟨y.1,y.2.1,y.2.2.1,y.2.2.2.1,y.2.2.2.2.1,y.2.2.2.2.2⟩) Tryz.underlying37 (by kernel_rfl) rfl (λ _ _ _ h=>h) (λ _ h=>h) (RdF.cons rfl (by kernel_rfl) UZ (RdF.cons rfl (by kernel_rfl) V4 (RdF.cons rfl (by kernel_rfl) Uw (RdF.cons rfl (by kernel_rfl) Vs (RdF.cons rfl (by kernel_rfl) UF (RdF.one rfl (by kernel_rfl) Sg)))))) (λ _=>rfl)
instance:Rg bj:=Rg.ofMap λx=>(x.Cap,x.Counter,x.Held,x.Used)
theorem Vk:Rd Tryz.prog 87 bj:=cD (f:=λx=>(x.Cap,x.Counter,x.Held,x.Used)) (λy=>⟨y.1,y.2.1,y.2.2.1,y.2.2.2⟩) Tryz.underlying87 (by kernel_rfl) rfl (λ _ _ _ h=>h) (λ _ h=>h) (RdF.cons rfl (by kernel_rfl) rd9 (RdF.cons rfl (by kernel_rfl) rd3 (RdF.cons rfl (by kernel_rfl) rd3 (RdF.one rfl (by kernel_rfl) rd3)))) (λ _=>rfl)
theorem VH:Rd Tryz.prog 39 (List bj):=eh Tryz.underlying39 (by kernel_rfl) (by decide) (by kernel_rfl) Vk
theorem S7:Rd Tryz.prog 137 (List aA):=eh Tryz.underlying137 (by kernel_rfl) (by decide) (by kernel_rfl) P3
instance:Rg Phase:=Rg.ofMap λx=>(x.Volumes,x.bh)
theorem TG:Rd Tryz.prog 139 Phase:=cD (f:=λx=>(x.Volumes,x.bh)) (λy=>⟨y.1,y.2⟩) Tryz.underlying139 (by kernel_rfl) rfl (λ _ _ _ h=>h) (λ _ h=>h) (RdF.cons rfl (by kernel_rfl) S7 (RdF.one rfl (by kernel_rfl) Sg)) (λ _=>rfl)
theorem U0:Rd Tryz.prog 40 (List Phase):=eh Tryz.underlying40 (by kernel_rfl) (by decide) (by kernel_rfl) TG
instance:Rg aG:=Rg.ofMap λx=>(x.Lot,x.Phases)
theorem Vb:Rd Tryz.prog 42 aG:=cD (f:=λx=>(x.Lot,x.Phases)) (λy=>⟨y.1,y.2⟩) Tryz.underlying42 (by kernel_rfl) rfl (λ _ _ _ h=>h) (λ _ h=>h) (RdF.cons rfl (by kernel_rfl) rd3 (RdF.one rfl (by kernel_rfl) U0)) (λ _=>rfl)
instance:Rg ax:=Rg.ofMap λx=>(x.Id,x.Holder,x.aG,x.Used,x.Until,x.Over)
theorem VU:Rd Tryz.prog 44 ax:=cD (f:=λx=>(x.Id,x.Holder,x.aG,x.Used,x.Until,x.Over)) (λy=>⟨y.1,y.2.1,y.2.2.1,y.2.2.2.1,y.2.2.2.2.1,y.2.2.2.2.2⟩) Tryz.underlying44 (by kernel_rfl) rfl (λ _ _ _ h=>h) (λ _ h=>h) (RdF.cons rfl (by kernel_rfl) rd3 (RdF.cons rfl (by kernel_rfl) rd3 (RdF.cons rfl (by kernel_rfl) Vb (RdF.cons rfl (by kernel_rfl) rd3 (RdF.cons rfl (by kernel_rfl) rd3 (RdF.one rfl (by kernel_rfl) rd4)))))) (λ _=>rfl)
theorem sk{k0:K}{v0:Value}{x0:aN}{v1:Value}{x1:(List Int)}{v2:Value}{x2:(List bj)}{v3:Value}{x3:ax}{r:Bool}(hG:GOk tbg k0)(i0:IsV x0 v0 k0)(i1:IsV x1 v1 k0)(i2:IsV x2 v2 k0)(i3:IsV x3 v3 k0)(hr:ez x0 x1 x2 x3=some r):Calls Tryz.prog 4 #[v0,v1,v2,v3] k0.w (Ret k0 (IsV r)):=k4.ok.ok k0 [v0,v1,v2,v3] (x0,x1,x2,x3) r hG ⟨i0,i1,i2,i3⟩ hr
open Go.ChangeShapes Go.WideShapes Go.ChangeAt Go.RowKit
theorem Tryz.own:ownKnob Tryz.prog.godebug=none:=by kernel_rfl
theorem Tryz.laidOut:laidOutB Tryz.prog=true:=by kernel_rfl
set_option maxRecDepth 100000 in theorem He(law:∀(x0:aN)(x1:(List Int))(x2:(List bj))(x3:ax),Rg.rg x0->Rg.rg x1->Rg.rg x2->Rg.rg x3->ez x0 x1 x2 x3=some true)(os:Os)(started:os.Started)(H:Type)(enc:TypeId×Value->H):ReturnsInHanded {} Tryz.checked os 4 .any (Rows.counterShadesSpec.pre6 enc Tryz.prog Tryz.f4 Rows.counterShadesRow.domain false) (Rows.counterShadesSpec.post enc Tryz.prog Tryz.f4 false true false false):=by
 refine returnsInHanded_of_change_shaped (C:=Tryz.checked) Tryz.own started (by kernel_rfl) Tryz.func4 (ChangeSpec.witness6 (enc:=enc) (C:=Tryz.checked) false ⟨#[],#[.agg #[.slice none 0 0, .slice none 0 0, .slice none 0 0, .slice none 0 0, .slice none 0 0, .slice none 0 0, .slice none 0 0, .int .i64 0, .slice none 0 0, .slice none 0 0, .slice none 0 0, .slice none 0 0, .slice none 0 0], .slice none 0 0, .slice none 0 0, .agg #[.int .i64 0, .int .i64 0, .int .i64 0, .slice none 0 0, .int .i64 0, .int .i64 0, .bool false]],[]⟩ 8 (by kernel_rfl) (by kernel_rfl) (by kernel_rfl) (by kernel_rfl)) ?_;intro W base args ds gs before hval0 hW _ hwt hsh _;have hval:∀(j:Nat) t v,Tryz.f4.params[j]?=some t->args[j]?=some v->Value.okWide Tryz.prog W .any base t v:=hval0;have hW':=hW;have hG:GOk tbg (kOf W):=GOk.none (λ _=>rfl) λg0 e=>by obtain rfl:0=g0:=ae e;exact(Tryz.Cp.s1_3 W hsh).imp λ _ h=>FW h
 obtain⟨p,q,hA0,hV,rfl,hfz,hnd⟩:=hW;have hA:DataW.TrodAll enc Tryz.prog W 0 (λ _=>true) true Tryz.f4.params.toList args.toList ds p:=hA0;rw[Tryz.params4]at hA hval;obtain⟨args⟩:=args;obtain⟨v0,vs0,d0,ds0,p0,q0,hargs0,rfl,rfl,h0,hA0⟩:=trodAll_cons hA;obtain⟨v1,vs1,d1,ds1,p1,q1,hargs1,rfl,rfl,h1,hA1⟩:=trodAll_cons hA0;obtain⟨v2,vs2,d2,ds2,p2,q2,hargs2,rfl,rfl,h2,hA2⟩:=trodAll_cons hA1;obtain⟨v3,vs3,d3,ds3,p3,q3,hargs3,rfl,rfl,h3,hA3⟩:=trodAll_cons hA2;obtain⟨hargs4,rfl,rfl⟩:=trodAll_nil hA3;subst hargs4 hargs3 hargs2 hargs1 hargs0;obtain⟨rfl,rfl⟩:=trodVars_none hV;obtain⟨y0,hy0,hr0⟩:=Dh VE h0 (hval 0 37 v0 rfl rfl) λn hn=>of_decide_eq_true (bE.1 hwt n (DataW.weights_mem_each (j:=0) rfl rfl n hn));obtain⟨y1,hy1,hr1⟩:=Dh SE h1 (hval 1 38 v1 rfl rfl) λn hn=>of_decide_eq_true (bE.1 hwt n (DataW.weights_mem_each (j:=1) rfl rfl n hn));obtain⟨y2,hy2,hr2⟩:=Dh VH h2 (hval 2 39 v2 rfl rfl) λn hn=>of_decide_eq_true (bE.1 hwt n (DataW.weights_mem_each (j:=2) rfl rfl n hn));obtain⟨y3,hy3,hr3⟩:=Dh VU h3 (hval 3 44 v3 rfl rfl) λn hn=>of_decide_eq_true (bE.1 hwt n (DataW.weights_mem_each (j:=3) rfl rfl n hn));refine Kr (sk (k0:=kOf W) hG hy0 hy1 hy2 hy3 (law y0 y1 y2 y3 hr0 hr1 hr2 hr3)) λk' hg=>?_;exact⟨_,rfl,Ni hW' Tryz.laidOut (by kernel_rfl) rfl rfl Tryz.underlying4 rfl hg⟩
theorem KY(law:∀(x0:aN)(x1:(List Int))(x2:(List bj))(x3:ax),Rg.rg x0->Rg.rg x1->Rg.rg x2->Rg.rg x3->ez x0 x1 x2 x3=some true):Rows.CounterShadesSaid:=OpenClaim.holds_of_wide 4 Tryz.f4 rfl rfl rfl rfl rfl rfl rfl ⟨rfl,rfl,rfl,rfl,rfl⟩ rfl rfl rfl rfl rfl (by kernel_rfl) Tryz.func4 row_closed (of_decide_eq_true (by kernel_rfl)) (by unfold Func.isWrapper;first|(rw[if_pos (by decide+kernel)];kernel_rfl)|(rw[if_neg (by decide+kernel)];exact⟨rfl,rfl⟩)) (λos started H enc _=>He law os started H enc)
theorem counter_shades_holds:Rows.CounterShadesSaid:=KY (λt d l r _ _ _ _=>Pl.wq t d l r)
#print axioms counter_shades_holds
end Go.Proofs.YtlckpjpbladknaaGreat
