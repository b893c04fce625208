/- For all towns, lists of rights, districts, lists of leases and lists of operations, whatever they are, the law CounterUses returns true, and leaves its arguments as they were. -/
import Derived.HandedShaped
import Derived.Test.YtlckpjpbladknaaGreatCCounterUses
import Derived.Test.YtlckpjpbladknaaGreatL6
set_option linter.unusedVariables false
set_option linter.unusedSimpArgs false
set_option linter.unusedSectionVars false
namespace Go.Proofs.YtlckpjpbladknaaGreat
open Go.Gb
set_option maxRecDepth 100000
theorem rd9:Rd Tryz.prog 9 ByteArray:=KM Tryz.underlying9
theorem rd3:Rd Tryz.prog 3 Int:=Tn Tryz.underlying3
theorem Vq:Rd Tryz.prog 359 Opq:=Sc Tryz.underlying359
instance:Rg Expr:=Rg.ofMap λx=>(x.Op,x.N,x.S,x.Key,x.Args)
theorem Rb:Rd Tryz.prog 361 Expr:=ck (f:=λx=>(x.Op,x.N,x.S,x.Key,x.Args)) (λy=>⟨y.1,y.2.1,y.2.2.1,y.2.2.2.1,y.2.2.2.2⟩) Tryz.underlying361 (by kernel_rfl) rfl (λ _ _ _ h=>h) (λ _ h=>h) (RdF.cons rfl (by kernel_rfl) rd3 (RdF.cons rfl (by kernel_rfl) rd3 (RdF.cons rfl (by kernel_rfl) rd9 (RdF.cons rfl (by kernel_rfl) rd9 (RdF.one rfl (by kernel_rfl) Vq))))) (λ _=>rfl)
instance:Rg Def:=Rg.ofMap λx=>(x.Name,x.Body)
theorem Vv:Rd Tryz.prog 363 Def:=ck (f:=λx=>(x.Name,x.Body)) (λy=>⟨y.1,y.2⟩) Tryz.underlying363 (by kernel_rfl) rfl (λ _ _ _ h=>h) (λ _ h=>h) (RdF.cons rfl (by kernel_rfl) rd9 (RdF.one rfl (by kernel_rfl) Rb)) (λ _=>rfl)
theorem WR:Rd Tryz.prog 22 (List Def):=dI Tryz.underlying22 (by kernel_rfl) (by decide) (by kernel_rfl) Vv
instance:Rg Entry:=Rg.ofMap λx=>(x.Name,x.N)
theorem Ul:Rd Tryz.prog 135 Entry:=ck (f:=λx=>(x.Name,x.N)) (λy=>⟨y.1,y.2⟩) Tryz.underlying135 (by kernel_rfl) rfl (λ _ _ _ h=>h) (λ _ h=>h) (RdF.cons rfl (by kernel_rfl) rd9 (RdF.one rfl (by kernel_rfl) rd3)) (λ _=>rfl)
theorem TU:Rd Tryz.prog 35 (List Entry):=dI Tryz.underlying35 (by kernel_rfl) (by decide) (by kernel_rfl) Ul
instance:Rg Table:=Rg.ofMap λx=>(x.Name,x.Rows,x.Else)
theorem Uo:Rd Tryz.prog 101 Table:=ck (f:=λx=>(x.Name,x.Rows,x.Else)) (λy=>⟨y.1,y.2.1,y.2.2⟩) Tryz.underlying101 (by kernel_rfl) rfl (λ _ _ _ h=>h) (λ _ h=>h) (RdF.cons rfl (by kernel_rfl) rd9 (RdF.cons rfl (by kernel_rfl) TU (RdF.one rfl (by kernel_rfl) rd3))) (λ _=>rfl)
theorem XM:Rd Tryz.prog 23 (List Table):=dI Tryz.underlying23 (by kernel_rfl) (by decide) (by kernel_rfl) Uo
theorem rd4:Rd Tryz.prog 4 Bool:=Qk Tryz.underlying4
instance:Rg fe:=Rg.ofMap λx=>(x.X,x.Y)
theorem UL:Rd Tryz.prog 196 fe:=ck (f:=λx=>(x.X,x.Y)) (λy=>⟨y.1,y.2⟩) Tryz.underlying196 (by kernel_rfl) rfl (λ _ _ _ h=>h) (λ _ h=>h) (RdF.cons rfl (by kernel_rfl) rd3 (RdF.one rfl (by kernel_rfl) rd3)) (λ _=>rfl)
theorem Vd:Rd Tryz.prog 88 (List fe):=dI Tryz.underlying88 (by kernel_rfl) (by decide) (by kernel_rfl) UL
instance:Rg E0:=Rg.ofMap λx=>(x.Name,x.Overlay,x.Corners)
theorem UX:Rd Tryz.prog 365 E0:=ck (f:=λx=>(x.Name,x.Overlay,x.Corners)) (λy=>⟨y.1,y.2.1,y.2.2⟩) Tryz.underlying365 (by kernel_rfl) rfl (λ _ _ _ h=>h) (λ _ h=>h) (RdF.cons rfl (by kernel_rfl) rd9 (RdF.cons rfl (by kernel_rfl) rd4 (RdF.one rfl (by kernel_rfl) Vd))) (λ _=>rfl)
theorem Wb:Rd Tryz.prog 24 (List E0):=dI Tryz.underlying24 (by kernel_rfl) (by decide) (by kernel_rfl) UX
theorem Ry:Rd Tryz.prog 366 (List ByteArray):=dI Tryz.underlying366 (by kernel_rfl) (by decide) (by kernel_rfl) rd9
instance:Rg rb:=Rg.ofMap λx=>(x.Side,x.Base,x.Num,x.Den)
theorem Vh:Rd Tryz.prog 368 rb:=ck (f:=λx=>(x.Side,x.Base,x.Num,x.Den)) (λy=>⟨y.1,y.2.1,y.2.2.1,y.2.2.2⟩) Tryz.underlying368 (by kernel_rfl) rfl (λ _ _ _ h=>h) (λ _ h=>h) (RdF.cons rfl (by kernel_rfl) rd3 (RdF.cons rfl (by kernel_rfl) rd3 (RdF.cons rfl (by kernel_rfl) rd3 (RdF.one rfl (by kernel_rfl) rd3)))) (λ _=>rfl)
instance:Rg EY:=Rg.ofMap λx=>(x.Name,x.Zones,x.Except,x.From,x.Until,x.Grace,x.Vary,x.Kind,x.Test,x.rb,x.Uses,x.Other,x.N)
theorem Uc:Rd Tryz.prog 370 EY:=ck (f:=λx=>(x.Name,x.Zones,x.Except,x.From,x.Until,x.Grace,x.Vary,x.Kind,x.Test,x.rb,x.Uses,x.Other,x.N)) (λy=>⟨y.1,y.2.1,y.2.2.1,y.2.2.2.1,y.2.2.2.2.1,y.2.2.2.2.2.1,y.2.2.2.2.2.2.1,y.2.2.2.2.2.2.2.1,y.2.2.2.2.2.2.2.2.1,y.2.2.2.2.2.2.2.2.2.1,y.2.2.2.2.2.2.2.2.2.2.1,y.2.2.2.2.2.2.2.2.2.2.2.1,y.2.2.2.2.2.2.2.2.2.2.2.2⟩) Tryz.underlying370 (by kernel_rfl) rfl (λ _ _ _ h=>h) (λ _ h=>h) (RdF.cons rfl (by kernel_rfl) rd9 (RdF.cons rfl (by kernel_rfl) Ry (RdF.cons rfl (by kernel_rfl) Ry (RdF.cons rfl (by kernel_rfl) rd3 (RdF.cons rfl (by kernel_rfl) rd3 (RdF.cons rfl (by kernel_rfl) rd3 (RdF.cons rfl (by kernel_rfl) rd4 (RdF.cons rfl (by kernel_rfl) rd3 (RdF.cons rfl (by kernel_rfl) Rb (RdF.cons rfl (by kernel_rfl) Vh (RdF.cons rfl (by kernel_rfl) rd3 (RdF.cons rfl (by kernel_rfl) rd3 (RdF.one rfl (by kernel_rfl) rd3))))))))))))) (λ _=>rfl)
theorem Xp:Rd Tryz.prog 25 (List EY):=dI Tryz.underlying25 (by kernel_rfl) (by decide) (by kernel_rfl) Uc
instance:Rg Cap:=Rg.ofMap λx=>(x.Name,x.Load,x.cU,x.Corners)
theorem Wn:Rd Tryz.prog 90 Cap:=ck (f:=λx=>(x.Name,x.Load,x.cU,x.Corners)) (λy=>⟨y.1,y.2.1,y.2.2.1,y.2.2.2⟩) Tryz.underlying90 (by kernel_rfl) rfl (λ _ _ _ h=>h) (λ _ h=>h) (RdF.cons rfl (by kernel_rfl) rd9 (RdF.cons rfl (by kernel_rfl) rd3 (RdF.cons rfl (by kernel_rfl) rd3 (RdF.one rfl (by kernel_rfl) Vd)))) (λ _=>rfl)
theorem VL:Rd Tryz.prog 26 (List Cap):=dI Tryz.underlying26 (by kernel_rfl) (by decide) (by kernel_rfl) Wn
instance:Rg bq:=Rg.ofMap λx=>(x.X,x.Y,x.Z)
theorem TQ:Rd Tryz.prog 61 bq:=ck (f:=λx=>(x.X,x.Y,x.Z)) (λy=>⟨y.1,y.2.1,y.2.2⟩) Tryz.underlying61 (by kernel_rfl) rfl (λ _ _ _ h=>h) (λ _ h=>h) (RdF.cons rfl (by kernel_rfl) rd3 (RdF.cons rfl (by kernel_rfl) rd3 (RdF.one rfl (by kernel_rfl) rd3))) (λ _=>rfl)
theorem Vm:Rd Tryz.prog 28 (List bq):=dI Tryz.underlying28 (by kernel_rfl) (by decide) (by kernel_rfl) TQ
instance:Rg View:=Rg.ofMap λx=>(x.Name,x.Eye,x.Least,x.Targets)
theorem VQ:Rd Tryz.prog 99 View:=ck (f:=λx=>(x.Name,x.Eye,x.Least,x.Targets)) (λy=>⟨y.1,y.2.1,y.2.2.1,y.2.2.2⟩) Tryz.underlying99 (by kernel_rfl) rfl (λ _ _ _ h=>h) (λ _ h=>h) (RdF.cons rfl (by kernel_rfl) rd9 (RdF.cons rfl (by kernel_rfl) TQ (RdF.cons rfl (by kernel_rfl) rd3 (RdF.one rfl (by kernel_rfl) Vm)))) (λ _=>rfl)
theorem VY:Rd Tryz.prog 27 (List View):=dI Tryz.underlying27 (by kernel_rfl) (by decide) (by kernel_rfl) VQ
instance:Rg az:=Rg.ofMap λx=>(x.Defs,x.Tables,x.Zones,x.Rules,x.Caps,x.Views,x.Sun,x.Hours)
theorem Vy:Rd Tryz.prog 30 az:=ck (f:=λx=>(x.Defs,x.Tables,x.Zones,x.Rules,x.Caps,x.Views,x.Sun,x.Hours)) (λy=>⟨y.1,y.2.1,y.2.2.1,y.2.2.2.1,y.2.2.2.2.1,y.2.2.2.2.2.1,y.2.2.2.2.2.2.1,y.2.2.2.2.2.2.2⟩) Tryz.underlying30 (by kernel_rfl) rfl (λ _ _ _ h=>h) (λ _ h=>h) (RdF.cons rfl (by kernel_rfl) WR (RdF.cons rfl (by kernel_rfl) XM (RdF.cons rfl (by kernel_rfl) Wb (RdF.cons rfl (by kernel_rfl) Xp (RdF.cons rfl (by kernel_rfl) VL (RdF.cons rfl (by kernel_rfl) VY (RdF.cons rfl (by kernel_rfl) Vm (RdF.one rfl (by kernel_rfl) rd3)))))))) (λ _=>rfl)
instance:Rg ay:=Rg.ofMap λx=>(x.X0,x.Y0,x.X1,x.Y1)
theorem RW:Rd Tryz.prog 126 ay:=ck (f:=λx=>(x.X0,x.Y0,x.X1,x.Y1)) (λy=>⟨y.1,y.2.1,y.2.2.1,y.2.2.2⟩) Tryz.underlying126 (by kernel_rfl) rfl (λ _ _ _ h=>h) (λ _ h=>h) (RdF.cons rfl (by kernel_rfl) rd3 (RdF.cons rfl (by kernel_rfl) rd3 (RdF.cons rfl (by kernel_rfl) rd3 (RdF.one rfl (by kernel_rfl) rd3)))) (λ _=>rfl)
theorem U9:Rd Tryz.prog 69 (List ay):=dI Tryz.underlying69 (by kernel_rfl) (by decide) (by kernel_rfl) RW
theorem Vj:Rd Tryz.prog 38 (List Int):=dI Tryz.underlying38 (by kernel_rfl) (by decide) (by kernel_rfl) rd3
instance:Rg Lot:=Rg.ofMap λx=>(x.Id,x.Owner,x.Area,x.From)
theorem V3:Rd Tryz.prog 71 Lot:=ck (f:=λx=>(x.Id,x.Owner,x.Area,x.From)) (λy=>⟨y.1,y.2.1,y.2.2.1,y.2.2.2⟩) Tryz.underlying71 (by kernel_rfl) rfl (λ _ _ _ h=>h) (λ _ h=>h) (RdF.cons rfl (by kernel_rfl) rd3 (RdF.cons rfl (by kernel_rfl) rd3 (RdF.cons rfl (by kernel_rfl) U9 (RdF.one rfl (by kernel_rfl) Vj)))) (λ _=>rfl)
theorem Wf:Rd Tryz.prog 31 (List Lot):=dI Tryz.underlying31 (by kernel_rfl) (by decide) (by kernel_rfl) V3
instance:Rg lO:=Rg.ofMap λx=>(x.Lot,x.Area,x.Top)
theorem UG:Rd Tryz.prog 372 lO:=ck (f:=λx=>(x.Lot,x.Area,x.Top)) (λy=>⟨y.1,y.2.1,y.2.2⟩) Tryz.underlying372 (by kernel_rfl) rfl (λ _ _ _ h=>h) (λ _ h=>h) (RdF.cons rfl (by kernel_rfl) rd3 (RdF.cons rfl (by kernel_rfl) U9 (RdF.one rfl (by kernel_rfl) rd3))) (λ _=>rfl)
theorem Xj:Rd Tryz.prog 32 (List lO):=dI Tryz.underlying32 (by kernel_rfl) (by decide) (by kernel_rfl) UG
instance:Rg mC:=Rg.ofMap λx=>(x.Lot,x.At)
theorem Wt:Rd Tryz.prog 63 mC:=ck (f:=λx=>(x.Lot,x.At)) (λy=>⟨y.1,y.2⟩) Tryz.underlying63 (by kernel_rfl) rfl (λ _ _ _ h=>h) (λ _ h=>h) (RdF.cons rfl (by kernel_rfl) rd3 (RdF.one rfl (by kernel_rfl) TQ)) (λ _=>rfl)
theorem Xl:Rd Tryz.prog 33 (List mC):=dI Tryz.underlying33 (by kernel_rfl) (by decide) (by kernel_rfl) Wt
instance:Rg Box:=Rg.ofMap λx=>(x.Base,x.Z0,x.Z1)
theorem T9:Rd Tryz.prog 128 Box:=ck (f:=λx=>(x.Base,x.Z0,x.Z1)) (λy=>⟨y.1,y.2.1,y.2.2⟩) Tryz.underlying128 (by kernel_rfl) rfl (λ _ _ _ h=>h) (λ _ h=>h) (RdF.cons rfl (by kernel_rfl) RW (RdF.cons rfl (by kernel_rfl) rd3 (RdF.one rfl (by kernel_rfl) rd3))) (λ _=>rfl)
instance:Rg aF:=Rg.ofMap λx=>(x.Box,x.Use,x.Units,x.Extra)
theorem Rw:Rd Tryz.prog 130 aF:=ck (f:=λx=>(x.Box,x.Use,x.Units,x.Extra)) (λy=>⟨y.1,y.2.1,y.2.2.1,y.2.2.2⟩) Tryz.underlying130 (by kernel_rfl) rfl (λ _ _ _ h=>h) (λ _ h=>h) (RdF.cons rfl (by kernel_rfl) T9 (RdF.cons rfl (by kernel_rfl) rd3 (RdF.cons rfl (by kernel_rfl) rd3 (RdF.one rfl (by kernel_rfl) rd4)))) (λ _=>rfl)
instance:Rg cD:=Rg.ofMap λx=>(x.Lot,x.aF)
theorem Vc:Rd Tryz.prog 132 cD:=ck (f:=λx=>(x.Lot,x.aF)) (λy=>⟨y.1,y.2⟩) Tryz.underlying132 (by kernel_rfl) rfl (λ _ _ _ h=>h) (λ _ h=>h) (RdF.cons rfl (by kernel_rfl) rd3 (RdF.one rfl (by kernel_rfl) Rw)) (λ _=>rfl)
theorem Xs:Rd Tryz.prog 34 (List cD):=dI Tryz.underlying34 (by kernel_rfl) (by decide) (by kernel_rfl) Vc
instance:Rg aP:=Rg.ofMap λx=>(x.az,x.Land,x.Easements,x.Windows,x.Built,x.Base)
theorem VF:Rd Tryz.prog 37 aP:=ck (f:=λx=>(x.az,x.Land,x.Easements,x.Windows,x.Built,x.Base)) (λy=>⟨y.1,y.2.1,y.2.2.1,y.2.2.2.1,y.2.2.2.2.1,y.2.2.2.2.2⟩) Tryz.underlying37 (by kernel_rfl) rfl (λ _ _ _ h=>h) (λ _ h=>h) (RdF.cons rfl (by kernel_rfl) Vy (RdF.cons rfl (by kernel_rfl) Wf (RdF.cons rfl (by kernel_rfl) Xj (RdF.cons rfl (by kernel_rfl) Xl (RdF.cons rfl (by kernel_rfl) Xs (RdF.one rfl (by kernel_rfl) TU)))))) (λ _=>rfl)
theorem Uh:Rd Tryz.prog 137 (List aF):=dI Tryz.underlying137 (by kernel_rfl) (by decide) (by kernel_rfl) Rw
instance:Rg Phase:=Rg.ofMap λx=>(x.Volumes,x.cd)
theorem U5:Rd Tryz.prog 139 Phase:=ck (f:=λx=>(x.Volumes,x.cd)) (λy=>⟨y.1,y.2⟩) Tryz.underlying139 (by kernel_rfl) rfl (λ _ _ _ h=>h) (λ _ h=>h) (RdF.cons rfl (by kernel_rfl) Uh (RdF.one rfl (by kernel_rfl) TU)) (λ _=>rfl)
theorem Xd:Rd Tryz.prog 40 (List Phase):=dI Tryz.underlying40 (by kernel_rfl) (by decide) (by kernel_rfl) U5
instance:Rg ax:=Rg.ofMap λx=>(x.Lot,x.Phases)
theorem XJ:Rd Tryz.prog 42 ax:=ck (f:=λx=>(x.Lot,x.Phases)) (λy=>⟨y.1,y.2⟩) Tryz.underlying42 (by kernel_rfl) rfl (λ _ _ _ h=>h) (λ _ h=>h) (RdF.cons rfl (by kernel_rfl) rd3 (RdF.one rfl (by kernel_rfl) Xd)) (λ _=>rfl)
instance:Rg ai:=Rg.ofMap λx=>(x.Id,x.Holder,x.ax,x.Used,x.Until,x.Over)
theorem R6:Rd Tryz.prog 44 ai:=ck (f:=λx=>(x.Id,x.Holder,x.ax,x.Used,x.Until,x.Over)) (λy=>⟨y.1,y.2.1,y.2.2.1,y.2.2.2.1,y.2.2.2.2.1,y.2.2.2.2.2⟩) Tryz.underlying44 (by kernel_rfl) rfl (λ _ _ _ h=>h) (λ _ h=>h) (RdF.cons rfl (by kernel_rfl) rd3 (RdF.cons rfl (by kernel_rfl) rd3 (RdF.cons rfl (by kernel_rfl) XJ (RdF.cons rfl (by kernel_rfl) rd3 (RdF.cons rfl (by kernel_rfl) rd3 (RdF.one rfl (by kernel_rfl) rd4)))))) (λ _=>rfl)
theorem Xg:Rd Tryz.prog 47 (List ai):=dI Tryz.underlying47 (by kernel_rfl) (by decide) (by kernel_rfl) R6
instance:Rg aG:=Rg.ofMap λx=>(x.Cap,x.Counter,x.Held,x.Used)
theorem WW:Rd Tryz.prog 87 aG:=ck (f:=λx=>(x.Cap,x.Counter,x.Held,x.Used)) (λy=>⟨y.1,y.2.1,y.2.2.1,y.2.2.2⟩) Tryz.underlying87 (by kernel_rfl) rfl (λ _ _ _ h=>h) (λ _ h=>h) (RdF.cons rfl (by kernel_rfl) rd9 (RdF.cons rfl (by kernel_rfl) rd3 (RdF.cons rfl (by kernel_rfl) rd3 (RdF.one rfl (by kernel_rfl) rd3)))) (λ _=>rfl)
theorem XW:Rd Tryz.prog 39 (List aG):=dI Tryz.underlying39 (by kernel_rfl) (by decide) (by kernel_rfl) WW
instance:Rg aq:=Rg.ofMap λx=>(x.Counter,x.Number,x.ai)
theorem Xh:Rd Tryz.prog 54 aq:=ck (f:=λx=>(x.Counter,x.Number,x.ai)) (λy=>⟨y.1,y.2.1,y.2.2⟩) Tryz.underlying54 (by kernel_rfl) rfl (λ _ _ _ h=>h) (λ _ h=>h) (RdF.cons rfl (by kernel_rfl) rd3 (RdF.cons rfl (by kernel_rfl) rd3 (RdF.one rfl (by kernel_rfl) R6))) (λ _=>rfl)
theorem WU:Rd Tryz.prog 55 (List aq):=dI Tryz.underlying55 (by kernel_rfl) (by decide) (by kernel_rfl) Xh
instance:Rg fM:=Rg.ofMap λx=>(x.Kind,x.Who,x.To,x.Cap,x.N,x.ai,x.Filings)
theorem VD:Rd Tryz.prog 79 fM:=ck (f:=λx=>(x.Kind,x.Who,x.To,x.Cap,x.N,x.ai,x.Filings)) (λy=>⟨y.1,y.2.1,y.2.2.1,y.2.2.2.1,y.2.2.2.2.1,y.2.2.2.2.2.1,y.2.2.2.2.2.2⟩) Tryz.underlying79 (by kernel_rfl) rfl (λ _ _ _ h=>h) (λ _ h=>h) (RdF.cons rfl (by kernel_rfl) rd3 (RdF.cons rfl (by kernel_rfl) rd3 (RdF.cons rfl (by kernel_rfl) rd3 (RdF.cons rfl (by kernel_rfl) rd3 (RdF.cons rfl (by kernel_rfl) rd3 (RdF.cons rfl (by kernel_rfl) R6 (RdF.one rfl (by kernel_rfl) WU))))))) (λ _=>rfl)
theorem Wu:Rd Tryz.prog 75 (List fM):=dI Tryz.underlying75 (by kernel_rfl) (by decide) (by kernel_rfl) VD
theorem uB{k0:K}{v0:Value}{x0:aP}{v1:Value}{x1:(List ai)}{v2:Value}{x2:(List Int)}{v3:Value}{x3:(List aG)}{v4:Value}{x4:(List fM)}{r:Bool}(hG:GOk tbg k0)(i0:IsV x0 v0 k0)(i1:IsV x1 v1 k0)(i2:IsV x2 v2 k0)(i3:IsV x3 v3 k0)(i4:IsV x4 v4 k0)(hr:eW x0 x1 x2 x3 x4=some r):Calls Tryz.prog 5 #[v0,v1,v2,v3,v4] k0.w (Ret k0 (IsV r)):=k5.ok.ok k0 [v0,v1,v2,v3,v4] (x0,x1,x2,x3,x4) r hG ⟨i0,i1,i2,i3,i4⟩ hr
open Go.ChangeShapes Go.WideShapes Go.ChangeAt Go.RowKit
theorem Tryz.own:ownKnob Tryz.prog.godebug=none:=by kernel_rfl
theorem Tryz.laidOut:laidOutB Tryz.prog=true:=by kernel_rfl
set_option maxRecDepth 100000 in theorem Jk(law:∀(x0:aP)(x1:(List ai))(x2:(List Int))(x3:(List aG))(x4:(List fM)),Rg.rg x0->Rg.rg x1->Rg.rg x2->Rg.rg x3->Rg.rg x4->eW x0 x1 x2 x3 x4=some true)(os:Os)(started:os.Started)(H:Type)(enc:TypeId×Value->H):ReturnsInHanded {} Tryz.checked os 5 .any (Rows.counterUsesSpec.pre6 enc Tryz.prog Tryz.f5 Rows.counterUsesRow.domain false) (Rows.counterUsesSpec.post enc Tryz.prog Tryz.f5 false true false false):=by
 refine returnsInHanded_of_change_shaped (C:=Tryz.checked) Tryz.own started (by kernel_rfl) Tryz.func5 (ChangeSpec.witness6 (enc:=enc) (C:=Tryz.checked) false ⟨#[],#[.agg #[.slice none 0 0, .slice none 0 0, .slice none 0 0, .slice none 0 0, .slice none 0 0, .slice none 0 0, .slice none 0 0, .int .i64 0, .slice none 0 0, .slice none 0 0, .slice none 0 0, .slice none 0 0, .slice none 0 0], .slice none 0 0, .slice none 0 0, .slice none 0 0, .slice none 0 0],[]⟩ 8 (by kernel_rfl) (by kernel_rfl) (by kernel_rfl) (by kernel_rfl)) ?_;intro W base args ds gs before hval0 hW _ hwt hsh _;have hval:∀(j:Nat) t v,Tryz.f5.params[j]?=some t->args[j]?=some v->Value.okWide Tryz.prog W .any base t v:=hval0;have hW':=hW;have hG:GOk tbg (kOf W):=GOk.none (λ _=>rfl) λg0 e=>by obtain rfl:0=g0:=ae e;exact(Tryz.CG.s1_3 W hsh).imp λ _ h=>Hm h
 obtain⟨p,q,hA0,hV,rfl,hfz,hnd⟩:=hW;have hA:DataW.TrodAll enc Tryz.prog W 0 (λ _=>true) true Tryz.f5.params.toList args.toList ds p:=hA0;rw[Tryz.params5]at hA hval;obtain⟨args⟩:=args;obtain⟨v0,vs0,d0,ds0,p0,q0,hargs0,rfl,rfl,h0,hA0⟩:=trodAll_cons hA;obtain⟨v1,vs1,d1,ds1,p1,q1,hargs1,rfl,rfl,h1,hA1⟩:=trodAll_cons hA0;obtain⟨v2,vs2,d2,ds2,p2,q2,hargs2,rfl,rfl,h2,hA2⟩:=trodAll_cons hA1;obtain⟨v3,vs3,d3,ds3,p3,q3,hargs3,rfl,rfl,h3,hA3⟩:=trodAll_cons hA2;obtain⟨v4,vs4,d4,ds4,p4,q4,hargs4,rfl,rfl,h4,hA4⟩:=trodAll_cons hA3;obtain⟨hargs5,rfl,rfl⟩:=trodAll_nil hA4;subst hargs5 hargs4 hargs3 hargs2 hargs1 hargs0;obtain⟨rfl,rfl⟩:=trodVars_none hV;obtain⟨y0,hy0,hr0⟩:=BN VF h0 (hval 0 37 v0 rfl rfl) λn hn=>of_decide_eq_true (bG.1 hwt n (DataW.weights_mem_each (j:=0) rfl rfl n hn));obtain⟨y1,hy1,hr1⟩:=BN Xg h1 (hval 1 47 v1 rfl rfl) λn hn=>of_decide_eq_true (bG.1 hwt n (DataW.weights_mem_each (j:=1) rfl rfl n hn));obtain⟨y2,hy2,hr2⟩:=BN Vj h2 (hval 2 38 v2 rfl rfl) λn hn=>of_decide_eq_true (bG.1 hwt n (DataW.weights_mem_each (j:=2) rfl rfl n hn));obtain⟨y3,hy3,hr3⟩:=BN XW h3 (hval 3 39 v3 rfl rfl) λn hn=>of_decide_eq_true (bG.1 hwt n (DataW.weights_mem_each (j:=3) rfl rfl n hn));obtain⟨y4,hy4,hr4⟩:=BN Wu h4 (hval 4 75 v4 rfl rfl) λn hn=>of_decide_eq_true (bG.1 hwt n (DataW.weights_mem_each (j:=4) rfl rfl n hn));refine L1 (uB (k0:=kOf W) hG hy0 hy1 hy2 hy3 hy4 (law y0 y1 y2 y3 y4 hr0 hr1 hr2 hr3 hr4)) λk' hg=>?_;exact⟨_,rfl,Oh hW' Tryz.laidOut (by kernel_rfl) rfl rfl Tryz.underlying4 rfl hg⟩
theorem LL(law:∀(x0:aP)(x1:(List ai))(x2:(List Int))(x3:(List aG))(x4:(List fM)),Rg.rg x0->Rg.rg x1->Rg.rg x2->Rg.rg x3->Rg.rg x4->eW x0 x1 x2 x3 x4=some true):Rows.CounterUsesSaid:=OpenClaim.holds_of_wide 5 Tryz.f5 rfl rfl rfl rfl rfl rfl rfl ⟨rfl,rfl,rfl,rfl,rfl⟩ rfl rfl rfl rfl rfl (by kernel_rfl) Tryz.func5 row_closed (of_decide_eq_true (by kernel_rfl)) (by unfold Func.isWrapper;first|(rw[if_pos (by decide+kernel)];kernel_rfl)|(rw[if_neg (by decide+kernel)];exact⟨rfl,rfl⟩)) (λos started H enc _=>Jk law os started H enc)
theorem counter_uses_holds:Rows.CounterUsesSaid:=LL (λt rights d l ops _ _ _ _ _=>Pl.zI t rights d l ops)
#print axioms counter_uses_holds
end Go.Proofs.YtlckpjpbladknaaGreat
