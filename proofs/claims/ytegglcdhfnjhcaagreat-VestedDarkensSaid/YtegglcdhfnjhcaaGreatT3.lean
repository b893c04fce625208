/- What the functions compute that the law reaches, part 3 -/
import Derived.Test.YtegglcdhfnjhcaaGreatT2
namespace Go.Proofs.YtegglcdhfnjhcaaGreat
open Go.Gb
set_option linter.unusedVariables false
set_option linter.unusedSimpArgs false
set_option maxRecDepth 100000
def vested_After_L0 (lot_:Int) (ph_:Phase) (s1:Town × Int):Option (Flow (Town × Int) (Town)):=
 if (decide (s1.2 < (ph_.Volumes.length:Int))) then
  (getI ph_.Volumes s1.2).bind fun x1=>
  (appI s1.1.Built ([(⟨lot_,x1⟩:Placed)])).bind fun x2=>
  (addI s1.2 1).bind fun x3=>
  some (.go ({ s1.1 with Built:=x2 },x3))
 else
  some (.ex 0 (s1.1,s1.2))
def vested_After_L1 (ph_:Phase) (s1:Town × Int):Option (Flow (Town × Int) (Town)):=
 if (decide (s1.2 < (ph_.Gives.length:Int))) then
  (getI ph_.Gives s1.2).bind fun x1=>
  (cap_Limited x1.N).bind fun x2=>
  (subI 0 x2).bind fun x3=>
  (appI s1.1.Base ([(⟨x1.Name,x3⟩:Entry)])).bind fun x4=>
  (addI s1.2 1).bind fun x5=>
  some (.go ({ s1.1 with Base:=x4 },x5))
 else
  some (.ex 2 (s1.1,s1.2))
def vested_After (t_:Town) (lot_:Int) (ph_:Phase):Option (Town):=
 (slices_Clone_Placed t_.Built).bind fun x1=>
 (slices_Clone_Entry t_.Base).bind fun x2=>
 (iterL (vested_After_L0 lot_ ph_) (ph_.Volumes.length + 1) ({ ({ t_ with Built:=x1 }:Town) with Base:=x2 },0)).bind fun f1=>match f1 with
  | .go _=>none
  | .ex _ s1 =>
   (iterL (vested_After_L1 ph_) (ph_.Gives.length + 1) (s1.1,0)).bind fun f2=>match f2 with
    | .go _=>none
    | .ex _ s2=>
     some s2.1
    | .ret r1=>some r1
  | .ret r2=>some r2
theorem vested_After_ok {k0:K} {v0 v1 v2:Value} {t_:Town} {lot_:Int} {ph_:Phase} {r:Town} (i0:(IsV t_) v0 k0) (i1:(IsV lot_) v1 k0) (i2:(IsV ph_) v2 k0) (hr:vested_After t_ lot_ ph_ = some r) :
  Calls Tryz.prog 15 #[v0,v1,v2] k0.w (Ret k0 (IsV r)):=by
 unfold vested_After at hr
 refine Ret.ofC ?_
 refine enterK Tryz.func15 rfl Tryz.ntmps15 (show 3 ≤ 56 by decide) fun a k hk0 hs hd ha=>?_
 obtain ⟨e0,e1,e2,_⟩:=ha
 replace i0:(IsV t_) (a.get 0) k:=by rw [e0,hk0]; exact i0
 replace i1:(IsV lot_) (a.get 1) k:=by rw [e1,hk0]; exact i1
 replace i2:(IsV ph_) (a.get 2) k:=by rw [e2,hk0]; exact i2
 have hQ:Gb.LetsOut (bodyPost Tryz.prog Tryz.f15 (RetC noF k0 (IsV r))):=letsOutC
 have hg:Chg noF k0 k:=by rw [hk0]; exact Chg.refl _ k0
 refine cutS (fun c l=>Bs noF k0 56 c l∧IsV lot_ (c.get 1) l∧IsRef ph_ (c.get 5) l∧(∃ b3,c.get 3 = .pointer (some ⟨b3,0,none⟩)∧Lo k0 (Eq b3)∧Gb.Box b3 t_ l∧(∃ b6,c.get 6 = .pointer (some ⟨b6,0,none⟩)∧Lo k0 (Eq b6)∧Gb.Box b6 (⟨(⟨[],[],[],[],[],[],[],0⟩:Plan),[],[],[],[],[]⟩:Town) l∧Apart (Eq b3) (Eq b6)∧True))) ?_ ?_
 ·intro Q1 W1 w1
  refine gS 2 (⟨some (IsBox k.w.heap.size t_),[(0,none)]⟩::⟨some (IsRef ph_),[(2,none)]⟩::[]) hs (by kernel_rfl) ⟨ob1 rfl fun _ _ h n=>ok_box _ h.size rfl (up i0 h n.1),ob1 rfl fun _ _ h n=>ok_boxR rfl (up i2 h n.1),trivial⟩ W1 fun b q p=>?_
  have hgq:=hg.then p.grow
  have hsb:=p.size.trans hs
  have hdb:=p.defers.trans hd
  have j1:=p.ke 1 rfl i1
  obtain ⟨b3,j3,x3,z3⟩:(IsBox k.w.heap.size t_) (b.get 3) q:=p.ou 0 3 rfl
  replace x3:Lo k (Eq b3):=Lo.eq x3
  have y3:Lo k0 (Eq b3):=x3.chg hg
  have j5:(IsRef ph_) (b.get 5) q:=p.ou 1 5 rfl
  refine tail_does (i:=2) (d:=6) rfl rfl rfl (by rw [hsb]; decide) W1 (ok_alloc _ (Nat.le_refl _) rfl z37) fun b2 q2 hsz hdf hoth hgr hnew=>?_
  obtain ⟨b6,jn,xn,zn⟩:=hnew
  have v3:Apart (Eq b3) (Eq b6):=Apart.new z3.ltF (Lo.eq xn)
  have yn:Lo k0 (Eq b6):=(Lo.eq xn).chg hgq
  replace j1:=Pers.pers hgr.le j1
  replace z3:=z3.grow hgr
  replace j5:=Pers.pers hgr.le j5
  replace hgq:=hgq.then hgr
  rw [← hoth 1 (by decide)] at j1
  rw [← hoth 3 (by decide)] at j3
  rw [← hoth 5 (by decide)] at j5
  have w3_6:=v3
  have j6:=jn
  have z6:=zn
  have y6:=yn
  replace hsb:=hsz.trans hsb
  replace hdb:=hdf.trans hdb
  clear hgr hsz hdf hoth jn zn yn xn
  obtain ⟨b,hbb⟩ : ∃ b,b = b2:=⟨b2,rfl⟩
  subst hbb
  obtain ⟨q,hqq⟩ : ∃ q,q = q2:=⟨q2,rfl⟩
  subst hqq
  exact tail_done (k:=q) (w1 _ _ ⟨⟨hgq,hsb,hdb⟩,j1,j5,b3,j3,y3,z3,b6,j6,y6,z6,w3_6,trivial⟩)
 rintro a k ⟨⟨hg,hs,hd⟩,i1,i5,b3,i3,n3,c3,b6,i6,n6,c6,d3_6,_⟩
 refine wp_seq ?_
 obtain ⟨x1,hx1,hr⟩:=bind_some hr
 obtain ⟨x2,hx2,hr⟩:=bind_some hr
 refine cut (fun a' k'=>∃ F3,Bs noF k0 56 a' k'∧(IsV lot_) (a'.get 1) k'∧(BoxH b3 [ho_37_4,ho_37_5] [ho_37_4,ho_37_5] ({ ({ t_ with Built:=x1 }:Town) with Base:=x2 })) F3 (a'.get 3) k'∧Lo k0 F3∧(IsRef ph_) (a'.get 5) k'∧a'.get 6 = .pointer (some ⟨b6,0,none⟩)∧Lo k0 (Eq b6)∧Gb.Box b6 (⟨(⟨[],[],[],[],[],[],[],0⟩:Plan),[],[],[],[],[]⟩:Town) k'∧Apart F3 (Eq b6)∧True) ?_ hQ ?_
 ·intro Q2 W2 w2
  refine region (m:=7) (_::_::_::_::_::_::_::[]) hmix hs (by kernel_rfl) ⟨o1 [(3,none)] rfl fun _ _ h n=>ok_fieldAddr rfl fo37_4 (at_Town_4 _) ⟨_,(upE i3 n.1),(c3.grow h).at⟩,o1 [(11,some 0)] rfl fun _ _ h n=>ok_load rfl ty34 n.1,o1 [(12,some 1)] rfl fun _ _ h n=>ok_call rfl Tryz.call33 (ret_weaken h.size (slices_Clone_Placed_okO n.1 hx1)),o1 [(3,none)] rfl fun _ _ h n=>ok_fieldAddr rfl fo37_5 (at_Town_5 _) ⟨_,(upE i3 n.1),(c3.grow h).at⟩,o1 [(14,some 3)] rfl fun _ _ h n=>ok_load rfl ty35 n.1,o1 [(15,some 4)] rfl fun _ _ h n=>ok_call rfl Tryz.call34 (ret_weaken h.size (slices_Clone_Entry_okO n.1 hx2)),o1 [(3,none)] rfl fun _ _ h n=>ok_fieldAdr rfl fo37_4 (upE i3 n.1),trivial⟩ W2 fun b q p=>?_
  have hgq:=hg.then p.grow
  have hsb:=p.size.trans hs
  have hdb:=p.defers.trans hd
  have j1:=p.ke 1 rfl i1
  have j3:=upE i3 (p.old 3 rfl)
  have z3:=Gb.Box.grow c3 p.grow
  have y3:=n3
  have j5:=p.ke 5 rfl i5
  have j6:=upE i6 (p.old 6 rfl)
  have z6:=Gb.Box.grow c6 p.grow
  have y6:=n6
  have j13:(IsOwn k.w.heap.size 97 x1) (b.get 13) q:=p.ou 2 13 rfl
  have x13:Lo k (obF (b.get 13)):=j13.loF
  have y13:=x13.chg hg
  replace j13:=j13.weaken (Nat.zero_le _)
  have j16:(IsOwn k.w.heap.size 99 x2) (b.get 16) q:=p.ou 5 16 rfl
  have x16:Lo k (obF (b.get 16)):=j16.loF
  have y16:=x16.chg hg
  replace j16:=j16.weaken (Nat.zero_le _)
  have j17:IsAdr b3 (11) (b.get 17) q:=p.ou 6 17 rfl
  have w3_6:Apart (Eq b3) (Eq b6):=by exact d3_6
  have w3_13:Apart (Eq b3) (obF (b.get 13)):=Apart.new c3.ltF x13
  have w3_16:Apart (Eq b3) (obF (b.get 16)):=Apart.new c3.ltF x16
  have w6_13:Apart (Eq b6) (obF (b.get 13)):=Apart.new c6.ltF x13
  have w6_16:Apart (Eq b6) (obF (b.get 16)):=Apart.new c6.ltF x16
  have w13_16:Apart (obF (b.get 13)) (obF (b.get 16)):=own_tag j13 j16 (by decide)
  obtain ⟨F3,jn,hFe⟩ : ∃ F,BoxH b3 [ho_37_4,ho_37_5] [] t_ F (b.get 3) q∧F = Eq b3:=⟨_,Box.open z3 hu_37_4_37_5 j3,rfl⟩
  replace j3:=jn
  replace y3:Lo k0 F3:=by rw [hFe]; exact y3
  replace w3_6:Apart F3 (Eq b6):=by rw [hFe]; exact w3_6
  replace w3_13:Apart F3 (obF (b.get 13)):=by rw [hFe]; exact w3_13
  replace w3_16:Apart F3 (obF (b.get 16)):=by rw [hFe]; exact w3_16
  clear jn hFe z3
  refine tail_storeH (i:=7) (g:=ho_37_4) (x':=({ t_ with Built:=x1 }:Town)) rfl rfl rfl rfl szf34 j17 j3 (by decide) ⟨_,(.head _),rfl⟩ rfl (fun _ _ _ h=>h) (fun _ h=>nomatch h) j13 (w3_13.symm) fun q2 FF hch hz hF=>?_
  have hns:=Rsc.nsh j3
  have hle:=hch.le hns
  replace hgq:=hgq.step hch y3.wr
  replace j1:=Pers.pers hle j1
  replace j5:=Pers.pers hle j5
  replace z6:=z6.keep hch ((w3_6.symm) _ rfl) hns
  replace j16:=j16.keep hch (w3_16.symm) hns
  replace j17:=Pers.pers hle j17
  have wn6:Apart FF (Eq b6):=fun c h=>(hF c h).elim (fun h=>w3_6 c h) (fun h=>(w6_13.symm) c h)
  have wn16:Apart FF (obF (b.get 16)):=fun c h=>(hF c h).elim (fun h=>w3_16 c h) (fun h=>w13_16 c h)
  have yn:Lo k0 FF:=fun c h=>(hF c h).elim (fun h=>y3 c h) (fun h=>y13 c h)
  clear hns hle hch hF
  obtain ⟨F3,hFe⟩ : ∃ F,F = FF:=⟨FF,rfl⟩
  subst hFe
  replace j3:=hz
  replace y3:=yn
  clear hz yn
  have w3_6:Apart F3 (Eq b6):=wn6
  clear wn6
  have w3_16:Apart F3 (obF (b.get 16)):=wn16
  clear wn16
  obtain ⟨q,hqq⟩ : ∃ q,q = q2:=⟨q2,rfl⟩
  subst hqq
  refine tail_does (R:=IsAdr b3 (12)) (i:=8) (d:=18) rfl rfl rfl (by rw [hsb]; decide) W2 (ok_fieldAdr rfl fo37_5 (BoxH.ptr j3)) fun b2 q2 hsz hdf hoth hgr hnew=>?_
  replace j1:=Pers.pers hgr.le j1
  replace j3:=Rsc.grow j3 hgr
  replace j5:=Pers.pers hgr.le j5
  replace z6:=z6.grow hgr
  replace j16:=Mono.mono hgr j16
  replace j17:=Pers.pers hgr.le j17
  replace hgq:=hgq.then hgr
  rw [← hoth 1 (by decide)] at j1
  rw [← hoth 3 (by decide)] at j3
  rw [← hoth 5 (by decide)] at j5
  rw [← hoth 6 (by decide)] at j6
  rw [← hoth 16 (by decide)] at j16
  rw [← hoth 16 (by decide)] at y16
  rw [← hoth 17 (by decide)] at j17
  rw [← hoth 16 (by decide)] at w3_16
  rw [← hoth 16 (by decide)] at w6_16
  have j18:=hnew
  replace hsb:=hsz.trans hsb
  replace hdb:=hdf.trans hdb
  clear hgr hsz hdf hoth hnew
  obtain ⟨b,hbb⟩ : ∃ b,b = b2:=⟨b2,rfl⟩
  subst hbb
  obtain ⟨q,hqq⟩ : ∃ q,q = q2:=⟨q2,rfl⟩
  subst hqq
  refine tail_storeH (i:=9) (g:=ho_37_5) (x':=({ ({ t_ with Built:=x1 }:Town) with Base:=x2 }:Town)) rfl rfl rfl rfl szf35 j18 j3 (by decide) ⟨_,(.tail _ (.head _)),rfl⟩ rfl (fun _ _ _ h=>h) (fun _ h=>by cases h with | head=>decide | tail _ h=>exact nomatch h) j16 (w3_16.symm) fun q2 FF hch hz hF=>?_
  have hns:=Rsc.nsh j3
  have hle:=hch.le hns
  replace hgq:=hgq.step hch y3.wr
  replace j1:=Pers.pers hle j1
  replace j5:=Pers.pers hle j5
  replace z6:=z6.keep hch ((w3_6.symm) _ rfl) hns
  replace j17:=Pers.pers hle j17
  replace j18:=Pers.pers hle j18
  have wn6:Apart FF (Eq b6):=fun c h=>(hF c h).elim (fun h=>w3_6 c h) (fun h=>(w6_16.symm) c h)
  have yn:Lo k0 FF:=fun c h=>(hF c h).elim (fun h=>y3 c h) (fun h=>y16 c h)
  clear hns hle hch hF
  obtain ⟨F3,hFe⟩ : ∃ F,F = FF:=⟨FF,rfl⟩
  subst hFe
  replace j3:=hz
  replace y3:=yn
  clear hz yn
  have w3_6:Apart F3 (Eq b6):=wn6
  clear wn6
  obtain ⟨q,hqq⟩ : ∃ q,q = q2:=⟨q2,rfl⟩
  subst hqq
  replace j3:=BoxH.swap j3
  exact tail_done (k:=q) (w2 _ _ ⟨F3,⟨hgq,hsb,hdb⟩,j1,j3,y3,j5,j6,y6,z6,w3_6,trivial⟩)
 rintro a k ⟨F3,⟨hg,hs,hd⟩,i1,i3,n3,i5,i6,n6,c6,d3_6,_⟩
 refine wp_seq ?_
 refine cutS (fun c l=>∃ F3,Bs noF k0 56 c l∧IsV lot_ (c.get 1) l∧(BoxH b3 [ho_37_4,ho_37_5] [ho_37_4,ho_37_5] ({ ({ t_ with Built:=x1 }:Town) with Base:=x2 })) F3 (c.get 3) l∧Lo k0 F3∧IsRef ph_ (c.get 5) l∧c.get 6 = .pointer (some ⟨b6,0,none⟩)∧Lo k0 (Eq b6)∧Gb.Box b6 (⟨(⟨[],[],[],[],[],[],[],0⟩:Plan),[],[],[],[],[]⟩:Town) l∧IsV ph_.Volumes (c.get 20) l∧IsI (ph_.Volumes.length:Int) (c.get 21) l∧IsI 0 (c.get 22) l∧Apart F3 (Eq b6)∧True) ?_ ?_
 ·intro Q3 W3 w3
  refine gS 4 (_::_::_::⟨some (IsI 0),[]⟩::[]) hs (by kernel_rfl) ⟨o1 [(5,none)] rfl fun _ _ h n=>ok_fieldAddr rfl fo46_0 (at_Phase_0 _) ((up i5 h n.1)).ptr,o1 [(19,some 0)] rfl fun _ _ h n=>ok_load rfl ty44 n.1,o1 [(20,some 1)] rfl fun _ _ h n=>ok_len rfl rfl Tryz.underlying44 (IsV.rd n.1),ob1 rfl fun _ _ h n=>ok_move rfl (cI rfl),trivial⟩ W3 fun b q p=>?_
  exact tail_done (k:=q) (w3 _ _ ⟨F3,Bs.post ⟨hg,hs,hd⟩ p,p.ke 1 rfl i1,p.ke 3 rfl i3,n3,p.ke 5 rfl i5,upE i6 (p.old 6 rfl),n6,Gb.Box.grow c6 p.grow,p.ou 1 20 rfl,p.ou 2 21 rfl,p.ou 3 22 rfl,d3_6,trivial⟩)
 rintro a k ⟨F3,⟨hg,hs,hd⟩,i1,i3,n3,i5,i6,n6,c6,i20,i21,i22,d3_6,_⟩
 refine wp_block ?_
 obtain ⟨f1,hf1,hr⟩:=bind_some hr
 refine cutFe f1 (fun s' c l=>∃ F3,Bs noF k0 56 c l∧IsV lot_ (c.get 1) l∧(BoxH b3 [ho_37_4,ho_37_5] [ho_37_4,ho_37_5] s'.1) F3 (c.get 3) l∧Lo k0 F3∧IsRef ph_ (c.get 5) l∧c.get 6 = .pointer (some ⟨b6,0,none⟩)∧Lo k0 (Eq b6)∧Gb.Box b6 (⟨(⟨[],[],[],[],[],[],[],0⟩:Plan),[],[],[],[],[]⟩:Town) l∧IsV ph_.Volumes (c.get 20) l∧IsI (ph_.Volumes.length:Int) (c.get 21) l∧IsV s'.2 (c.get 22) l∧Apart F3 (Eq b6)∧True) (fun i' s' c l=>(i' = 0∧∃ F3,Bs noF k0 56 c l∧(BoxH b3 [ho_37_4,ho_37_5] [ho_37_4,ho_37_5] s'.1) F3 (c.get 3) l∧Lo k0 F3∧IsRef ph_ (c.get 5) l∧c.get 6 = .pointer (some ⟨b6,0,none⟩)∧Lo k0 (Eq b6)∧Gb.Box b6 (⟨(⟨[],[],[],[],[],[],[],0⟩:Plan),[],[],[],[],[]⟩:Town) l∧Apart F3 (Eq b6)∧True)) (fun r' c l=>bodyPost Tryz.prog Tryz.f15 (RetC noF k0 (IsV r')) .ret c l.w) ?_ hQ ?_ ?_ ?_
 ·intro Q4 W4 hgo hex hret
  refine sim_loop ?_ _ _ _ _ _ hf1 ⟨F3,⟨hg,hs,hd⟩,i1,i3,n3,i5,i6,n6,c6,i20,i21,i22,d3_6,trivial⟩ Q4 W4 hgo hex hret
  clear hr hf1 hgo hex hret W4 hQ hg hs hd F3 c6 d3_6 i1 i20 i21 i22 i3 i5 i6 n3 n6
  intro s1 fl_ a k hr hS Q hQ hgo1059 hex1060 hret1061
  obtain ⟨F3,⟨hg,hs,hd⟩,i1,i3,n3,i5,i6,n6,c6,i20,i21,i22,d3_6,_⟩:=hS
  unfold vested_After_L0 at hr
  refine cutS (fun c l=>∃ F3,Bs noF k0 56 c l∧IsV lot_ (c.get 1) l∧(BoxH b3 [ho_37_4,ho_37_5] [ho_37_4,ho_37_5] s1.1) F3 (c.get 3) l∧Lo k0 F3∧IsRef ph_ (c.get 5) l∧c.get 6 = .pointer (some ⟨b6,0,none⟩)∧Lo k0 (Eq b6)∧Gb.Box b6 (⟨(⟨[],[],[],[],[],[],[],0⟩:Plan),[],[],[],[],[]⟩:Town) l∧IsV ph_.Volumes (c.get 20) l∧IsI (ph_.Volumes.length:Int) (c.get 21) l∧IsV s1.2 (c.get 22) l∧(IsV (decide (s1.2 < (ph_.Volumes.length:Int)))) (c.get 23) l∧Apart F3 (Eq b6)∧True) ?_ ?_
  ·intro Q5 W5 w4
   refine gS 1 (_::[]) hs (by kernel_rfl) ⟨o1 [(22,none),(21,none)] rfl fun _ _ h n=>ok_lss rfl (up i22 h n.1) (up i21 h n.2.1),trivial⟩ W5 fun b q p=>?_
   exact tail_done (k:=q) (w4 _ _ ⟨F3,Bs.post ⟨hg,hs,hd⟩ p,p.ke 1 rfl i1,p.ke 3 rfl i3,n3,p.ke 5 rfl i5,upE i6 (p.old 6 rfl),n6,Gb.Box.grow c6 p.grow,p.ke 20 rfl i20,p.ke 21 rfl i21,p.ke 22 rfl i22,p.ou 0 23 rfl,d3_6,trivial⟩)
  rintro a k ⟨F3,⟨hg,hs,hd⟩,i1,i3,n3,i5,i6,n6,c6,i20,i21,i22,i23,d3_6,_⟩
  refine wp_seq ?_
  refine wp_cond_split (isBool i23) (fun hc1072=>?_) (fun hc1072=>?_)
  ·rw [if_pos hc1072] at hr
   refine wp_skip ?_
   refine wp_seq ?_
   refine wp_block ?_
   refine wp_seq ?_
   obtain ⟨x4,hx4,hr⟩:=bind_some hr
   refine cut (fun a' k'=>∃ F3,Bs noF k0 56 a' k'∧(IsV lot_) (a'.get 1) k'∧(BoxH b3 [ho_37_4,ho_37_5] [ho_37_4,ho_37_5] s1.1) F3 (a'.get 3) k'∧Lo k0 F3∧(IsRef ph_) (a'.get 5) k'∧a'.get 6 = .pointer (some ⟨b6,0,none⟩)∧Lo k0 (Eq b6)∧Gb.Box b6 (⟨(⟨[],[],[],[],[],[],[],0⟩:Plan),[],[],[],[],[]⟩:Town) k'∧(IsRef x4) (a'.get 8) k'∧(IsV ph_.Volumes) (a'.get 20) k'∧(IsI (ph_.Volumes.length:Int)) (a'.get 21) k'∧(IsV s1.2) (a'.get 22) k'∧Apart F3 (Eq b6)∧True) ?_ hQ ?_
   ·intro Q6 W6 w5
    refine gS 3 (_::_::⟨some (IsBox k.w.heap.size (⟨(⟨(⟨0,0,0,0⟩:Rect),0,0⟩:Box),0,0,false⟩:Volume)),[]⟩::[]) hs (by kernel_rfl) ⟨o1 [(20,none),(22,none)] rfl fun _ _ h n=>ok_indexAddr rfl Tryz.underlying44 ty83 (IsV.rd (up i20 h n.1)) (up i22 h n.2.1) hx4,o1 [(24,some 0)] rfl fun _ _ h n=>ok_load rfl ty83 n.1,ob1 rfl fun _ _ h n=>ok_alloc _ h.size rfl z83,trivial⟩ W6 fun b q p=>?_
    have hgq:=hg.then p.grow
    have hsb:=p.size.trans hs
    have hdb:=p.defers.trans hd
    have j1:=p.ke 1 rfl i1
    have j3:(BoxH b3 [ho_37_4,ho_37_5] [ho_37_4,ho_37_5] s1.1) F3 (b.get 3) q:=p.ke 3 rfl i3
    have y3:=n3
    have j5:=p.ke 5 rfl i5
    have j6:=upE i6 (p.old 6 rfl)
    have z6:=Gb.Box.grow c6 p.grow
    have y6:=n6
    obtain ⟨b8,j8,x8,z8⟩:(IsBox k.w.heap.size (⟨(⟨(⟨0,0,0,0⟩:Rect),0,0⟩:Box),0,0,false⟩:Volume)) (b.get 8) q:=p.ou 2 8 rfl
    replace x8:Lo k (Eq b8):=Lo.eq x8
    have y8:Lo k0 (Eq b8):=x8.chg hg
    have j20:=p.ke 20 rfl i20
    have j21:=p.ke 21 rfl i21
    have j22:=p.ke 22 rfl i22
    have j25:(IsV x4) (b.get 25) q:=p.ou 1 25 rfl
    have w3_6:Apart F3 (Eq b6):=by exact d3_6
    have w3_8:Apart F3 (Eq b8):=Apart.new (Rsc.lt i3) x8
    have w6_8:Apart (Eq b6) (Eq b8):=Apart.new c6.ltF x8
    have hns:=z8.nshF
    refine tail_storeB (i:=3) rfl rfl rfl rfl szf83 (Upd.self (α:=Volume)) j8 z8 j25 fun q2 hch hz=>?_
    replace hgq:=hgq.step hch y8.wr
    have hle:=hch.le hns
    replace j1:=Pers.pers hle j1
    replace j3:=Rsc.keep j3 hch w3_8 hns
    replace j5:=Pers.pers hle j5
    replace z6:=z6.keep hch (w6_8 _ rfl) hns
    replace j20:=Pers.pers hle j20
    replace j21:=Pers.pers hle j21
    replace j22:=Pers.pers hle j22
    replace j25:=Pers.pers hle j25
    replace z8:=hz
    clear hns hle hch
    obtain ⟨q,hqq⟩ : ∃ q,q = q2:=⟨q2,rfl⟩
    subst hqq
    obtain ⟨q2,hsh,jn⟩:=z8.give
    replace j1:=Pers.pers hsh.le j1
    replace j3:=Rsc.handed j3 hsh w3_8
    replace j5:=Pers.pers hsh.le j5
    replace z6:=z6.handed hsh (w6_8 _ rfl)
    replace j20:=Pers.pers hsh.le j20
    replace j21:=Pers.pers hsh.le j21
    replace j22:=Pers.pers hsh.le j22
    rw [← j8] at jn
    replace j8:=jn
    replace hgq:=hgq.hand hsh y8.wr
    rw [← hsh.w]
    clear hsh
    obtain ⟨q,hqq⟩ : ∃ q,q = q2:=⟨q2,rfl⟩
    subst hqq
    exact tail_done (k:=q) (w5 _ _ ⟨F3,⟨hgq,hsb,hdb⟩,j1,j3,y3,j5,j6,y6,z6,j8,j20,j21,j22,w3_6,trivial⟩)
   rintro a k ⟨F3,⟨hg,hs,hd⟩,i1,i3,n3,i5,i6,n6,c6,i8,i20,i21,i22,d3_6,_⟩
   obtain ⟨x5,hx5,hr⟩:=bind_some hr
   refine cut (fun a' k'=>∃ F3,Bs noF k0 56 a' k'∧(IsV lot_) (a'.get 1) k'∧(BoxH b3 [ho_37_4,ho_37_5] [ho_37_4,ho_37_5] ({ s1.1 with Built:=x5 })) F3 (a'.get 3) k'∧Lo k0 F3∧(IsRef ph_) (a'.get 5) k'∧a'.get 6 = .pointer (some ⟨b6,0,none⟩)∧Lo k0 (Eq b6)∧Gb.Box b6 (⟨(⟨[],[],[],[],[],[],[],0⟩:Plan),[],[],[],[],[]⟩:Town) k'∧(IsV ph_.Volumes) (a'.get 20) k'∧(IsI (ph_.Volumes.length:Int)) (a'.get 21) k'∧(IsV s1.2) (a'.get 22) k'∧Apart F3 (Eq b6)∧True) ?_ hQ ?_
   ·intro Q7 W7 w6
    refine gS 6 (_::⟨some (HdAt b3 ho_37_4.off),[(26,some 0)]⟩::_::_::⟨some (IsV (⟨lot_,x4⟩:Placed)),[(28,some 2),(29,some 3)]⟩::⟨some (IsV (α:=(List Placed)) ([(⟨lot_,x4⟩:Placed)])),[(30,some 4)]⟩::[]) hs (by kernel_rfl) ⟨o1 [(3,none)] rfl fun _ _ h n=>ok_fieldAdr rfl fo37_4 (upE (BoxH.ptr i3) n.1),ob1 rfl fun _ _ h n=>ok_loadH (g:=ho_37_4) rfl Tryz.underlying34 szf34 n.1 (Rsc.grow i3 h) (.head _),mu rfl i1,o1 [(8,none)] rfl fun _ _ h n=>ok_load rfl ty83 ((up i8 h n.1)).ptr,ob1 rfl fun _ _ h n=>ok_build rfl (bld97_0_1 n.1 n.2.1),ob1 rfl fun _ _ h n=>ok_buildSlice rfl Tryz.underlying34 eo97 rfl (by decide) (by decide) ⟨rfl,n.1,trivial⟩,trivial⟩ W7 fun b q p=>?_
    have hgq:=hg.then p.grow
    have hsb:=p.size.trans hs
    have hdb:=p.defers.trans hd
    have j1:=p.ke 1 rfl i1
    have j3:(BoxH b3 [ho_37_4,ho_37_5] [ho_37_4,ho_37_5] s1.1) F3 (b.get 3) q:=p.ke 3 rfl i3
    have y3:=n3
    have j5:=p.ke 5 rfl i5
    have j6:=upE i6 (p.old 6 rfl)
    have z6:=Gb.Box.grow c6 p.grow
    have y6:=n6
    have j20:=p.ke 20 rfl i20
    have j21:=p.ke 21 rfl i21
    have j22:=p.ke 22 rfl i22
    have j27:(HdAt b3 ho_37_4.off) (b.get 27) q:=p.ou 1 27 rfl
    have j31:(IsV (α:=(List Placed)) ([(⟨lot_,x4⟩:Placed)])) (b.get 31) q:=p.ou 5 31 rfl
    have w3_6:Apart F3 (Eq b6):=by exact d3_6
    obtain ⟨F3,jt,jo,jw,jf,je⟩:=BoxH.take j3 j27
    have wo6:Apart (obF (b.get 27)) (Eq b6):=fun c h=>w3_6 c (je c h)
    have wn6:Apart F3 (Eq b6):=fun c h=>w3_6 c (jf c h)
    have y27:Lo k0 (obF (b.get 27)):=fun c h=>y3 c (je c h)
    replace y3:Lo k0 F3:=fun c h=>y3 c (jf c h)
    replace j3:=jt
    replace j27:IsOwn 0 97 s1.1.Built (b.get 27) q:=jo
    have w6_27:Apart (Eq b6) (obF (b.get 27)):=(wo6).symm
    have w3_6:Apart F3 (Eq b6):=wn6
    have w3_27:Apart F3 (obF (b.get 27)):=(jw).symm
    clear jt jo jw jf je wo6 wn6
    have hns:=j27.nshF
    refine tail_appendS (i:=6) (d:=32) rfl rfl rfl rfl (by rw [hsb]; decide) (e:=97) Tryz.underlying34 eo97 j27 (IsV.rd j31) hx5 fun b2 q2 hsz hdf hoth hch hown hob=>?_
    have hle:=hch.le hns
    have yn:Lo k0 (obF (b2.get 32)):=y27.app hgq hob
    have v3:Apart F3 (obF (b2.get 32)):=Apart.app w3_27 (Rsc.lt j3) hob
    have v6:Apart (Eq b6) (obF (b2.get 32)):=Apart.app w6_27 z6.ltF hob
    replace j1:=Pers.pers hle j1
    replace j3:=Rsc.keep j3 hch w3_27 hns
    replace j5:=Pers.pers hle j5
    replace z6:=z6.keep hch (w6_27 _ rfl) hns
    replace j20:=Pers.pers hle j20
    replace j21:=Pers.pers hle j21
    replace j22:=Pers.pers hle j22
    replace j31:=Pers.pers hle j31
    replace hgq:=hgq.step hch y27.wr
    rw [← hoth 1 (by decide)] at j1
    rw [← hoth 3 (by decide)] at j3
    rw [← hoth 5 (by decide)] at j5
    rw [← hoth 6 (by decide)] at j6
    rw [← hoth 20 (by decide)] at j20
    rw [← hoth 21 (by decide)] at j21
    rw [← hoth 22 (by decide)] at j22
    rw [← hoth 31 (by decide)] at j31
    have w3_32:=v3
    have w6_32:=v6
    have j32:=hown
    have y32:=yn
    replace hsb:=hsz.trans hsb
    replace hdb:=hdf.trans hdb
    clear hle hch hown hob hns yn hsz hdf hoth
    obtain ⟨b,hbb⟩ : ∃ b,b = b2:=⟨b2,rfl⟩
    subst hbb
    obtain ⟨q,hqq⟩ : ∃ q,q = q2:=⟨q2,rfl⟩
    subst hqq
    refine tail_does (R:=IsAdr b3 (11)) (i:=7) (d:=33) rfl rfl rfl (by rw [hsb]; decide) W7 (ok_fieldAdr rfl fo37_4 (BoxH.ptr j3)) fun b2 q2 hsz hdf hoth hgr hnew=>?_
    replace j1:=Pers.pers hgr.le j1
    replace j3:=Rsc.grow j3 hgr
    replace j5:=Pers.pers hgr.le j5
    replace z6:=z6.grow hgr
    replace j20:=Pers.pers hgr.le j20
    replace j21:=Pers.pers hgr.le j21
    replace j22:=Pers.pers hgr.le j22
    replace j31:=Pers.pers hgr.le j31
    replace j32:=Mono.mono hgr j32
    replace hgq:=hgq.then hgr
    rw [← hoth 1 (by decide)] at j1
    rw [← hoth 3 (by decide)] at j3
    rw [← hoth 5 (by decide)] at j5
    rw [← hoth 6 (by decide)] at j6
    rw [← hoth 20 (by decide)] at j20
    rw [← hoth 21 (by decide)] at j21
    rw [← hoth 22 (by decide)] at j22
    rw [← hoth 31 (by decide)] at j31
    rw [← hoth 32 (by decide)] at j32
    rw [← hoth 32 (by decide)] at y32
    rw [← hoth 32 (by decide)] at w3_32
    rw [← hoth 32 (by decide)] at w6_32
    have j33:=hnew
    replace hsb:=hsz.trans hsb
    replace hdb:=hdf.trans hdb
    clear hgr hsz hdf hoth hnew
    obtain ⟨b,hbb⟩ : ∃ b,b = b2:=⟨b2,rfl⟩
    subst hbb
    obtain ⟨q,hqq⟩ : ∃ q,q = q2:=⟨q2,rfl⟩
    subst hqq
    refine tail_storeH (i:=8) (g:=ho_37_4) (x':=({ s1.1 with Built:=x5 }:Town)) rfl rfl rfl rfl szf34 j33 j3 (by decide) ⟨_,(.head _),rfl⟩ rfl (fun _ _ _ h=>h) (fun _ h=>by cases h with | head=>decide | tail _ h=>exact nomatch h) j32 (w3_32.symm) fun q2 FF hch hz hF=>?_
    have hns:=Rsc.nsh j3
    have hle:=hch.le hns
    replace hgq:=hgq.step hch y3.wr
    replace j1:=Pers.pers hle j1
    replace j5:=Pers.pers hle j5
    replace z6:=z6.keep hch ((w3_6.symm) _ rfl) hns
    replace j20:=Pers.pers hle j20
    replace j21:=Pers.pers hle j21
    replace j22:=Pers.pers hle j22
    replace j31:=Pers.pers hle j31
    replace j33:=Pers.pers hle j33
    have wn6:Apart FF (Eq b6):=fun c h=>(hF c h).elim (fun h=>w3_6 c h) (fun h=>(w6_32.symm) c h)
    have yn:Lo k0 FF:=fun c h=>(hF c h).elim (fun h=>y3 c h) (fun h=>y32 c h)
    clear hns hle hch hF
    obtain ⟨F3,hFe⟩ : ∃ F,F = FF:=⟨FF,rfl⟩
    subst hFe
    replace j3:=hz
    replace y3:=yn
    clear hz yn
    have w3_6:Apart F3 (Eq b6):=wn6
    clear wn6
    obtain ⟨q,hqq⟩ : ∃ q,q = q2:=⟨q2,rfl⟩
    subst hqq
    exact tail_done (k:=q) (w6 _ _ ⟨F3,⟨hgq,hsb,hdb⟩,j1,j3,y3,j5,j6,y6,z6,j20,j21,j22,w3_6,trivial⟩)
   rintro a k ⟨F3,⟨hg,hs,hd⟩,i1,i3,n3,i5,i6,n6,c6,i20,i21,i22,d3_6,_⟩
   obtain ⟨x6,hx6,hr⟩:=bind_some hr
   refine cut (fun a' k'=>∃ F3,Bs noF k0 56 a' k'∧(IsV lot_) (a'.get 1) k'∧(BoxH b3 [ho_37_4,ho_37_5] [ho_37_4,ho_37_5] ({ s1.1 with Built:=x5 })) F3 (a'.get 3) k'∧Lo k0 F3∧(IsRef ph_) (a'.get 5) k'∧a'.get 6 = .pointer (some ⟨b6,0,none⟩)∧Lo k0 (Eq b6)∧Gb.Box b6 (⟨(⟨[],[],[],[],[],[],[],0⟩:Plan),[],[],[],[],[]⟩:Town) k'∧(IsV ph_.Volumes) (a'.get 20) k'∧(IsI (ph_.Volumes.length:Int)) (a'.get 21) k'∧(IsV x6) (a'.get 22) k'∧Apart F3 (Eq b6)∧True) ?_ hQ ?_
   ·intro Q8 W8 w7
    refine gS 2 (_::_::[]) hs (by kernel_rfl) ⟨o1 [(22,none)] rfl fun _ _ h n=>ok_add rfl (up i22 h n.1) (cI rfl) hx6,cm 0 rfl rfl,trivial⟩ W8 fun b q p=>?_
    exact tail_done (k:=q) (w7 _ _ ⟨F3,Bs.post ⟨hg,hs,hd⟩ p,p.ke 1 rfl i1,p.ke 3 rfl i3,n3,p.ke 5 rfl i5,upE i6 (p.old 6 rfl),n6,Gb.Box.grow c6 p.grow,p.ke 20 rfl i20,p.ke 21 rfl i21,p.ou 1 22 rfl,d3_6,trivial⟩)
   rintro a k ⟨F3,⟨hg,hs,hd⟩,i1,i3,n3,i5,i6,n6,c6,i20,i21,i22,d3_6,_⟩
   exact hgo1059 _ _ _ (Option.some.inj hr).symm ⟨F3,⟨hg,hs,hd⟩,i1,i3,n3,i5,i6,n6,c6,i20,i21,i22,d3_6,trivial⟩
  rw [if_neg (by rw [hc1072]; decide)] at hr
  refine wp_exit ?_
  exact hex1060 _ _ _ _ (Option.some.inj hr).symm ⟨rfl,F3,⟨hg,hs,hd⟩,i3,n3,i5,i6,n6,c6,d3_6,trivial⟩
 ·rintro r1 a k rfl hR
  dsimp only at hr
  obtain rfl:=Option.some.inj hr
  exact hR
 ·rintro _ _ _ rfl _
  simp at hr
 clear hf1
 rintro _ s2 a k rfl ⟨rfl,F3,⟨hg,hs,hd⟩,i3,n3,i5,i6,n6,c6,d3_6,_⟩
 dsimp only at hr
 refine wp_seq ?_
 refine cutS (fun c l=>∃ F3,Bs noF k0 56 c l∧(BoxH b3 [ho_37_4,ho_37_5] [ho_37_4,ho_37_5] s2.1) F3 (c.get 3) l∧Lo k0 F3∧c.get 6 = .pointer (some ⟨b6,0,none⟩)∧Lo k0 (Eq b6)∧Gb.Box b6 (⟨(⟨[],[],[],[],[],[],[],0⟩:Plan),[],[],[],[],[]⟩:Town) l∧IsV ph_.Gives (c.get 36) l∧IsI (ph_.Gives.length:Int) (c.get 37) l∧IsI 0 (c.get 38) l∧Apart F3 (Eq b6)∧True) ?_ ?_
 ·intro Q9 W9 w8
  refine gS 4 (_::_::_::⟨some (IsI 0),[]⟩::[]) hs (by kernel_rfl) ⟨o1 [(5,none)] rfl fun _ _ h n=>ok_fieldAddr rfl fo46_1 (at_Phase_1 _) ((up i5 h n.1)).ptr,o1 [(35,some 0)] rfl fun _ _ h n=>ok_load rfl ty35 n.1,o1 [(36,some 1)] rfl fun _ _ h n=>ok_len rfl rfl Tryz.underlying35 (IsV.rd n.1),ob1 rfl fun _ _ h n=>ok_move rfl (cI rfl),trivial⟩ W9 fun b q p=>?_
  exact tail_done (k:=q) (w8 _ _ ⟨F3,Bs.post ⟨hg,hs,hd⟩ p,p.ke 3 rfl i3,n3,upE i6 (p.old 6 rfl),n6,Gb.Box.grow c6 p.grow,p.ou 1 36 rfl,p.ou 2 37 rfl,p.ou 3 38 rfl,d3_6,trivial⟩)
 rintro a k ⟨F3,⟨hg,hs,hd⟩,i3,n3,i6,n6,c6,i36,i37,i38,d3_6,_⟩
 refine wp_block ?_
 obtain ⟨f2,hf2,hr⟩:=bind_some hr
 refine cutFe f2 (fun s' c l=>∃ F3,Bs noF k0 56 c l∧(BoxH b3 [ho_37_4,ho_37_5] [ho_37_4,ho_37_5] s'.1) F3 (c.get 3) l∧Lo k0 F3∧c.get 6 = .pointer (some ⟨b6,0,none⟩)∧Lo k0 (Eq b6)∧Gb.Box b6 (⟨(⟨[],[],[],[],[],[],[],0⟩:Plan),[],[],[],[],[]⟩:Town) l∧IsV ph_.Gives (c.get 36) l∧IsI (ph_.Gives.length:Int) (c.get 37) l∧IsV s'.2 (c.get 38) l∧Apart F3 (Eq b6)∧True) (fun i' s' c l=>(i' = 2∧Bs noF k0 56 c l∧c.get 3 = .pointer (some ⟨b3,0,none⟩)∧Lo k0 (Eq b3)∧Gb.Box b3 s'.1 l∧c.get 6 = .pointer (some ⟨b6,0,none⟩)∧Lo k0 (Eq b6)∧Gb.Box b6 (⟨(⟨[],[],[],[],[],[],[],0⟩:Plan),[],[],[],[],[]⟩:Town) l∧Apart (Eq b3) (Eq b6)∧True)) (fun r' c l=>bodyPost Tryz.prog Tryz.f15 (RetC noF k0 (IsV r')) .ret c l.w) ?_ hQ ?_ ?_ ?_
 ·intro Q10 W10 hgo hex hret
  refine sim_loop ?_ _ _ _ _ _ hf2 ⟨F3,⟨hg,hs,hd⟩,i3,n3,i6,n6,c6,i36,i37,i38,d3_6,trivial⟩ Q10 W10 hgo hex hret
  clear hr hf2 hgo hex hret W10 hQ hg hs hd F3 c6 d3_6 i3 i36 i37 i38 i6 n3 n6
  intro s3 fl_ a k hr hS Q hQ hgo1079 hex1080 hret1081
  obtain ⟨F3,⟨hg,hs,hd⟩,i3,n3,i6,n6,c6,i36,i37,i38,d3_6,_⟩:=hS
  unfold vested_After_L1 at hr
  refine cutS (fun c l=>∃ F3,Bs noF k0 56 c l∧(BoxH b3 [ho_37_4,ho_37_5] [ho_37_4,ho_37_5] s3.1) F3 (c.get 3) l∧Lo k0 F3∧c.get 6 = .pointer (some ⟨b6,0,none⟩)∧Lo k0 (Eq b6)∧Gb.Box b6 (⟨(⟨[],[],[],[],[],[],[],0⟩:Plan),[],[],[],[],[]⟩:Town) l∧IsV ph_.Gives (c.get 36) l∧IsI (ph_.Gives.length:Int) (c.get 37) l∧IsV s3.2 (c.get 38) l∧(IsV (decide (s3.2 < (ph_.Gives.length:Int)))) (c.get 39) l∧Apart F3 (Eq b6)∧True) ?_ ?_
  ·intro Q11 W11 w9
   refine gS 1 (_::[]) hs (by kernel_rfl) ⟨o1 [(38,none),(37,none)] rfl fun _ _ h n=>ok_lss rfl (up i38 h n.1) (up i37 h n.2.1),trivial⟩ W11 fun b q p=>?_
   exact tail_done (k:=q) (w9 _ _ ⟨F3,Bs.post ⟨hg,hs,hd⟩ p,p.ke 3 rfl i3,n3,upE i6 (p.old 6 rfl),n6,Gb.Box.grow c6 p.grow,p.ke 36 rfl i36,p.ke 37 rfl i37,p.ke 38 rfl i38,p.ou 0 39 rfl,d3_6,trivial⟩)
  rintro a k ⟨F3,⟨hg,hs,hd⟩,i3,n3,i6,n6,c6,i36,i37,i38,i39,d3_6,_⟩
  refine wp_seq ?_
  refine wp_cond_split (isBool i39) (fun hc1093=>?_) (fun hc1093=>?_)
  ·rw [if_pos hc1093] at hr
   refine wp_skip ?_
   refine wp_seq ?_
   refine wp_block ?_
   refine wp_seq ?_
   obtain ⟨x7,hx7,hr⟩:=bind_some hr
   refine cut (fun a' k'=>∃ F3,Bs noF k0 56 a' k'∧(BoxH b3 [ho_37_4,ho_37_5] [ho_37_4,ho_37_5] s3.1) F3 (a'.get 3) k'∧Lo k0 F3∧a'.get 6 = .pointer (some ⟨b6,0,none⟩)∧Lo k0 (Eq b6)∧Gb.Box b6 (⟨(⟨[],[],[],[],[],[],[],0⟩:Plan),[],[],[],[],[]⟩:Town) k'∧(IsRef x7) (a'.get 10) k'∧(IsV ph_.Gives) (a'.get 36) k'∧(IsI (ph_.Gives.length:Int)) (a'.get 37) k'∧(IsV s3.2) (a'.get 38) k'∧Apart F3 (Eq b6)∧True) ?_ hQ ?_
   ·intro Q12 W12 w10
    refine gS 3 (_::_::⟨some (IsBox k.w.heap.size (⟨(⟨#[]⟩:ByteArray),0⟩:Entry)),[]⟩::[]) hs (by kernel_rfl) ⟨o1 [(36,none),(38,none)] rfl fun _ _ h n=>ok_indexAddr rfl Tryz.underlying35 ty99 (IsV.rd (up i36 h n.1)) (up i38 h n.2.1) hx7,o1 [(40,some 0)] rfl fun _ _ h n=>ok_load rfl ty99 n.1,ob1 rfl fun _ _ h n=>ok_alloc _ h.size rfl z99,trivial⟩ W12 fun b q p=>?_
    have hgq:=hg.then p.grow
    have hsb:=p.size.trans hs
    have hdb:=p.defers.trans hd
    have j3:(BoxH b3 [ho_37_4,ho_37_5] [ho_37_4,ho_37_5] s3.1) F3 (b.get 3) q:=p.ke 3 rfl i3
    have y3:=n3
    have j6:=upE i6 (p.old 6 rfl)
    have z6:=Gb.Box.grow c6 p.grow
    have y6:=n6
    obtain ⟨b10,j10,x10,z10⟩:(IsBox k.w.heap.size (⟨(⟨#[]⟩:ByteArray),0⟩:Entry)) (b.get 10) q:=p.ou 2 10 rfl
    replace x10:Lo k (Eq b10):=Lo.eq x10
    have y10:Lo k0 (Eq b10):=x10.chg hg
    have j36:=p.ke 36 rfl i36
    have j37:=p.ke 37 rfl i37
    have j38:=p.ke 38 rfl i38
    have j41:(IsV x7) (b.get 41) q:=p.ou 1 41 rfl
    have w3_6:Apart F3 (Eq b6):=by exact d3_6
    have w3_10:Apart F3 (Eq b10):=Apart.new (Rsc.lt i3) x10
    have w6_10:Apart (Eq b6) (Eq b10):=Apart.new c6.ltF x10
    have hns:=z10.nshF
    refine tail_storeB (i:=3) rfl rfl rfl rfl szf99 (Upd.self (α:=Entry)) j10 z10 j41 fun q2 hch hz=>?_
    replace hgq:=hgq.step hch y10.wr
    have hle:=hch.le hns
    replace j3:=Rsc.keep j3 hch w3_10 hns
    replace z6:=z6.keep hch (w6_10 _ rfl) hns
    replace j36:=Pers.pers hle j36
    replace j37:=Pers.pers hle j37
    replace j38:=Pers.pers hle j38
    replace j41:=Pers.pers hle j41
    replace z10:=hz
    clear hns hle hch
    obtain ⟨q,hqq⟩ : ∃ q,q = q2:=⟨q2,rfl⟩
    subst hqq
    obtain ⟨q2,hsh,jn⟩:=z10.give
    replace j3:=Rsc.handed j3 hsh w3_10
    replace z6:=z6.handed hsh (w6_10 _ rfl)
    replace j36:=Pers.pers hsh.le j36
    replace j37:=Pers.pers hsh.le j37
    replace j38:=Pers.pers hsh.le j38
    rw [← j10] at jn
    replace j10:=jn
    replace hgq:=hgq.hand hsh y10.wr
    rw [← hsh.w]
    clear hsh
    obtain ⟨q,hqq⟩ : ∃ q,q = q2:=⟨q2,rfl⟩
    subst hqq
    exact tail_done (k:=q) (w10 _ _ ⟨F3,⟨hgq,hsb,hdb⟩,j3,y3,j6,y6,z6,j10,j36,j37,j38,w3_6,trivial⟩)
   rintro a k ⟨F3,⟨hg,hs,hd⟩,i3,n3,i6,n6,c6,i10,i36,i37,i38,d3_6,_⟩
   obtain ⟨x9,hx9,hr⟩:=bind_some hr
   obtain ⟨x11,hx11,hr⟩:=bind_some hr
   obtain ⟨x12,hx12,hr⟩:=bind_some hr
   refine cut (fun a' k'=>∃ F3,Bs noF k0 56 a' k'∧(BoxH b3 [ho_37_4,ho_37_5] [ho_37_4,ho_37_5] ({ s3.1 with Base:=x12 })) F3 (a'.get 3) k'∧Lo k0 F3∧a'.get 6 = .pointer (some ⟨b6,0,none⟩)∧Lo k0 (Eq b6)∧Gb.Box b6 (⟨(⟨[],[],[],[],[],[],[],0⟩:Plan),[],[],[],[],[]⟩:Town) k'∧(IsV ph_.Gives) (a'.get 36) k'∧(IsI (ph_.Gives.length:Int)) (a'.get 37) k'∧(IsV s3.2) (a'.get 38) k'∧Apart F3 (Eq b6)∧True) ?_ hQ ?_
   ·intro Q13 W13 w11
    refine region (m:=10) (_::⟨some (HdAt b3 ho_37_5.off),[(42,some 0)]⟩::_::_::_::_::_::⟨some (IsV x11),[(48,some 6)]⟩::⟨some (IsV (⟨x7.Name,x11⟩:Entry)),[(45,some 3),(49,some 7)]⟩::⟨some (IsV (α:=(List Entry)) ([(⟨x7.Name,x11⟩:Entry)])),[(50,some 8)]⟩::[]) hmix hs (by kernel_rfl) ⟨o1 [(3,none)] rfl fun _ _ h n=>ok_fieldAdr rfl fo37_5 (upE (BoxH.ptr i3) n.1),ob1 rfl fun _ _ h n=>ok_loadH (g:=ho_37_5) rfl Tryz.underlying35 szf35 n.1 (Rsc.grow i3 h) (.tail _ (.head _)),o1 [(10,none)] rfl fun _ _ h n=>ok_fieldAddr rfl fo99_0 (at_Entry_0 _) ((up i10 h n.1)).ptr,o1 [(44,some 2)] rfl fun _ _ h n=>ok_load rfl ty9 n.1,o1 [(10,none)] rfl fun _ _ h n=>ok_fieldAddr rfl fo99_1 (at_Entry_1 _) ((up i10 h n.1)).ptr,o1 [(46,some 4)] rfl fun _ _ h n=>ok_load rfl ty3 n.1,o1 [(47,some 5)] rfl fun _ _ h n=>ok_call rfl Tryz.call35 (cap_Limited_ok n.1 hx9),ob1 rfl fun _ _ h n=>ok_neg rfl n.1 hx11,ob1 rfl fun _ _ h n=>ok_build rfl (bld99_0_1 n.1 n.2.1),ob1 rfl fun _ _ h n=>ok_buildSlice rfl Tryz.underlying35 eo99 rfl (by decide) (by decide) ⟨rfl,n.1,trivial⟩,trivial⟩ W13 fun b q p=>?_
    have hgq:=hg.then p.grow
    have hsb:=p.size.trans hs
    have hdb:=p.defers.trans hd
    have j3:(BoxH b3 [ho_37_4,ho_37_5] [ho_37_4,ho_37_5] s3.1) F3 (b.get 3) q:=p.ke 3 rfl i3
    have y3:=n3
    have j6:=upE i6 (p.old 6 rfl)
    have z6:=Gb.Box.grow c6 p.grow
    have y6:=n6
    have j36:=p.ke 36 rfl i36
    have j37:=p.ke 37 rfl i37
    have j38:=p.ke 38 rfl i38
    have j43:(HdAt b3 ho_37_5.off) (b.get 43) q:=p.ou 1 43 rfl
    have j51:(IsV (α:=(List Entry)) ([(⟨x7.Name,x11⟩:Entry)])) (b.get 51) q:=p.ou 9 51 rfl
    have w3_6:Apart F3 (Eq b6):=by exact d3_6
    replace j3:=BoxH.swap j3
    obtain ⟨F3,jt,jo,jw,jf,je⟩:=BoxH.take j3 j43
    have wo6:Apart (obF (b.get 43)) (Eq b6):=fun c h=>w3_6 c (je c h)
    have wn6:Apart F3 (Eq b6):=fun c h=>w3_6 c (jf c h)
    have y43:Lo k0 (obF (b.get 43)):=fun c h=>y3 c (je c h)
    replace y3:Lo k0 F3:=fun c h=>y3 c (jf c h)
    replace j3:=jt
    replace j43:IsOwn 0 99 s3.1.Base (b.get 43) q:=jo
    have w6_43:Apart (Eq b6) (obF (b.get 43)):=(wo6).symm
    have w3_6:Apart F3 (Eq b6):=wn6
    have w3_43:Apart F3 (obF (b.get 43)):=(jw).symm
    clear jt jo jw jf je wo6 wn6
    have hns:=j43.nshF
    refine tail_appendS (i:=10) (d:=52) rfl rfl rfl rfl (by rw [hsb]; decide) (e:=99) Tryz.underlying35 eo99 j43 (IsV.rd j51) hx12 fun b2 q2 hsz hdf hoth hch hown hob=>?_
    have hle:=hch.le hns
    have yn:Lo k0 (obF (b2.get 52)):=y43.app hgq hob
    have v3:Apart F3 (obF (b2.get 52)):=Apart.app w3_43 (Rsc.lt j3) hob
    have v6:Apart (Eq b6) (obF (b2.get 52)):=Apart.app w6_43 z6.ltF hob
    replace j3:=Rsc.keep j3 hch w3_43 hns
    replace z6:=z6.keep hch (w6_43 _ rfl) hns
    replace j36:=Pers.pers hle j36
    replace j37:=Pers.pers hle j37
    replace j38:=Pers.pers hle j38
    replace j51:=Pers.pers hle j51
    replace hgq:=hgq.step hch y43.wr
    rw [← hoth 3 (by decide)] at j3
    rw [← hoth 6 (by decide)] at j6
    rw [← hoth 36 (by decide)] at j36
    rw [← hoth 37 (by decide)] at j37
    rw [← hoth 38 (by decide)] at j38
    rw [← hoth 51 (by decide)] at j51
    have w3_52:=v3
    have w6_52:=v6
    have j52:=hown
    have y52:=yn
    replace hsb:=hsz.trans hsb
    replace hdb:=hdf.trans hdb
    clear hle hch hown hob hns yn hsz hdf hoth
    obtain ⟨b,hbb⟩ : ∃ b,b = b2:=⟨b2,rfl⟩
    subst hbb
    obtain ⟨q,hqq⟩ : ∃ q,q = q2:=⟨q2,rfl⟩
    subst hqq
    refine tail_does (R:=IsAdr b3 (12)) (i:=11) (d:=53) rfl rfl rfl (by rw [hsb]; decide) W13 (ok_fieldAdr rfl fo37_5 (BoxH.ptr j3)) fun b2 q2 hsz hdf hoth hgr hnew=>?_
    replace j3:=Rsc.grow j3 hgr
    replace z6:=z6.grow hgr
    replace j36:=Pers.pers hgr.le j36
    replace j37:=Pers.pers hgr.le j37
    replace j38:=Pers.pers hgr.le j38
    replace j51:=Pers.pers hgr.le j51
    replace j52:=Mono.mono hgr j52
    replace hgq:=hgq.then hgr
    rw [← hoth 3 (by decide)] at j3
    rw [← hoth 6 (by decide)] at j6
    rw [← hoth 36 (by decide)] at j36
    rw [← hoth 37 (by decide)] at j37
    rw [← hoth 38 (by decide)] at j38
    rw [← hoth 51 (by decide)] at j51
    rw [← hoth 52 (by decide)] at j52
    rw [← hoth 52 (by decide)] at y52
    rw [← hoth 52 (by decide)] at w3_52
    rw [← hoth 52 (by decide)] at w6_52
    have j53:=hnew
    replace hsb:=hsz.trans hsb
    replace hdb:=hdf.trans hdb
    clear hgr hsz hdf hoth hnew
    obtain ⟨b,hbb⟩ : ∃ b,b = b2:=⟨b2,rfl⟩
    subst hbb
    obtain ⟨q,hqq⟩ : ∃ q,q = q2:=⟨q2,rfl⟩
    subst hqq
    refine tail_storeH (i:=12) (g:=ho_37_5) (x':=({ s3.1 with Base:=x12 }:Town)) rfl rfl rfl rfl szf35 j53 j3 (by decide) ⟨_,(.tail _ (.head _)),rfl⟩ rfl (fun _ _ _ h=>h) (fun _ h=>by cases h with | head=>decide | tail _ h=>exact nomatch h) j52 (w3_52.symm) fun q2 FF hch hz hF=>?_
    have hns:=Rsc.nsh j3
    have hle:=hch.le hns
    replace hgq:=hgq.step hch y3.wr
    replace z6:=z6.keep hch ((w3_6.symm) _ rfl) hns
    replace j36:=Pers.pers hle j36
    replace j37:=Pers.pers hle j37
    replace j38:=Pers.pers hle j38
    replace j51:=Pers.pers hle j51
    replace j53:=Pers.pers hle j53
    have wn6:Apart FF (Eq b6):=fun c h=>(hF c h).elim (fun h=>w3_6 c h) (fun h=>(w6_52.symm) c h)
    have yn:Lo k0 FF:=fun c h=>(hF c h).elim (fun h=>y3 c h) (fun h=>y52 c h)
    clear hns hle hch hF
    obtain ⟨F3,hFe⟩ : ∃ F,F = FF:=⟨FF,rfl⟩
    subst hFe
    replace j3:=hz
    replace y3:=yn
    clear hz yn
    have w3_6:Apart F3 (Eq b6):=wn6
    clear wn6
    obtain ⟨q,hqq⟩ : ∃ q,q = q2:=⟨q2,rfl⟩
    subst hqq
    replace j3:=BoxH.swap j3
    exact tail_done (k:=q) (w11 _ _ ⟨F3,⟨hgq,hsb,hdb⟩,j3,y3,j6,y6,z6,j36,j37,j38,w3_6,trivial⟩)
   rintro a k ⟨F3,⟨hg,hs,hd⟩,i3,n3,i6,n6,c6,i36,i37,i38,d3_6,_⟩
   obtain ⟨x14,hx14,hr⟩:=bind_some hr
   refine cut (fun a' k'=>∃ F3,Bs noF k0 56 a' k'∧(BoxH b3 [ho_37_4,ho_37_5] [ho_37_4,ho_37_5] ({ s3.1 with Base:=x12 })) F3 (a'.get 3) k'∧Lo k0 F3∧a'.get 6 = .pointer (some ⟨b6,0,none⟩)∧Lo k0 (Eq b6)∧Gb.Box b6 (⟨(⟨[],[],[],[],[],[],[],0⟩:Plan),[],[],[],[],[]⟩:Town) k'∧(IsV ph_.Gives) (a'.get 36) k'∧(IsI (ph_.Gives.length:Int)) (a'.get 37) k'∧(IsV x14) (a'.get 38) k'∧Apart F3 (Eq b6)∧True) ?_ hQ ?_
   ·intro Q14 W14 w12
    refine gS 2 (_::_::[]) hs (by kernel_rfl) ⟨o1 [(38,none)] rfl fun _ _ h n=>ok_add rfl (up i38 h n.1) (cI rfl) hx14,cm 0 rfl rfl,trivial⟩ W14 fun b q p=>?_
    exact tail_done (k:=q) (w12 _ _ ⟨F3,Bs.post ⟨hg,hs,hd⟩ p,p.ke 3 rfl i3,n3,upE i6 (p.old 6 rfl),n6,Gb.Box.grow c6 p.grow,p.ke 36 rfl i36,p.ke 37 rfl i37,p.ou 1 38 rfl,d3_6,trivial⟩)
   rintro a k ⟨F3,⟨hg,hs,hd⟩,i3,n3,i6,n6,c6,i36,i37,i38,d3_6,_⟩
   exact hgo1079 _ _ _ (Option.some.inj hr).symm ⟨F3,⟨hg,hs,hd⟩,i3,n3,i6,n6,c6,i36,i37,i38,d3_6,trivial⟩
  rw [if_neg (by rw [hc1093]; decide)] at hr
  refine wp_exit ?_
  obtain ⟨kk,sh1092,cc3⟩:=BoxH.close i3 (hc_37_4_37_5 _) (fun _ h=>h)
  replace c6:=c6.handed sh1092 ((d3_6.symm) _ rfl)
  replace hg:=hg.hand sh1092 n3.wr
  rw [← sh1092.w]
  replace d3_6:Apart (Eq b3) (Eq b6):=fun c e=>d3_6 c (BoxH.sub i3 c e)
  replace n3:Lo k0 (Eq b3):=fun c e=>n3 c (BoxH.sub i3 c e)
  replace i3:=BoxH.ptr i3
  have c3:=cc3
  clear sh1092 cc3
  obtain ⟨k,hkk⟩ : ∃ k,k = kk:=⟨kk,rfl⟩
  subst hkk
  exact hex1080 _ _ _ _ (Option.some.inj hr).symm ⟨rfl,⟨hg,hs,hd⟩,i3,n3,c3,i6,n6,c6,d3_6,trivial⟩
 ·rintro r2 a k rfl hR
  dsimp only at hr
  obtain rfl:=Option.some.inj hr
  exact hR
 ·rintro _ _ _ rfl _
  simp at hr
 clear hf2
 rintro _ s4 a k rfl ⟨rfl,⟨hg,hs,hd⟩,i3,n3,c3,i6,n6,c6,d3_6,_⟩
 dsimp only at hr
 refine cutS (fun c l=>Bs noF k0 56 c l∧c.get 6 = .pointer (some ⟨b6,0,none⟩)∧Lo k0 (Eq b6)∧Gb.Box b6 s4.1 l∧True) ?_ ?_
 ·intro Q15 W15 w13
  refine gS 1 (_::[]) hs (by kernel_rfl) ⟨o1 [(3,none)] rfl fun _ _ h n=>ok_load rfl ty37 ⟨_,(upE i3 n.1),(c3.grow h).at⟩,trivial⟩ W15 fun b q p=>?_
  have hgq:=hg.then p.grow
  have hsb:=p.size.trans hs
  have hdb:=p.defers.trans hd
  have j6:=upE i6 (p.old 6 rfl)
  have z6:=Gb.Box.grow c6 p.grow
  have y6:=n6
  have j55:(IsV s4.1) (b.get 55) q:=p.ou 0 55 rfl
  have hns:=z6.nshF
  refine tail_storeB (i:=1) rfl rfl rfl rfl szf37 (Upd.self (α:=Town)) j6 z6 j55 fun q2 hch hz=>?_
  replace hgq:=hgq.step hch y6.wr
  have hle:=hch.le hns
  replace j55:=Pers.pers hle j55
  replace z6:=hz
  clear hns hle hch
  obtain ⟨q,hqq⟩ : ∃ q,q = q2:=⟨q2,rfl⟩
  subst hqq
  exact tail_done (k:=q) (w13 _ _ ⟨⟨hgq,hsb,hdb⟩,j6,y6,z6,trivial⟩)
 rintro a k ⟨⟨hg,hs,hd⟩,i6,n6,c6,_⟩
 refine wp_ret ?_
 obtain rfl:=Option.some.inj hr
 exact retC1 rfl hd hg (resCell ty37 i6 c6)
noncomputable def k15:=mkO 15 [.st 7,.int,.st 3] [.st 7] (fun x=>vested_After x.1 x.2.1 x.2.2) Tryz.call15 fun k0 vs x r hG h hr=>by obtain ⟨v0,vs,rfl,i0,h⟩:=h.cons; obtain ⟨v1,vs,rfl,i1,h⟩:=h.cons; obtain ⟨v2,rfl,i2⟩:=h.one; exact vested_After_ok i0 i1 i2 hr
def vested_Last_L1 (x1:Right) (x2:(List Phase)) (s1:Int × Town):Option (Flow (Int × Town) (Town)):=
 if (decide (s1.1 < (x2.length:Int))) then
  (getI x2 s1.1).bind fun x3=>
  (vested_After s1.2 x1.Drawing.Lot x3).bind fun x4=>
  (addI s1.1 1).bind fun x5=>
  some (.go (x5,x4))
 else
  some (.ex 2 (s1.1,s1.2))
def vested_Last_L0 (rights_:(List Right)) (s1:Int × Town):Option (Flow (Int × Town) (Town)):=
 if (decide (s1.1 < (rights_.length:Int))) then
  (getI rights_ s1.1).bind fun x1=>
  (option_Left x1).bind fun x2=>
  (iterL (vested_Last_L1 x1 x2) (x2.length + 1) (0,s1.2)).bind fun f1=>match f1 with
   | .go _=>none
   | .ex _ s2=>
    (addI s1.1 1).bind fun x3=>
    some (.go (x3,s2.2))
   | .ret r1=>some (.ret r1)
 else
  some (.ex 0 (s1.1,s1.2))
def vested_Last (t_:Town) (rights_:(List Right)):Option (Town):=
 (slices_Clone_Placed t_.Built).bind fun x1=>
 (slices_Clone_Entry t_.Base).bind fun x2=>
 (iterL (vested_Last_L0 rights_) (rights_.length + 1) (0,{ { t_ with Built:=x1 } with Base:=x2 })).bind fun f1=>match f1 with
  | .go _=>none
  | .ex _ s1=>
   some s1.2
  | .ret r1=>some r1
noncomputable def k17:=mk 17 [.st 7,.list (.st 28)] [.st 7] (fun x=>vested_Last x.1 x.2) [k33,k34,k27,k15] [2,4] Tryz.f17 (.s .n (.s .n (.s (.s .n (.l [] [(19,.v .int),(2,.b (.st 7))] [(0,[19],[])] (fI 18) (.s .n (.s .n (.s (.s .n (.s .n (.l [] [(26,.v .int),(2,.b (.st 7))] [(2,[26],[])] (fI 25) .n))) .n))))) .n))) Tryz.func17 Tryz.call17 rfl rfl fun x=>by kernel_rfl
def vested_right (v_:Volume):Option (Bool):=
 (rect_Right v_.Box.Base).bind fun x1=>
 some (((((x1 && (decide (0 ≤ v_.Box.Z0))) && (decide (v_.Box.Z0 < v_.Box.Z1))) && (decide (v_.Box.Z1 ≤ 4096))) && (decide (0 ≤ v_.Use))) && (decide (v_.Use < 6)))
noncomputable def k82:=mk 82 [.st 4] [.bool] (fun x=>vested_right x) [k99] [] Tryz.f82 (.n) Tryz.func82 Tryz.call82 rfl rfl fun x=>by kernel_rfl
theorem vested_right_ok {k0:K} {v0:Value} {x0:Volume} {r:Bool} (i0:IsV x0 v0 k0) (hr:vested_right x0 = some r):Calls Tryz.prog 82 #[v0] k0.w (Ret k0 (IsV r)):=(k82.ok.ok k0 [v0] x0 r (GOk.none (fun _=>rfl) fun _ e=>by cases e) i0 hr)
def vested_solid (v_:Volume):Option ((List Slab)):=
 some ([(⟨v_.Box.Z0,v_.Box.Z1,[v_.Box.Base]⟩:Slab)])
noncomputable def k83:=mk 83 [.st 4] [.list (.st 22)] (fun x=>vested_solid x) [] [] Tryz.f83 (.n) Tryz.func83 Tryz.call83 rfl rfl fun x=>by kernel_rfl
theorem vested_solid_ok {k0:K} {v0:Value} {x0:Volume} {r:(List Slab)} (i0:IsV x0 v0 k0) (hr:vested_solid x0 = some r):Calls Tryz.prog 83 #[v0] k0.w (Ret k0 (IsV r)):=(k83.ok.ok k0 [v0] x0 r (GOk.none (fun _=>rfl) fun _ e=>by cases e) i0 hr)
def vested_solids_L0 (t_:Town) (but_:(Int → Option (Bool))) (s1:(List (List Slab)) × Int):Option (Flow ((List (List Slab)) × Int) ((List (List Slab)))):=
 if (decide (s1.2 < (t_.Built.length:Int))) then
  (getI t_.Built s1.2).bind fun x1=>
  (vested_right x1.Volume).bind fun x2=>
  (if x2 then
   (but_ x1.Lot).bind fun x3=>
   some (!x3)
  else
   some false).bind fun x4=>
  (if x4 then
   (vested_solid x1.Volume).bind fun x5=>
   (appI s1.1 ([x5])).bind fun x6=>
   some x6
  else
   some s1.1).bind fun s2=>
  (addI s1.2 1).bind fun x7=>
  some (.go (s2,x7))
 else
  some (.ex 0 (s1.1,s1.2))
def vested_solids (t_:Town) (but_:(Int → Option (Bool))):Option ((List (List Slab))):=
 (iterL (vested_solids_L0 t_ but_) (t_.Built.length + 1) (([]:List (List Slab)),0)).bind fun f1=>match f1 with
  | .go _=>none
  | .ex _ s1=>
   some s1.1
  | .ret r1=>some r1
theorem vested_solids_ok {k0:K} {v0 v1:Value} {t_:Town} {but_:(Int → Option (Bool))} {r:(List (List Slab))} (i0:(IsV t_) v0 k0) (i1:(IsFn1 Tryz.prog but_) v1 k0) (hr:vested_solids t_ but_ = some r) :
  Calls Tryz.prog 53 #[v0,v1] k0.w (Ret k0 (IsV r)):=by
 unfold vested_solids at hr
 refine Ret.ofC ?_
 refine enterK Tryz.func53 rfl Tryz.ntmps53 (show 2 ≤ 33 by decide) fun a k hk0 hs hd ha=>?_
 obtain ⟨e0,e1,_⟩:=ha
 replace i0:(IsV t_) (a.get 0) k:=by rw [e0,hk0]; exact i0
 replace i1:(IsFn1 Tryz.prog but_) (a.get 1) k:=by rw [e1,hk0]; exact i1
 have hQ:Gb.LetsOut (bodyPost Tryz.prog Tryz.f53 (RetC noF k0 (IsV r))):=letsOutC
 have hg:Chg noF k0 k:=by rw [hk0]; exact Chg.refl _ k0
 refine stepL 2 (⟨some (IsRef t_),[(0,none)]⟩::⟨some IsE0,[]⟩::[]) rfl ⟨hg,hs,hd⟩ (by kernel_rfl) ⟨ob1 rfl fun _ _ h n=>ok_boxR rfl (up i0 h n.1),ob1 rfl fun b q h n=>ok_assign rfl isE0_nil,trivial⟩ [⟨_,_⟩,⟨_,_⟩] (fun b q p=>⟨p.ke 1 rfl i1,p.ou 0 2 rfl,trivial⟩) ?_
 rintro a k ⟨⟨hg,hs,hd⟩,i1,i2,_⟩
 refine cutS (fun c l=>Bs noF k0 33 c l∧IsFn1 Tryz.prog but_ (c.get 1) l∧IsRef t_ (c.get 2) l∧IsOwn 0 117 ([]:List (List Slab)) (c.get 5) l∧Lo k0 (obF (c.get 5))∧True) ?_ ?_
 ·intro Q1 W1 w1
  refine gS 1 (⟨some IsE0,[]⟩::[]) hs (by kernel_rfl) ⟨ob1 rfl fun b q h n=>ok_assign rfl isE0_nil,trivial⟩ W1 fun b q p=>?_
  have hgq:=hg.then p.grow
  have hsb:=p.size.trans hs
  have hdb:=p.defers.trans hd
  have j1:=p.ke 1 rfl i1
  have j2:=p.ke 2 rfl i2
  have j5:IsE0 (b.get 5) q:=p.ou 0 5 rfl
  have y5:Lo k0 (obF (b.get 5)):=j5.lo
  replace j5:IsOwn 0 117 ([]:List (List Slab)) (b.get 5) q:=j5.own0
  exact tail_done (k:=q) (w1 _ _ ⟨⟨hgq,hsb,hdb⟩,j1,j2,j5,y5,trivial⟩)
 rintro a k ⟨⟨hg,hs,hd⟩,i1,i2,i5,n5,_⟩
 refine wp_seq ?_
 refine cutS (fun c l=>Bs noF k0 33 c l∧IsFn1 Tryz.prog but_ (c.get 1) l∧IsOwn 0 117 ([]:List (List Slab)) (c.get 5) l∧Lo k0 (obF (c.get 5))∧IsV t_.Built (c.get 9) l∧IsI (t_.Built.length:Int) (c.get 10) l∧IsI 0 (c.get 11) l∧True) ?_ ?_
 ·intro Q2 W2 w2
  refine gS 4 (_::_::_::⟨some (IsI 0),[]⟩::[]) hs (by kernel_rfl) ⟨o1 [(2,none)] rfl fun _ _ h n=>ok_fieldAddr rfl fo37_4 (at_Town_4 _) ((up i2 h n.1)).ptr,o1 [(8,some 0)] rfl fun _ _ h n=>ok_load rfl ty34 n.1,o1 [(9,some 1)] rfl fun _ _ h n=>ok_len rfl rfl Tryz.underlying34 (IsV.rd n.1),ob1 rfl fun _ _ h n=>ok_move rfl (cI rfl),trivial⟩ W2 fun b q p=>?_
  exact tail_done (k:=q) (w2 _ _ ⟨Bs.post ⟨hg,hs,hd⟩ p,p.ke 1 rfl i1,p.ke 5 rfl i5,(by rw [p.old 5 rfl]; exact n5),p.ou 1 9 rfl,p.ou 2 10 rfl,p.ou 3 11 rfl,trivial⟩)
 rintro a k ⟨⟨hg,hs,hd⟩,i1,i5,n5,i9,i10,i11,_⟩
 refine wp_block ?_
 obtain ⟨f1,hf1,hr⟩:=bind_some hr
 refine cutFe f1 (fun s' c l=>Bs noF k0 33 c l∧IsFn1 Tryz.prog but_ (c.get 1) l∧IsOwn 0 117 s'.1 (c.get 5) l∧Lo k0 (obF (c.get 5))∧IsV t_.Built (c.get 9) l∧IsI (t_.Built.length:Int) (c.get 10) l∧IsV s'.2 (c.get 11) l∧True) (fun i' s' c l=>(i' = 0∧Bs noF k0 33 c l∧IsV s'.1 (c.get 5) l∧True)) (fun r' c l=>bodyPost Tryz.prog Tryz.f53 (RetC noF k0 (IsV r')) .ret c l.w) ?_ hQ ?_ ?_ ?_
 ·intro Q3 W3 hgo hex hret
  refine sim_loop ?_ _ _ _ _ _ hf1 ⟨⟨hg,hs,hd⟩,i1,i5,n5,i9,i10,i11,trivial⟩ Q3 W3 hgo hex hret
  clear hr hf1 hgo hex hret W3 hQ hg hs hd i1 i10 i11 i5 i9 n5
  intro s1 fl_ a k hr hS Q hQ hgo1186 hex1187 hret1188
  obtain ⟨⟨hg,hs,hd⟩,i1,i5,n5,i9,i10,i11,_⟩:=hS
  unfold vested_solids_L0 at hr
  refine cutS (fun c l=>Bs noF k0 33 c l∧IsFn1 Tryz.prog but_ (c.get 1) l∧IsOwn 0 117 s1.1 (c.get 5) l∧Lo k0 (obF (c.get 5))∧IsV t_.Built (c.get 9) l∧IsI (t_.Built.length:Int) (c.get 10) l∧IsV s1.2 (c.get 11) l∧(IsV (decide (s1.2 < (t_.Built.length:Int)))) (c.get 12) l∧True) ?_ ?_
  ·intro Q4 W4 w3
   refine gS 1 (_::[]) hs (by kernel_rfl) ⟨o1 [(11,none),(10,none)] rfl fun _ _ h n=>ok_lss rfl (up i11 h n.1) (up i10 h n.2.1),trivial⟩ W4 fun b q p=>?_
   exact tail_done (k:=q) (w3 _ _ ⟨Bs.post ⟨hg,hs,hd⟩ p,p.ke 1 rfl i1,p.ke 5 rfl i5,(by rw [p.old 5 rfl]; exact n5),p.ke 9 rfl i9,p.ke 10 rfl i10,p.ke 11 rfl i11,p.ou 0 12 rfl,trivial⟩)
  rintro a k ⟨⟨hg,hs,hd⟩,i1,i5,n5,i9,i10,i11,i12,_⟩
  refine wp_seq ?_
  refine wp_cond_split (isBool i12) (fun hc1207=>?_) (fun hc1207=>?_)
  ·rw [if_pos hc1207] at hr
   refine wp_skip ?_
   refine wp_seq ?_
   refine wp_block ?_
   refine wp_seq ?_
   obtain ⟨x1,hx1,hr⟩:=bind_some hr
   refine cut (fun a' k'=>Bs noF k0 33 a' k'∧(IsFn1 Tryz.prog but_) (a'.get 1) k'∧IsOwn 0 117 s1.1 (a'.get 5) k'∧Lo k0 (obF (a'.get 5))∧(IsRef x1) (a'.get 7) k'∧(IsV t_.Built) (a'.get 9) k'∧(IsI (t_.Built.length:Int)) (a'.get 10) k'∧(IsV s1.2) (a'.get 11) k'∧True) ?_ hQ ?_
   ·intro Q5 W5 w4
    refine gS 3 (_::_::⟨some (IsBox k.w.heap.size (⟨0,(⟨(⟨(⟨0,0,0,0⟩:Rect),0,0⟩:Box),0,0,false⟩:Volume)⟩:Placed)),[]⟩::[]) hs (by kernel_rfl) ⟨o1 [(9,none),(11,none)] rfl fun _ _ h n=>ok_indexAddr rfl Tryz.underlying34 ty97 (IsV.rd (up i9 h n.1)) (up i11 h n.2.1) hx1,o1 [(13,some 0)] rfl fun _ _ h n=>ok_load rfl ty97 n.1,ob1 rfl fun _ _ h n=>ok_alloc _ h.size rfl z97,trivial⟩ W5 fun b q p=>?_
    have hgq:=hg.then p.grow
    have hsb:=p.size.trans hs
    have hdb:=p.defers.trans hd
    have j1:=p.ke 1 rfl i1
    have j5:=p.ke 5 rfl i5
    have y5:Lo k0 (obF (b.get 5)):=by rw [p.old 5 rfl]; exact n5
    obtain ⟨b7,j7,x7,z7⟩:(IsBox k.w.heap.size (⟨0,(⟨(⟨(⟨0,0,0,0⟩:Rect),0,0⟩:Box),0,0,false⟩:Volume)⟩:Placed)) (b.get 7) q:=p.ou 2 7 rfl
    replace x7:Lo k (Eq b7):=Lo.eq x7
    have y7:Lo k0 (Eq b7):=x7.chg hg
    have j9:=p.ke 9 rfl i9
    have j10:=p.ke 10 rfl i10
    have j11:=p.ke 11 rfl i11
    have j14:(IsV x1) (b.get 14) q:=p.ou 1 14 rfl
    have w5_7:Apart (obF (b.get 5)) (Eq b7):=Apart.new (by rw [p.old 5 rfl]; exact i5.ltF) x7
    have hns:=z7.nshF
    refine tail_storeB (i:=3) rfl rfl rfl rfl szf97 (Upd.self (α:=Placed)) j7 z7 j14 fun q2 hch hz=>?_
    replace hgq:=hgq.step hch y7.wr
    have hle:=hch.le hns
    replace j1:=Pers.pers hle j1
    replace j5:=j5.keep hch w5_7 hns
    replace j9:=Pers.pers hle j9
    replace j10:=Pers.pers hle j10
    replace j11:=Pers.pers hle j11
    replace j14:=Pers.pers hle j14
    replace z7:=hz
    clear hns hle hch
    obtain ⟨q,hqq⟩ : ∃ q,q = q2:=⟨q2,rfl⟩
    subst hqq
    obtain ⟨q2,hsh,jn⟩:=z7.give
    replace j1:=Pers.pers hsh.le j1
    replace j5:=j5.handed hsh w5_7
    replace j9:=Pers.pers hsh.le j9
    replace j10:=Pers.pers hsh.le j10
    replace j11:=Pers.pers hsh.le j11
    rw [← j7] at jn
    replace j7:=jn
    replace hgq:=hgq.hand hsh y7.wr
    rw [← hsh.w]
    clear hsh
    obtain ⟨q,hqq⟩ : ∃ q,q = q2:=⟨q2,rfl⟩
    subst hqq
    exact tail_done (k:=q) (w4 _ _ ⟨⟨hgq,hsb,hdb⟩,j1,j5,y5,j7,j9,j10,j11,trivial⟩)
   rintro a k ⟨⟨hg,hs,hd⟩,i1,i5,n5,i7,i9,i10,i11,_⟩
   refine wp_seq ?_
   obtain ⟨x2,hx2,hr⟩:=bind_some hr
   obtain ⟨x3,hx3,hr⟩:=bind_some hr
   obtain ⟨x4,hx4,hx3⟩:=ite_bind hx3
   refine cut (fun a' k'=>Bs noF k0 33 a' k'∧(IsFn1 Tryz.prog but_) (a'.get 1) k'∧IsOwn 0 117 s1.1 (a'.get 5) k'∧Lo k0 (obF (a'.get 5))∧(IsRef x1) (a'.get 7) k'∧(IsV t_.Built) (a'.get 9) k'∧(IsI (t_.Built.length:Int)) (a'.get 10) k'∧(IsV s1.2) (a'.get 11) k'∧(IsV x3) (a'.get 24) k'∧True) ?_ hQ ?_
   ·intro Q6 W6 w5
    refine gS 10 (_::_::_::_::_::_::_::⟨some (Gd (x2 = true) (IsV x4)),[(19,some 4),(21,some 6)]⟩::_::_::[]) hs (by kernel_rfl) ⟨o1 [(7,none)] rfl fun _ _ h n=>ok_fieldAddr rfl fo97_1 (at_Placed_1 _) ((up i7 h n.1)).ptr,o1 [(15,some 0)] rfl fun _ _ h n=>ok_load rfl ty83 n.1,o1 [(16,some 1)] rfl fun _ _ h n=>ok_call rfl Tryz.call82 (vested_right_ok n.1 hx2),cm 2 rfl rfl,mT rfl rfl i1,gT [(7,none)] rfl rfl fun hp _ _ h n=>ok_fieldAddr rfl fo97_0 (at_Placed_0 _) ((up i7 h n.1)).ptr,gT [(20,some 5)] rfl rfl fun hp _ _ h n=>ok_load rfl ty3 (Gd.get n.1 hp),gdT rfl rfl fun hp _ _ h n=>ok_callF1 rfl (Gd.get n.1 hp) (Gd.get n.2.1 hp) (hx4 hp),gT [(22,some 7)] rfl rfl fun hp _ _ h n=>ok_not rfl (Gd.get n.1 hp),o1 [(18,some 3),(23,some 8)] rfl fun _ _ h n=>ok_pickM rfl n.1 hx3 (Gd.get n.2.1) (cB rfl),trivial⟩ W6 fun b q p=>?_
    exact tail_done (k:=q) (w5 _ _ ⟨Bs.post ⟨hg,hs,hd⟩ p,p.ke 1 rfl i1,p.ke 5 rfl i5,(by rw [p.old 5 rfl]; exact n5),p.ke 7 rfl i7,p.ke 9 rfl i9,p.ke 10 rfl i10,p.ke 11 rfl i11,p.ou 9 24 rfl,trivial⟩)
   rintro a k ⟨⟨hg,hs,hd⟩,i1,i5,n5,i7,i9,i10,i11,i24,_⟩
   obtain ⟨s2,hs2,hr⟩:=bind_some hr
   refine cut (fun a' k'=>Bs noF k0 33 a' k'∧(IsFn1 Tryz.prog but_) (a'.get 1) k'∧IsOwn 0 117 s2 (a'.get 5) k'∧Lo k0 (obF (a'.get 5))∧(IsV t_.Built) (a'.get 9) k'∧(IsI (t_.Built.length:Int)) (a'.get 10) k'∧(IsV s1.2) (a'.get 11) k'∧True) ?_ hQ ?_
   ·intro Q7 W7 w6
    replace hr:=hs2
    clear hQ
    have hQ:=W7
    refine wp_cond_split (isBool i24) (fun hc1197=>?_) (fun hc1197=>?_)
    ·rw [if_pos hc1197] at hr
     obtain ⟨x5,hx5,hr⟩:=bind_some hr
     obtain ⟨x6,hx6,hr⟩:=bind_some hr
     refine cut (fun a' k'=>Bs noF k0 33 a' k'∧(IsFn1 Tryz.prog but_) (a'.get 1) k'∧IsOwn 0 117 x6 (a'.get 5) k'∧Lo k0 (obF (a'.get 5))∧(IsV t_.Built) (a'.get 9) k'∧(IsI (t_.Built.length:Int)) (a'.get 10) k'∧(IsV s1.2) (a'.get 11) k'∧True) ?_ hQ ?_
     ·intro Q8 W8 w7
      refine gS 5 (⟨some (OwnAt (a.get 5) 0 117 s1.1),[(5,none)]⟩::_::_::_::⟨some (IsV (α:=(List (List Slab))) ([x5])),[(28,some 3)]⟩::[]) hs (by kernel_rfl) ⟨ob1 rfl fun _ _ h n=>ok_moveOA (.inl rfl) (ownAt n.1 (up i5 h n.1)),o1 [(7,none)] rfl fun _ _ h n=>ok_fieldAddr rfl fo97_1 (at_Placed_1 _) ((up i7 h n.1)).ptr,o1 [(26,some 1)] rfl fun _ _ h n=>ok_load rfl ty83 n.1,o1 [(27,some 2)] rfl fun _ _ h n=>ok_call rfl Tryz.call83 (vested_solid_ok n.1 hx5),ob1 rfl fun _ _ h n=>ok_buildSlice rfl Tryz.underlying113 eo117 rfl (by decide) (by decide) ⟨rfl,n.1,trivial⟩,trivial⟩ W8 fun b q p=>?_
      have hgq:=hg.then p.grow
      have hsb:=p.size.trans hs
      have hdb:=p.defers.trans hd
      have j1:=p.ke 1 rfl i1
      have j9:=p.ke 9 rfl i9
      have j10:=p.ke 10 rfl i10
      have j11:=p.ke 11 rfl i11
      have e25:b.get 25 = a.get 5:=(p.ou 0 25 rfl).1
      have j25:IsOwn 0 117 s1.1 (b.get 25) q:=(p.ou 0 25 rfl).2
      have y25:Lo k0 (obF (b.get 25)):=by rw [e25]; exact n5
      have j29:(IsV (α:=(List (List Slab))) ([x5])) (b.get 29) q:=p.ou 4 29 rfl
      have hns:=j25.nshF
      refine tail_appendS (i:=5) (d:=30) rfl rfl rfl rfl (by rw [hsb]; decide) (e:=117) Tryz.underlying113 eo117 j25 (IsV.rd j29) hx6 fun b2 q2 hsz hdf hoth hch hown hob=>?_
      have hle:=hch.le hns
      have yn:Lo k0 (obF (b2.get 30)):=y25.app hgq hob
      replace j1:=Pers.pers hle j1
      replace j9:=Pers.pers hle j9
      replace j10:=Pers.pers hle j10
      replace j11:=Pers.pers hle j11
      replace j29:=Pers.pers hle j29
      replace hgq:=hgq.step hch y25.wr
      rw [← hoth 1 (by decide)] at j1
      rw [← hoth 9 (by decide)] at j9
      rw [← hoth 10 (by decide)] at j10
      rw [← hoth 11 (by decide)] at j11
      rw [← hoth 29 (by decide)] at j29
      have j30:=hown
      have y30:=yn
      replace hsb:=hsz.trans hsb
      replace hdb:=hdf.trans hdb
      clear hle hch hown hob hns yn hsz hdf hoth
      obtain ⟨b,hbb⟩ : ∃ b,b = b2:=⟨b2,rfl⟩
      subst hbb
      obtain ⟨q,hqq⟩ : ∃ q,q = q2:=⟨q2,rfl⟩
      subst hqq
      refine tail_assign (i:=6) (d:=5) rfl rfl (.inl rfl) rfl (by rw [hsb]; decide) fun b2 hsz hdf hnew hoth=>?_
      have jn:(IsOwn 0 117 x6) (b2.get 5) q:=by rw [hnew]; exact j30
      have yn:Lo k0 (obF (b2.get 5)):=by rw [hnew]; exact y30
      rw [← hoth 1 (by decide)] at j1
      rw [← hoth 9 (by decide)] at j9
      rw [← hoth 10 (by decide)] at j10
      rw [← hoth 11 (by decide)] at j11
      rw [← hoth 29 (by decide)] at j29
      have j5:=jn
      have y5:=yn
      replace hsb:=hsz.trans hsb
      replace hdb:=hdf.trans hdb
      clear hsz hdf hoth
      obtain ⟨b,hbb⟩ : ∃ b,b = b2:=⟨b2,rfl⟩
      subst hbb
      exact tail_done (k:=q) (w7 _ _ ⟨⟨hgq,hsb,hdb⟩,j1,j5,y5,j9,j10,j11,trivial⟩)
     rintro a k ⟨⟨hg,hs,hd⟩,i1,i5,n5,i9,i10,i11,_⟩
     obtain rfl:=Option.some.inj hr
     exact w6 _ _ ⟨⟨hg,hs,hd⟩,i1,i5,n5,i9,i10,i11,trivial⟩
    rw [if_neg (by rw [hc1197]; decide)] at hr
    refine wp_skip ?_
    obtain rfl:=Option.some.inj hr
    exact w6 _ _ ⟨⟨hg,hs,hd⟩,i1,i5,n5,i9,i10,i11,trivial⟩
   clear hs2
   rintro a k ⟨⟨hg,hs,hd⟩,i1,i5,n5,i9,i10,i11,_⟩
   obtain ⟨x8,hx8,hr⟩:=bind_some hr
   refine cut (fun a' k'=>Bs noF k0 33 a' k'∧(IsFn1 Tryz.prog but_) (a'.get 1) k'∧IsOwn 0 117 s2 (a'.get 5) k'∧Lo k0 (obF (a'.get 5))∧(IsV t_.Built) (a'.get 9) k'∧(IsI (t_.Built.length:Int)) (a'.get 10) k'∧(IsV x8) (a'.get 11) k'∧True) ?_ hQ ?_
   ·intro Q9 W9 w8
    refine gS 2 (_::_::[]) hs (by kernel_rfl) ⟨o1 [(11,none)] rfl fun _ _ h n=>ok_add rfl (up i11 h n.1) (cI rfl) hx8,cm 0 rfl rfl,trivial⟩ W9 fun b q p=>?_
    exact tail_done (k:=q) (w8 _ _ ⟨Bs.post ⟨hg,hs,hd⟩ p,p.ke 1 rfl i1,p.ke 5 rfl i5,(by rw [p.old 5 rfl]; exact n5),p.ke 9 rfl i9,p.ke 10 rfl i10,p.ou 1 11 rfl,trivial⟩)
   rintro a k ⟨⟨hg,hs,hd⟩,i1,i5,n5,i9,i10,i11,_⟩
   exact hgo1186 _ _ _ (Option.some.inj hr).symm ⟨⟨hg,hs,hd⟩,i1,i5,n5,i9,i10,i11,trivial⟩
  rw [if_neg (by rw [hc1207]; decide)] at hr
  refine wp_exit ?_
  obtain ⟨kk,sh1206,ii5⟩:=i5.give
  replace i5:=ii5
  replace hg:=hg.hand sh1206 n5.wr
  rw [← sh1206.w]
  clear sh1206
  obtain ⟨k,hkk⟩ : ∃ k,k = kk:=⟨kk,rfl⟩
  subst hkk
  exact hex1187 _ _ _ _ (Option.some.inj hr).symm ⟨rfl,⟨hg,hs,hd⟩,i5,trivial⟩
 ·rintro r1 a k rfl hR
  dsimp only at hr
  obtain rfl:=Option.some.inj hr
  exact hR
 ·rintro _ _ _ rfl _
  simp at hr
 clear hf1
 rintro _ s3 a k rfl ⟨rfl,⟨hg,hs,hd⟩,i5,_⟩
 dsimp only at hr
 refine stepL 2 (_::_::[]) rfl ⟨hg,hs,hd⟩ (by kernel_rfl) ⟨mu rfl i5,cp 0 rfl rfl,trivial⟩ [⟨_,_⟩] (fun b q p=>⟨p.ou 1 4 rfl,trivial⟩) ?_
 rintro a k ⟨⟨hg,hs,hd⟩,i4,_⟩
 refine wp_ret ?_
 obtain rfl:=Option.some.inj hr
 exact retC1 rfl hd hg i4
def sight_on (p_:Point3):Option (Bool):=
 some (((decide (0 ≤ (min (min p_.X p_.Y) p_.Z))) && (decide ((max p_.X p_.Y) ≤ 1048576))) && (decide (p_.Z ≤ 4096)))
noncomputable def k86:=mk 86 [.st 17] [.bool] (fun x=>sight_on x) [] [] Tryz.f86 (.n) Tryz.func86 Tryz.call86 rfl rfl fun x=>by kernel_rfl
section
open Go.Proofs Go.RowKit Go.Lib Go.Sort Go.Shelf
def Tryz.growL185_ren:Go.Shelf.Ren:=⟨fun | 4=>185 | n=>n,fun | 22=>130 | 25=>79 | 3=>3 | 4=>4 | 9=>9 | 20=>20 | 0=>0 | n=>n,fun | n=>n⟩
theorem Tryz.growL185:Go.Proofs.Lays8.n4 Tryz.prog Tryz.growL185_ren:={
 mixed:=by kernel_rfl,
 f4:=⟨Tryz.f185.name,by decide,Tryz.func185.trans (congrArg some (by kernel_rfl))⟩,
 t0:=Tryz.underlying0,
 a0:=Tryz.isAgg0,
 z0:=Tryz.sizeOf0,
 v0:=Tryz.zeroValue0,
 t3:=Tryz.underlying3,
 a3:=Tryz.isAgg3,
 z3:=Tryz.sizeOf3,
 v3:=Tryz.zeroValue3,
 t4:=Tryz.underlying4,
 a4:=Tryz.isAgg4,
 z4:=Tryz.sizeOf4,
 v4:=Tryz.zeroValue4,
 t9:=Tryz.underlying9,
 a9:=Tryz.isAgg9,
 z9:=Tryz.sizeOf9,
 v9:=Tryz.zeroValue9,
 t20:=Tryz.underlying20,
 a20:=Tryz.isAgg20,
 z20:=Tryz.sizeOf20,
 v20:=Tryz.zeroValue20,
 t22:=Tryz.underlying130,
 a22:=Tryz.isAgg130,
 z22:=Tryz.sizeOf130,
 v22:=Tryz.zeroValue130 }
theorem slices_Grow_Rect_okO {k0:K} {v0 v1:Value} {n:Int} {r:List Rect} (i0:v0 = .slice none 0 0) (i1:IsV n v1 k0) (hr:growI Rect n = some r):Calls Tryz.prog 185 #[v0,v1] k0.w (Ret k0 (IsOwn k0.w.heap.size 79 r)):=by
 refine grow_own eo79 i0 i1 hr ?_ fun m i z h0 hm hi hz hs hb=>?_
 ·have hcon:=Any8.slices_Grow_room Tryz.growL185 none 0 0 0 k0.w (by omega) (by omega) (by omega) (by omega)
  change Calls Tryz.prog 185 _ _ _ at hcon
  exact hcon
 ·have hcon:=Any8.slices_Grow_grow Tryz.growL185 i z hi hz hs none 0 0 m [] k0.w (by omega) (by omega) (by
   have:(0 + m) * i.bytes ≤ 1073741824 * 65536:=Nat.mul_le_mul (by omega) hb
   omega) (by omega) (by simp) (fun _=>rfl) (fun a h=>by simp at h)
  change Calls Tryz.prog 185 _ _ _ at hcon
  exact hcon
end
def slices_Concat_Rect_L0 (slices_:(List (List Rect))) (s1:Int × Int):Option (Flow (Int × Int) ((List Rect))):=
 if (decide (s1.2 < (slices_.length:Int))) then
  (getI slices_ s1.2).bind fun x1=>
  (addI s1.1 (x1.length:Int)).bind fun x2=>
  if (decide (x2 < 0)) then
   none
  else
   (addI s1.2 1).bind fun x3=>
   some (.go (x2,x3))
 else
  some (.ex 0 (s1.1,s1.2))
def slices_Concat_Rect_L1 (slices_:(List (List Rect))) (s1:(List Rect) × Int):Option (Flow ((List Rect) × Int) ((List Rect))):=
 if (decide (s1.2 < (slices_.length:Int))) then
  (getI slices_ s1.2).bind fun x1=>
  (appI s1.1 x1).bind fun x2=>
  (addI s1.2 1).bind fun x3=>
  some (.go (x2,x3))
 else
  some (.ex 2 (s1.1,s1.2))
def slices_Concat_Rect (slices_:(List (List Rect))):Option ((List Rect)):=
 (iterL (slices_Concat_Rect_L0 slices_) (slices_.length + 1) (0,0)).bind fun f1=>match f1 with
  | .go _=>none
  | .ex _ s1 =>
   (growI Rect s1.1).bind fun x1=>
   (iterL (slices_Concat_Rect_L1 slices_) (slices_.length + 1) (x1,0)).bind fun f2=>match f2 with
    | .go _=>none
    | .ex _ s2=>
     some s2.1
    | .ret r1=>some r1
  | .ret r2=>some r2
theorem slices_Concat_Rect_okO {k0:K} {v0:Value} {slices_:(List (List Rect))} {r:(List Rect)} (i0:(IsV slices_) v0 k0) (hr:slices_Concat_Rect slices_ = some r) :
  Calls Tryz.prog 183 #[v0] k0.w (Ret k0 (IsOwn k0.w.heap.size 79 r)):=by
 unfold slices_Concat_Rect at hr
 refine Ret.ofC ?_
 refine enterK Tryz.func183 rfl Tryz.ntmps183 (show 1 ≤ 36 by decide) fun a k hk0 hs hd ha=>?_
 obtain ⟨e0,_⟩:=ha
 replace i0:(IsV slices_) (a.get 0) k:=by rw [e0,hk0]; exact i0
 have hQ:Gb.LetsOut (bodyPost Tryz.prog Tryz.f183 (RetC noF k0 (IsOwn k0.w.heap.size 79 r))):=letsOutC
 have hg:Chg noF k0 k:=by rw [hk0]; exact Chg.refl _ k0
 refine stepL 1 (⟨some IsE0,[]⟩::[]) rfl ⟨hg,hs,hd⟩ (by kernel_rfl) ⟨ob1 rfl fun b q h n=>ok_assign rfl isE0_nil,trivial⟩ [⟨_,_⟩] (fun b q p=>⟨p.ke 0 rfl i0,trivial⟩) ?_
 rintro a k ⟨⟨hg,hs,hd⟩,i0,_⟩
 refine stepL 1 (⟨some (IsI 0),[]⟩::[]) rfl ⟨hg,hs,hd⟩ (by kernel_rfl) ⟨aI rfl rfl,trivial⟩ [⟨_,_⟩,⟨_,_⟩] (fun b q p=>⟨p.ke 0 rfl i0,p.ou 0 3 rfl,trivial⟩) ?_
 rintro a k ⟨⟨hg,hs,hd⟩,i0,i3,_⟩
 refine wp_seq ?_
 refine stepL 3 (_::_::⟨some (IsI 0),[]⟩::[]) rfl ⟨hg,hs,hd⟩ (by kernel_rfl) ⟨mu rfl i0,o1 [(9,some 0)] rfl fun _ _ h n=>ok_len rfl rfl Tryz.underlying233 (IsV.rd n.1),ob1 rfl fun _ _ h n=>ok_move rfl (cI rfl),trivial⟩ [⟨_,_⟩,⟨_,_⟩,⟨_,_⟩,⟨_,_⟩,⟨_,_⟩] (fun b q p=>⟨p.ke 0 rfl i0,p.ke 3 rfl i3,p.ou 0 9 rfl,p.ou 1 10 rfl,p.ou 2 11 rfl,trivial⟩) ?_
 rintro a k ⟨⟨hg,hs,hd⟩,i0,i3,i9,i10,i11,_⟩
 refine wp_block ?_
 obtain ⟨f1,hf1,hr⟩:=bind_some hr
 refine cutFe f1 (fun s' c l=>Bs noF k0 36 c l∧IsV slices_ (c.get 0) l∧IsV s'.1 (c.get 3) l∧IsV slices_ (c.get 9) l∧IsL slices_ (c.get 10) l∧IsV s'.2 (c.get 11) l∧True) (fun i' s' c l=>(i' = 0∧Bs noF k0 36 c l∧IsV slices_ (c.get 0) l∧IsV s'.1 (c.get 3) l∧True)) (fun r' c l=>bodyPost Tryz.prog Tryz.f183 (RetC noF k0 (IsOwn k0.w.heap.size 79 r')) .ret c l.w) ?_ hQ ?_ ?_ ?_
 ·intro Q1 W1 hgo hex hret
  refine sim_loop ?_ _ _ _ _ _ hf1 ⟨⟨hg,hs,hd⟩,i0,i3,i9,i10,i11,trivial⟩ Q1 W1 hgo hex hret
  clear hr hf1 hgo hex hret W1 hQ hg hs hd i0 i10 i11 i3 i9
  intro s1 fl_ a k hr hS Q hQ hgo1233 hex1234 hret1235
  obtain ⟨⟨hg,hs,hd⟩,i0,i3,i9,i10,i11,_⟩:=hS
  unfold slices_Concat_Rect_L0 at hr
  refine stepL 1 (_::[]) rfl ⟨hg,hs,hd⟩ (by kernel_rfl) ⟨o1 [(11,none),(10,none)] rfl fun _ _ h n=>ok_lss rfl (up i11 h n.1) (up i10 h n.2.1),trivial⟩ [⟨_,_⟩,⟨_,_⟩,⟨_,_⟩,⟨_,_⟩,⟨_,_⟩,⟨_,_⟩] (fun b q p=>⟨p.ke 0 rfl i0,p.ke 3 rfl i3,p.ke 9 rfl i9,p.ke 10 rfl i10,p.ke 11 rfl i11,p.ou 0 12 rfl,trivial⟩) ?_
  rintro a k ⟨⟨hg,hs,hd⟩,i0,i3,i9,i10,i11,i12,_⟩
  refine wp_seq ?_
  refine wp_cond_split (isBool i12) (fun hc1250=>?_) (fun hc1250=>?_)
  ·rw [if_pos hc1250] at hr
   refine wp_skip ?_
   refine wp_seq ?_
   refine wp_block ?_
   refine wp_seq ?_
   obtain ⟨x1,hx1,hr⟩:=bind_some hr
   refine cut (fun a' k'=>Bs noF k0 36 a' k'∧(IsV slices_) (a'.get 0) k'∧(IsV s1.1) (a'.get 3) k'∧(IsV x1) (a'.get 5) k'∧(IsV slices_) (a'.get 9) k'∧(IsL slices_) (a'.get 10) k'∧(IsV s1.2) (a'.get 11) k'∧True) ?_ hQ ?_
   ·intro Q2 W2 w1
    refine gS 3 (_::_::_::[]) hs (by kernel_rfl) ⟨o1 [(9,none),(11,none)] rfl fun _ _ h n=>ok_indexAddr rfl Tryz.underlying233 ty130 (IsV.rd (up i9 h n.1)) (up i11 h n.2.1) hx1,o1 [(13,some 0)] rfl fun _ _ h n=>ok_load rfl ty130 n.1,cp 1 rfl rfl,trivial⟩ W2 fun b q p=>?_
    exact tail_done (k:=q) (w1 _ _ ⟨Bs.post ⟨hg,hs,hd⟩ p,p.ke 0 rfl i0,p.ke 3 rfl i3,p.ou 2 5 rfl,p.ke 9 rfl i9,p.ke 10 rfl i10,p.ke 11 rfl i11,trivial⟩)
   rintro a k ⟨⟨hg,hs,hd⟩,i0,i3,i5,i9,i10,i11,_⟩
   refine wp_seq ?_
   obtain ⟨x2,hx2,hr⟩:=bind_some hr
   refine cut (fun a' k'=>Bs noF k0 36 a' k'∧(IsV slices_) (a'.get 0) k'∧(IsV x2) (a'.get 3) k'∧(IsV slices_) (a'.get 9) k'∧(IsL slices_) (a'.get 10) k'∧(IsV s1.2) (a'.get 11) k'∧True) ?_ hQ ?_
   ·intro Q3 W3 w2
    refine gS 5 (_::_::_::_::_::[]) hs (by kernel_rfl) ⟨mu rfl i3,mu rfl i5,o1 [(16,some 1)] rfl fun _ _ h n=>ok_len rfl rfl Tryz.underlying130 (IsV.rd n.1),o1 [(15,some 0),(17,some 2)] rfl fun _ _ h n=>ok_add rfl n.1 n.2.1 hx2,cp 3 rfl rfl,trivial⟩ W3 fun b q p=>?_
    exact tail_done (k:=q) (w2 _ _ ⟨Bs.post ⟨hg,hs,hd⟩ p,p.ke 0 rfl i0,p.ou 4 3 rfl,p.ke 9 rfl i9,p.ke 10 rfl i10,p.ke 11 rfl i11,trivial⟩)
   rintro a k ⟨⟨hg,hs,hd⟩,i0,i3,i9,i10,i11,_⟩
   refine stepL 2 (_::_::[]) rfl ⟨hg,hs,hd⟩ (by kernel_rfl) ⟨mu rfl i3,o1 [(19,some 0)] rfl fun _ _ h n=>ok_lss rfl n.1 (cI rfl),trivial⟩ [⟨_,_⟩,⟨_,_⟩,⟨_,_⟩,⟨_,_⟩,⟨_,_⟩,⟨_,_⟩] (fun b q p=>⟨p.ke 0 rfl i0,p.ke 3 rfl i3,p.ke 9 rfl i9,p.ke 10 rfl i10,p.ke 11 rfl i11,p.ou 1 20 rfl,trivial⟩) ?_
   rintro a k ⟨⟨hg,hs,hd⟩,i0,i3,i9,i10,i11,i20,_⟩
   refine wp_cond_split (isBool i20) (fun hc1243=>?_) (fun hc1243=>?_)
   ·rw [if_pos hc1243] at hr
    simp at hr
   rw [if_neg (by rw [hc1243]; decide)] at hr
   refine wp_skip ?_
   obtain ⟨x3,hx3,hr⟩:=bind_some hr
   refine cut (fun a' k'=>Bs noF k0 36 a' k'∧(IsV slices_) (a'.get 0) k'∧(IsV x2) (a'.get 3) k'∧(IsV slices_) (a'.get 9) k'∧(IsL slices_) (a'.get 10) k'∧(IsV x3) (a'.get 11) k'∧True) ?_ hQ ?_
   ·intro Q4 W4 w3
    refine gS 2 (_::_::[]) hs (by kernel_rfl) ⟨o1 [(11,none)] rfl fun _ _ h n=>ok_add rfl (up i11 h n.1) (cI rfl) hx3,cm 0 rfl rfl,trivial⟩ W4 fun b q p=>?_
    exact tail_done (k:=q) (w3 _ _ ⟨Bs.post ⟨hg,hs,hd⟩ p,p.ke 0 rfl i0,p.ke 3 rfl i3,p.ke 9 rfl i9,p.ke 10 rfl i10,p.ou 1 11 rfl,trivial⟩)
   rintro a k ⟨⟨hg,hs,hd⟩,i0,i3,i9,i10,i11,_⟩
   exact hgo1233 _ _ _ (Option.some.inj hr).symm ⟨⟨hg,hs,hd⟩,i0,i3,i9,i10,i11,trivial⟩
  rw [if_neg (by rw [hc1250]; decide)] at hr
  refine wp_exit ?_
  exact hex1234 _ _ _ _ (Option.some.inj hr).symm ⟨rfl,⟨hg,hs,hd⟩,i0,i3,trivial⟩
 ·rintro r1 a k rfl hR
  dsimp only at hr
  obtain rfl:=Option.some.inj hr
  exact hR
 ·rintro _ _ _ rfl _
  simp at hr
 clear hf1
 rintro _ s2 a k rfl ⟨rfl,⟨hg,hs,hd⟩,i0,i3,_⟩
 dsimp only at hr
 refine wp_seq ?_
 obtain ⟨x4,hx4,hr⟩:=bind_some hr
 refine cut (fun a' k'=>Bs noF k0 36 a' k'∧(IsV slices_) (a'.get 0) k'∧IsOwn 0 79 x4 (a'.get 6) k'∧Lo k0 (obF (a'.get 6))∧True) ?_ hQ ?_
 ·intro Q5 W5 w4
  refine gS 3 (_::_::_::[]) hs (by kernel_rfl) ⟨mu rfl i3,o1 [(23,some 0)] rfl fun _ _ h n=>ok_call rfl Tryz.call185 (ret_weaken h.size (slices_Grow_Rect_okO rfl n.1 hx4)),cp 1 rfl rfl,trivial⟩ W5 fun b q p=>?_
  have hgq:=hg.then p.grow
  have hsb:=p.size.trans hs
  have hdb:=p.defers.trans hd
  have j0:=p.ke 0 rfl i0
  have j6:(IsOwn k.w.heap.size 79 x4) (b.get 6) q:=p.ou 2 6 rfl
  have x6:Lo k (obF (b.get 6)):=j6.loF
  have y6:=x6.chg hg
  replace j6:=j6.weaken (Nat.zero_le _)
  exact tail_done (k:=q) (w4 _ _ ⟨⟨hgq,hsb,hdb⟩,j0,j6,y6,trivial⟩)
 rintro a k ⟨⟨hg,hs,hd⟩,i0,i6,n6,_⟩
 refine wp_seq ?_
 refine cutS (fun c l=>Bs noF k0 36 c l∧IsOwn 0 79 x4 (c.get 6) l∧Lo k0 (obF (c.get 6))∧IsV slices_ (c.get 25) l∧IsL slices_ (c.get 26) l∧IsI 0 (c.get 27) l∧True) ?_ ?_
 ·intro Q6 W6 w5
  refine gS 3 (_::_::⟨some (IsI 0),[]⟩::[]) hs (by kernel_rfl) ⟨mu rfl i0,o1 [(25,some 0)] rfl fun _ _ h n=>ok_len rfl rfl Tryz.underlying233 (IsV.rd n.1),ob1 rfl fun _ _ h n=>ok_move rfl (cI rfl),trivial⟩ W6 fun b q p=>?_
  exact tail_done (k:=q) (w5 _ _ ⟨Bs.post ⟨hg,hs,hd⟩ p,p.ke 6 rfl i6,(by rw [p.old 6 rfl]; exact n6),p.ou 0 25 rfl,p.ou 1 26 rfl,p.ou 2 27 rfl,trivial⟩)
 rintro a k ⟨⟨hg,hs,hd⟩,i6,n6,i25,i26,i27,_⟩
 refine wp_block ?_
 obtain ⟨f2,hf2,hr⟩:=bind_some hr
 refine cutFe f2 (fun s' c l=>Bs noF k0 36 c l∧IsOwn 0 79 s'.1 (c.get 6) l∧Lo k0 (obF (c.get 6))∧IsV slices_ (c.get 25) l∧IsL slices_ (c.get 26) l∧IsV s'.2 (c.get 27) l∧True) (fun i' s' c l=>(i' = 2∧Bs noF k0 36 c l∧IsOwn 0 79 s'.1 (c.get 6) l∧Lo k0 (obF (c.get 6))∧True)) (fun r' c l=>bodyPost Tryz.prog Tryz.f183 (RetC noF k0 (IsOwn k0.w.heap.size 79 r')) .ret c l.w) ?_ hQ ?_ ?_ ?_
 ·intro Q7 W7 hgo hex hret
  refine sim_loop ?_ _ _ _ _ _ hf2 ⟨⟨hg,hs,hd⟩,i6,n6,i25,i26,i27,trivial⟩ Q7 W7 hgo hex hret
  clear hr hf2 hgo hex hret W7 hQ hg hs hd i25 i26 i27 i6 n6
  intro s3 fl_ a k hr hS Q hQ hgo1258 hex1259 hret1260
  obtain ⟨⟨hg,hs,hd⟩,i6,n6,i25,i26,i27,_⟩:=hS
  unfold slices_Concat_Rect_L1 at hr
  refine cutS (fun c l=>Bs noF k0 36 c l∧IsOwn 0 79 s3.1 (c.get 6) l∧Lo k0 (obF (c.get 6))∧IsV slices_ (c.get 25) l∧IsL slices_ (c.get 26) l∧IsV s3.2 (c.get 27) l∧(IsV (decide (s3.2 < (slices_.length:Int)))) (c.get 28) l∧True) ?_ ?_
  ·intro Q8 W8 w6
   refine gS 1 (_::[]) hs (by kernel_rfl) ⟨o1 [(27,none),(26,none)] rfl fun _ _ h n=>ok_lss rfl (up i27 h n.1) (up i26 h n.2.1),trivial⟩ W8 fun b q p=>?_
   exact tail_done (k:=q) (w6 _ _ ⟨Bs.post ⟨hg,hs,hd⟩ p,p.ke 6 rfl i6,(by rw [p.old 6 rfl]; exact n6),p.ke 25 rfl i25,p.ke 26 rfl i26,p.ke 27 rfl i27,p.ou 0 28 rfl,trivial⟩)
  rintro a k ⟨⟨hg,hs,hd⟩,i6,n6,i25,i26,i27,i28,_⟩
  refine wp_seq ?_
  refine wp_cond_split (isBool i28) (fun hc1271=>?_) (fun hc1271=>?_)
  ·rw [if_pos hc1271] at hr
   refine wp_skip ?_
   refine wp_seq ?_
   refine wp_block ?_
   refine wp_seq ?_
   obtain ⟨x5,hx5,hr⟩:=bind_some hr
   refine cut (fun a' k'=>Bs noF k0 36 a' k'∧IsOwn 0 79 s3.1 (a'.get 6) k'∧Lo k0 (obF (a'.get 6))∧(IsV x5) (a'.get 8) k'∧(IsV slices_) (a'.get 25) k'∧(IsL slices_) (a'.get 26) k'∧(IsV s3.2) (a'.get 27) k'∧True) ?_ hQ ?_
   ·intro Q9 W9 w7
    refine gS 3 (_::_::_::[]) hs (by kernel_rfl) ⟨o1 [(25,none),(27,none)] rfl fun _ _ h n=>ok_indexAddr rfl Tryz.underlying233 ty130 (IsV.rd (up i25 h n.1)) (up i27 h n.2.1) hx5,o1 [(29,some 0)] rfl fun _ _ h n=>ok_load rfl ty130 n.1,cp 1 rfl rfl,trivial⟩ W9 fun b q p=>?_
    exact tail_done (k:=q) (w7 _ _ ⟨Bs.post ⟨hg,hs,hd⟩ p,p.ke 6 rfl i6,(by rw [p.old 6 rfl]; exact n6),p.ou 2 8 rfl,p.ke 25 rfl i25,p.ke 26 rfl i26,p.ke 27 rfl i27,trivial⟩)
   rintro a k ⟨⟨hg,hs,hd⟩,i6,n6,i8,i25,i26,i27,_⟩
   obtain ⟨x7,hx7,hr⟩:=bind_some hr
   refine cut (fun a' k'=>Bs noF k0 36 a' k'∧IsOwn 0 79 x7 (a'.get 6) k'∧Lo k0 (obF (a'.get 6))∧(IsV slices_) (a'.get 25) k'∧(IsL slices_) (a'.get 26) k'∧(IsV s3.2) (a'.get 27) k'∧True) ?_ hQ ?_
   ·intro Q10 W10 w8
    refine gS 2 (⟨some (OwnAt (a.get 6) 0 79 s3.1),[(6,none)]⟩::_::[]) hs (by kernel_rfl) ⟨ob1 rfl fun _ _ h n=>ok_moveOA (.inl rfl) (ownAt n.1 (up i6 h n.1)),mu rfl i8,trivial⟩ W10 fun b q p=>?_
    have hgq:=hg.then p.grow
    have hsb:=p.size.trans hs
    have hdb:=p.defers.trans hd
    have j25:=p.ke 25 rfl i25
    have j26:=p.ke 26 rfl i26
    have j27:=p.ke 27 rfl i27
    have e31:b.get 31 = a.get 6:=(p.ou 0 31 rfl).1
    have j31:IsOwn 0 79 s3.1 (b.get 31) q:=(p.ou 0 31 rfl).2
    have y31:Lo k0 (obF (b.get 31)):=by rw [e31]; exact n6
    have j32:(IsV x5) (b.get 32) q:=p.ou 1 32 rfl
    have hns:=j31.nshF
    refine tail_appendS (i:=2) (d:=33) rfl rfl rfl rfl (by rw [hsb]; decide) (e:=79) Tryz.underlying130 eo79 j31 (IsV.rd j32) hx7 fun b2 q2 hsz hdf hoth hch hown hob=>?_
    have hle:=hch.le hns
    have yn:Lo k0 (obF (b2.get 33)):=y31.app hgq hob
    replace j25:=Pers.pers hle j25
    replace j26:=Pers.pers hle j26
    replace j27:=Pers.pers hle j27
    replace j32:=Pers.pers hle j32
    replace hgq:=hgq.step hch y31.wr
    rw [← hoth 25 (by decide)] at j25
    rw [← hoth 26 (by decide)] at j26
    rw [← hoth 27 (by decide)] at j27
    rw [← hoth 32 (by decide)] at j32
    have j33:=hown
    have y33:=yn
    replace hsb:=hsz.trans hsb
    replace hdb:=hdf.trans hdb
    clear hle hch hown hob hns yn hsz hdf hoth
    obtain ⟨b,hbb⟩ : ∃ b,b = b2:=⟨b2,rfl⟩
    subst hbb
    obtain ⟨q,hqq⟩ : ∃ q,q = q2:=⟨q2,rfl⟩
    subst hqq
    refine tail_assign (i:=3) (d:=6) rfl rfl (.inl rfl) rfl (by rw [hsb]; decide) fun b2 hsz hdf hnew hoth=>?_
    have jn:(IsOwn 0 79 x7) (b2.get 6) q:=by rw [hnew]; exact j33
    have yn:Lo k0 (obF (b2.get 6)):=by rw [hnew]; exact y33
    rw [← hoth 25 (by decide)] at j25
    rw [← hoth 26 (by decide)] at j26
    rw [← hoth 27 (by decide)] at j27
    rw [← hoth 32 (by decide)] at j32
    have j6:=jn
    have y6:=yn
    replace hsb:=hsz.trans hsb
    replace hdb:=hdf.trans hdb
    clear hsz hdf hoth
    obtain ⟨b,hbb⟩ : ∃ b,b = b2:=⟨b2,rfl⟩
    subst hbb
    exact tail_done (k:=q) (w8 _ _ ⟨⟨hgq,hsb,hdb⟩,j6,y6,j25,j26,j27,trivial⟩)
   rintro a k ⟨⟨hg,hs,hd⟩,i6,n6,i25,i26,i27,_⟩
   obtain ⟨x8,hx8,hr⟩:=bind_some hr
   refine cut (fun a' k'=>Bs noF k0 36 a' k'∧IsOwn 0 79 x7 (a'.get 6) k'∧Lo k0 (obF (a'.get 6))∧(IsV slices_) (a'.get 25) k'∧(IsL slices_) (a'.get 26) k'∧(IsV x8) (a'.get 27) k'∧True) ?_ hQ ?_
   ·intro Q11 W11 w9
    refine gS 2 (_::_::[]) hs (by kernel_rfl) ⟨o1 [(27,none)] rfl fun _ _ h n=>ok_add rfl (up i27 h n.1) (cI rfl) hx8,cm 0 rfl rfl,trivial⟩ W11 fun b q p=>?_
    exact tail_done (k:=q) (w9 _ _ ⟨Bs.post ⟨hg,hs,hd⟩ p,p.ke 6 rfl i6,(by rw [p.old 6 rfl]; exact n6),p.ke 25 rfl i25,p.ke 26 rfl i26,p.ou 1 27 rfl,trivial⟩)
   rintro a k ⟨⟨hg,hs,hd⟩,i6,n6,i25,i26,i27,_⟩
   exact hgo1258 _ _ _ (Option.some.inj hr).symm ⟨⟨hg,hs,hd⟩,i6,n6,i25,i26,i27,trivial⟩
  rw [if_neg (by rw [hc1271]; decide)] at hr
  refine wp_exit ?_
  exact hex1259 _ _ _ _ (Option.some.inj hr).symm ⟨rfl,⟨hg,hs,hd⟩,i6,n6,trivial⟩
 ·rintro r2 a k rfl hR
  dsimp only at hr
  obtain rfl:=Option.some.inj hr
  exact hR
 ·rintro _ _ _ rfl _
  simp at hr
 clear hf2
 rintro _ s4 a k rfl ⟨rfl,⟨hg,hs,hd⟩,i6,n6,_⟩
 dsimp only at hr
 refine cutS (fun c l=>Bs noF k0 36 c l∧IsOwn 0 79 s4.1 (c.get 2) l∧Lo k0 (obF (c.get 2))∧True) ?_ ?_
 ·intro Q12 W12 w10
  refine gS 2 (⟨some (OwnAt (a.get 6) 0 79 s4.1),[(6,none)]⟩::⟨some (OwnAt (a.get 6) 0 79 s4.1),[(35,some 0)]⟩::[]) hs (by kernel_rfl) ⟨ob1 rfl fun _ _ h n=>ok_moveOA (.inl rfl) (ownAt n.1 (up i6 h n.1)),ob1 rfl fun _ _ h n=>ok_moveOA (.inr rfl) n.1,trivial⟩ W12 fun b q p=>?_
  have hgq:=hg.then p.grow
  have hsb:=p.size.trans hs
  have hdb:=p.defers.trans hd
  have e2:b.get 2 = a.get 6:=(p.ou 1 2 rfl).1
  have j2:IsOwn 0 79 s4.1 (b.get 2) q:=(p.ou 1 2 rfl).2
  have y2:Lo k0 (obF (b.get 2)):=by rw [e2]; exact n6
  exact tail_done (k:=q) (w10 _ _ ⟨⟨hgq,hsb,hdb⟩,j2,y2,trivial⟩)
 rintro a k ⟨⟨hg,hs,hd⟩,i2,n2,_⟩
 refine wp_ret ?_
 obtain rfl:=Option.some.inj hr
 exact retC1 rfl hd hg (show ResOk _ _ _ (.tmp 2) _ from IsOwn.raise (k0:=k0) i2 n2)
theorem slices_Concat_Rect_ok {k0:K} {v0:Value} {slices_:(List (List Rect))} {r:(List Rect)} (i0:(IsV slices_) v0 k0) (hr:slices_Concat_Rect slices_ = some r) :
  Calls Tryz.prog 183 #[v0] k0.w (Ret k0 (IsV r)):=
 ret_give (slices_Concat_Rect_okO i0 hr)
def region_column_1 (a_:RegionSpan) (b_:RegionSpan):Option (Int):=
 (cmp_Compare_int a_.from_ b_.from_).bind fun x1=>
 some x1
noncomputable def k187:=mk 187 [.st 23,.st 23] [.int] (fun x=>region_column_1 x.1 x.2) [k150] [] Tryz.f187 (.n) Tryz.func187 Tryz.call187 rfl rfl fun x=>by kernel_rfl
theorem region_column_1_ok {k0:K} {v0 v1:Value} {x0:RegionSpan} {x1:RegionSpan} {r:Int} (i0:IsV x0 v0 k0) (i1:IsV x1 v1 k0) (hr:region_column_1 x0 x1 = some r):Calls Tryz.prog 187 #[v0,v1] k0.w (Ret k0 (IsV r)):=(k187.ok.ok k0 [v0,v1] (x0,x1) r (GOk.none (fun _=>rfl) fun _ e=>by cases e) ⟨i0,i1⟩ hr)
section
open Go.Proofs Go.RowKit Go.Lib Go.Sort Go.Shelf
def Tryz.sortSpansL_ren:Go.Shelf.Ren:=⟨fun | 6=>186 | 15=>132 | 14=>188 | 28=>160 | 29=>161 | 20=>189 | 21=>190 | 22=>191 | 23=>192 | 24=>193 | 25=>194 | 26=>195 | 27=>196 | 46=>197 | 47=>169 | 48=>170 | 49=>198 | 50=>199 | 57=>200 | n=>n,fun | 22=>228 | 24=>230 | 25=>238 | 3=>3 | 39=>179 | 0=>0 | 53=>207 | 55=>209 | 4=>4 | 46=>199 | 45=>198 | 50=>204 | 5=>5 | 9=>9 | 66=>214 | 70=>218 | 76=>221 | 77=>222 | n=>n,fun | n=>n⟩
theorem Tryz.sortSpansL:Go.Proofs.SlLaysF0.n6 Tryz.prog Tryz.sortSpansL_ren:={
 mixed:=by kernel_rfl,
 f6:=⟨Tryz.f186.name,by decide,Tryz.func186.trans (congrArg some (by kernel_rfl))⟩,
 f14:=⟨Tryz.f188.name,by decide,Tryz.func188.trans (congrArg some (by kernel_rfl))⟩,
 f15:=Tryz.func132.trans (congrArg some (by kernel_rfl)),
 f20:=⟨Tryz.f189.name,by decide,Tryz.func189.trans (congrArg some (by kernel_rfl))⟩,
 f21:=⟨Tryz.f190.name,by decide,Tryz.func190.trans (congrArg some (by kernel_rfl))⟩,
 f22:=⟨Tryz.f191.name,by decide,Tryz.func191.trans (congrArg some (by kernel_rfl))⟩,
 f23:=⟨Tryz.f192.name,by decide,Tryz.func192.trans (congrArg some (by kernel_rfl))⟩,
 f24:=⟨Tryz.f193.name,by decide,Tryz.func193.trans (congrArg some (by kernel_rfl))⟩,
 f25:=⟨Tryz.f194.name,by decide,Tryz.func194.trans (congrArg some (by kernel_rfl))⟩,
 f26:=⟨Tryz.f195.name,by decide,Tryz.func195.trans (congrArg some (by kernel_rfl))⟩,
 f27:=⟨Tryz.f196.name,by decide,Tryz.func196.trans (congrArg some (by kernel_rfl))⟩,
 f28:=Tryz.func160.trans (congrArg some (by kernel_rfl)),
 f29:=Tryz.func161.trans (congrArg some (by kernel_rfl)),
 f46:=⟨Tryz.f197.name,by decide,Tryz.func197.trans (congrArg some (by kernel_rfl))⟩,
 f47:=Tryz.func169.trans (congrArg some (by kernel_rfl)),
 f48:=Tryz.func170.trans (congrArg some (by kernel_rfl)),
 f49:=⟨Tryz.f198.name,by decide,Tryz.func198.trans (congrArg some (by kernel_rfl))⟩,
 f50:=⟨Tryz.f199.name,by decide,Tryz.func199.trans (congrArg some (by kernel_rfl))⟩,
 f57:=⟨Tryz.f200.name,by decide,Tryz.func200.trans (congrArg some (by kernel_rfl))⟩,
 t0:=Tryz.underlying0,
 a0:=Tryz.isAgg0,
 z0:=Tryz.sizeOf0,
 v0:=Tryz.zeroValue0,
 t3:=Tryz.underlying3,
 a3:=Tryz.isAgg3,
 z3:=Tryz.sizeOf3,
 v3:=Tryz.zeroValue3,
 t4:=Tryz.underlying4,
 a4:=Tryz.isAgg4,
 z4:=Tryz.sizeOf4,
 v4:=Tryz.zeroValue4,
 t5:=Tryz.underlying5,
 a5:=Tryz.isAgg5,
 z5:=Tryz.sizeOf5,
 v5:=Tryz.zeroValue5,
 t9:=Tryz.underlying9,
 a9:=Tryz.isAgg9,
 z9:=Tryz.sizeOf9,
 v9:=Tryz.zeroValue9,
 t22:=Tryz.underlying228,
 a22:=Tryz.isAgg228,
 z22:=Tryz.sizeOf228,
 v22:=Tryz.zeroValue228,
 t25:=Tryz.underlying238,
 a25:=Tryz.isAgg238,
 z25:=Tryz.sizeOf238,
 v25:=Tryz.zeroValue238,
 t39:=Tryz.underlying179,
 a39:=Tryz.isAgg179,
 z39:=Tryz.sizeOf179,
 v39:=Tryz.zeroValue179,
 t45:=Tryz.underlying198,
 a45:=Tryz.isAgg198,
 z45:=Tryz.sizeOf198,
 v45:=Tryz.zeroValue198,
 t46:=Tryz.underlying199,
 a46:=Tryz.isAgg199,
 z46:=Tryz.sizeOf199,
 v46:=Tryz.zeroValue199,
 t50:=Tryz.underlying204,
 a50:=Tryz.isAgg204,
 z50:=Tryz.sizeOf204,
 v50:=Tryz.zeroValue204,
 t53:=Tryz.underlying207,
 a53:=Tryz.isAgg207,
 z53:=Tryz.sizeOf207,
 v53:=Tryz.zeroValue207,
 t55:=Tryz.underlying209,
 a55:=Tryz.isAgg209,
 z55:=Tryz.sizeOf209,
 v55:=Tryz.zeroValue209,
 t66:=Tryz.underlying214,
 a66:=Tryz.isAgg214,
 z66:=Tryz.sizeOf214,
 v66:=Tryz.zeroValue214,
 t70:=Tryz.underlying218,
 a70:=Tryz.isAgg218,
 z70:=Tryz.sizeOf218,
 v70:=Tryz.zeroValue218,
 t76:=Tryz.underlying221,
 a76:=Tryz.isAgg221,
 z76:=Tryz.sizeOf221,
 v76:=Tryz.zeroValue221,
 t77:=Tryz.underlying222,
 a77:=Tryz.isAgg222,
 z77:=Tryz.sizeOf222,
 v77:=Tryz.zeroValue222 }
instance:FlatE RegionSpan:=FlatE.ofMap fun x:RegionSpan=>(x.from_,x.to_)
/-- What the comparison of two spans hands back. -/
def spanCmp (x y:RegionSpan):Int:=if x.from_ < y.from_ then -1 else if y.from_ < x.from_ then 1 else 0
theorem column_1_val (x y:RegionSpan):region_column_1 x y = some (spanCmp x y):=by
 unfold region_column_1 cmp_Compare_int cmp_isNaN_int spanCmp
 by_cases h:x.from_ < y.from_
 ·simp [h]
 ·by_cases h2:y.from_ < x.from_ <;> simp [h,h2]
theorem ltOf_span (x y:RegionSpan):ltOf spanCmp x y = decide (x.from_ < y.from_):=by
 unfold ltOf spanCmp
 congr 1
 rw [eq_iff_iff]
 split
 ·simp [*]
 ·split <;> simp [*]
theorem spanCmp_swo:SWO (ltOf spanCmp):=by
 constructor <;> simp only [ltOf_span,decide_eq_true_eq,decide_eq_false_iff_not] <;> intros <;> omega
def sortSpans (l:List RegionSpan):Option (List RegionSpan):=if l.length ≤ 1073741824 then some (pdq (ltOf spanCmp) l.toArray 0 l.toArray.size (Lib.bitLen l.toArray.size) true true).toList else none
theorem sortSpans_spec {l:List RegionSpan} (h:l.length ≤ 1000000) : ∃ r,sortSpans l = some r∧r.Perm l∧r.Pairwise fun a b=>a.from_ ≤ b.from_:=by
 obtain ⟨⟨h1,_,h2⟩,h3⟩:=pdq_sorts (ltOf spanCmp) spanCmp_swo l.toArray 0 l.toArray.size (Lib.bitLen l.toArray.size) true true (Nat.zero_le _) (Nat.le_refl _) (Or.inl rfl)
 refine ⟨_,if_pos (by omega),?_,?_⟩
 ·generalize pdq (ltOf spanCmp) l.toArray 0 l.toArray.size (Lib.bitLen l.toArray.size) true true = r at h1 h2
  have e:r.extract 0 l.toArray.size = r:=by rw [← h1]; simp
  rw [e] at h2
  simpa using h2
 ·rw [List.pairwise_iff_getElem]
  intro i j hi hj hij
  have:=h3 i j (Nat.zero_le _) hij (by rw [← h1]; simpa using hj)
  rw [getElem!_pos _ j (by simpa using hj),getElem!_pos _ i (by simpa using hi)] at this
  rw [ltOf_span,decide_eq_false_iff_not] at this
  simp only [Array.getElem_toList]
  omega
theorem pdq_size (d:Array RegionSpan):(pdq (ltOf spanCmp) d 0 d.size (Lib.bitLen d.size) true true).size = d.size:=
 (pdq_sorts (ltOf spanCmp) spanCmp_swo d 0 d.size (Lib.bitLen d.size) true true (Nat.zero_le _) (Nat.le_refl _) (Or.inl rfl)).1.1
set_option maxHeartbeats 2000000 in
theorem sortSpans_ok {k0:K} {v0:Value} {l r:List RegionSpan} (i0:IsOwn 0 230 l v0 k0) (hr:sortSpans l = some r) :
  Calls Tryz.prog 186 #[v0,.func (.func 187) #[] #[]] k0.w (RetC (obF v0) k0 fun _ k'=>IsOwn 0 230 r v0 k'):=by
 unfold sortSpans at hr
 split at hr
 ·rename_i h12
  obtain rfl:=Option.some.inj hr
  refine sort_own (S:=fun d=>pdq (ltOf spanCmp) d 0 d.size (Lib.bitLen d.size) true true) pdq_size (fun p cap w=>?_) (fun blk off cap w hH hblk=>?_) i0
  ·have hcon:=AnyF.slices_SortFunc_none { Tryz.sortSpansL with } p cap (.func (.func 187) #[] #[]) w
   change Calls Tryz.prog 186 _ _ _ at hcon
   exact hcon
  ·have hcon:=AnyQ.slices_SortFunc_eq Tryz.sortSpansL 2 Tryz.isAgg230 Tryz.sizeOf230 (FlatE.enc (α:=RegionSpan)) (fun _=>rfl) (fun x v hv=>flat_one k0 x v hv) spanCmp spanCmp_swo 187 #[] blk off cap l.toArray w (enters_of Tryz.func187 (by kernel_rfl) rfl)
    (fun _ _ _ _ x y=>ret_cmp (k:=kFree _) (region_column_1_ok (isV_flat rfl x _) (isV_flat rfl y _) (column_1_val x y))) hH hblk (by simp; omega)
   change Calls Tryz.prog 186 _ _ _ at hcon
   exact hcon
 ·simp at hr
end
def region_column_L0 (l_:(List Rect)) (x_:Int) (s1:(List RegionSpan) × Int):Option (Flow ((List RegionSpan) × Int) ((List RegionSpan))):=
 if (decide (s1.2 < (l_.length:Int))) then
  (getI l_ s1.2).bind fun x1=>
  (if ((decide (x1.X0 ≤ x_)) && (decide (x_ < x1.X1))) then
   (appI s1.1 ([(⟨x1.Y0,x1.Y1⟩:RegionSpan)])).bind fun x2=>
   some x2
  else
   some s1.1).bind fun s2=>
  (addI s1.2 1).bind fun x3=>
  some (.go (s2,x3))
 else
  some (.ex 0 (s1.1,s1.2))
def region_column_L1 (x1:(List RegionSpan)) (s1:(List RegionSpan) × Int):Option (Flow ((List RegionSpan) × Int) ((List RegionSpan))):=
 if (decide (s1.2 < (x1.length:Int))) then
  (getI x1 s1.2).bind fun x2=>
  (if (decide (0 < (s1.1.length:Int))) then
   (subI (s1.1.length:Int) 1).bind fun x3=>
   (getI s1.1 x3).bind fun x4=>
   some (decide (x2.from_ ≤ x4.to_))
  else
   some false).bind fun x5=>
  (if x5 then
   (subI (s1.1.length:Int) 1).bind fun x6=>
   (subI (s1.1.length:Int) 1).bind fun x7=>
   (getI s1.1 x7).bind fun x8=>
   (getI s1.1 x6).bind fun x9=>
   (some (s1.1.set (x6).toNat ({ x9 with to_:=(max x8.to_ x2.to_) }))).bind fun x10=>
   some x10
  else
   (appI s1.1 ([x2])).bind fun x11=>
   some x11).bind fun s2=>
  (addI s1.2 1).bind fun x12=>
  some (.go (s2,x12))
 else
  some (.ex 2 (s1.1,s1.2))
def region_column (l_:(List Rect)) (x_:Int):Option ((List RegionSpan)):=
 (iterL (region_column_L0 l_ x_) (l_.length + 1) (([]:List RegionSpan),0)).bind fun f1=>match f1 with
  | .go _=>none
  | .ex _ s1 =>
   (sortSpans s1.1).bind fun x1=>
   (iterL (region_column_L1 x1) (x1.length + 1) (([]:List RegionSpan),0)).bind fun f2=>match f2 with
    | .go _=>none
    | .ex _ s2=>
     some s2.1
    | .ret r1=>some r1
  | .ret r2=>some r2
theorem region_column_ok {k0:K} {v0 v1:Value} {l_:(List Rect)} {x_:Int} {r:(List RegionSpan)} (i0:(IsV l_) v0 k0) (i1:(IsV x_) v1 k0) (hr:region_column l_ x_ = some r) :
  Calls Tryz.prog 184 #[v0,v1] k0.w (Ret k0 (IsV r)):=by
 unfold region_column at hr
 refine Ret.ofC ?_
 refine enterK Tryz.func184 rfl Tryz.ntmps184 (show 2 ≤ 80 by decide) fun a k hk0 hs hd ha=>?_
 obtain ⟨e0,e1,_⟩:=ha
 replace i0:(IsV l_) (a.get 0) k:=by rw [e0,hk0]; exact i0
 replace i1:(IsV x_) (a.get 1) k:=by rw [e1,hk0]; exact i1
 have hQ:Gb.LetsOut (bodyPost Tryz.prog Tryz.f184 (RetC noF k0 (IsV r))):=letsOutC
 have hg:Chg noF k0 k:=by rw [hk0]; exact Chg.refl _ k0
 refine stepL 1 (⟨some IsE0,[]⟩::[]) rfl ⟨hg,hs,hd⟩ (by kernel_rfl) ⟨ob1 rfl fun b q h n=>ok_assign rfl isE0_nil,trivial⟩ [⟨_,_⟩,⟨_,_⟩] (fun b q p=>⟨p.ke 0 rfl i0,p.ke 1 rfl i1,trivial⟩) ?_
 rintro a k ⟨⟨hg,hs,hd⟩,i0,i1,_⟩
 refine cutS (fun c l=>Bs noF k0 80 c l∧IsV l_ (c.get 0) l∧IsV x_ (c.get 1) l∧IsOwn 0 230 ([]:List RegionSpan) (c.get 5) l∧Lo k0 (obF (c.get 5))∧True) ?_ ?_
 ·intro Q1 W1 w1
  refine gS 1 (⟨some IsE0,[]⟩::[]) hs (by kernel_rfl) ⟨ob1 rfl fun b q h n=>ok_assign rfl isE0_nil,trivial⟩ W1 fun b q p=>?_
  have hgq:=hg.then p.grow
  have hsb:=p.size.trans hs
  have hdb:=p.defers.trans hd
  have j0:=p.ke 0 rfl i0
  have j1:=p.ke 1 rfl i1
  have j5:IsE0 (b.get 5) q:=p.ou 0 5 rfl
  have y5:Lo k0 (obF (b.get 5)):=j5.lo
  replace j5:IsOwn 0 230 ([]:List RegionSpan) (b.get 5) q:=j5.own0
  exact tail_done (k:=q) (w1 _ _ ⟨⟨hgq,hsb,hdb⟩,j0,j1,j5,y5,trivial⟩)
 rintro a k ⟨⟨hg,hs,hd⟩,i0,i1,i5,n5,_⟩
 refine wp_seq ?_
 refine cutS (fun c l=>Bs noF k0 80 c l∧IsV x_ (c.get 1) l∧IsOwn 0 230 ([]:List RegionSpan) (c.get 5) l∧Lo k0 (obF (c.get 5))∧IsV l_ (c.get 12) l∧IsL l_ (c.get 13) l∧IsI 0 (c.get 14) l∧True) ?_ ?_
 ·intro Q2 W2 w2
  refine gS 3 (_::_::⟨some (IsI 0),[]⟩::[]) hs (by kernel_rfl) ⟨mu rfl i0,o1 [(12,some 0)] rfl fun _ _ h n=>ok_len rfl rfl Tryz.underlying130 (IsV.rd n.1),ob1 rfl fun _ _ h n=>ok_move rfl (cI rfl),trivial⟩ W2 fun b q p=>?_
  exact tail_done (k:=q) (w2 _ _ ⟨Bs.post ⟨hg,hs,hd⟩ p,p.ke 1 rfl i1,p.ke 5 rfl i5,(by rw [p.old 5 rfl]; exact n5),p.ou 0 12 rfl,p.ou 1 13 rfl,p.ou 2 14 rfl,trivial⟩)
 rintro a k ⟨⟨hg,hs,hd⟩,i1,i5,n5,i12,i13,i14,_⟩
 refine wp_block ?_
 obtain ⟨f1,hf1,hr⟩:=bind_some hr
 refine cutFe f1 (fun s' c l=>Bs noF k0 80 c l∧IsV x_ (c.get 1) l∧IsOwn 0 230 s'.1 (c.get 5) l∧Lo k0 (obF (c.get 5))∧IsV l_ (c.get 12) l∧IsL l_ (c.get 13) l∧IsV s'.2 (c.get 14) l∧True) (fun i' s' c l=>(i' = 0∧Bs noF k0 80 c l∧IsOwn 0 230 s'.1 (c.get 5) l∧Lo k0 (obF (c.get 5))∧True)) (fun r' c l=>bodyPost Tryz.prog Tryz.f184 (RetC noF k0 (IsV r')) .ret c l.w) ?_ hQ ?_ ?_ ?_
 ·intro Q3 W3 hgo hex hret
  refine sim_loop ?_ _ _ _ _ _ hf1 ⟨⟨hg,hs,hd⟩,i1,i5,n5,i12,i13,i14,trivial⟩ Q3 W3 hgo hex hret
  clear hr hf1 hgo hex hret W3 hQ hg hs hd i1 i12 i13 i14 i5 n5
  intro s1 fl_ a k hr hS Q hQ hgo1303 hex1304 hret1305
  obtain ⟨⟨hg,hs,hd⟩,i1,i5,n5,i12,i13,i14,_⟩:=hS
  unfold region_column_L0 at hr
  refine cutS (fun c l=>Bs noF k0 80 c l∧IsV x_ (c.get 1) l∧IsOwn 0 230 s1.1 (c.get 5) l∧Lo k0 (obF (c.get 5))∧IsV l_ (c.get 12) l∧IsL l_ (c.get 13) l∧IsV s1.2 (c.get 14) l∧(IsV (decide (s1.2 < (l_.length:Int)))) (c.get 15) l∧True) ?_ ?_
  ·intro Q4 W4 w3
   refine gS 1 (_::[]) hs (by kernel_rfl) ⟨o1 [(14,none),(13,none)] rfl fun _ _ h n=>ok_lss rfl (up i14 h n.1) (up i13 h n.2.1),trivial⟩ W4 fun b q p=>?_
   exact tail_done (k:=q) (w3 _ _ ⟨Bs.post ⟨hg,hs,hd⟩ p,p.ke 1 rfl i1,p.ke 5 rfl i5,(by rw [p.old 5 rfl]; exact n5),p.ke 12 rfl i12,p.ke 13 rfl i13,p.ke 14 rfl i14,p.ou 0 15 rfl,trivial⟩)
  rintro a k ⟨⟨hg,hs,hd⟩,i1,i5,n5,i12,i13,i14,i15,_⟩
  refine wp_seq ?_
  refine wp_cond_split (isBool i15) (fun hc1323=>?_) (fun hc1323=>?_)
  ·rw [if_pos hc1323] at hr
   refine wp_skip ?_
   refine wp_seq ?_
   refine wp_block ?_
   refine wp_seq ?_
   obtain ⟨x1,hx1,hr⟩:=bind_some hr
   refine cut (fun a' k'=>Bs noF k0 80 a' k'∧(IsV x_) (a'.get 1) k'∧IsOwn 0 230 s1.1 (a'.get 5) k'∧Lo k0 (obF (a'.get 5))∧(IsRef x1) (a'.get 7) k'∧(IsV l_) (a'.get 12) k'∧(IsL l_) (a'.get 13) k'∧(IsV s1.2) (a'.get 14) k'∧True) ?_ hQ ?_
   ·intro Q5 W5 w4
    refine gS 3 (_::_::⟨some (IsBox k.w.heap.size (⟨0,0,0,0⟩:Rect)),[]⟩::[]) hs (by kernel_rfl) ⟨o1 [(12,none),(14,none)] rfl fun _ _ h n=>ok_indexAddr rfl Tryz.underlying130 ty79 (IsV.rd (up i12 h n.1)) (up i14 h n.2.1) hx1,o1 [(16,some 0)] rfl fun _ _ h n=>ok_load rfl ty79 n.1,ob1 rfl fun _ _ h n=>ok_alloc _ h.size rfl z79,trivial⟩ W5 fun b q p=>?_
    have hgq:=hg.then p.grow
    have hsb:=p.size.trans hs
    have hdb:=p.defers.trans hd
    have j1:=p.ke 1 rfl i1
    have j5:=p.ke 5 rfl i5
    have y5:Lo k0 (obF (b.get 5)):=by rw [p.old 5 rfl]; exact n5
    obtain ⟨b7,j7,x7,z7⟩:(IsBox k.w.heap.size (⟨0,0,0,0⟩:Rect)) (b.get 7) q:=p.ou 2 7 rfl
    replace x7:Lo k (Eq b7):=Lo.eq x7
    have y7:Lo k0 (Eq b7):=x7.chg hg
    have j12:=p.ke 12 rfl i12
    have j13:=p.ke 13 rfl i13
    have j14:=p.ke 14 rfl i14
    have j17:(IsV x1) (b.get 17) q:=p.ou 1 17 rfl
    have w5_7:Apart (obF (b.get 5)) (Eq b7):=Apart.new (by rw [p.old 5 rfl]; exact i5.ltF) x7
    have hns:=z7.nshF
    refine tail_storeB (i:=3) rfl rfl rfl rfl szf79 (Upd.self (α:=Rect)) j7 z7 j17 fun q2 hch hz=>?_
    replace hgq:=hgq.step hch y7.wr
    have hle:=hch.le hns
    replace j1:=Pers.pers hle j1
    replace j5:=j5.keep hch w5_7 hns
    replace j12:=Pers.pers hle j12
    replace j13:=Pers.pers hle j13
    replace j14:=Pers.pers hle j14
    replace j17:=Pers.pers hle j17
    replace z7:=hz
    clear hns hle hch
    obtain ⟨q,hqq⟩ : ∃ q,q = q2:=⟨q2,rfl⟩
    subst hqq
    obtain ⟨q2,hsh,jn⟩:=z7.give
    replace j1:=Pers.pers hsh.le j1
    replace j5:=j5.handed hsh w5_7
    replace j12:=Pers.pers hsh.le j12
    replace j13:=Pers.pers hsh.le j13
    replace j14:=Pers.pers hsh.le j14
    rw [← j7] at jn
    replace j7:=jn
    replace hgq:=hgq.hand hsh y7.wr
    rw [← hsh.w]
    clear hsh
    obtain ⟨q,hqq⟩ : ∃ q,q = q2:=⟨q2,rfl⟩
    subst hqq
    exact tail_done (k:=q) (w4 _ _ ⟨⟨hgq,hsb,hdb⟩,j1,j5,y5,j7,j12,j13,j14,trivial⟩)
   rintro a k ⟨⟨hg,hs,hd⟩,i1,i5,n5,i7,i12,i13,i14,_⟩
   refine cutS (fun c l=>Bs noF k0 80 c l∧IsV x_ (c.get 1) l∧IsOwn 0 230 s1.1 (c.get 5) l∧Lo k0 (obF (c.get 5))∧IsRef x1 (c.get 7) l∧IsV l_ (c.get 12) l∧IsL l_ (c.get 13) l∧IsV s1.2 (c.get 14) l∧(IsV ((decide (x1.X0 ≤ x_)) && (decide (x_ < x1.X1)))) (c.get 27) l∧True) ?_ ?_
   ·intro Q6 W6 w5
    refine gS 10 (_::_::_::_::_::_::_::_::_::_::[]) hs (by kernel_rfl) ⟨o1 [(7,none)] rfl fun _ _ h n=>ok_fieldAddr rfl fo79_0 (at_Rect_0 _) ((up i7 h n.1)).ptr,o1 [(18,some 0)] rfl fun _ _ h n=>ok_load rfl ty3 n.1,mu rfl i1,o1 [(19,some 1),(20,some 2)] rfl fun _ _ h n=>ok_leq rfl n.1 n.2.1,cm 3 rfl rfl,mT rfl rfl i1,gT [(7,none)] rfl rfl fun hp _ _ h n=>ok_fieldAddr rfl fo79_2 (at_Rect_2 _) ((up i7 h n.1)).ptr,gT [(24,some 6)] rfl rfl fun hp _ _ h n=>ok_load rfl ty3 (Gd.get n.1 hp),gT [(23,some 5),(25,some 7)] rfl rfl fun hp _ _ h n=>ok_lss rfl (Gd.get n.1 hp) (Gd.get n.2.1 hp),o1 [(22,some 4),(26,some 8)] rfl fun _ _ h n=>ok_pickAnd rfl n.1 (Gd.get n.2.1) (cB rfl),trivial⟩ W6 fun b q p=>?_
    exact tail_done (k:=q) (w5 _ _ ⟨Bs.post ⟨hg,hs,hd⟩ p,p.ke 1 rfl i1,p.ke 5 rfl i5,(by rw [p.old 5 rfl]; exact n5),p.ke 7 rfl i7,p.ke 12 rfl i12,p.ke 13 rfl i13,p.ke 14 rfl i14,p.ou 9 27 rfl,trivial⟩)
   rintro a k ⟨⟨hg,hs,hd⟩,i1,i5,n5,i7,i12,i13,i14,i27,_⟩
   obtain ⟨s2,hs2,hr⟩:=bind_some hr
   refine cut (fun a' k'=>Bs noF k0 80 a' k'∧(IsV x_) (a'.get 1) k'∧IsOwn 0 230 s2 (a'.get 5) k'∧Lo k0 (obF (a'.get 5))∧(IsV l_) (a'.get 12) k'∧(IsL l_) (a'.get 13) k'∧(IsV s1.2) (a'.get 14) k'∧True) ?_ hQ ?_
   ·intro Q7 W7 w6
    replace hr:=hs2
    clear hQ
    have hQ:=W7
    refine wp_cond_split (isBool i27) (fun hc1314=>?_) (fun hc1314=>?_)
    ·rw [if_pos hc1314] at hr
     obtain ⟨x2,hx2,hr⟩:=bind_some hr
     refine cut (fun a' k'=>Bs noF k0 80 a' k'∧(IsV x_) (a'.get 1) k'∧IsOwn 0 230 x2 (a'.get 5) k'∧Lo k0 (obF (a'.get 5))∧(IsV l_) (a'.get 12) k'∧(IsL l_) (a'.get 13) k'∧(IsV s1.2) (a'.get 14) k'∧True) ?_ hQ ?_
     ·intro Q8 W8 w7
      refine gS 7 (⟨some (OwnAt (a.get 5) 0 230 s1.1),[(5,none)]⟩::_::_::_::_::⟨some (IsV (⟨x1.Y0,x1.Y1⟩:RegionSpan)),[(30,some 2),(32,some 4)]⟩::⟨some (IsV (α:=(List RegionSpan)) ([(⟨x1.Y0,x1.Y1⟩:RegionSpan)])),[(33,some 5)]⟩::[]) hs (by kernel_rfl) ⟨ob1 rfl fun _ _ h n=>ok_moveOA (.inl rfl) (ownAt n.1 (up i5 h n.1)),o1 [(7,none)] rfl fun _ _ h n=>ok_fieldAddr rfl fo79_1 (at_Rect_1 _) ((up i7 h n.1)).ptr,o1 [(29,some 1)] rfl fun _ _ h n=>ok_load rfl ty3 n.1,o1 [(7,none)] rfl fun _ _ h n=>ok_fieldAddr rfl fo79_3 (at_Rect_3 _) ((up i7 h n.1)).ptr,o1 [(31,some 3)] rfl fun _ _ h n=>ok_load rfl ty3 n.1,ob1 rfl fun _ _ h n=>ok_build rfl (bld230_0_1 n.1 n.2.1),ob1 rfl fun _ _ h n=>ok_buildSlice rfl Tryz.underlying228 eo230 rfl (by decide) (by decide) ⟨rfl,n.1,trivial⟩,trivial⟩ W8 fun b q p=>?_
      have hgq:=hg.then p.grow
      have hsb:=p.size.trans hs
      have hdb:=p.defers.trans hd
      have j1:=p.ke 1 rfl i1
      have j12:=p.ke 12 rfl i12
      have j13:=p.ke 13 rfl i13
      have j14:=p.ke 14 rfl i14
      have e28:b.get 28 = a.get 5:=(p.ou 0 28 rfl).1
      have j28:IsOwn 0 230 s1.1 (b.get 28) q:=(p.ou 0 28 rfl).2
      have y28:Lo k0 (obF (b.get 28)):=by rw [e28]; exact n5
      have j34:(IsV (α:=(List RegionSpan)) ([(⟨x1.Y0,x1.Y1⟩:RegionSpan)])) (b.get 34) q:=p.ou 6 34 rfl
      have hns:=j28.nshF
      refine tail_appendS (i:=7) (d:=35) rfl rfl rfl rfl (by rw [hsb]; decide) (e:=230) Tryz.underlying228 eo230 j28 (IsV.rd j34) hx2 fun b2 q2 hsz hdf hoth hch hown hob=>?_
      have hle:=hch.le hns
      have yn:Lo k0 (obF (b2.get 35)):=y28.app hgq hob
      replace j1:=Pers.pers hle j1
      replace j12:=Pers.pers hle j12
      replace j13:=Pers.pers hle j13
      replace j14:=Pers.pers hle j14
      replace j34:=Pers.pers hle j34
      replace hgq:=hgq.step hch y28.wr
      rw [← hoth 1 (by decide)] at j1
      rw [← hoth 12 (by decide)] at j12
      rw [← hoth 13 (by decide)] at j13
      rw [← hoth 14 (by decide)] at j14
      rw [← hoth 34 (by decide)] at j34
      have j35:=hown
      have y35:=yn
      replace hsb:=hsz.trans hsb
      replace hdb:=hdf.trans hdb
      clear hle hch hown hob hns yn hsz hdf hoth
      obtain ⟨b,hbb⟩ : ∃ b,b = b2:=⟨b2,rfl⟩
      subst hbb
      obtain ⟨q,hqq⟩ : ∃ q,q = q2:=⟨q2,rfl⟩
      subst hqq
      refine tail_assign (i:=8) (d:=5) rfl rfl (.inl rfl) rfl (by rw [hsb]; decide) fun b2 hsz hdf hnew hoth=>?_
      have jn:(IsOwn 0 230 x2) (b2.get 5) q:=by rw [hnew]; exact j35
      have yn:Lo k0 (obF (b2.get 5)):=by rw [hnew]; exact y35
      rw [← hoth 1 (by decide)] at j1
      rw [← hoth 12 (by decide)] at j12
      rw [← hoth 13 (by decide)] at j13
      rw [← hoth 14 (by decide)] at j14
      rw [← hoth 34 (by decide)] at j34
      have j5:=jn
      have y5:=yn
      replace hsb:=hsz.trans hsb
      replace hdb:=hdf.trans hdb
      clear hsz hdf hoth
      obtain ⟨b,hbb⟩ : ∃ b,b = b2:=⟨b2,rfl⟩
      subst hbb
      exact tail_done (k:=q) (w7 _ _ ⟨⟨hgq,hsb,hdb⟩,j1,j5,y5,j12,j13,j14,trivial⟩)
     rintro a k ⟨⟨hg,hs,hd⟩,i1,i5,n5,i12,i13,i14,_⟩
     obtain rfl:=Option.some.inj hr
     exact w6 _ _ ⟨⟨hg,hs,hd⟩,i1,i5,n5,i12,i13,i14,trivial⟩
    rw [if_neg (by rw [hc1314]; decide)] at hr
    refine wp_skip ?_
    obtain rfl:=Option.some.inj hr
    exact w6 _ _ ⟨⟨hg,hs,hd⟩,i1,i5,n5,i12,i13,i14,trivial⟩
   clear hs2
   rintro a k ⟨⟨hg,hs,hd⟩,i1,i5,n5,i12,i13,i14,_⟩
   obtain ⟨x3,hx3,hr⟩:=bind_some hr
   refine cut (fun a' k'=>Bs noF k0 80 a' k'∧(IsV x_) (a'.get 1) k'∧IsOwn 0 230 s2 (a'.get 5) k'∧Lo k0 (obF (a'.get 5))∧(IsV l_) (a'.get 12) k'∧(IsL l_) (a'.get 13) k'∧(IsV x3) (a'.get 14) k'∧True) ?_ hQ ?_
   ·intro Q9 W9 w8
    refine gS 2 (_::_::[]) hs (by kernel_rfl) ⟨o1 [(14,none)] rfl fun _ _ h n=>ok_add rfl (up i14 h n.1) (cI rfl) hx3,cm 0 rfl rfl,trivial⟩ W9 fun b q p=>?_
    exact tail_done (k:=q) (w8 _ _ ⟨Bs.post ⟨hg,hs,hd⟩ p,p.ke 1 rfl i1,p.ke 5 rfl i5,(by rw [p.old 5 rfl]; exact n5),p.ke 12 rfl i12,p.ke 13 rfl i13,p.ou 1 14 rfl,trivial⟩)
   rintro a k ⟨⟨hg,hs,hd⟩,i1,i5,n5,i12,i13,i14,_⟩
   exact hgo1303 _ _ _ (Option.some.inj hr).symm ⟨⟨hg,hs,hd⟩,i1,i5,n5,i12,i13,i14,trivial⟩
  rw [if_neg (by rw [hc1323]; decide)] at hr
  refine wp_exit ?_
  exact hex1304 _ _ _ _ (Option.some.inj hr).symm ⟨rfl,⟨hg,hs,hd⟩,i5,n5,trivial⟩
 ·rintro r1 a k rfl hR
  dsimp only at hr
  obtain rfl:=Option.some.inj hr
  exact hR
 ·rintro _ _ _ rfl _
  simp at hr
 clear hf1
 rintro _ s3 a k rfl ⟨rfl,⟨hg,hs,hd⟩,i5,n5,_⟩
 dsimp only at hr
 refine wp_seq ?_
 obtain ⟨x4,hx4,hr⟩:=bind_some hr
 refine cut (fun a' k'=>Bs noF k0 80 a' k'∧IsOwn 0 230 x4 (a'.get 5) k'∧Lo k0 (obF (a'.get 5))∧True) ?_ hQ ?_
 ·intro Q10 W10 w9
  refine gS 1 (⟨some (OwnAt (a.get 5) 0 230 s3.1),[(5,none)]⟩::[]) hs (by kernel_rfl) ⟨ob1 rfl fun _ _ h n=>ok_moveOA (.inl rfl) (ownAt n.1 (up i5 h n.1)),trivial⟩ W10 fun b q p=>?_
  have hgq:=hg.then p.grow
  have hsb:=p.size.trans hs
  have hdb:=p.defers.trans hd
  have j5:=p.ke 5 rfl i5
  have y5:Lo k0 (obF (b.get 5)):=by rw [p.old 5 rfl]; exact n5
  have e37:b.get 37 = a.get 5:=(p.ou 0 37 rfl).1
  have j37:IsOwn 0 230 s3.1 (b.get 37) q:=(p.ou 0 37 rfl).2
  have y37:Lo k0 (obF (b.get 37)):=by rw [e37]; exact n5
  have hns:=j37.nshF
  have eS:b.get 5 = b.get 37:=(p.old 5 rfl).trans e37.symm
  refine tail_call (F:=obF (b.get 37)) (i:=1) (d:=38) rfl rfl rfl rfl (by rw [hsb]; decide) Tryz.call186 W10 (sortSpans_ok j37 hx4) fun b2 q2 hsz hdf hoth hch hres=>?_
  have hle:=hch.le hns
  replace hgq:=hgq.step hch y37.wr
  replace j5:IsOwn 0 230 x4 (b.get 5) q2:=by rw [eS]; exact hres
  clear hres eS
  rw [← hoth 5 (by decide)] at j5
  rw [← hoth 5 (by decide)] at y5
  replace hsb:=hsz.trans hsb
  replace hdb:=hdf.trans hdb
  clear hle hch hns hsz hdf hoth
  obtain ⟨b,hbb⟩ : ∃ b,b = b2:=⟨b2,rfl⟩
  subst hbb
  obtain ⟨q,hqq⟩ : ∃ q,q = q2:=⟨q2,rfl⟩
  subst hqq
  exact tail_done (k:=q) (w9 _ _ ⟨⟨hgq,hsb,hdb⟩,j5,y5,trivial⟩)
 rintro a k ⟨⟨hg,hs,hd⟩,i5,n5,_⟩
 refine wp_seq ?_
 obtain ⟨kk,sh1329,ii5⟩:=i5.give
 replace i5:=ii5
 replace hg:=hg.hand sh1329 n5.wr
 rw [← sh1329.w]
 clear sh1329
 obtain ⟨k,hkk⟩ : ∃ k,k = kk:=⟨kk,rfl⟩
 subst hkk
 refine cut (fun a' k'=>Bs noF k0 80 a' k'∧(IsV x4) (a'.get 5) k'∧IsOwn 0 230 ([]:List RegionSpan) (a'.get 8) k'∧Lo k0 (obF (a'.get 8))∧True) ?_ hQ ?_
 ·intro Q11 W11 w10
  refine gS 1 (⟨some IsE0,[]⟩::[]) hs (by kernel_rfl) ⟨ob1 rfl fun b q h n=>ok_assign rfl isE0_nil,trivial⟩ W11 fun b q p=>?_
  have hgq:=hg.then p.grow
  have hsb:=p.size.trans hs
  have hdb:=p.defers.trans hd
  have j5:=p.ke 5 rfl i5
  have j8:IsE0 (b.get 8) q:=p.ou 0 8 rfl
  have y8:Lo k0 (obF (b.get 8)):=j8.lo
  replace j8:IsOwn 0 230 ([]:List RegionSpan) (b.get 8) q:=j8.own0
  exact tail_done (k:=q) (w10 _ _ ⟨⟨hgq,hsb,hdb⟩,j5,j8,y8,trivial⟩)
 rintro a k ⟨⟨hg,hs,hd⟩,i5,i8,n8,_⟩
 refine wp_seq ?_
 refine cutS (fun c l=>Bs noF k0 80 c l∧IsOwn 0 230 ([]:List RegionSpan) (c.get 8) l∧Lo k0 (obF (c.get 8))∧IsV x4 (c.get 39) l∧IsL x4 (c.get 40) l∧IsI 0 (c.get 41) l∧True) ?_ ?_
 ·intro Q12 W12 w11
  refine gS 3 (_::_::⟨some (IsI 0),[]⟩::[]) hs (by kernel_rfl) ⟨mu rfl i5,o1 [(39,some 0)] rfl fun _ _ h n=>ok_len rfl rfl Tryz.underlying228 (IsV.rd n.1),ob1 rfl fun _ _ h n=>ok_move rfl (cI rfl),trivial⟩ W12 fun b q p=>?_
  exact tail_done (k:=q) (w11 _ _ ⟨Bs.post ⟨hg,hs,hd⟩ p,p.ke 8 rfl i8,(by rw [p.old 8 rfl]; exact n8),p.ou 0 39 rfl,p.ou 1 40 rfl,p.ou 2 41 rfl,trivial⟩)
 rintro a k ⟨⟨hg,hs,hd⟩,i8,n8,i39,i40,i41,_⟩
 refine wp_block ?_
 obtain ⟨f2,hf2,hr⟩:=bind_some hr
 refine cutFe f2 (fun s' c l=>Bs noF k0 80 c l∧IsOwn 0 230 s'.1 (c.get 8) l∧Lo k0 (obF (c.get 8))∧IsV x4 (c.get 39) l∧IsL x4 (c.get 40) l∧IsV s'.2 (c.get 41) l∧True) (fun i' s' c l=>(i' = 2∧Bs noF k0 80 c l∧IsV s'.1 (c.get 8) l∧True)) (fun r' c l=>bodyPost Tryz.prog Tryz.f184 (RetC noF k0 (IsV r')) .ret c l.w) ?_ hQ ?_ ?_ ?_
 ·intro Q13 W13 hgo hex hret
  refine sim_loop ?_ _ _ _ _ _ hf2 ⟨⟨hg,hs,hd⟩,i8,n8,i39,i40,i41,trivial⟩ Q13 W13 hgo hex hret
  clear hr hf2 hgo hex hret W13 hQ hg hs hd i39 i40 i41 i8 n8
  intro s4 fl_ a k hr hS Q hQ hgo1333 hex1334 hret1335
  obtain ⟨⟨hg,hs,hd⟩,i8,n8,i39,i40,i41,_⟩:=hS
  unfold region_column_L1 at hr
  refine cutS (fun c l=>Bs noF k0 80 c l∧IsOwn 0 230 s4.1 (c.get 8) l∧Lo k0 (obF (c.get 8))∧IsV x4 (c.get 39) l∧IsL x4 (c.get 40) l∧IsV s4.2 (c.get 41) l∧(IsV (decide (s4.2 < (x4.length:Int)))) (c.get 42) l∧True) ?_ ?_
  ·intro Q14 W14 w12
   refine gS 1 (_::[]) hs (by kernel_rfl) ⟨o1 [(41,none),(40,none)] rfl fun _ _ h n=>ok_lss rfl (up i41 h n.1) (up i40 h n.2.1),trivial⟩ W14 fun b q p=>?_
   exact tail_done (k:=q) (w12 _ _ ⟨Bs.post ⟨hg,hs,hd⟩ p,p.ke 8 rfl i8,(by rw [p.old 8 rfl]; exact n8),p.ke 39 rfl i39,p.ke 40 rfl i40,p.ke 41 rfl i41,p.ou 0 42 rfl,trivial⟩)
  rintro a k ⟨⟨hg,hs,hd⟩,i8,n8,i39,i40,i41,i42,_⟩
  refine wp_seq ?_
  refine wp_cond_split (isBool i42) (fun hc1360=>?_) (fun hc1360=>?_)
  ·rw [if_pos hc1360] at hr
   refine wp_skip ?_
   refine wp_seq ?_
   refine wp_block ?_
   refine wp_seq ?_
   obtain ⟨x5,hx5,hr⟩:=bind_some hr
   refine cut (fun a' k'=>Bs noF k0 80 a' k'∧IsOwn 0 230 s4.1 (a'.get 8) k'∧Lo k0 (obF (a'.get 8))∧(IsRef x5) (a'.get 10) k'∧(IsV x4) (a'.get 39) k'∧(IsL x4) (a'.get 40) k'∧(IsV s4.2) (a'.get 41) k'∧True) ?_ hQ ?_
   ·intro Q15 W15 w13
    refine gS 3 (_::_::⟨some (IsBox k.w.heap.size (⟨0,0⟩:RegionSpan)),[]⟩::[]) hs (by kernel_rfl) ⟨o1 [(39,none),(41,none)] rfl fun _ _ h n=>ok_indexAddr rfl Tryz.underlying228 ty230 (IsV.rd (up i39 h n.1)) (up i41 h n.2.1) hx5,o1 [(43,some 0)] rfl fun _ _ h n=>ok_load rfl ty230 n.1,ob1 rfl fun _ _ h n=>ok_alloc _ h.size rfl z230,trivial⟩ W15 fun b q p=>?_
    have hgq:=hg.then p.grow
    have hsb:=p.size.trans hs
    have hdb:=p.defers.trans hd
    have j8:=p.ke 8 rfl i8
    have y8:Lo k0 (obF (b.get 8)):=by rw [p.old 8 rfl]; exact n8
    obtain ⟨b10,j10,x10,z10⟩:(IsBox k.w.heap.size (⟨0,0⟩:RegionSpan)) (b.get 10) q:=p.ou 2 10 rfl
    replace x10:Lo k (Eq b10):=Lo.eq x10
    have y10:Lo k0 (Eq b10):=x10.chg hg
    have j39:=p.ke 39 rfl i39
    have j40:=p.ke 40 rfl i40
    have j41:=p.ke 41 rfl i41
    have j44:(IsV x5) (b.get 44) q:=p.ou 1 44 rfl
    have w8_10:Apart (obF (b.get 8)) (Eq b10):=Apart.new (by rw [p.old 8 rfl]; exact i8.ltF) x10
    have hns:=z10.nshF
    refine tail_storeB (i:=3) rfl rfl rfl rfl szf230 (Upd.self (α:=RegionSpan)) j10 z10 j44 fun q2 hch hz=>?_
    replace hgq:=hgq.step hch y10.wr
    have hle:=hch.le hns
    replace j8:=j8.keep hch w8_10 hns
    replace j39:=Pers.pers hle j39
    replace j40:=Pers.pers hle j40
    replace j41:=Pers.pers hle j41
    replace j44:=Pers.pers hle j44
    replace z10:=hz
    clear hns hle hch
    obtain ⟨q,hqq⟩ : ∃ q,q = q2:=⟨q2,rfl⟩
    subst hqq
    obtain ⟨q2,hsh,jn⟩:=z10.give
    replace j8:=j8.handed hsh w8_10
    replace j39:=Pers.pers hsh.le j39
    replace j40:=Pers.pers hsh.le j40
    replace j41:=Pers.pers hsh.le j41
    rw [← j10] at jn
    replace j10:=jn
    replace hgq:=hgq.hand hsh y10.wr
    rw [← hsh.w]
    clear hsh
    obtain ⟨q,hqq⟩ : ∃ q,q = q2:=⟨q2,rfl⟩
    subst hqq
    exact tail_done (k:=q) (w13 _ _ ⟨⟨hgq,hsb,hdb⟩,j8,y8,j10,j39,j40,j41,trivial⟩)
   rintro a k ⟨⟨hg,hs,hd⟩,i8,n8,i10,i39,i40,i41,_⟩
   refine cutS (fun c l=>Bs noF k0 80 c l∧IsOwn 0 230 s4.1 (c.get 8) l∧Lo k0 (obF (c.get 8))∧IsRef x5 (c.get 10) l∧IsI (s4.1.length:Int) (c.get 11) l∧IsV x4 (c.get 39) l∧IsL x4 (c.get 40) l∧IsV s4.2 (c.get 41) l∧True) ?_ ?_
   ·intro Q16 W16 w14
    refine gS 3 (⟨some (OwnAt (a.get 8) 0 230 s4.1),[(8,none)]⟩::_::_::[]) hs (by kernel_rfl) ⟨ob1 rfl fun _ _ h n=>ok_moveOA (.inl rfl) (ownAt n.1 (up i8 h n.1)),o1 [(45,some 0)] rfl fun _ _ h n=>ok_len rfl rfl Tryz.underlying228 (IsOwn.rd (n.1).2),cp 1 rfl rfl,trivial⟩ W16 fun b q p=>?_
    exact tail_done (k:=q) (w14 _ _ ⟨Bs.post ⟨hg,hs,hd⟩ p,p.ke 8 rfl i8,(by rw [p.old 8 rfl]; exact n8),p.ke 10 rfl i10,p.ou 2 11 rfl,p.ke 39 rfl i39,p.ke 40 rfl i40,p.ke 41 rfl i41,trivial⟩)
   rintro a k ⟨⟨hg,hs,hd⟩,i8,n8,i10,i11,i39,i40,i41,_⟩
   refine wp_seq ?_
   obtain ⟨x6,hx6,hr⟩:=bind_some hr
   obtain ⟨x8,hx8,hx6⟩:=ite_bind hx6
   obtain ⟨x9,hx9,hx6⟩:=ite_bind hx6
   refine cut (fun a' k'=>Bs noF k0 80 a' k'∧IsOwn 0 230 s4.1 (a'.get 8) k'∧Lo k0 (obF (a'.get 8))∧(IsRef x5) (a'.get 10) k'∧(IsI (s4.1.length:Int)) (a'.get 11) k'∧(IsV x4) (a'.get 39) k'∧(IsL x4) (a'.get 40) k'∧(IsV s4.2) (a'.get 41) k'∧(IsV x6) (a'.get 59) k'∧True) ?_ hQ ?_
   ·intro Q17 W17 w15
    refine region (m:=13) (_::_::_::_::_::⟨some (Gd ((decide (0 < (s4.1.length:Int))) = true) (OwnAt (a.get 8) 0 230 s4.1)),[(8,none)]⟩::_::_::_::_::_::_::_::[]) hmix hs (by kernel_rfl) ⟨mu rfl i11,o1 [(47,some 0)] rfl fun _ _ h n=>ok_gtr rfl n.1 (cI rfl),cm 1 rfl rfl,gT [(10,none)] rfl rfl fun hp _ _ h n=>ok_fieldAddr rfl fo230_0 (at_RegionSpan_0 _) ((up i10 h n.1)).ptr,gT [(50,some 3)] rfl rfl fun hp _ _ h n=>ok_load rfl ty3 (Gd.get n.1 hp),gdT rfl rfl fun hp _ _ h n=>ok_moveOA (.inl rfl) (ownAt n.1 (up i8 h n.1)),mT rfl rfl i11,gT [(53,some 6)] rfl rfl fun hp _ _ h n=>ok_sub rfl (Gd.get n.1 hp) (cI rfl) (hx8 hp),gT [(52,some 5),(54,some 7)] rfl rfl fun hp _ _ h n=>ok_indexAddr rfl Tryz.underlying228 ty230 (IsOwn.rd ((Gd.get n.1 hp)).2) (Gd.get n.2.1 hp) (hx9 hp),gT [(55,some 8)] rfl rfl fun hp _ _ h n=>ok_fieldAddr rfl fo230_1 (at_RegionSpan_1 _) (Gd.get n.1 hp),gT [(56,some 9)] rfl rfl fun hp _ _ h n=>ok_load rfl ty3 (Gd.get n.1 hp),gT [(51,some 4),(57,some 10)] rfl rfl fun hp _ _ h n=>ok_leq rfl (Gd.get n.1 hp) (Gd.get n.2.1 hp),o1 [(49,some 2),(58,some 11)] rfl fun _ _ h n=>ok_pickM rfl n.1 hx6 (Gd.get n.2.1) (cB rfl),trivial⟩ W17 fun b q p=>?_
    exact tail_done (k:=q) (w15 _ _ ⟨Bs.post ⟨hg,hs,hd⟩ p,p.ke 8 rfl i8,(by rw [p.old 8 rfl]; exact n8),p.ke 10 rfl i10,p.ke 11 rfl i11,p.ke 39 rfl i39,p.ke 40 rfl i40,p.ke 41 rfl i41,p.ou 12 59 rfl,trivial⟩)
   rintro a k ⟨⟨hg,hs,hd⟩,i8,n8,i10,i11,i39,i40,i41,i59,_⟩
   obtain ⟨s5,hs5,hr⟩:=bind_some hr
   refine cut (fun a' k'=>Bs noF k0 80 a' k'∧IsOwn 0 230 s5 (a'.get 8) k'∧Lo k0 (obF (a'.get 8))∧(IsV x4) (a'.get 39) k'∧(IsL x4) (a'.get 40) k'∧(IsV s4.2) (a'.get 41) k'∧True) ?_ hQ ?_
   ·intro Q18 W18 w16
    replace hr:=hs5
    clear hQ
    have hQ:=W18
    refine wp_cond_split (isBool i59) (fun hc1348=>?_) (fun hc1348=>?_)
    ·rw [if_pos hc1348] at hr
     obtain ⟨x11,hx11,hr⟩:=bind_some hr
     obtain ⟨x12,hx12,hr⟩:=bind_some hr
     obtain ⟨x13,hx13,hr⟩:=bind_some hr
     obtain ⟨x14,hx14,hr⟩:=bind_some hr
     obtain ⟨x15,hx15,hr⟩:=bind_some hr
     refine cut (fun a' k'=>Bs noF k0 80 a' k'∧IsOwn 0 230 x15 (a'.get 8) k'∧Lo k0 (obF (a'.get 8))∧(IsV x4) (a'.get 39) k'∧(IsL x4) (a'.get 40) k'∧(IsV s4.2) (a'.get 41) k'∧True) ?_ hQ ?_
     ·intro Q19 W19 w17
      refine region (m:=14) (⟨some (OwnAt (a.get 8) 0 230 s4.1),[(8,none)]⟩::_::_::⟨some (OwnAt (a.get 8) 0 230 s4.1),[(8,none)]⟩::_::_::_::_::_::_::_::_::⟨some (IsAdrO (a.get 8) ((x11).toNat * Enc.sz RegionSpan)),[(60,some 0),(62,some 2)]⟩::_::[]) hmix hs (by kernel_rfl) ⟨ob1 rfl fun _ _ h n=>ok_moveOA (.inl rfl) (ownAt n.1 (up i8 h n.1)),mu rfl i11,o1 [(61,some 1)] rfl fun _ _ h n=>ok_sub rfl n.1 (cI rfl) hx11,ob1 rfl fun _ _ h n=>ok_moveOA (.inl rfl) (ownAt n.1 (up i8 h n.1)),mu rfl i11,o1 [(64,some 4)] rfl fun _ _ h n=>ok_sub rfl n.1 (cI rfl) hx12,o1 [(63,some 3),(65,some 5)] rfl fun _ _ h n=>ok_indexAddr rfl Tryz.underlying228 ty230 (IsOwn.rd (n.1).2) n.2.1 hx13,o1 [(66,some 6)] rfl fun _ _ h n=>ok_fieldAddr rfl fo230_1 (at_RegionSpan_1 _) n.1,o1 [(67,some 7)] rfl fun _ _ h n=>ok_load rfl ty3 n.1,o1 [(10,none)] rfl fun _ _ h n=>ok_fieldAddr rfl fo230_1 (at_RegionSpan_1 _) ((up i10 h n.1)).ptr,o1 [(69,some 9)] rfl fun _ _ h n=>ok_load rfl ty3 n.1,o1 [(68,some 8),(70,some 10)] rfl fun _ _ h n=>ok_max2 rfl n.1 n.2.1,ob1 rfl fun _ _ h n=>ok_indexO rfl Tryz.underlying228 ty230 n.1 n.2.1 hx14,o1 [(72,some 12)] rfl fun _ _ h n=>ok_fieldAdrO rfl fo230_1 n.1,trivial⟩ W19 fun b q p=>?_
      have hgq:=hg.then p.grow
      have hsb:=p.size.trans hs
      have hdb:=p.defers.trans hd
      have j8:=p.ke 8 rfl i8
      have y8:Lo k0 (obF (b.get 8)):=by rw [p.old 8 rfl]; exact n8
      have j39:=p.ke 39 rfl i39
      have j40:=p.ke 40 rfl i40
      have j41:=p.ke 41 rfl i41
      have j71:(IsI (max x13.to_ x5.to_)) (b.get 71) q:=p.ou 11 71 rfl
      have j73:IsAdrO (a.get 8) ((x11).toNat * Enc.sz RegionSpan + 1) (b.get 73) q:=p.ou 13 73 rfl
      have eo:b.get 8 = a.get 8:=p.old 8 rfl
      have hns:=j8.nshF
      refine tail_storeS (i:=14) (u:=b.get 8) (m:=(x11).toNat) (off:=0 + 1) rfl rfl rfl rfl szf3 upd_F230_1 (by rw [eo]; exact j73) j8 (getI_spec hx14).2.1 j71 fun q2 hch hz=>?_
      replace hgq:=hgq.step hch y8.wr
      have hle:=hch.le hns
      replace j39:=Pers.pers hle j39
      replace j40:=Pers.pers hle j40
      replace j41:=Pers.pers hle j41
      replace j71:=Pers.pers hle j71
      replace j73:=Pers.pers hle j73
      replace j8:=hz
      rw [Option.some.inj hx15] at j8
      clear hns hle hch eo hz
      obtain ⟨q,hqq⟩ : ∃ q,q = q2:=⟨q2,rfl⟩
      subst hqq
      exact tail_done (k:=q) (w17 _ _ ⟨⟨hgq,hsb,hdb⟩,j8,y8,j39,j40,j41,trivial⟩)
     rintro a k ⟨⟨hg,hs,hd⟩,i8,n8,i39,i40,i41,_⟩
     obtain rfl:=Option.some.inj hr
     exact w16 _ _ ⟨⟨hg,hs,hd⟩,i8,n8,i39,i40,i41,trivial⟩
    rw [if_neg (by rw [hc1348]; decide)] at hr
    obtain ⟨x16,hx16,hr⟩:=bind_some hr
    refine cut (fun a' k'=>Bs noF k0 80 a' k'∧IsOwn 0 230 x16 (a'.get 8) k'∧Lo k0 (obF (a'.get 8))∧(IsV x4) (a'.get 39) k'∧(IsL x4) (a'.get 40) k'∧(IsV s4.2) (a'.get 41) k'∧True) ?_ hQ ?_
    ·intro Q20 W20 w18
     refine gS 3 (⟨some (OwnAt (a.get 8) 0 230 s4.1),[(8,none)]⟩::_::⟨some (IsV (α:=(List RegionSpan)) ([x5])),[(75,some 1)]⟩::[]) hs (by kernel_rfl) ⟨ob1 rfl fun _ _ h n=>ok_moveOA (.inl rfl) (ownAt n.1 (up i8 h n.1)),o1 [(10,none)] rfl fun _ _ h n=>ok_load rfl ty230 ((up i10 h n.1)).ptr,ob1 rfl fun _ _ h n=>ok_buildSlice rfl Tryz.underlying228 eo230 rfl (by decide) (by decide) ⟨rfl,n.1,trivial⟩,trivial⟩ W20 fun b q p=>?_
     have hgq:=hg.then p.grow
     have hsb:=p.size.trans hs
     have hdb:=p.defers.trans hd
     have j39:=p.ke 39 rfl i39
     have j40:=p.ke 40 rfl i40
     have j41:=p.ke 41 rfl i41
     have e74:b.get 74 = a.get 8:=(p.ou 0 74 rfl).1
     have j74:IsOwn 0 230 s4.1 (b.get 74) q:=(p.ou 0 74 rfl).2
     have y74:Lo k0 (obF (b.get 74)):=by rw [e74]; exact n8
     have j76:(IsV (α:=(List RegionSpan)) ([x5])) (b.get 76) q:=p.ou 2 76 rfl
     have hns:=j74.nshF
     refine tail_appendS (i:=3) (d:=77) rfl rfl rfl rfl (by rw [hsb]; decide) (e:=230) Tryz.underlying228 eo230 j74 (IsV.rd j76) hx16 fun b2 q2 hsz hdf hoth hch hown hob=>?_
     have hle:=hch.le hns
     have yn:Lo k0 (obF (b2.get 77)):=y74.app hgq hob
     replace j39:=Pers.pers hle j39
     replace j40:=Pers.pers hle j40
     replace j41:=Pers.pers hle j41
     replace j76:=Pers.pers hle j76
     replace hgq:=hgq.step hch y74.wr
     rw [← hoth 39 (by decide)] at j39
     rw [← hoth 40 (by decide)] at j40
     rw [← hoth 41 (by decide)] at j41
     rw [← hoth 76 (by decide)] at j76
     have j77:=hown
     have y77:=yn
     replace hsb:=hsz.trans hsb
     replace hdb:=hdf.trans hdb
     clear hle hch hown hob hns yn hsz hdf hoth
     obtain ⟨b,hbb⟩ : ∃ b,b = b2:=⟨b2,rfl⟩
     subst hbb
     obtain ⟨q,hqq⟩ : ∃ q,q = q2:=⟨q2,rfl⟩
     subst hqq
     refine tail_assign (i:=4) (d:=8) rfl rfl (.inl rfl) rfl (by rw [hsb]; decide) fun b2 hsz hdf hnew hoth=>?_
     have jn:(IsOwn 0 230 x16) (b2.get 8) q:=by rw [hnew]; exact j77
     have yn:Lo k0 (obF (b2.get 8)):=by rw [hnew]; exact y77
     rw [← hoth 39 (by decide)] at j39
     rw [← hoth 40 (by decide)] at j40
     rw [← hoth 41 (by decide)] at j41
     rw [← hoth 76 (by decide)] at j76
     have j8:=jn
     have y8:=yn
     replace hsb:=hsz.trans hsb
     replace hdb:=hdf.trans hdb
     clear hsz hdf hoth
     obtain ⟨b,hbb⟩ : ∃ b,b = b2:=⟨b2,rfl⟩
     subst hbb
     exact tail_done (k:=q) (w18 _ _ ⟨⟨hgq,hsb,hdb⟩,j8,y8,j39,j40,j41,trivial⟩)
    rintro a k ⟨⟨hg,hs,hd⟩,i8,n8,i39,i40,i41,_⟩
    obtain rfl:=Option.some.inj hr
    exact w16 _ _ ⟨⟨hg,hs,hd⟩,i8,n8,i39,i40,i41,trivial⟩
   clear hs5
   rintro a k ⟨⟨hg,hs,hd⟩,i8,n8,i39,i40,i41,_⟩
   obtain ⟨x17,hx17,hr⟩:=bind_some hr
   refine cut (fun a' k'=>Bs noF k0 80 a' k'∧IsOwn 0 230 s5 (a'.get 8) k'∧Lo k0 (obF (a'.get 8))∧(IsV x4) (a'.get 39) k'∧(IsL x4) (a'.get 40) k'∧(IsV x17) (a'.get 41) k'∧True) ?_ hQ ?_
   ·intro Q21 W21 w19
    refine gS 2 (_::_::[]) hs (by kernel_rfl) ⟨o1 [(41,none)] rfl fun _ _ h n=>ok_add rfl (up i41 h n.1) (cI rfl) hx17,cm 0 rfl rfl,trivial⟩ W21 fun b q p=>?_
    exact tail_done (k:=q) (w19 _ _ ⟨Bs.post ⟨hg,hs,hd⟩ p,p.ke 8 rfl i8,(by rw [p.old 8 rfl]; exact n8),p.ke 39 rfl i39,p.ke 40 rfl i40,p.ou 1 41 rfl,trivial⟩)
   rintro a k ⟨⟨hg,hs,hd⟩,i8,n8,i39,i40,i41,_⟩
   exact hgo1333 _ _ _ (Option.some.inj hr).symm ⟨⟨hg,hs,hd⟩,i8,n8,i39,i40,i41,trivial⟩
  rw [if_neg (by rw [hc1360]; decide)] at hr
  refine wp_exit ?_
  obtain ⟨kk,sh1359,ii8⟩:=i8.give
  replace i8:=ii8
  replace hg:=hg.hand sh1359 n8.wr
  rw [← sh1359.w]
  clear sh1359
  obtain ⟨k,hkk⟩ : ∃ k,k = kk:=⟨kk,rfl⟩
  subst hkk
  exact hex1334 _ _ _ _ (Option.some.inj hr).symm ⟨rfl,⟨hg,hs,hd⟩,i8,trivial⟩
 ·rintro r2 a k rfl hR
  dsimp only at hr
  obtain rfl:=Option.some.inj hr
  exact hR
 ·rintro _ _ _ rfl _
  simp at hr
 clear hf2
 rintro _ s6 a k rfl ⟨rfl,⟨hg,hs,hd⟩,i8,_⟩
 dsimp only at hr
 refine stepL 2 (_::_::[]) rfl ⟨hg,hs,hd⟩ (by kernel_rfl) ⟨mu rfl i8,cp 0 rfl rfl,trivial⟩ [⟨_,_⟩] (fun b q p=>⟨p.ou 1 4 rfl,trivial⟩) ?_
 rintro a k ⟨⟨hg,hs,hd⟩,i4,_⟩
 refine wp_ret ?_
 obtain rfl:=Option.some.inj hr
 exact retC1 rfl hd hg i4
def region_strips_L0 (x1:(List Rect)) (s1:(List Int) × Int):Option (Flow ((List Int) × Int) ((List RegionStrip))):=
 if (decide (s1.2 < (x1.length:Int))) then
  (getI x1 s1.2).bind fun x2=>
  (appI s1.1 ([x2.X0,x2.X1])).bind fun x3=>
  (addI s1.2 1).bind fun x4=>
  some (.go (x3,x4))
 else
  some (.ex 0 (s1.1,s1.2))
def region_strips_L1 (x1:(List Rect)) (x2:(List Int)) (s1:(List RegionStrip) × Int):Option (Flow ((List RegionStrip) × Int) ((List RegionStrip))):=
 if (decide (s1.2 < (x2.length:Int))) then
  (subI s1.2 1).bind fun x3=>
  (getI x2 x3).bind fun x4=>
  (getI x2 s1.2).bind fun x5=>
  (subI s1.2 1).bind fun x6=>
  (getI x2 x6).bind fun x7=>
  (region_column x1 x7).bind fun x8=>
  (appI s1.1 ([(⟨x4,x5,x8⟩:RegionStrip)])).bind fun x9=>
  (addI s1.2 1).bind fun x10=>
  some (.go (x9,x10))
 else
  some (.ex 2 (s1.1,s1.2))
def region_strips (lists_:(List (List Rect))):Option ((List RegionStrip)):=
 (slices_Concat_Rect lists_).bind fun x1=>
 (iterL (region_strips_L0 x1) (x1.length + 1) (([]:List Int),0)).bind fun f1=>match f1 with
  | .go _=>none
  | .ex _ s1 =>
   (sortInts s1.1).bind fun x2=>
   (compactInts x2).bind fun x3=>
   (iterL (region_strips_L1 x1 x3) (x1.length + x3.length + ([]:List RegionStrip).length + 1) (([]:List RegionStrip),1)).bind fun f2=>match f2 with
    | .go _=>none
    | .ex _ s2=>
     some s2.1
    | .ret r1=>some r1
  | .ret r2=>some r2
theorem region_strips_okO {k0:K} {v0:Value} {lists_:(List (List Rect))} {r:(List RegionStrip)} (i0:(IsV lists_) v0 k0) (hr:region_strips lists_ = some r) :
  Calls Tryz.prog 180 #[v0] k0.w (Ret k0 (IsOwn k0.w.heap.size 232 r)):=by
 unfold region_strips at hr
 refine Ret.ofC ?_
 refine enterK Tryz.func180 rfl Tryz.ntmps180 (show 1 ≤ 56 by decide) fun a k hk0 hs hd ha=>?_
 obtain ⟨e0,_⟩:=ha
 replace i0:(IsV lists_) (a.get 0) k:=by rw [e0,hk0]; exact i0
 have hQ:Gb.LetsOut (bodyPost Tryz.prog Tryz.f180 (RetC noF k0 (IsOwn k0.w.heap.size 232 r))):=letsOutC
 have hg:Chg noF k0 k:=by rw [hk0]; exact Chg.refl _ k0
 refine stepL 1 (⟨some IsE0,[]⟩::[]) rfl ⟨hg,hs,hd⟩ (by kernel_rfl) ⟨ob1 rfl fun b q h n=>ok_assign rfl isE0_nil,trivial⟩ [⟨_,_⟩] (fun b q p=>⟨p.ke 0 rfl i0,trivial⟩) ?_
 rintro a k ⟨⟨hg,hs,hd⟩,i0,_⟩
 refine wp_seq ?_
 obtain ⟨x1,hx1,hr⟩:=bind_some hr
 refine cut (fun a' k'=>Bs noF k0 56 a' k'∧(IsV x1) (a'.get 3) k'∧True) ?_ hQ ?_
 ·intro Q1 W1 w1
  refine gS 3 (_::_::_::[]) hs (by kernel_rfl) ⟨mu rfl i0,o1 [(9,some 0)] rfl fun _ _ h n=>ok_call rfl Tryz.call183 (slices_Concat_Rect_ok n.1 hx1),cp 1 rfl rfl,trivial⟩ W1 fun b q p=>?_
  exact tail_done (k:=q) (w1 _ _ ⟨Bs.post ⟨hg,hs,hd⟩ p,p.ou 2 3 rfl,trivial⟩)
 rintro a k ⟨⟨hg,hs,hd⟩,i3,_⟩
 refine cutS (fun c l=>Bs noF k0 56 c l∧IsV x1 (c.get 3) l∧IsOwn 0 3 ([]:List Int) (c.get 4) l∧Lo k0 (obF (c.get 4))∧True) ?_ ?_
 ·intro Q2 W2 w2
  refine gS 1 (⟨some IsE0,[]⟩::[]) hs (by kernel_rfl) ⟨ob1 rfl fun b q h n=>ok_assign rfl isE0_nil,trivial⟩ W2 fun b q p=>?_
  have hgq:=hg.then p.grow
  have hsb:=p.size.trans hs
  have hdb:=p.defers.trans hd
  have j3:=p.ke 3 rfl i3
  have j4:IsE0 (b.get 4) q:=p.ou 0 4 rfl
  have y4:Lo k0 (obF (b.get 4)):=j4.lo
  replace j4:IsOwn 0 3 ([]:List Int) (b.get 4) q:=j4.own0
  exact tail_done (k:=q) (w2 _ _ ⟨⟨hgq,hsb,hdb⟩,j3,j4,y4,trivial⟩)
 rintro a k ⟨⟨hg,hs,hd⟩,i3,i4,n4,_⟩
 refine wp_seq ?_
 refine cutS (fun c l=>Bs noF k0 56 c l∧IsV x1 (c.get 3) l∧IsOwn 0 3 ([]:List Int) (c.get 4) l∧Lo k0 (obF (c.get 4))∧IsV x1 (c.get 11) l∧IsL x1 (c.get 12) l∧IsI 0 (c.get 13) l∧True) ?_ ?_
 ·intro Q3 W3 w3
  refine gS 3 (_::_::⟨some (IsI 0),[]⟩::[]) hs (by kernel_rfl) ⟨mu rfl i3,o1 [(11,some 0)] rfl fun _ _ h n=>ok_len rfl rfl Tryz.underlying130 (IsV.rd n.1),ob1 rfl fun _ _ h n=>ok_move rfl (cI rfl),trivial⟩ W3 fun b q p=>?_
  exact tail_done (k:=q) (w3 _ _ ⟨Bs.post ⟨hg,hs,hd⟩ p,p.ke 3 rfl i3,p.ke 4 rfl i4,(by rw [p.old 4 rfl]; exact n4),p.ou 0 11 rfl,p.ou 1 12 rfl,p.ou 2 13 rfl,trivial⟩)
 rintro a k ⟨⟨hg,hs,hd⟩,i3,i4,n4,i11,i12,i13,_⟩
 refine wp_block ?_
 obtain ⟨f1,hf1,hr⟩:=bind_some hr
 refine cutFe f1 (fun s' c l=>Bs noF k0 56 c l∧IsV x1 (c.get 3) l∧IsOwn 0 3 s'.1 (c.get 4) l∧Lo k0 (obF (c.get 4))∧IsV x1 (c.get 11) l∧IsL x1 (c.get 12) l∧IsV s'.2 (c.get 13) l∧True) (fun i' s' c l=>(i' = 0∧Bs noF k0 56 c l∧IsV x1 (c.get 3) l∧IsOwn 0 3 s'.1 (c.get 4) l∧Lo k0 (obF (c.get 4))∧True)) (fun r' c l=>bodyPost Tryz.prog Tryz.f180 (RetC noF k0 (IsOwn k0.w.heap.size 232 r')) .ret c l.w) ?_ hQ ?_ ?_ ?_
 ·intro Q4 W4 hgo hex hret
  refine sim_loop ?_ _ _ _ _ _ hf1 ⟨⟨hg,hs,hd⟩,i3,i4,n4,i11,i12,i13,trivial⟩ Q4 W4 hgo hex hret
  clear hr hf1 hgo hex hret W4 hQ hg hs hd i11 i12 i13 i3 i4 n4
  intro s1 fl_ a k hr hS Q hQ hgo1389 hex1390 hret1391
  obtain ⟨⟨hg,hs,hd⟩,i3,i4,n4,i11,i12,i13,_⟩:=hS
  unfold region_strips_L0 at hr
  refine cutS (fun c l=>Bs noF k0 56 c l∧IsV x1 (c.get 3) l∧IsOwn 0 3 s1.1 (c.get 4) l∧Lo k0 (obF (c.get 4))∧IsV x1 (c.get 11) l∧IsL x1 (c.get 12) l∧IsV s1.2 (c.get 13) l∧(IsV (decide (s1.2 < (x1.length:Int)))) (c.get 14) l∧True) ?_ ?_
  ·intro Q5 W5 w4
   refine gS 1 (_::[]) hs (by kernel_rfl) ⟨o1 [(13,none),(12,none)] rfl fun _ _ h n=>ok_lss rfl (up i13 h n.1) (up i12 h n.2.1),trivial⟩ W5 fun b q p=>?_
   exact tail_done (k:=q) (w4 _ _ ⟨Bs.post ⟨hg,hs,hd⟩ p,p.ke 3 rfl i3,p.ke 4 rfl i4,(by rw [p.old 4 rfl]; exact n4),p.ke 11 rfl i11,p.ke 12 rfl i12,p.ke 13 rfl i13,p.ou 0 14 rfl,trivial⟩)
  rintro a k ⟨⟨hg,hs,hd⟩,i3,i4,n4,i11,i12,i13,i14,_⟩
  refine wp_seq ?_
  refine wp_cond_split (isBool i14) (fun hc1402=>?_) (fun hc1402=>?_)
  ·rw [if_pos hc1402] at hr
   refine wp_skip ?_
   refine wp_seq ?_
   refine wp_block ?_
   refine wp_seq ?_
   obtain ⟨x2,hx2,hr⟩:=bind_some hr
   refine cut (fun a' k'=>Bs noF k0 56 a' k'∧(IsV x1) (a'.get 3) k'∧IsOwn 0 3 s1.1 (a'.get 4) k'∧Lo k0 (obF (a'.get 4))∧(IsRef x2) (a'.get 6) k'∧(IsV x1) (a'.get 11) k'∧(IsL x1) (a'.get 12) k'∧(IsV s1.2) (a'.get 13) k'∧True) ?_ hQ ?_
   ·intro Q6 W6 w5
    refine gS 3 (_::_::⟨some (IsBox k.w.heap.size (⟨0,0,0,0⟩:Rect)),[]⟩::[]) hs (by kernel_rfl) ⟨o1 [(11,none),(13,none)] rfl fun _ _ h n=>ok_indexAddr rfl Tryz.underlying130 ty79 (IsV.rd (up i11 h n.1)) (up i13 h n.2.1) hx2,o1 [(15,some 0)] rfl fun _ _ h n=>ok_load rfl ty79 n.1,ob1 rfl fun _ _ h n=>ok_alloc _ h.size rfl z79,trivial⟩ W6 fun b q p=>?_
    have hgq:=hg.then p.grow
    have hsb:=p.size.trans hs
    have hdb:=p.defers.trans hd
    have j3:=p.ke 3 rfl i3
    have j4:=p.ke 4 rfl i4
    have y4:Lo k0 (obF (b.get 4)):=by rw [p.old 4 rfl]; exact n4
    obtain ⟨b6,j6,x6,z6⟩:(IsBox k.w.heap.size (⟨0,0,0,0⟩:Rect)) (b.get 6) q:=p.ou 2 6 rfl
    replace x6:Lo k (Eq b6):=Lo.eq x6
    have y6:Lo k0 (Eq b6):=x6.chg hg
    have j11:=p.ke 11 rfl i11
    have j12:=p.ke 12 rfl i12
    have j13:=p.ke 13 rfl i13
    have j16:(IsV x2) (b.get 16) q:=p.ou 1 16 rfl
    have w4_6:Apart (obF (b.get 4)) (Eq b6):=Apart.new (by rw [p.old 4 rfl]; exact i4.ltF) x6
    have hns:=z6.nshF
    refine tail_storeB (i:=3) rfl rfl rfl rfl szf79 (Upd.self (α:=Rect)) j6 z6 j16 fun q2 hch hz=>?_
    replace hgq:=hgq.step hch y6.wr
    have hle:=hch.le hns
    replace j3:=Pers.pers hle j3
    replace j4:=j4.keep hch w4_6 hns
    replace j11:=Pers.pers hle j11
    replace j12:=Pers.pers hle j12
    replace j13:=Pers.pers hle j13
    replace j16:=Pers.pers hle j16
    replace z6:=hz
    clear hns hle hch
    obtain ⟨q,hqq⟩ : ∃ q,q = q2:=⟨q2,rfl⟩
    subst hqq
    obtain ⟨q2,hsh,jn⟩:=z6.give
    replace j3:=Pers.pers hsh.le j3
    replace j4:=j4.handed hsh w4_6
    replace j11:=Pers.pers hsh.le j11
    replace j12:=Pers.pers hsh.le j12
    replace j13:=Pers.pers hsh.le j13
    rw [← j6] at jn
    replace j6:=jn
    replace hgq:=hgq.hand hsh y6.wr
    rw [← hsh.w]
    clear hsh
    obtain ⟨q,hqq⟩ : ∃ q,q = q2:=⟨q2,rfl⟩
    subst hqq
    exact tail_done (k:=q) (w5 _ _ ⟨⟨hgq,hsb,hdb⟩,j3,j4,y4,j6,j11,j12,j13,trivial⟩)
   rintro a k ⟨⟨hg,hs,hd⟩,i3,i4,n4,i6,i11,i12,i13,_⟩
   obtain ⟨x3,hx3,hr⟩:=bind_some hr
   refine cut (fun a' k'=>Bs noF k0 56 a' k'∧(IsV x1) (a'.get 3) k'∧IsOwn 0 3 x3 (a'.get 4) k'∧Lo k0 (obF (a'.get 4))∧(IsV x1) (a'.get 11) k'∧(IsL x1) (a'.get 12) k'∧(IsV s1.2) (a'.get 13) k'∧True) ?_ hQ ?_
   ·intro Q7 W7 w6
    refine gS 6 (⟨some (OwnAt (a.get 4) 0 3 s1.1),[(4,none)]⟩::_::_::_::_::⟨some (IsV (α:=(List Int)) ([x2.X0,x2.X1])),[(19,some 2),(21,some 4)]⟩::[]) hs (by kernel_rfl) ⟨ob1 rfl fun _ _ h n=>ok_moveOA (.inl rfl) (ownAt n.1 (up i4 h n.1)),o1 [(6,none)] rfl fun _ _ h n=>ok_fieldAddr rfl fo79_0 (at_Rect_0 _) ((up i6 h n.1)).ptr,o1 [(18,some 1)] rfl fun _ _ h n=>ok_load rfl ty3 n.1,o1 [(6,none)] rfl fun _ _ h n=>ok_fieldAddr rfl fo79_2 (at_Rect_2 _) ((up i6 h n.1)).ptr,o1 [(20,some 3)] rfl fun _ _ h n=>ok_load rfl ty3 n.1,ob1 rfl fun _ _ h n=>ok_buildSlice rfl Tryz.underlying67 eo3 rfl (by decide) (by decide) ⟨rfl,n.1,rfl,n.2.1,trivial⟩,trivial⟩ W7 fun b q p=>?_
    have hgq:=hg.then p.grow
    have hsb:=p.size.trans hs
    have hdb:=p.defers.trans hd
    have j3:=p.ke 3 rfl i3
    have j11:=p.ke 11 rfl i11
    have j12:=p.ke 12 rfl i12
    have j13:=p.ke 13 rfl i13
    have e17:b.get 17 = a.get 4:=(p.ou 0 17 rfl).1
    have j17:IsOwn 0 3 s1.1 (b.get 17) q:=(p.ou 0 17 rfl).2
    have y17:Lo k0 (obF (b.get 17)):=by rw [e17]; exact n4
    have j22:(IsV (α:=(List Int)) ([x2.X0,x2.X1])) (b.get 22) q:=p.ou 5 22 rfl
    have hns:=j17.nshF
    refine tail_appendS (i:=6) (d:=23) rfl rfl rfl rfl (by rw [hsb]; decide) (e:=3) Tryz.underlying67 eo3 j17 (IsV.rd j22) hx3 fun b2 q2 hsz hdf hoth hch hown hob=>?_
    have hle:=hch.le hns
    have yn:Lo k0 (obF (b2.get 23)):=y17.app hgq hob
    replace j3:=Pers.pers hle j3
    replace j11:=Pers.pers hle j11
    replace j12:=Pers.pers hle j12
    replace j13:=Pers.pers hle j13
    replace j22:=Pers.pers hle j22
    replace hgq:=hgq.step hch y17.wr
    rw [← hoth 3 (by decide)] at j3
    rw [← hoth 11 (by decide)] at j11
    rw [← hoth 12 (by decide)] at j12
    rw [← hoth 13 (by decide)] at j13
    rw [← hoth 22 (by decide)] at j22
    have j23:=hown
    have y23:=yn
    replace hsb:=hsz.trans hsb
    replace hdb:=hdf.trans hdb
    clear hle hch hown hob hns yn hsz hdf hoth
    obtain ⟨b,hbb⟩ : ∃ b,b = b2:=⟨b2,rfl⟩
    subst hbb
    obtain ⟨q,hqq⟩ : ∃ q,q = q2:=⟨q2,rfl⟩
    subst hqq
    refine tail_assign (i:=7) (d:=4) rfl rfl (.inl rfl) rfl (by rw [hsb]; decide) fun b2 hsz hdf hnew hoth=>?_
    have jn:(IsOwn 0 3 x3) (b2.get 4) q:=by rw [hnew]; exact j23
    have yn:Lo k0 (obF (b2.get 4)):=by rw [hnew]; exact y23
    rw [← hoth 3 (by decide)] at j3
    rw [← hoth 11 (by decide)] at j11
    rw [← hoth 12 (by decide)] at j12
    rw [← hoth 13 (by decide)] at j13
    rw [← hoth 22 (by decide)] at j22
    have j4:=jn
    have y4:=yn
    replace hsb:=hsz.trans hsb
    replace hdb:=hdf.trans hdb
    clear hsz hdf hoth
    obtain ⟨b,hbb⟩ : ∃ b,b = b2:=⟨b2,rfl⟩
    subst hbb
    exact tail_done (k:=q) (w6 _ _ ⟨⟨hgq,hsb,hdb⟩,j3,j4,y4,j11,j12,j13,trivial⟩)
   rintro a k ⟨⟨hg,hs,hd⟩,i3,i4,n4,i11,i12,i13,_⟩
   obtain ⟨x4,hx4,hr⟩:=bind_some hr
   refine cut (fun a' k'=>Bs noF k0 56 a' k'∧(IsV x1) (a'.get 3) k'∧IsOwn 0 3 x3 (a'.get 4) k'∧Lo k0 (obF (a'.get 4))∧(IsV x1) (a'.get 11) k'∧(IsL x1) (a'.get 12) k'∧(IsV x4) (a'.get 13) k'∧True) ?_ hQ ?_
   ·intro Q8 W8 w7
    refine gS 2 (_::_::[]) hs (by kernel_rfl) ⟨o1 [(13,none)] rfl fun _ _ h n=>ok_add rfl (up i13 h n.1) (cI rfl) hx4,cm 0 rfl rfl,trivial⟩ W8 fun b q p=>?_
    exact tail_done (k:=q) (w7 _ _ ⟨Bs.post ⟨hg,hs,hd⟩ p,p.ke 3 rfl i3,p.ke 4 rfl i4,(by rw [p.old 4 rfl]; exact n4),p.ke 11 rfl i11,p.ke 12 rfl i12,p.ou 1 13 rfl,trivial⟩)
   rintro a k ⟨⟨hg,hs,hd⟩,i3,i4,n4,i11,i12,i13,_⟩
   exact hgo1389 _ _ _ (Option.some.inj hr).symm ⟨⟨hg,hs,hd⟩,i3,i4,n4,i11,i12,i13,trivial⟩
  rw [if_neg (by rw [hc1402]; decide)] at hr
  refine wp_exit ?_
  exact hex1390 _ _ _ _ (Option.some.inj hr).symm ⟨rfl,⟨hg,hs,hd⟩,i3,i4,n4,trivial⟩
 ·rintro r1 a k rfl hR
  dsimp only at hr
  obtain rfl:=Option.some.inj hr
  exact hR
 ·rintro _ _ _ rfl _
  simp at hr
 clear hf1
 rintro _ s2 a k rfl ⟨rfl,⟨hg,hs,hd⟩,i3,i4,n4,_⟩
 dsimp only at hr
 refine wp_seq ?_
 obtain ⟨x5,hx5,hr⟩:=bind_some hr
 refine cut (fun a' k'=>Bs noF k0 56 a' k'∧(IsV x1) (a'.get 3) k'∧IsOwn 0 3 x5 (a'.get 4) k'∧Lo k0 (obF (a'.get 4))∧True) ?_ hQ ?_
 ·intro Q9 W9 w8
  refine gS 1 (⟨some (OwnAt (a.get 4) 0 3 s2.1),[(4,none)]⟩::[]) hs (by kernel_rfl) ⟨ob1 rfl fun _ _ h n=>ok_moveOA (.inl rfl) (ownAt n.1 (up i4 h n.1)),trivial⟩ W9 fun b q p=>?_
  have hgq:=hg.then p.grow
  have hsb:=p.size.trans hs
  have hdb:=p.defers.trans hd
  have j3:=p.ke 3 rfl i3
  have j4:=p.ke 4 rfl i4
  have y4:Lo k0 (obF (b.get 4)):=by rw [p.old 4 rfl]; exact n4
  have e25:b.get 25 = a.get 4:=(p.ou 0 25 rfl).1
  have j25:IsOwn 0 3 s2.1 (b.get 25) q:=(p.ou 0 25 rfl).2
  have y25:Lo k0 (obF (b.get 25)):=by rw [e25]; exact n4
  have hns:=j25.nshF
  have eS:b.get 4 = b.get 25:=(p.old 4 rfl).trans e25.symm
  refine tail_call (F:=obF (b.get 25)) (i:=1) (d:=26) rfl rfl rfl rfl (by rw [hsb]; decide) Tryz.call101 W9 (sortInts_ok j25 hx5) fun b2 q2 hsz hdf hoth hch hres=>?_
  have hle:=hch.le hns
  replace j3:=Pers.pers hle j3
  replace hgq:=hgq.step hch y25.wr
  replace j4:IsOwn 0 3 x5 (b.get 4) q2:=by rw [eS]; exact hres
  clear hres eS
  rw [← hoth 3 (by decide)] at j3
  rw [← hoth 4 (by decide)] at j4
  rw [← hoth 4 (by decide)] at y4
  replace hsb:=hsz.trans hsb
  replace hdb:=hdf.trans hdb
  clear hle hch hns hsz hdf hoth
  obtain ⟨b,hbb⟩ : ∃ b,b = b2:=⟨b2,rfl⟩
  subst hbb
  obtain ⟨q,hqq⟩ : ∃ q,q = q2:=⟨q2,rfl⟩
  subst hqq
  exact tail_done (k:=q) (w8 _ _ ⟨⟨hgq,hsb,hdb⟩,j3,j4,y4,trivial⟩)
 rintro a k ⟨⟨hg,hs,hd⟩,i3,i4,n4,_⟩
 refine wp_seq ?_
 obtain ⟨x7,hx7,hr⟩:=bind_some hr
 refine cut (fun a' k'=>Bs noF k0 56 a' k'∧(IsV x1) (a'.get 3) k'∧IsOwn 0 3 x7 (a'.get 4) k'∧Lo k0 (obF (a'.get 4))∧True) ?_ hQ ?_
 ·intro Q10 W10 w9
  refine gS 1 (⟨some (OwnAt (a.get 4) 0 3 x5),[(4,none)]⟩::[]) hs (by kernel_rfl) ⟨ob1 rfl fun _ _ h n=>ok_moveOA (.inl rfl) (ownAt n.1 (up i4 h n.1)),trivial⟩ W10 fun b q p=>?_
  have hgq:=hg.then p.grow
  have hsb:=p.size.trans hs
  have hdb:=p.defers.trans hd
  have j3:=p.ke 3 rfl i3
  have e27:b.get 27 = a.get 4:=(p.ou 0 27 rfl).1
  have j27:IsOwn 0 3 x5 (b.get 27) q:=(p.ou 0 27 rfl).2
  have y27:Lo k0 (obF (b.get 27)):=by rw [e27]; exact n4
  have hns:=j27.nshF
  refine tail_call (F:=obF (b.get 27)) (i:=1) (d:=28) rfl rfl rfl rfl (by rw [hsb]; decide) Tryz.call102 W10 (compactInts_ok j27 hx7) fun b2 q2 hsz hdf hoth hch hres=>?_
  have hle:=hch.le hns
  obtain ⟨hown,hob⟩:=hres
  have yn:Lo k0 (obF (b2.get 28)):=y27.app hgq hob
  replace j3:=Pers.pers hle j3
  replace hgq:=hgq.step hch y27.wr
  rw [← hoth 3 (by decide)] at j3
  have j28:=hown
  have y28:=yn
  have hres:=True.intro
  clear hown hob yn
  replace hsb:=hsz.trans hsb
  replace hdb:=hdf.trans hdb
  clear hle hch hres hns hsz hdf hoth
  obtain ⟨b,hbb⟩ : ∃ b,b = b2:=⟨b2,rfl⟩
  subst hbb
  obtain ⟨q,hqq⟩ : ∃ q,q = q2:=⟨q2,rfl⟩
  subst hqq
  refine tail_assign (i:=2) (d:=4) rfl rfl (.inl rfl) rfl (by rw [hsb]; decide) fun b2 hsz hdf hnew hoth=>?_
  have jn:(IsOwn 0 3 x7) (b2.get 4) q:=by rw [hnew]; exact j28
  have yn:Lo k0 (obF (b2.get 4)):=by rw [hnew]; exact y28
  rw [← hoth 3 (by decide)] at j3
  have j4:=jn
  have y4:=yn
  replace hsb:=hsz.trans hsb
  replace hdb:=hdf.trans hdb
  clear hsz hdf hoth
  obtain ⟨b,hbb⟩ : ∃ b,b = b2:=⟨b2,rfl⟩
  subst hbb
  exact tail_done (k:=q) (w9 _ _ ⟨⟨hgq,hsb,hdb⟩,j3,j4,y4,trivial⟩)
 rintro a k ⟨⟨hg,hs,hd⟩,i3,i4,n4,_⟩
 refine wp_seq ?_
 obtain ⟨kk,sh1409,ii4⟩:=i4.give
 replace i3:=Pers.pers sh1409.le i3
 replace i4:=ii4
 replace hg:=hg.hand sh1409 n4.wr
 rw [← sh1409.w]
 clear sh1409
 obtain ⟨k,hkk⟩ : ∃ k,k = kk:=⟨kk,rfl⟩
 subst hkk
 refine cut (fun a' k'=>Bs noF k0 56 a' k'∧(IsV x1) (a'.get 3) k'∧(IsV x7) (a'.get 4) k'∧IsOwn 0 232 ([]:List RegionStrip) (a'.get 7) k'∧Lo k0 (obF (a'.get 7))∧True) ?_ hQ ?_
 ·intro Q11 W11 w10
  refine gS 1 (⟨some IsE0,[]⟩::[]) hs (by kernel_rfl) ⟨ob1 rfl fun b q h n=>ok_assign rfl isE0_nil,trivial⟩ W11 fun b q p=>?_
  have hgq:=hg.then p.grow
  have hsb:=p.size.trans hs
  have hdb:=p.defers.trans hd
  have j3:=p.ke 3 rfl i3
  have j4:=p.ke 4 rfl i4
  have j7:IsE0 (b.get 7) q:=p.ou 0 7 rfl
  have y7:Lo k0 (obF (b.get 7)):=j7.lo
  replace j7:IsOwn 0 232 ([]:List RegionStrip) (b.get 7) q:=j7.own0
  exact tail_done (k:=q) (w10 _ _ ⟨⟨hgq,hsb,hdb⟩,j3,j4,j7,y7,trivial⟩)
 rintro a k ⟨⟨hg,hs,hd⟩,i3,i4,i7,n7,_⟩
 refine wp_seq ?_
 refine cutS (fun c l=>Bs noF k0 56 c l∧IsV x1 (c.get 3) l∧IsV x7 (c.get 4) l∧IsOwn 0 232 ([]:List RegionStrip) (c.get 7) l∧Lo k0 (obF (c.get 7))∧IsI 1 (c.get 8) l∧True) ?_ ?_
 ·intro Q12 W12 w11
  refine gS 1 (⟨some (IsI 1),[]⟩::[]) hs (by kernel_rfl) ⟨aI rfl rfl,trivial⟩ W12 fun b q p=>?_
  exact tail_done (k:=q) (w11 _ _ ⟨Bs.post ⟨hg,hs,hd⟩ p,p.ke 3 rfl i3,p.ke 4 rfl i4,p.ke 7 rfl i7,(by rw [p.old 7 rfl]; exact n7),p.ou 0 8 rfl,trivial⟩)
 rintro a k ⟨⟨hg,hs,hd⟩,i3,i4,i7,n7,i8,_⟩
 refine wp_block ?_
 obtain ⟨f2,hf2,hr⟩:=bind_some hr
 refine cutFe f2 (fun s' c l=>Bs noF k0 56 c l∧IsV x1 (c.get 3) l∧IsV x7 (c.get 4) l∧IsOwn 0 232 s'.1 (c.get 7) l∧Lo k0 (obF (c.get 7))∧IsV s'.2 (c.get 8) l∧True) (fun i' s' c l=>(i' = 2∧Bs noF k0 56 c l∧IsOwn 0 232 s'.1 (c.get 7) l∧Lo k0 (obF (c.get 7))∧True)) (fun r' c l=>bodyPost Tryz.prog Tryz.f180 (RetC noF k0 (IsOwn k0.w.heap.size 232 r')) .ret c l.w) ?_ hQ ?_ ?_ ?_
 ·intro Q13 W13 hgo hex hret
  refine sim_loop ?_ _ _ _ _ _ hf2 ⟨⟨hg,hs,hd⟩,i3,i4,i7,n7,i8,trivial⟩ Q13 W13 hgo hex hret
  clear hr hf2 hgo hex hret W13 hQ hg hs hd i3 i4 i7 i8 n7
  intro s3 fl_ a k hr hS Q hQ hgo1413 hex1414 hret1415
  obtain ⟨⟨hg,hs,hd⟩,i3,i4,i7,n7,i8,_⟩:=hS
  unfold region_strips_L1 at hr
  refine wp_seq ?_
  refine cutS (fun c l=>Bs noF k0 56 c l∧IsV x1 (c.get 3) l∧IsV x7 (c.get 4) l∧IsOwn 0 232 s3.1 (c.get 7) l∧Lo k0 (obF (c.get 7))∧IsV s3.2 (c.get 8) l∧(IsV (decide (s3.2 < (x7.length:Int)))) (c.get 32) l∧True) ?_ ?_
  ·intro Q14 W14 w12
   refine gS 4 (_::_::_::_::[]) hs (by kernel_rfl) ⟨mu rfl i8,mu rfl i4,o1 [(30,some 1)] rfl fun _ _ h n=>ok_len rfl rfl Tryz.underlying67 (IsV.rd n.1),o1 [(29,some 0),(31,some 2)] rfl fun _ _ h n=>ok_lss rfl n.1 n.2.1,trivial⟩ W14 fun b q p=>?_
   exact tail_done (k:=q) (w12 _ _ ⟨Bs.post ⟨hg,hs,hd⟩ p,p.ke 3 rfl i3,p.ke 4 rfl i4,p.ke 7 rfl i7,(by rw [p.old 7 rfl]; exact n7),p.ke 8 rfl i8,p.ou 3 32 rfl,trivial⟩)
  rintro a k ⟨⟨hg,hs,hd⟩,i3,i4,i7,n7,i8,i32,_⟩
  refine wp_cond_split (isBool i32) (fun hc1423=>?_) (fun hc1423=>?_)
  ·rw [if_pos hc1423] at hr
   refine wp_skip ?_
   refine wp_seq ?_
   refine wp_block ?_
   obtain ⟨x8,hx8,hr⟩:=bind_some hr
   obtain ⟨x9,hx9,hr⟩:=bind_some hr
   obtain ⟨x10,hx10,hr⟩:=bind_some hr
   obtain ⟨x11,hx11,hr⟩:=bind_some hr
   obtain ⟨x12,hx12,hr⟩:=bind_some hr
   obtain ⟨x13,hx13,hr⟩:=bind_some hr
   obtain ⟨x14,hx14,hr⟩:=bind_some hr
   refine cut (fun a' k'=>Bs noF k0 56 a' k'∧(IsV x1) (a'.get 3) k'∧(IsV x7) (a'.get 4) k'∧IsOwn 0 232 x14 (a'.get 7) k'∧Lo k0 (obF (a'.get 7))∧(IsV s3.2) (a'.get 8) k'∧True) ?_ hQ ?_
   ·intro Q15 W15 w13
    refine region (m:=19) (⟨some (OwnAt (a.get 7) 0 232 s3.1),[(7,none)]⟩::_::_::_::_::_::_::_::_::_::_::_::_::_::_::_::_::⟨some (IsV (⟨x9,x10,x13⟩:RegionStrip)),[(40,some 5),(44,some 9),(51,some 16)]⟩::⟨some (IsV (α:=(List RegionStrip)) ([(⟨x9,x10,x13⟩:RegionStrip)])),[(52,some 17)]⟩::[]) hmix hs (by kernel_rfl) ⟨ob1 rfl fun _ _ h n=>ok_moveOA (.inl rfl) (ownAt n.1 (up i7 h n.1)),mu rfl i4,mu rfl i8,o1 [(37,some 2)] rfl fun _ _ h n=>ok_sub rfl n.1 (cI rfl) hx8,o1 [(36,some 1),(38,some 3)] rfl fun _ _ h n=>ok_indexAddr rfl Tryz.underlying67 ty3 (IsV.rd n.1) n.2.1 hx9,o1 [(39,some 4)] rfl fun _ _ h n=>ok_load rfl ty3 n.1,mu rfl i4,mu rfl i8,o1 [(41,some 6),(42,some 7)] rfl fun _ _ h n=>ok_indexAddr rfl Tryz.underlying67 ty3 (IsV.rd n.1) n.2.1 hx10,o1 [(43,some 8)] rfl fun _ _ h n=>ok_load rfl ty3 n.1,mu rfl i3,mu rfl i4,mu rfl i8,o1 [(47,some 12)] rfl fun _ _ h n=>ok_sub rfl n.1 (cI rfl) hx11,o1 [(46,some 11),(48,some 13)] rfl fun _ _ h n=>ok_indexAddr rfl Tryz.underlying67 ty3 (IsV.rd n.1) n.2.1 hx12,o1 [(49,some 14)] rfl fun _ _ h n=>ok_load rfl ty3 n.1,o1 [(45,some 10),(50,some 15)] rfl fun _ _ h n=>ok_call rfl Tryz.call184 (region_column_ok n.1 n.2.1 hx13),ob1 rfl fun _ _ h n=>ok_build rfl (bld232_0_1_2 n.1 n.2.1 n.2.2.1),ob1 rfl fun _ _ h n=>ok_buildSlice rfl Tryz.underlying225 eo232 rfl (by decide) (by decide) ⟨rfl,n.1,trivial⟩,trivial⟩ W15 fun b q p=>?_
    have hgq:=hg.then p.grow
    have hsb:=p.size.trans hs
    have hdb:=p.defers.trans hd
    have j3:=p.ke 3 rfl i3
    have j4:=p.ke 4 rfl i4
    have j8:=p.ke 8 rfl i8
    have e35:b.get 35 = a.get 7:=(p.ou 0 35 rfl).1
    have j35:IsOwn 0 232 s3.1 (b.get 35) q:=(p.ou 0 35 rfl).2
    have y35:Lo k0 (obF (b.get 35)):=by rw [e35]; exact n7
    have j53:(IsV (α:=(List RegionStrip)) ([(⟨x9,x10,x13⟩:RegionStrip)])) (b.get 53) q:=p.ou 18 53 rfl
    have hns:=j35.nshF
    refine tail_appendS (i:=19) (d:=54) rfl rfl rfl rfl (by rw [hsb]; decide) (e:=232) Tryz.underlying225 eo232 j35 (IsV.rd j53) hx14 fun b2 q2 hsz hdf hoth hch hown hob=>?_
    have hle:=hch.le hns
    have yn:Lo k0 (obF (b2.get 54)):=y35.app hgq hob
    replace j3:=Pers.pers hle j3
    replace j4:=Pers.pers hle j4
    replace j8:=Pers.pers hle j8
    replace j53:=Pers.pers hle j53
    replace hgq:=hgq.step hch y35.wr
    rw [← hoth 3 (by decide)] at j3
    rw [← hoth 4 (by decide)] at j4
    rw [← hoth 8 (by decide)] at j8
    rw [← hoth 53 (by decide)] at j53
    have j54:=hown
    have y54:=yn
    replace hsb:=hsz.trans hsb
    replace hdb:=hdf.trans hdb
    clear hle hch hown hob hns yn hsz hdf hoth
    obtain ⟨b,hbb⟩ : ∃ b,b = b2:=⟨b2,rfl⟩
    subst hbb
    obtain ⟨q,hqq⟩ : ∃ q,q = q2:=⟨q2,rfl⟩
    subst hqq
    refine tail_assign (i:=20) (d:=7) rfl rfl (.inl rfl) rfl (by rw [hsb]; decide) fun b2 hsz hdf hnew hoth=>?_
    have jn:(IsOwn 0 232 x14) (b2.get 7) q:=by rw [hnew]; exact j54
    have yn:Lo k0 (obF (b2.get 7)):=by rw [hnew]; exact y54
    rw [← hoth 3 (by decide)] at j3
    rw [← hoth 4 (by decide)] at j4
    rw [← hoth 8 (by decide)] at j8
    rw [← hoth 53 (by decide)] at j53
    have j7:=jn
    have y7:=yn
    replace hsb:=hsz.trans hsb
    replace hdb:=hdf.trans hdb
    clear hsz hdf hoth
    obtain ⟨b,hbb⟩ : ∃ b,b = b2:=⟨b2,rfl⟩
    subst hbb
    exact tail_done (k:=q) (w13 _ _ ⟨⟨hgq,hsb,hdb⟩,j3,j4,j7,y7,j8,trivial⟩)
   rintro a k ⟨⟨hg,hs,hd⟩,i3,i4,i7,n7,i8,_⟩
   obtain ⟨x15,hx15,hr⟩:=bind_some hr
   refine cut (fun a' k'=>Bs noF k0 56 a' k'∧(IsV x1) (a'.get 3) k'∧(IsV x7) (a'.get 4) k'∧IsOwn 0 232 x14 (a'.get 7) k'∧Lo k0 (obF (a'.get 7))∧(IsV x15) (a'.get 8) k'∧True) ?_ hQ ?_
   ·intro Q16 W16 w14
    refine gS 3 (_::_::_::[]) hs (by kernel_rfl) ⟨mu rfl i8,o1 [(33,some 0)] rfl fun _ _ h n=>ok_add rfl n.1 (cI rfl) hx15,cp 1 rfl rfl,trivial⟩ W16 fun b q p=>?_
    exact tail_done (k:=q) (w14 _ _ ⟨Bs.post ⟨hg,hs,hd⟩ p,p.ke 3 rfl i3,p.ke 4 rfl i4,p.ke 7 rfl i7,(by rw [p.old 7 rfl]; exact n7),p.ou 2 8 rfl,trivial⟩)
   rintro a k ⟨⟨hg,hs,hd⟩,i3,i4,i7,n7,i8,_⟩
   exact hgo1413 _ _ _ (Option.some.inj hr).symm ⟨⟨hg,hs,hd⟩,i3,i4,i7,n7,i8,trivial⟩
  rw [if_neg (by rw [hc1423]; decide)] at hr
  refine wp_exit ?_
  exact hex1414 _ _ _ _ (Option.some.inj hr).symm ⟨rfl,⟨hg,hs,hd⟩,i7,n7,trivial⟩
 ·rintro r2 a k rfl hR
  dsimp only at hr
  obtain rfl:=Option.some.inj hr
  exact hR
 ·rintro _ _ _ rfl _
  simp at hr
 clear hf2
 rintro _ s4 a k rfl ⟨rfl,⟨hg,hs,hd⟩,i7,n7,_⟩
 dsimp only at hr
 refine cutS (fun c l=>Bs noF k0 56 c l∧IsOwn 0 232 s4.1 (c.get 2) l∧Lo k0 (obF (c.get 2))∧True) ?_ ?_
 ·intro Q17 W17 w15
  refine gS 2 (⟨some (OwnAt (a.get 7) 0 232 s4.1),[(7,none)]⟩::⟨some (OwnAt (a.get 7) 0 232 s4.1),[(55,some 0)]⟩::[]) hs (by kernel_rfl) ⟨ob1 rfl fun _ _ h n=>ok_moveOA (.inl rfl) (ownAt n.1 (up i7 h n.1)),ob1 rfl fun _ _ h n=>ok_moveOA (.inr rfl) n.1,trivial⟩ W17 fun b q p=>?_
  have hgq:=hg.then p.grow
  have hsb:=p.size.trans hs
  have hdb:=p.defers.trans hd
  have e2:b.get 2 = a.get 7:=(p.ou 1 2 rfl).1
  have j2:IsOwn 0 232 s4.1 (b.get 2) q:=(p.ou 1 2 rfl).2
  have y2:Lo k0 (obF (b.get 2)):=by rw [e2]; exact n7
  exact tail_done (k:=q) (w15 _ _ ⟨⟨hgq,hsb,hdb⟩,j2,y2,trivial⟩)
 rintro a k ⟨⟨hg,hs,hd⟩,i2,n2,_⟩
 refine wp_ret ?_
 obtain rfl:=Option.some.inj hr
 exact retC1 rfl hd hg (show ResOk _ _ _ (.tmp 2) _ from IsOwn.raise (k0:=k0) i2 n2)
theorem region_strips_ok {k0:K} {v0:Value} {lists_:(List (List Rect))} {r:(List RegionStrip)} (i0:(IsV lists_) v0 k0) (hr:region_strips lists_ = some r) :
  Calls Tryz.prog 180 #[v0] k0.w (Ret k0 (IsV r)):=
 ret_give (region_strips_okO i0 hr)
noncomputable def k180:=mkO 180 [.list (.list (.st 2))] [.list (.st 24)] (fun x=>region_strips x) Tryz.call180 fun k0 vs x r hG h hr=>by obtain ⟨v0,rfl,i0⟩:=h.one; exact region_strips_ok i0 hr
def slices_Equal_span_L0 (s1_:(List RegionSpan)) (s2_:(List RegionSpan)) (s1:Int):Option (Flow (Int) (Bool)):=
 if (decide (s1 < (s1_.length:Int))) then
  (getI s1_ s1).bind fun x1=>
  (getI s2_ s1).bind fun x2=>
  if (!decide (x1 = x2)) then
   some (.ret false)
  else
   (addI s1 1).bind fun x3=>
   some (.go x3)
 else
  some (.ex 0 s1)
def slices_Equal_span (s1_:(List RegionSpan)) (s2_:(List RegionSpan)):Option (Bool):=
 if ((s1_.length:Int) != (s2_.length:Int)) then
  some false
 else
  (iterL (slices_Equal_span_L0 s1_ s2_) (s1_.length + 1) 0).bind fun f1=>match f1 with
   | .go _=>none
   | .ex _ _=>
    some true
   | .ret r1=>some r1
noncomputable def k182:=mk 182 [.list (.st 23),.list (.st 23)] [.bool] (fun x=>slices_Equal_span x.1 x.2) [] [] Tryz.f182 (.s .n (.s .n (.s (.s .n (.l [] [(13,.v .int)] [(0,[13],[])] (fI 12) .n)) .n))) Tryz.func182 Tryz.call182 rfl rfl fun x=>by kernel_rfl
def region_write_L1 (l_:(List RegionStrip)) (s1:(List Rect) × Int) (s2:Int):Option (Flow (Int) ((List Rect))):=
 (if (decide (s2 < (l_.length:Int))) then
  (getI l_ s2).bind fun x1=>
  (getI l_ s1.2).bind fun x2=>
  (slices_Equal_span x1.column x2.column).bind fun x3=>
  some x3
 else
  some false).bind fun x4=>
 if x4 then
  (addI s2 1).bind fun x5=>
  some (.go x5)
 else
  some (.ex 2 s2)
def region_write_L2 (l_:(List RegionStrip)) (s1:(List Rect) × Int) (s2:Int) (x2:RegionStrip) (s3:(List Rect) × Int):Option (Flow ((List Rect) × Int) ((List Rect))):=
 if (decide (s3.2 < (x2.column.length:Int))) then
  (getI x2.column s3.2).bind fun x3=>
  (getI l_ s1.2).bind fun x4=>
  (subI s2 1).bind fun x5=>
  (getI l_ x5).bind fun x6=>
  (appI s3.1 ([(⟨x4.x0,x3.from_,x6.x1,x3.to_⟩:Rect)])).bind fun x7=>
  (addI s3.2 1).bind fun x8=>
  some (.go (x7,x8))
 else
  some (.ex 4 (s3.1,s3.2))
def region_write_L0 (l_:(List RegionStrip)) (s1:(List Rect) × Int):Option (Flow ((List Rect) × Int) ((List Rect))):=
 if (decide (s1.2 < (l_.length:Int))) then
  (addI s1.2 1).bind fun x1=>
  (iterL (region_write_L1 l_ s1) (l_.length + s1.1.length + 1) x1).bind fun f1=>match f1 with
   | .go _=>none
   | .ex _ s2 =>
    (getI l_ s1.2).bind fun x2=>
    (iterL (region_write_L2 l_ s1 s2 x2) (x2.column.length + 1) (s1.1,0)).bind fun f2=>match f2 with
     | .go _=>none
     | .ex _ s3=>
      some (.go (s3.1,s2))
     | .ret r1=>some (.ret r1)
   | .ret r2=>some (.ret r2)
 else
  some (.ex 0 (s1.1,s1.2))
def region_write (l_:(List RegionStrip)):Option ((List Rect)):=
 (iterL (region_write_L0 l_) (l_.length + ([]:List Rect).length + 1) (([]:List Rect),0)).bind fun f1=>match f1 with
  | .go _=>none
  | .ex _ s1=>
   some s1.1
  | .ret r1=>some r1
noncomputable def k179:=mk 179 [.list (.st 24)] [.list (.st 2)] (fun x=>region_write x) [k182] [3,43,61] Tryz.f179 (.s .n (.s .n (.s (.s .n (.l [] [(3,.o 79 (.st 2)),(4,.v .int)] [(0,[4],[])] (fL [0,3]) (.s .n (.s .n (.s (.l [] [(5,.v .int)] [(2,[],[])] (fL [0,3]) .n) (.s (.s .n (.l [] [(3,.o 79 (.st 2)),(39,.v .int)] [(4,[39],[])] (fI 38) .n)) .n)))))) (.s (.f [3] .n) .n)))) Tryz.func179 Tryz.call179 rfl rfl fun x=>by kernel_rfl
def region_limited (l_:(List Rect)):Option ((List Rect) × Int):=
 if (decide (200 < (l_.length:Int))) then
  some (([]:List Rect),6)
 else
  some (l_,0)
noncomputable def k178:=mk 178 [.list (.st 2)] [.list (.st 2),.int] (fun x=>region_limited x) [] [] Tryz.f178 (.n) Tryz.func178 Tryz.call178 rfl rfl fun x=>by kernel_rfl
def region_Of_L0 (l_:(List Rect)) (s1:Int):Option (Flow (Int) ((List Rect) × Int)):=
 if (decide (s1 < (l_.length:Int))) then
  (getI l_ s1).bind fun x1=>
  (rect_Right x1).bind fun x2=>
  if (!x2) then
   some (.ret (([]:List Rect),1))
  else
   (addI s1 1).bind fun x3=>
   some (.go x3)
 else
  some (.ex 0 s1)
def region_Of (l_:(List Rect)):Option ((List Rect) × Int):=
 (iterL (region_Of_L0 l_) (l_.length + 1) 0).bind fun f1=>match f1 with
  | .go _=>none
  | .ex _ _ =>
   if (decide (400 < (l_.length:Int))) then
    some (([]:List Rect),6)
   else
    (region_strips ([l_])).bind fun x1=>
    (region_write x1).bind fun x2=>
    (region_limited x2).bind fun x3=>
    some (x3.1,x3.2)
  | .ret r1=>some r1
noncomputable def k173:=mk 173 [.list (.st 2)] [.list (.st 2),.int] (fun x=>region_Of x) [k99,k180,k179,k178] [] Tryz.f173 (.s .n (.s (.s .n (.l [] [(8,.v .int)] [(0,[8],[])] (fI 7) .n)) .n)) Tryz.func173 Tryz.call173 rfl rfl fun x=>by kernel_rfl
def slices_Equal_Rect_L0 (s1_:(List Rect)) (s2_:(List Rect)) (s1:Int):Option (Flow (Int) (Bool)):=
 if (decide (s1 < (s1_.length:Int))) then
  (getI s1_ s1).bind fun x1=>
  (getI s2_ s1).bind fun x2=>
  if (!decide (x1 = x2)) then
   some (.ret false)
  else
   (addI s1 1).bind fun x3=>
   some (.go x3)
 else
  some (.ex 0 s1)
def slices_Equal_Rect (s1_:(List Rect)) (s2_:(List Rect)):Option (Bool):=
 if ((s1_.length:Int) != (s2_.length:Int)) then
  some false
 else
  (iterL (slices_Equal_Rect_L0 s1_ s2_) (s1_.length + 1) 0).bind fun f1=>match f1 with
   | .go _=>none
   | .ex _ _=>
    some true
   | .ret r1=>some r1
noncomputable def k174:=mk 174 [.list (.st 2),.list (.st 2)] [.bool] (fun x=>slices_Equal_Rect x.1 x.2) [] [] Tryz.f174 (.s .n (.s .n (.s (.s .n (.l [] [(13,.v .int)] [(0,[13],[])] (fI 12) .n)) .n))) Tryz.func174 Tryz.call174 rfl rfl fun x=>by kernel_rfl
def region_Right (a_:(List Rect)):Option (Bool):=
 (region_Of a_).bind fun x1=>
 (if (x1.2 == 0) then
  (slices_Equal_Rect x1.1 a_).bind fun x2=>
  some x2
 else
  some false).bind fun x3=>
 some x3
noncomputable def k162:=mk 162 [.list (.st 2)] [.bool] (fun x=>region_Right x) [k173,k174] [] Tryz.f162 (.n) Tryz.func162 Tryz.call162 rfl rfl fun x=>by kernel_rfl
def region_Same (a_:(List Rect)) (b_:(List Rect)):Option (Bool):=
 (slices_Equal_Rect a_ b_).bind fun x1=>
 some x1
noncomputable def k163:=mk 163 [.list (.st 2),.list (.st 2)] [.bool] (fun x=>region_Same x.1 x.2) [k174] [] Tryz.f163 (.n) Tryz.func163 Tryz.call163 rfl rfl fun x=>by kernel_rfl
def solid_Right_L0 (s_:(List Slab)) (s1:Int):Option (Flow (Int) (Bool)):=
 if (decide (s1 < (s_.length:Int))) then
  ((getI s_ s1).bind fun x1=>
  (if ((((decide (x1.Z0 < 0)) || (decide (x1.Z1 ≤ x1.Z0))) || (decide (4096 < x1.Z1))) || ((x1.Area.length:Int) == 0)) then
   some true
  else
   (region_Right x1.Area).bind fun x2=>
   some (!x2)).bind fun x3=>
  if x3 then
   some (.ret false)
  else
   if (s1 == 0) then
    some (.go ())
   else
    (subI s1 1).bind fun x4=>
    (getI s_ x4).bind fun x5=>
    (if (decide (x1.Z0 < x5.Z1)) then
     some true
    else
     (if (x5.Z1 == x1.Z0) then
      (region_Same x5.Area x1.Area).bind fun x6=>
      some x6
     else
      some false).bind fun x7=>
     some x7).bind fun x8=>
    if x8 then
     some (.ret false)
    else
     some (.go ()):Option (Flow (Unit) (Bool))).bind fun f1=>match f1 with
   | .go _=>
    (addI s1 1).bind fun x9=>
    some (.go x9)
   | .ex _ _=>none
   | .ret r1=>some (.ret r1)
 else
  some (.ex 0 s1)
def solid_Right (s_:(List Slab)):Option (Bool):=
 if (decide (80 < (s_.length:Int))) then
  some false
 else
  (iterL (solid_Right_L0 s_) (s_.length + 1) 0).bind fun f1=>match f1 with
   | .go _=>none
   | .ex _ _=>
    some true
   | .ret r1=>some r1
noncomputable def k136:=mk 136 [.list (.st 22)] [.bool] (fun x=>solid_Right x) [k162,k163] [] Tryz.f136 (.s .n (.s .n (.s (.s .n (.l [] [(11,.v .int)] [(0,[11],[])] (fI 10) (.s .n (.s .n (.s (.jf [] [] ([],[]) [] .n) .n))))) .n))) Tryz.func136 Tryz.call136 rfl rfl fun x=>by kernel_rfl
def solid_Boxes_L1 (x1:Slab) (s1:(List Box) × Int):Option (Flow ((List Box) × Int) ((List Box))):=
 if (decide (s1.2 < (x1.Area.length:Int))) then
  (getI x1.Area s1.2).bind fun x2=>
  (appI s1.1 ([(⟨x2,x1.Z0,x1.Z1⟩:Box)])).bind fun x3=>
  (addI s1.2 1).bind fun x4=>
  some (.go (x3,x4))
 else
  some (.ex 2 (s1.1,s1.2))
def solid_Boxes_L0 (s_:(List Slab)) (s1:(List Box) × Int):Option (Flow ((List Box) × Int) ((List Box))):=
 if (decide (s1.2 < (s_.length:Int))) then
  (getI s_ s1.2).bind fun x1=>
  (iterL (solid_Boxes_L1 x1) (x1.Area.length + 1) (s1.1,0)).bind fun f1=>match f1 with
   | .go _=>none
   | .ex _ s2=>
    (addI s1.2 1).bind fun x2=>
    some (.go (s2.1,x2))
   | .ret r1=>some (.ret r1)
 else
  some (.ex 0 (s1.1,s1.2))
def solid_Boxes (s_:(List Slab)):Option ((List Box)):=
 (solid_Right s_).bind fun x1=>
 if (!x1) then
  some ([]:List Box)
 else
  (iterL (solid_Boxes_L0 s_) (s_.length + 1) (([]:List Box),0)).bind fun f1=>match f1 with
   | .go _=>none
   | .ex _ s1=>
    some s1.1
   | .ret r1=>some r1
noncomputable def k110:=mk 110 [.list (.st 22)] [.list (.st 5)] (fun x=>solid_Boxes x) [k136] [3,24,32] Tryz.f110 (.s .n (.s .n (.s .n (.s (.s .n (.l [] [(3,.o 81 (.st 5)),(13,.v .int)] [(0,[13],[])] (fI 12) (.s .n (.s .n (.s (.s .n (.s .n (.l [] [(3,.o 81 (.st 5)),(20,.v .int)] [(2,[20],[])] (fI 19) .n))) .n))))) (.s (.f [3] .n) .n))))) Tryz.func110 Tryz.call110 rfl rfl fun x=>by kernel_rfl
theorem solid_Boxes_ok {k0:K} {v0:Value} {x0:(List Slab)} {r:(List Box)} (i0:IsV x0 v0 k0) (hr:solid_Boxes x0 = some r):Calls Tryz.prog 110 #[v0] k0.w (Ret k0 (IsV r)):=(k110.ok.ok k0 [v0] x0 r (GOk.none (fun _=>rfl) fun _ e=>by cases e) i0 hr)
def sight_bound_compare (b_:SightBound) (c_:SightBound):Option (Int):=
 (mulI b_.n c_.d).bind fun x1=>
 (mulI c_.n b_.d).bind fun x2=>
 (cmp_Compare_int x1 x2).bind fun x3=>
 some x3
noncomputable def k139:=mk 139 [.st 26,.st 26] [.int] (fun x=>sight_bound_compare x.1 x.2) [k150] [] Tryz.f139 (.n) Tryz.func139 Tryz.call139 rfl rfl fun x=>by kernel_rfl
theorem sight_bound_compare_ok {k0:K} {v0 v1:Value} {x0:SightBound} {x1:SightBound} {r:Int} (i0:IsV x0 v0 k0) (i1:IsV x1 v1 k0) (hr:sight_bound_compare x0 x1 = some r):Calls Tryz.prog 139 #[v0,v1] k0.w (Ret k0 (IsV r)):=(k139.ok.ok k0 [v0,v1] (x0,x1) r (GOk.none (fun _=>rfl) fun _ e=>by cases e) ⟨i0,i1⟩ hr)
def sight_interval_above (i_:SightInterval) (b_:SightBound):Option (SightInterval):=
 (sight_bound_compare b_ i_.lo).bind fun x1=>
 (if (decide (0 < x1)) then
  some { i_ with lo:=b_ }
 else
  (if (x1 == 0) then
   some { i_ with lo:={ i_.lo with open_:=(i_.lo.open_ || b_.open_) } }
  else
   some i_).bind fun s1=>
  some s1).bind fun s2=>
 some s2
theorem sight_interval_above_ok {k0:K} {v0 v1:Value} {i_:SightInterval} {b_:SightBound} {r:SightInterval} {b0:Nat} (i0:v0 = .pointer (some ⟨b0,0,none⟩)) (c0:Gb.Box b0 i_ k0) (i1:(IsV b_) v1 k0) (hr:sight_interval_above i_ b_ = some r) :
  Calls Tryz.prog 137 #[v0,v1] k0.w (RetC (Eq b0) k0 (IsTurn b0 r)):=by
 unfold sight_interval_above at hr
 refine enterK Tryz.func137 rfl Tryz.ntmps137 (show 2 ≤ 34 by decide) fun a k hk0 hs hd ha=>?_
 obtain ⟨e0,e1,_⟩:=ha
 replace i0:a.get 0 = .pointer (some ⟨b0,0,none⟩):=by rw [e0]; exact i0
 replace c0:Gb.Box b0 i_ k:=by rw [hk0]; exact c0
 have n0:Wr (Eq b0) k0 (Eq b0):=fun b h=>.inl h
 replace i1:(IsV b_) (a.get 1) k:=by rw [e1,hk0]; exact i1
 have hQ:Gb.LetsOut (bodyPost Tryz.prog Tryz.f137 (RetC (Eq b0) k0 (IsTurn b0 r))):=letsOutC
 have hg:Chg (Eq b0) k0 k:=by rw [hk0]; exact Chg.refl _ k0
 refine cutS (fun c l=>Bs (Eq b0) k0 34 c l∧c.get 0 = .pointer (some ⟨b0,0,none⟩)∧Wr (Eq b0) k0 (Eq b0)∧Gb.Box b0 i_ l∧IsRef b_ (c.get 3) l∧True) ?_ ?_
 ·intro Q1 W1 w1
  refine gS 1 (⟨some (IsRef b_),[(1,none)]⟩::[]) hs (by kernel_rfl) ⟨ob1 rfl fun _ _ h n=>ok_boxR rfl (up i1 h n.1),trivial⟩ W1 fun b q p=>?_
  exact tail_done (k:=q) (w1 _ _ ⟨Bs.post ⟨hg,hs,hd⟩ p,upE i0 (p.old 0 rfl),n0,Gb.Box.grow c0 p.grow,p.ou 0 3 rfl,trivial⟩)
 rintro a k ⟨⟨hg,hs,hd⟩,i0,n0,c0,i3,_⟩
 refine wp_seq ?_
 obtain ⟨x1,hx1,hr⟩:=bind_some hr
 refine cut (fun a' k'=>Bs (Eq b0) k0 34 a' k'∧a'.get 0 = .pointer (some ⟨b0,0,none⟩)∧Wr (Eq b0) k0 (Eq b0)∧Gb.Box b0 i_ k'∧(IsRef b_) (a'.get 3) k'∧(IsV x1) (a'.get 4) k'∧True) ?_ hQ ?_
 ·intro Q2 W2 w2
  refine region (m:=7) (_::⟨some (IsAdr b0 (0)),[(0,none)]⟩::⟨some (IsAdr b0 (0)),[(6,some 1)]⟩::_::_::_::_::[]) hmix hs (by kernel_rfl) ⟨o1 [(3,none)] rfl fun _ _ h n=>ok_load rfl ty145 ((up i3 h n.1)).ptr,ob1 rfl fun _ _ h n=>ok_moveB rfl (upE i0 n.1),ob1 rfl fun _ _ h n=>ok_nilCheckA rfl n.1,o1 [(7,some 2)] rfl fun _ _ h n=>ok_fieldAddr rfl fo147_0 (at_SightInterval_0 _) (IsAdr.ptrB n.1 (c0.grow h)),o1 [(8,some 3)] rfl fun _ _ h n=>ok_load rfl ty145 n.1,o1 [(5,some 0),(9,some 4)] rfl fun _ _ h n=>ok_call rfl Tryz.call139 (sight_bound_compare_ok n.1 n.2.1 hx1),cp 5 rfl rfl,trivial⟩ W2 fun b q p=>?_
  exact tail_done (k:=q) (w2 _ _ ⟨Bs.post ⟨hg,hs,hd⟩ p,upE i0 (p.old 0 rfl),n0,Gb.Box.grow c0 p.grow,p.ke 3 rfl i3,p.ou 6 4 rfl,trivial⟩)
 rintro a k ⟨⟨hg,hs,hd⟩,i0,n0,c0,i3,i4,_⟩
 refine wp_block ?_
 refine cutS (fun c l=>Bs (Eq b0) k0 34 c l∧c.get 0 = .pointer (some ⟨b0,0,none⟩)∧Wr (Eq b0) k0 (Eq b0)∧Gb.Box b0 i_ l∧IsRef b_ (c.get 3) l∧IsV x1 (c.get 4) l∧IsV (decide (0 < x1)) (c.get 11) l∧True) ?_ ?_
 ·intro Q3 W3 w3
  refine gS 3 (_::_::_::[]) hs (by kernel_rfl) ⟨mu rfl i4,o1 [(12,some 0)] rfl fun _ _ h n=>ok_gtr rfl n.1 (cI rfl),cp 1 rfl rfl,trivial⟩ W3 fun b q p=>?_
  exact tail_done (k:=q) (w3 _ _ ⟨Bs.post ⟨hg,hs,hd⟩ p,upE i0 (p.old 0 rfl),n0,Gb.Box.grow c0 p.grow,p.ke 3 rfl i3,p.ke 4 rfl i4,p.ou 2 11 rfl,trivial⟩)
 rintro a k ⟨⟨hg,hs,hd⟩,i0,n0,c0,i3,i4,i11,_⟩
 obtain ⟨s1,hs1,hr⟩:=bind_some hr
 refine cut (fun a' k'=>Bs (Eq b0) k0 34 a' k'∧a'.get 0 = .pointer (some ⟨b0,0,none⟩)∧Wr (Eq b0) k0 (Eq b0)∧Gb.Box b0 s1 k'∧True) ?_ hQ ?_
 ·intro Q4 W4 w4
  replace hr:=hs1
  clear hQ
  have hQ:=W4
  refine wp_cond_split (isBool i11) (fun hc1822=>?_) (fun hc1822=>?_)
  ·rw [if_pos hc1822] at hr
   refine cut (fun a' k'=>Bs (Eq b0) k0 34 a' k'∧a'.get 0 = .pointer (some ⟨b0,0,none⟩)∧Wr (Eq b0) k0 (Eq b0)∧Gb.Box b0 ({ i_ with lo:=b_ }) k'∧True) ?_ hQ ?_
   ·intro Q5 W5 w5
    refine gS 4 (⟨some (IsAdr b0 (0)),[(0,none)]⟩::_::⟨some (IsAdr b0 (0)),[(14,some 0)]⟩::_::[]) hs (by kernel_rfl) ⟨ob1 rfl fun _ _ h n=>ok_moveB rfl (upE i0 n.1),o1 [(3,none)] rfl fun _ _ h n=>ok_load rfl ty145 ((up i3 h n.1)).ptr,ob1 rfl fun _ _ h n=>ok_nilCheckA rfl n.1,o1 [(16,some 2)] rfl fun _ _ h n=>ok_fieldAdr2 rfl fo147_0 n.1,trivial⟩ W5 fun b q p=>?_
    have hgq:=hg.then p.grow
    have hsb:=p.size.trans hs
    have hdb:=p.defers.trans hd
    have j0:=upE i0 (p.old 0 rfl)
    have z0:=Gb.Box.grow c0 p.grow
    have y0:=n0
    have j15:(IsV b_) (b.get 15) q:=p.ou 1 15 rfl
    have j17:IsAdr b0 (0 + 0) (b.get 17) q:=p.ou 3 17 rfl
    have hns:=z0.nshF
    refine tail_storeB (i:=4) rfl rfl rfl rfl szf145 upd_F147_0 j17 z0 j15 fun q2 hch hz=>?_
    replace hgq:=hgq.step hch y0
    have hle:=hch.le hns
    replace j15:=Pers.pers hle j15
    replace j17:=Pers.pers hle j17
    replace z0:=hz
    clear hns hle hch
    obtain ⟨q,hqq⟩ : ∃ q,q = q2:=⟨q2,rfl⟩
    subst hqq
    exact tail_done (k:=q) (w5 _ _ ⟨⟨hgq,hsb,hdb⟩,j0,y0,z0,trivial⟩)
   rintro a k ⟨⟨hg,hs,hd⟩,i0,n0,c0,_⟩
   obtain rfl:=Option.some.inj hr
   exact w4 _ _ ⟨⟨hg,hs,hd⟩,i0,n0,c0,trivial⟩
  rw [if_neg (by rw [hc1822]; decide)] at hr
  refine cutS (fun c l=>Bs (Eq b0) k0 34 c l∧c.get 0 = .pointer (some ⟨b0,0,none⟩)∧Wr (Eq b0) k0 (Eq b0)∧Gb.Box b0 i_ l∧IsRef b_ (c.get 3) l∧IsV (x1 == 0) (c.get 18) l∧True) ?_ ?_
  ·intro Q6 W6 w6
   refine gS 3 (_::_::_::[]) hs (by kernel_rfl) ⟨mu rfl i4,o1 [(19,some 0)] rfl fun _ _ h n=>ok_eqI rfl n.1 (cI rfl),cp 1 rfl rfl,trivial⟩ W6 fun b q p=>?_
   exact tail_done (k:=q) (w6 _ _ ⟨Bs.post ⟨hg,hs,hd⟩ p,upE i0 (p.old 0 rfl),n0,Gb.Box.grow c0 p.grow,p.ke 3 rfl i3,p.ou 2 18 rfl,trivial⟩)
  rintro a k ⟨⟨hg,hs,hd⟩,i0,n0,c0,i3,i18,_⟩
  obtain ⟨s2,hs2,hr⟩:=bind_some hr
  refine cut (fun a' k'=>Bs (Eq b0) k0 34 a' k'∧a'.get 0 = .pointer (some ⟨b0,0,none⟩)∧Wr (Eq b0) k0 (Eq b0)∧Gb.Box b0 s2 k'∧True) ?_ hQ ?_
  ·intro Q7 W7 w7
   replace hr:=hs2
   clear hQ
   have hQ:=W7
   refine wp_cond_split (isBool i18) (fun hc1818=>?_) (fun hc1818=>?_)
   ·rw [if_pos hc1818] at hr
    refine cut (fun a' k'=>Bs (Eq b0) k0 34 a' k'∧a'.get 0 = .pointer (some ⟨b0,0,none⟩)∧Wr (Eq b0) k0 (Eq b0)∧Gb.Box b0 ({ i_ with lo:={ i_.lo with open_:=(i_.lo.open_ || b_.open_) } }) k'∧True) ?_ hQ ?_
    ·intro Q8 W8 w8
     refine gS 13 (⟨some (IsAdr b0 (0)),[(0,none)]⟩::⟨some (IsAdr b0 (0)),[(0,none)]⟩::⟨some (IsAdr b0 (0)),[(22,some 1)]⟩::_::_::_::_::_::_::_::⟨some (IsAdr b0 (0)),[(21,some 0)]⟩::_::_::[]) hs (by kernel_rfl) ⟨ob1 rfl fun _ _ h n=>ok_moveB rfl (upE i0 n.1),ob1 rfl fun _ _ h n=>ok_moveB rfl (upE i0 n.1),ob1 rfl fun _ _ h n=>ok_nilCheckA rfl n.1,o1 [(23,some 2)] rfl fun _ _ h n=>ok_fieldAddr rfl fo147_0 (at_SightInterval_0 _) (IsAdr.ptrB n.1 (c0.grow h)),o1 [(24,some 3)] rfl fun _ _ h n=>ok_fieldAddr rfl fo145_2 (at_SightBound_2 _) n.1,o1 [(25,some 4)] rfl fun _ _ h n=>ok_load rfl ty4 n.1,cm 5 rfl rfl,gF [(3,none)] rfl rfl fun hp _ _ h n=>ok_fieldAddr rfl fo145_2 (at_SightBound_2 _) ((up i3 h n.1)).ptr,gF [(28,some 7)] rfl rfl fun hp _ _ h n=>ok_load rfl ty4 (Gd.get n.1 hp),o1 [(27,some 6),(29,some 8)] rfl fun _ _ h n=>ok_pickOr rfl n.1 (cB rfl) (Gd.get n.2.1),ob1 rfl fun _ _ h n=>ok_nilCheckA rfl n.1,o1 [(31,some 10)] rfl fun _ _ h n=>ok_fieldAdr2 rfl fo147_0 n.1,o1 [(32,some 11)] rfl fun _ _ h n=>ok_fieldAdr2 rfl fo145_2 n.1,trivial⟩ W8 fun b q p=>?_
     have hgq:=hg.then p.grow
     have hsb:=p.size.trans hs
     have hdb:=p.defers.trans hd
     have j0:=upE i0 (p.old 0 rfl)
     have z0:=Gb.Box.grow c0 p.grow
     have y0:=n0
     have j30:(IsV (i_.lo.open_ || b_.open_)) (b.get 30) q:=p.ou 9 30 rfl
     have j33:IsAdr b0 (0 + 0 + 2) (b.get 33) q:=p.ou 12 33 rfl
     have hns:=z0.nshF
     refine tail_storeB (i:=13) rfl rfl rfl rfl szf4 upd_F147_0_F145_2 j33 z0 j30 fun q2 hch hz=>?_
     replace hgq:=hgq.step hch y0
     have hle:=hch.le hns
     replace j30:=Pers.pers hle j30
     replace j33:=Pers.pers hle j33
     replace z0:=hz
     clear hns hle hch
     obtain ⟨q,hqq⟩ : ∃ q,q = q2:=⟨q2,rfl⟩
     subst hqq
     exact tail_done (k:=q) (w8 _ _ ⟨⟨hgq,hsb,hdb⟩,j0,y0,z0,trivial⟩)
    rintro a k ⟨⟨hg,hs,hd⟩,i0,n0,c0,_⟩
    obtain rfl:=Option.some.inj hr
    exact w7 _ _ ⟨⟨hg,hs,hd⟩,i0,n0,c0,trivial⟩
   rw [if_neg (by rw [hc1818]; decide)] at hr
   refine wp_skip ?_
   obtain rfl:=Option.some.inj hr
   exact w7 _ _ ⟨⟨hg,hs,hd⟩,i0,n0,c0,trivial⟩
  clear hs2
  rintro a k ⟨⟨hg,hs,hd⟩,i0,n0,c0,_⟩
  obtain rfl:=Option.some.inj hr
  exact w4 _ _ ⟨⟨hg,hs,hd⟩,i0,n0,c0,trivial⟩
 clear hs1
 rintro a k ⟨⟨hg,hs,hd⟩,i0,n0,c0,_⟩
 obtain rfl:=Option.some.inj hr
 exact retT rfl hd hg c0
def sight_interval_below (i_:SightInterval) (b_:SightBound):Option (SightInterval):=
 (if i_.top then
  (sight_bound_compare b_ i_.hi).bind fun x1=>
  some x1
 else
  some (-1)).bind fun s1=>
 (if (decide (s1 < 0)) then
  some { { i_ with hi:=b_ } with top:=true }
 else
  (if (s1 == 0) then
   some { i_ with hi:={ i_.hi with open_:=(i_.hi.open_ || b_.open_) } }
  else
   some i_).bind fun s2=>
  some s2).bind fun s3=>
 some s3
theorem sight_interval_below_ok {k0:K} {v0 v1:Value} {i_:SightInterval} {b_:SightBound} {r:SightInterval} {b0:Nat} (i0:v0 = .pointer (some ⟨b0,0,none⟩)) (c0:Gb.Box b0 i_ k0) (i1:(IsV b_) v1 k0) (hr:sight_interval_below i_ b_ = some r) :
  Calls Tryz.prog 138 #[v0,v1] k0.w (RetC (Eq b0) k0 (IsTurn b0 r)):=by
 unfold sight_interval_below at hr
 refine enterK Tryz.func138 rfl Tryz.ntmps138 (show 2 ≤ 41 by decide) fun a k hk0 hs hd ha=>?_
 obtain ⟨e0,e1,_⟩:=ha
 replace i0:a.get 0 = .pointer (some ⟨b0,0,none⟩):=by rw [e0]; exact i0
 replace c0:Gb.Box b0 i_ k:=by rw [hk0]; exact c0
 have n0:Wr (Eq b0) k0 (Eq b0):=fun b h=>.inl h
 replace i1:(IsV b_) (a.get 1) k:=by rw [e1,hk0]; exact i1
 have hQ:Gb.LetsOut (bodyPost Tryz.prog Tryz.f138 (RetC (Eq b0) k0 (IsTurn b0 r))):=letsOutC
 have hg:Chg (Eq b0) k0 k:=by rw [hk0]; exact Chg.refl _ k0
 refine cutS (fun c l=>Bs (Eq b0) k0 41 c l∧c.get 0 = .pointer (some ⟨b0,0,none⟩)∧Wr (Eq b0) k0 (Eq b0)∧Gb.Box b0 i_ l∧IsRef b_ (c.get 3) l∧True) ?_ ?_
 ·intro Q1 W1 w1
  refine gS 1 (⟨some (IsRef b_),[(1,none)]⟩::[]) hs (by kernel_rfl) ⟨ob1 rfl fun _ _ h n=>ok_boxR rfl (up i1 h n.1),trivial⟩ W1 fun b q p=>?_
  exact tail_done (k:=q) (w1 _ _ ⟨Bs.post ⟨hg,hs,hd⟩ p,upE i0 (p.old 0 rfl),n0,Gb.Box.grow c0 p.grow,p.ou 0 3 rfl,trivial⟩)
 rintro a k ⟨⟨hg,hs,hd⟩,i0,n0,c0,i3,_⟩
 refine cutS (fun c l=>Bs (Eq b0) k0 41 c l∧c.get 0 = .pointer (some ⟨b0,0,none⟩)∧Wr (Eq b0) k0 (Eq b0)∧Gb.Box b0 i_ l∧IsRef b_ (c.get 3) l∧IsI (-1) (c.get 4) l∧True) ?_ ?_
 ·intro Q2 W2 w2
  refine gS 1 (⟨some (IsI (-1)),[]⟩::[]) hs (by kernel_rfl) ⟨aI rfl rfl,trivial⟩ W2 fun b q p=>?_
  exact tail_done (k:=q) (w2 _ _ ⟨Bs.post ⟨hg,hs,hd⟩ p,upE i0 (p.old 0 rfl),n0,Gb.Box.grow c0 p.grow,p.ke 3 rfl i3,p.ou 0 4 rfl,trivial⟩)
 rintro a k ⟨⟨hg,hs,hd⟩,i0,n0,c0,i3,i4,_⟩
 refine wp_seq ?_
 refine cutS (fun c l=>Bs (Eq b0) k0 41 c l∧c.get 0 = .pointer (some ⟨b0,0,none⟩)∧Wr (Eq b0) k0 (Eq b0)∧Gb.Box b0 i_ l∧IsRef b_ (c.get 3) l∧IsI (-1) (c.get 4) l∧IsV i_.top (c.get 8) l∧True) ?_ ?_
 ·intro Q3 W3 w3
  refine gS 4 (⟨some (IsAdr b0 (0)),[(0,none)]⟩::⟨some (IsAdr b0 (0)),[(5,some 0)]⟩::_::_::[]) hs (by kernel_rfl) ⟨ob1 rfl fun _ _ h n=>ok_moveB rfl (upE i0 n.1),ob1 rfl fun _ _ h n=>ok_nilCheckA rfl n.1,o1 [(6,some 1)] rfl fun _ _ h n=>ok_fieldAddr rfl fo147_2 (at_SightInterval_2 _) (IsAdr.ptrB n.1 (c0.grow h)),o1 [(7,some 2)] rfl fun _ _ h n=>ok_load rfl ty4 n.1,trivial⟩ W3 fun b q p=>?_
  exact tail_done (k:=q) (w3 _ _ ⟨Bs.post ⟨hg,hs,hd⟩ p,upE i0 (p.old 0 rfl),n0,Gb.Box.grow c0 p.grow,p.ke 3 rfl i3,p.ke 4 rfl i4,p.ou 3 8 rfl,trivial⟩)
 rintro a k ⟨⟨hg,hs,hd⟩,i0,n0,c0,i3,i4,i8,_⟩
 obtain ⟨s1,hs1,hr⟩:=bind_some hr
 refine cut (fun a' k'=>Bs (Eq b0) k0 41 a' k'∧a'.get 0 = .pointer (some ⟨b0,0,none⟩)∧Wr (Eq b0) k0 (Eq b0)∧Gb.Box b0 i_ k'∧(IsRef b_) (a'.get 3) k'∧(IsV s1) (a'.get 4) k'∧True) ?_ hQ ?_
 ·intro Q4 W4 w4
  replace hr:=hs1
  clear hQ
  have hQ:=W4
  refine wp_cond_split (isBool i8) (fun hc1838=>?_) (fun hc1838=>?_)
  ·rw [if_pos hc1838] at hr
   obtain ⟨x1,hx1,hr⟩:=bind_some hr
   refine cut (fun a' k'=>Bs (Eq b0) k0 41 a' k'∧a'.get 0 = .pointer (some ⟨b0,0,none⟩)∧Wr (Eq b0) k0 (Eq b0)∧Gb.Box b0 i_ k'∧(IsRef b_) (a'.get 3) k'∧(IsV x1) (a'.get 4) k'∧True) ?_ hQ ?_
   ·intro Q5 W5 w5
    refine region (m:=7) (_::⟨some (IsAdr b0 (0)),[(0,none)]⟩::⟨some (IsAdr b0 (0)),[(10,some 1)]⟩::_::_::_::_::[]) hmix hs (by kernel_rfl) ⟨o1 [(3,none)] rfl fun _ _ h n=>ok_load rfl ty145 ((up i3 h n.1)).ptr,ob1 rfl fun _ _ h n=>ok_moveB rfl (upE i0 n.1),ob1 rfl fun _ _ h n=>ok_nilCheckA rfl n.1,o1 [(11,some 2)] rfl fun _ _ h n=>ok_fieldAddr rfl fo147_1 (at_SightInterval_1 _) (IsAdr.ptrB n.1 (c0.grow h)),o1 [(12,some 3)] rfl fun _ _ h n=>ok_load rfl ty145 n.1,o1 [(9,some 0),(13,some 4)] rfl fun _ _ h n=>ok_call rfl Tryz.call139 (sight_bound_compare_ok n.1 n.2.1 hx1),cp 5 rfl rfl,trivial⟩ W5 fun b q p=>?_
    exact tail_done (k:=q) (w5 _ _ ⟨Bs.post ⟨hg,hs,hd⟩ p,upE i0 (p.old 0 rfl),n0,Gb.Box.grow c0 p.grow,p.ke 3 rfl i3,p.ou 6 4 rfl,trivial⟩)
   rintro a k ⟨⟨hg,hs,hd⟩,i0,n0,c0,i3,i4,_⟩
   obtain rfl:=Option.some.inj hr
   exact w4 _ _ ⟨⟨hg,hs,hd⟩,i0,n0,c0,i3,i4,trivial⟩
  rw [if_neg (by rw [hc1838]; decide)] at hr
  refine wp_skip ?_
  obtain rfl:=Option.some.inj hr
  exact w4 _ _ ⟨⟨hg,hs,hd⟩,i0,n0,c0,i3,i4,trivial⟩
 clear hs1
 rintro a k ⟨⟨hg,hs,hd⟩,i0,n0,c0,i3,i4,_⟩
 refine wp_block ?_
 refine cutS (fun c l=>Bs (Eq b0) k0 41 c l∧c.get 0 = .pointer (some ⟨b0,0,none⟩)∧Wr (Eq b0) k0 (Eq b0)∧Gb.Box b0 i_ l∧IsRef b_ (c.get 3) l∧IsV s1 (c.get 4) l∧IsV (decide (s1 < 0)) (c.get 15) l∧True) ?_ ?_
 ·intro Q6 W6 w6
  refine gS 3 (_::_::_::[]) hs (by kernel_rfl) ⟨mu rfl i4,o1 [(16,some 0)] rfl fun _ _ h n=>ok_lss rfl n.1 (cI rfl),cp 1 rfl rfl,trivial⟩ W6 fun b q p=>?_
  exact tail_done (k:=q) (w6 _ _ ⟨Bs.post ⟨hg,hs,hd⟩ p,upE i0 (p.old 0 rfl),n0,Gb.Box.grow c0 p.grow,p.ke 3 rfl i3,p.ke 4 rfl i4,p.ou 2 15 rfl,trivial⟩)
 rintro a k ⟨⟨hg,hs,hd⟩,i0,n0,c0,i3,i4,i15,_⟩
 obtain ⟨s2,hs2,hr⟩:=bind_some hr
 refine cut (fun a' k'=>Bs (Eq b0) k0 41 a' k'∧a'.get 0 = .pointer (some ⟨b0,0,none⟩)∧Wr (Eq b0) k0 (Eq b0)∧Gb.Box b0 s2 k'∧True) ?_ hQ ?_
 ·intro Q7 W7 w7
  replace hr:=hs2
  clear hQ
  have hQ:=W7
  refine wp_cond_split (isBool i15) (fun hc1855=>?_) (fun hc1855=>?_)
  ·rw [if_pos hc1855] at hr
   refine cut (fun a' k'=>Bs (Eq b0) k0 41 a' k'∧a'.get 0 = .pointer (some ⟨b0,0,none⟩)∧Wr (Eq b0) k0 (Eq b0)∧Gb.Box b0 ({ { i_ with hi:=b_ } with top:=true }) k'∧True) ?_ hQ ?_
   ·intro Q8 W8 w8
    refine gS 5 (⟨some (IsAdr b0 (0)),[(0,none)]⟩::⟨some (IsAdr b0 (0)),[(0,none)]⟩::_::⟨some (IsAdr b0 (0)),[(18,some 0)]⟩::_::[]) hs (by kernel_rfl) ⟨ob1 rfl fun _ _ h n=>ok_moveB rfl (upE i0 n.1),ob1 rfl fun _ _ h n=>ok_moveB rfl (upE i0 n.1),o1 [(3,none)] rfl fun _ _ h n=>ok_load rfl ty145 ((up i3 h n.1)).ptr,ob1 rfl fun _ _ h n=>ok_nilCheckA rfl n.1,o1 [(21,some 3)] rfl fun _ _ h n=>ok_fieldAdr2 rfl fo147_1 n.1,trivial⟩ W8 fun b q p=>?_
    have hgq:=hg.then p.grow
    have hsb:=p.size.trans hs
    have hdb:=p.defers.trans hd
    have j0:=upE i0 (p.old 0 rfl)
    have z0:=Gb.Box.grow c0 p.grow
    have y0:=n0
    have j19:IsAdr b0 (0) (b.get 19) q:=p.ou 1 19 rfl
    have j20:(IsV b_) (b.get 20) q:=p.ou 2 20 rfl
    have j22:IsAdr b0 (0 + 3) (b.get 22) q:=p.ou 4 22 rfl
    have hns:=z0.nshF
    refine tail_storeB (i:=5) rfl rfl rfl rfl szf145 upd_F147_1 j22 z0 j20 fun q2 hch hz=>?_
    replace hgq:=hgq.step hch y0
    have hle:=hch.le hns
    replace j19:=Pers.pers hle j19
    replace j20:=Pers.pers hle j20
    replace j22:=Pers.pers hle j22
    replace z0:=hz
    clear hns hle hch
    obtain ⟨q,hqq⟩ : ∃ q,q = q2:=⟨q2,rfl⟩
    subst hqq
    refine tail_does (R:=IsAdr b0 (0)) (i:=6) (d:=23) rfl rfl rfl (by rw [hsb]; decide) W8 (ok_nilCheckA rfl j19) fun b2 q2 hsz hdf hoth hgr hnew=>?_
    replace z0:=z0.grow hgr
    replace j19:=Pers.pers hgr.le j19
    replace j20:=Pers.pers hgr.le j20
    replace j22:=Pers.pers hgr.le j22
    replace hgq:=hgq.then hgr
    rw [← hoth 0 (by decide)] at j0
    rw [← hoth 19 (by decide)] at j19
    rw [← hoth 20 (by decide)] at j20
    rw [← hoth 22 (by decide)] at j22
    have j23:=hnew
    replace hsb:=hsz.trans hsb
    replace hdb:=hdf.trans hdb
    clear hgr hsz hdf hoth hnew
    obtain ⟨b,hbb⟩ : ∃ b,b = b2:=⟨b2,rfl⟩
    subst hbb
    obtain ⟨q,hqq⟩ : ∃ q,q = q2:=⟨q2,rfl⟩
    subst hqq
    refine tail_does (R:=IsAdr b0 (0 + 6)) (i:=7) (d:=24) rfl rfl rfl (by rw [hsb]; decide) W8 (ok_fieldAdr2 rfl fo147_2 j23) fun b2 q2 hsz hdf hoth hgr hnew=>?_
    replace z0:=z0.grow hgr
    replace j19:=Pers.pers hgr.le j19
    replace j20:=Pers.pers hgr.le j20
    replace j22:=Pers.pers hgr.le j22
    replace j23:=Pers.pers hgr.le j23
    replace hgq:=hgq.then hgr
    rw [← hoth 0 (by decide)] at j0
    rw [← hoth 19 (by decide)] at j19
    rw [← hoth 20 (by decide)] at j20
    rw [← hoth 22 (by decide)] at j22
    rw [← hoth 23 (by decide)] at j23
    have j24:=hnew
    replace hsb:=hsz.trans hsb
    replace hdb:=hdf.trans hdb
    clear hgr hsz hdf hoth hnew
    obtain ⟨b,hbb⟩ : ∃ b,b = b2:=⟨b2,rfl⟩
    subst hbb
    obtain ⟨q,hqq⟩ : ∃ q,q = q2:=⟨q2,rfl⟩
    subst hqq
    have hns:=z0.nshF
    refine tail_storeB (i:=8) rfl rfl rfl rfl szf4 upd_F147_2 j24 z0 (isV_bool.2 rfl) fun q2 hch hz=>?_
    replace hgq:=hgq.step hch y0
    have hle:=hch.le hns
    replace j19:=Pers.pers hle j19
    replace j20:=Pers.pers hle j20
    replace j22:=Pers.pers hle j22
    replace j23:=Pers.pers hle j23
    replace j24:=Pers.pers hle j24
    replace z0:=hz
    clear hns hle hch
    obtain ⟨q,hqq⟩ : ∃ q,q = q2:=⟨q2,rfl⟩
    subst hqq
    exact tail_done (k:=q) (w8 _ _ ⟨⟨hgq,hsb,hdb⟩,j0,y0,z0,trivial⟩)
   rintro a k ⟨⟨hg,hs,hd⟩,i0,n0,c0,_⟩
   obtain rfl:=Option.some.inj hr
   exact w7 _ _ ⟨⟨hg,hs,hd⟩,i0,n0,c0,trivial⟩
  rw [if_neg (by rw [hc1855]; decide)] at hr
  refine cutS (fun c l=>Bs (Eq b0) k0 41 c l∧c.get 0 = .pointer (some ⟨b0,0,none⟩)∧Wr (Eq b0) k0 (Eq b0)∧Gb.Box b0 i_ l∧IsRef b_ (c.get 3) l∧IsV (s1 == 0) (c.get 25) l∧True) ?_ ?_
  ·intro Q9 W9 w9
   refine gS 3 (_::_::_::[]) hs (by kernel_rfl) ⟨mu rfl i4,o1 [(26,some 0)] rfl fun _ _ h n=>ok_eqI rfl n.1 (cI rfl),cp 1 rfl rfl,trivial⟩ W9 fun b q p=>?_
   exact tail_done (k:=q) (w9 _ _ ⟨Bs.post ⟨hg,hs,hd⟩ p,upE i0 (p.old 0 rfl),n0,Gb.Box.grow c0 p.grow,p.ke 3 rfl i3,p.ou 2 25 rfl,trivial⟩)
  rintro a k ⟨⟨hg,hs,hd⟩,i0,n0,c0,i3,i25,_⟩
  obtain ⟨s3,hs3,hr⟩:=bind_some hr
  refine cut (fun a' k'=>Bs (Eq b0) k0 41 a' k'∧a'.get 0 = .pointer (some ⟨b0,0,none⟩)∧Wr (Eq b0) k0 (Eq b0)∧Gb.Box b0 s3 k'∧True) ?_ hQ ?_
  ·intro Q10 W10 w10
   replace hr:=hs3
   clear hQ
   have hQ:=W10
   refine wp_cond_split (isBool i25) (fun hc1851=>?_) (fun hc1851=>?_)
   ·rw [if_pos hc1851] at hr
    refine cut (fun a' k'=>Bs (Eq b0) k0 41 a' k'∧a'.get 0 = .pointer (some ⟨b0,0,none⟩)∧Wr (Eq b0) k0 (Eq b0)∧Gb.Box b0 ({ i_ with hi:={ i_.hi with open_:=(i_.hi.open_ || b_.open_) } }) k'∧True) ?_ hQ ?_
    ·intro Q11 W11 w11
     refine gS 13 (⟨some (IsAdr b0 (0)),[(0,none)]⟩::⟨some (IsAdr b0 (0)),[(0,none)]⟩::⟨some (IsAdr b0 (0)),[(29,some 1)]⟩::_::_::_::_::_::_::_::⟨some (IsAdr b0 (0)),[(28,some 0)]⟩::_::_::[]) hs (by kernel_rfl) ⟨ob1 rfl fun _ _ h n=>ok_moveB rfl (upE i0 n.1),ob1 rfl fun _ _ h n=>ok_moveB rfl (upE i0 n.1),ob1 rfl fun _ _ h n=>ok_nilCheckA rfl n.1,o1 [(30,some 2)] rfl fun _ _ h n=>ok_fieldAddr rfl fo147_1 (at_SightInterval_1 _) (IsAdr.ptrB n.1 (c0.grow h)),o1 [(31,some 3)] rfl fun _ _ h n=>ok_fieldAddr rfl fo145_2 (at_SightBound_2 _) n.1,o1 [(32,some 4)] rfl fun _ _ h n=>ok_load rfl ty4 n.1,cm 5 rfl rfl,gF [(3,none)] rfl rfl fun hp _ _ h n=>ok_fieldAddr rfl fo145_2 (at_SightBound_2 _) ((up i3 h n.1)).ptr,gF [(35,some 7)] rfl rfl fun hp _ _ h n=>ok_load rfl ty4 (Gd.get n.1 hp),o1 [(34,some 6),(36,some 8)] rfl fun _ _ h n=>ok_pickOr rfl n.1 (cB rfl) (Gd.get n.2.1),ob1 rfl fun _ _ h n=>ok_nilCheckA rfl n.1,o1 [(38,some 10)] rfl fun _ _ h n=>ok_fieldAdr2 rfl fo147_1 n.1,o1 [(39,some 11)] rfl fun _ _ h n=>ok_fieldAdr2 rfl fo145_2 n.1,trivial⟩ W11 fun b q p=>?_
     have hgq:=hg.then p.grow
     have hsb:=p.size.trans hs
     have hdb:=p.defers.trans hd
     have j0:=upE i0 (p.old 0 rfl)
     have z0:=Gb.Box.grow c0 p.grow
     have y0:=n0
     have j37:(IsV (i_.hi.open_ || b_.open_)) (b.get 37) q:=p.ou 9 37 rfl
     have j40:IsAdr b0 (0 + 3 + 2) (b.get 40) q:=p.ou 12 40 rfl
     have hns:=z0.nshF
     refine tail_storeB (i:=13) rfl rfl rfl rfl szf4 upd_F147_1_F145_2 j40 z0 j37 fun q2 hch hz=>?_
     replace hgq:=hgq.step hch y0
     have hle:=hch.le hns
     replace j37:=Pers.pers hle j37
     replace j40:=Pers.pers hle j40
     replace z0:=hz
     clear hns hle hch
     obtain ⟨q,hqq⟩ : ∃ q,q = q2:=⟨q2,rfl⟩
     subst hqq
     exact tail_done (k:=q) (w11 _ _ ⟨⟨hgq,hsb,hdb⟩,j0,y0,z0,trivial⟩)
    rintro a k ⟨⟨hg,hs,hd⟩,i0,n0,c0,_⟩
    obtain rfl:=Option.some.inj hr
    exact w10 _ _ ⟨⟨hg,hs,hd⟩,i0,n0,c0,trivial⟩
   rw [if_neg (by rw [hc1851]; decide)] at hr
   refine wp_skip ?_
   obtain rfl:=Option.some.inj hr
   exact w10 _ _ ⟨⟨hg,hs,hd⟩,i0,n0,c0,trivial⟩
  clear hs3
  rintro a k ⟨⟨hg,hs,hd⟩,i0,n0,c0,_⟩
  obtain rfl:=Option.some.inj hr
  exact w7 _ _ ⟨⟨hg,hs,hd⟩,i0,n0,c0,trivial⟩
 clear hs2
 rintro a k ⟨⟨hg,hs,hd⟩,i0,n0,c0,_⟩
 obtain rfl:=Option.some.inj hr
 exact retT rfl hd hg c0
end Go.Proofs.YtegglcdhfnjhcaaGreat
