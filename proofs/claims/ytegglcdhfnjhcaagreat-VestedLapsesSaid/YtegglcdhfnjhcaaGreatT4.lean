/- What the functions compute that the law reaches, part 4 -/
import Derived.Test.YtegglcdhfnjhcaaGreatT3
namespace Go.Proofs.YtegglcdhfnjhcaaGreat
open Go.Gb
set_option linter.unusedVariables false
set_option linter.unusedSimpArgs false
set_option maxRecDepth 100000
def vested_States_1_L0 (self:Town → (List Right) → (List Town) → Option (List Town)) (rights_:(List Right)) (x1:(List Phase)) (s1:(List Town) × Int × Town):Option (Flow ((List Town) × Int × Town) ((List Town))):=
 if (decide (s1.2.1 < (x1.length:Int))) then
  (getI x1 s1.2.1).bind fun x2=>
  (getI rights_ 0).bind fun x3=>
  (vested_After s1.2.2 x3.Drawing.Lot x2).bind fun x4=>
  (sliceI rights_ 1 (rights_.length:Int)).bind fun x5=>
  (self x4 x5 s1.1).bind fun x6=>
  (addI s1.2.1 1).bind fun x7=>
  some (.go (x6,x7,x4))
 else
  some (.ex 0 (s1.1,s1.2.1,s1.2.2))
def vested_States_1 (self:Town → (List Right) → (List Town) → Option (List Town)) (t_:Town) (rights_:(List Right)) (out_:(List Town)):Option (List Town):=
 if ((rights_.length:Int) == 0) then
  (appI out_ ([t_])).bind fun x1=>
  some x1
 else
  (sliceI rights_ 1 (rights_.length:Int)).bind fun x2=>
  (self t_ x2 out_).bind fun x3=>
  (getI rights_ 0).bind fun x4=>
  (option_Left x4).bind fun x5=>
  (iterL (vested_States_1_L0 self rights_ x5) (x5.length + 1) (x3,0,t_)).bind fun f1=>match f1 with
   | .go _=>none
   | .ex _ s1=>
    some s1.1
   | .ret r1=>some r1
def vested_States_1_n:Nat → Town → (List Right) → (List Town) → Option (List Town)
 | 0=>fun _ _ _=>none
 | n + 1=>vested_States_1 (vested_States_1_n n)
theorem vested_States_1_ok {self:Town → (List Right) → (List Town) → Option (List Town)} (hself:WalkSpec Tryz.prog 42 how_59 self):WalkSpec Tryz.prog 42 how_59 (vested_States_1 self):=by
 intro k0 FB v0 v1 v3 bw t_ rights_ out_ r i0 i1 i2 i3 hr
 unfold vested_States_1 at hr
 refine enterK Tryz.func42 rfl Tryz.ntmps42 (show 4 ≤ 43 by decide) fun a k hk0 hs hd ha=>?_
 obtain ⟨e0,e1,e2,e3,_⟩:=ha
 replace i0:(IsV t_) (a.get 0) k:=by rw [e0,hk0]; exact i0
 replace i1:(IsV rights_) (a.get 1) k:=by rw [e1,hk0]; exact i1
 replace i2:(BoxH bw [how_59] [how_59] out_) FB (a.get 2) k:=by rw [e2,hk0]; exact i2
 replace i3:(IsRef (RawV.mk (WalkV 42 bw v3))) (a.get 3) k:=by rw [e3,hk0]; exact i3
 obtain ⟨F2,iX,n2⟩ : ∃ F,(BoxH bw [how_59] [how_59] out_) F (a.get 2) k∧Wr FB k0 F:=⟨FB,i2,fun b h=>.inl h⟩
 replace i2:=iX
 clear iX
 have q3:=e3
 have hQ:Gb.LetsOut (bodyPost Tryz.prog Tryz.f42 (RetC FB k0 (IsTurnH bw [how_59] [how_59] FB k0 r))):=letsOutC
 have hg:Chg FB k0 k:=by rw [hk0]; exact Chg.refl _ k0
 refine cutS (fun c l=>∃ F2,Bs FB k0 43 c l∧IsV rights_ (c.get 1) l∧(BoxH bw [how_59] [how_59] out_) F2 (c.get 2) l∧Wr FB k0 F2∧c.get 3 = v3∧IsRef (RawV.mk (WalkV 42 bw v3)) (c.get 3) l∧(∃ b4,c.get 4 = .pointer (some ⟨b4,0,none⟩)∧Lo k0 (Eq b4)∧Gb.Box b4 t_ l∧Apart F2 (Eq b4)∧True)) ?_ ?_
 ·intro Q1 W1 w1
  refine gS 1 (⟨some (IsBox k.w.heap.size t_),[(0,none)]⟩::[]) hs (by kernel_rfl) ⟨ob1 rfl fun _ _ h n=>ok_box _ h.size rfl (up i0 h n.1),trivial⟩ W1 fun b q p=>?_
  have hgq:=hg.then p.grow
  have hsb:=p.size.trans hs
  have hdb:=p.defers.trans hd
  have j1:=p.ke 1 rfl i1
  have j2:(BoxH bw [how_59] [how_59] out_) F2 (b.get 2) q:=p.ke 2 rfl i2
  have y2:=n2
  have j3:=p.ke 3 rfl i3
  obtain ⟨b4,j4,x4,z4⟩:(IsBox k.w.heap.size t_) (b.get 4) q:=p.ou 0 4 rfl
  replace x4:Lo k (Eq b4):=Lo.eq x4
  have y4:Lo k0 (Eq b4):=x4.chg hg
  have qb3:=(p.old 3 rfl).trans q3
  have w2_4:Apart F2 (Eq b4):=Apart.new (Rsc.lt i2) x4
  exact tail_done (k:=q) (w1 _ _ ⟨F2,⟨hgq,hsb,hdb⟩,j1,j2,y2,qb3,j3,b4,j4,y4,z4,w2_4,trivial⟩)
 rintro a k ⟨F2,⟨hg,hs,hd⟩,i1,i2,n2,q3,i3,b4,i4,n4,c4,d2_4,_⟩
 refine wp_seq ?_
 refine cutS (fun c l=>∃ F2,Bs FB k0 43 c l∧IsV rights_ (c.get 1) l∧(BoxH bw [how_59] [how_59] out_) F2 (c.get 2) l∧Wr FB k0 F2∧c.get 3 = v3∧IsRef (RawV.mk (WalkV 42 bw v3)) (c.get 3) l∧c.get 4 = .pointer (some ⟨b4,0,none⟩)∧Lo k0 (Eq b4)∧Gb.Box b4 t_ l∧IsV ((rights_.length:Int) == 0) (c.get 10) l∧Apart F2 (Eq b4)∧True) ?_ ?_
 ·intro Q2 W2 w2
  refine gS 3 (_::_::_::[]) hs (by kernel_rfl) ⟨mu rfl i1,o1 [(8,some 0)] rfl fun _ _ h n=>ok_len rfl rfl Tryz.underlying38 (IsV.rd n.1),o1 [(9,some 1)] rfl fun _ _ h n=>ok_eqI rfl n.1 (cI rfl),trivial⟩ W2 fun b q p=>?_
  exact tail_done (k:=q) (w2 _ _ ⟨F2,Bs.post ⟨hg,hs,hd⟩ p,p.ke 1 rfl i1,p.ke 2 rfl i2,n2,(p.old 3 rfl).trans q3,p.ke 3 rfl i3,upE i4 (p.old 4 rfl),n4,Gb.Box.grow c4 p.grow,p.ou 2 10 rfl,d2_4,trivial⟩)
 rintro a k ⟨F2,⟨hg,hs,hd⟩,i1,i2,n2,q3,i3,i4,n4,c4,i10,d2_4,_⟩
 refine wp_cond_split (isBool i10) (fun hc2429=>?_) (fun hc2429=>?_)
 ·rw [if_pos hc2429] at hr
  refine wp_seq ?_
  obtain ⟨x1,hx1,hr⟩:=bind_some hr
  refine cut (fun a' k'=>∃ F2,Bs FB k0 43 a' k'∧(BoxH bw [how_59] [how_59] x1) F2 (a'.get 2) k'∧Wr FB k0 F2∧True) ?_ hQ ?_
  ·intro Q3 W3 w3
   refine gS 3 (⟨some (HdAt bw how_59.off),[(2,none)]⟩::_::⟨some (IsV (α:=(List Town)) ([t_])),[(12,some 1)]⟩::[]) hs (by kernel_rfl) ⟨ob1 rfl fun _ _ h n=>ok_loadH (g:=how_59) rfl Tryz.underlying59 szf59 (upE (BoxH.ptr i2) n.1) (Rsc.grow i2 h) (.head _),o1 [(4,none)] rfl fun _ _ h n=>ok_load rfl ty37 ⟨_,(upE i4 n.1),(c4.grow h).at⟩,ob1 rfl fun _ _ h n=>ok_buildSlice rfl Tryz.underlying59 eo37 rfl (by decide) (by decide) ⟨rfl,n.1,trivial⟩,trivial⟩ W3 fun b q p=>?_
   have hgq:=hg.then p.grow
   have hsb:=p.size.trans hs
   have hdb:=p.defers.trans hd
   have j2:(BoxH bw [how_59] [how_59] out_) F2 (b.get 2) q:=p.ke 2 rfl i2
   have y2:=n2
   have j11:(HdAt bw how_59.off) (b.get 11) q:=p.ou 0 11 rfl
   have j13:(IsV (α:=(List Town)) ([t_])) (b.get 13) q:=p.ou 2 13 rfl
   obtain ⟨F2,jt,jo,jw,jf,je⟩:=BoxH.take j2 j11
   have y11:Wr FB k0 (obF (b.get 11)):=fun c h=>y2 c (je c h)
   replace y2:Wr FB k0 F2:=fun c h=>y2 c (jf c h)
   replace j2:=jt
   replace j11:IsOwn 0 37 out_ (b.get 11) q:=jo
   have w2_11:Apart F2 (obF (b.get 11)):=(jw).symm
   clear jt jo jw jf je
   have hns:=j11.nshF
   refine tail_appendS (i:=3) (d:=14) rfl rfl rfl rfl (by rw [hsb]; decide) (e:=37) Tryz.underlying59 eo37 j11 (IsV.rd j13) hx1 fun b2 q2 hsz hdf hoth hch hown hob=>?_
   have hle:=hch.le hns
   have yn:Wr FB k0 (obF (b2.get 14)):=y11.app hgq hob
   have v2:Apart F2 (obF (b2.get 14)):=Apart.app w2_11 (Rsc.lt j2) hob
   replace j2:=Rsc.keep j2 hch w2_11 hns
   replace j13:=Pers.pers hle j13
   replace hgq:=hgq.step hch y11
   rw [← hoth 2 (by decide)] at j2
   rw [← hoth 13 (by decide)] at j13
   have w2_14:=v2
   have j14:=hown
   have y14:=yn
   replace hsb:=hsz.trans hsb
   replace hdb:=hdf.trans hdb
   clear hle hch hown hob hns yn hsz hdf hoth
   obtain ⟨b,hbb⟩ : ∃ b,b = b2:=⟨b2,rfl⟩
   subst hbb
   obtain ⟨q,hqq⟩ : ∃ q,q = q2:=⟨q2,rfl⟩
   subst hqq
   refine tail_storeH (i:=4) (g:=how_59) (x':=(x1:(List Town))) rfl rfl rfl rfl szf59 (BoxH.ptr j2) j2 (by decide) ⟨_,(.head _),rfl⟩ rfl (fun _ _ _ h=>h) (fun _ h=>nomatch h) j14 (w2_14.symm) fun q2 FF hch hz hF=>?_
   have hns:=Rsc.nsh j2
   have hle:=hch.le hns
   replace hgq:=hgq.step hch y2
   replace j13:=Pers.pers hle j13
   have yn:Wr FB k0 FF:=fun c h=>(hF c h).elim (fun h=>y2 c h) (fun h=>y14 c h)
   clear hns hle hch hF
   obtain ⟨F2,hFe⟩ : ∃ F,F = FF:=⟨FF,rfl⟩
   subst hFe
   replace j2:=hz
   replace y2:=yn
   clear hz yn
   obtain ⟨q,hqq⟩ : ∃ q,q = q2:=⟨q2,rfl⟩
   subst hqq
   exact tail_done (k:=q) (w3 _ _ ⟨F2,⟨hgq,hsb,hdb⟩,j2,y2,trivial⟩)
  rintro a k ⟨F2,⟨hg,hs,hd⟩,i2,n2,_⟩
  refine wp_ret ?_
  obtain rfl:=Option.some.inj hr
  exact retW rfl hd hg i2 n2
 rw [if_neg (by rw [hc2429]; decide)] at hr
 refine wp_skip ?_
 refine wp_seq ?_
 obtain ⟨x2,hx2,hr⟩:=bind_some hr
 obtain ⟨x3,hx3,hr⟩:=bind_some hr
 refine cut (fun a' k'=>∃ F2,Bs FB k0 43 a' k'∧(IsV rights_) (a'.get 1) k'∧(BoxH bw [how_59] [how_59] x3) F2 (a'.get 2) k'∧Wr FB k0 F2∧a'.get 3 = v3∧(IsRef (RawV.mk (WalkV 42 bw v3))) (a'.get 3) k'∧a'.get 4 = .pointer (some ⟨b4,0,none⟩)∧Lo k0 (Eq b4)∧Gb.Box b4 t_ k'∧Apart F2 (Eq b4)∧True) ?_ hQ ?_
 ·intro Q4 W4 w4
  refine region (m:=4) (_::_::_::⟨some (IsV x2),[(17,some 2)]⟩::[]) hmix hs (by kernel_rfl) ⟨o1 [(3,none)] rfl fun _ _ h n=>ok_load rfl tyf103 ((up i3 h n.1)).ptr,o1 [(4,none)] rfl fun _ _ h n=>ok_load rfl ty37 ⟨_,(upE i4 n.1),(c4.grow h).at⟩,mu rfl i1,ob1 rfl fun _ _ h n=>ok_slice_lo rfl Tryz.underlying38 szf43 n.1 (cI rfl) hx2,trivial⟩ W4 fun b q p=>?_
  have hgq:=hg.then p.grow
  have hsb:=p.size.trans hs
  have hdb:=p.defers.trans hd
  have j1:=p.ke 1 rfl i1
  have j2:(BoxH bw [how_59] [how_59] out_) F2 (b.get 2) q:=p.ke 2 rfl i2
  have y2:=n2
  have j3:=p.ke 3 rfl i3
  have j4:=upE i4 (p.old 4 rfl)
  have z4:=Gb.Box.grow c4 p.grow
  have y4:=n4
  have j15:(IsV (RawV.mk (WalkV 42 bw v3))) (b.get 15) q:=p.ou 0 15 rfl
  have j16:(IsV t_) (b.get 16) q:=p.ou 1 16 rfl
  have j18:(IsV x2) (b.get 18) q:=p.ou 3 18 rfl
  have qb3:=(p.old 3 rfl).trans q3
  have w2_4:Apart F2 (Eq b4):=by exact d2_4
  have hns:=Rsc.nsh j2
  have ex:=BoxH.ptr j2
  refine tail_callV (F:=F2) (i:=4) (d:=19) rfl rfl rfl rfl (by rw [hsb]; decide) (raw_val j15) Tryz.call42 W4 (hself _ _ _ _ v3 _ _ _ _ _ j16 j18 (BoxH.at j2) (by have h:=j3; rw [qb3] at h; exact h) hx3) fun b2 q2 hsz hdf hoth hch hR=>?_
  have hle:=hch.le hns
  obtain ⟨FF,jn,yf⟩:=hR
  rw [← ex] at jn
  have yn:Wr FB k0 FF:=fun c h=>(yf c h).elim (fun h=>y2 c h) (fun h=>.inr (Nat.le_trans hgq.size h))
  have wn4:Apart FF (Eq b4):=fun c h hu=>(yf c h).elim (fun h=>w2_4 c h hu) (fun h=>Nat.lt_irrefl _ (Nat.lt_of_lt_of_le (z4.ltF c hu) h))
  replace j1:=Pers.pers hle j1
  replace j3:=Pers.pers hle j3
  replace z4:=z4.keep hch ((w2_4.symm) _ rfl) hns
  replace j15:=Pers.pers hle j15
  replace j16:=Pers.pers hle j16
  replace j18:=Pers.pers hle j18
  replace hgq:=hgq.step hch y2
  obtain ⟨F2,hFe⟩ : ∃ F,F = FF:=⟨FF,rfl⟩
  subst hFe
  replace j2:=jn
  replace y2:=yn
  have w2_4:Apart F2 (Eq b4):=wn4
  clear wn4
  replace qb3:=(hoth 3 (by decide)).trans qb3
  rw [← hoth 1 (by decide)] at j1
  rw [← hoth 2 (by decide)] at j2
  rw [← hoth 3 (by decide)] at j3
  rw [← hoth 4 (by decide)] at j4
  rw [← hoth 15 (by decide)] at j15
  rw [← hoth 16 (by decide)] at j16
  rw [← hoth 18 (by decide)] at j18
  replace hsb:=hsz.trans hsb
  replace hdb:=hdf.trans hdb
  clear hle hch hns hsz hdf hoth ex yf yn jn
  obtain ⟨b,hbb⟩ : ∃ b,b = b2:=⟨b2,rfl⟩
  subst hbb
  obtain ⟨q,hqq⟩ : ∃ q,q = q2:=⟨q2,rfl⟩
  subst hqq
  exact tail_done (k:=q) (w4 _ _ ⟨F2,⟨hgq,hsb,hdb⟩,j1,j2,y2,qb3,j3,j4,y4,z4,w2_4,trivial⟩)
 rintro a k ⟨F2,⟨hg,hs,hd⟩,i1,i2,n2,q3,i3,i4,n4,c4,d2_4,_⟩
 refine wp_seq ?_
 obtain ⟨x5,hx5,hr⟩:=bind_some hr
 obtain ⟨x6,hx6,hr⟩:=bind_some hr
 refine cut (fun a' k'=>∃ F2,Bs FB k0 43 a' k'∧(IsV rights_) (a'.get 1) k'∧(BoxH bw [how_59] [how_59] x3) F2 (a'.get 2) k'∧Wr FB k0 F2∧a'.get 3 = v3∧(IsRef (RawV.mk (WalkV 42 bw v3))) (a'.get 3) k'∧a'.get 4 = .pointer (some ⟨b4,0,none⟩)∧Lo k0 (Eq b4)∧Gb.Box b4 t_ k'∧(IsV x6) (a'.get 23) k'∧(IsL x6) (a'.get 24) k'∧(IsI 0) (a'.get 25) k'∧Apart F2 (Eq b4)∧True) ?_ hQ ?_
 ·intro Q5 W5 w5
  refine gS 6 (_::_::_::_::_::⟨some (IsI 0),[]⟩::[]) hs (by kernel_rfl) ⟨mu rfl i1,o1 [(20,some 0)] rfl fun _ _ h n=>ok_indexAddr rfl Tryz.underlying38 ty43 (IsV.rd n.1) (cI rfl) hx5,o1 [(21,some 1)] rfl fun _ _ h n=>ok_load rfl ty43 n.1,o1 [(22,some 2)] rfl fun _ _ h n=>ok_call rfl Tryz.call27 (option_Left_ok n.1 hx6),o1 [(23,some 3)] rfl fun _ _ h n=>ok_len rfl rfl Tryz.underlying39 (IsV.rd n.1),ob1 rfl fun _ _ h n=>ok_move rfl (cI rfl),trivial⟩ W5 fun b q p=>?_
  exact tail_done (k:=q) (w5 _ _ ⟨F2,Bs.post ⟨hg,hs,hd⟩ p,p.ke 1 rfl i1,p.ke 2 rfl i2,n2,(p.old 3 rfl).trans q3,p.ke 3 rfl i3,upE i4 (p.old 4 rfl),n4,Gb.Box.grow c4 p.grow,p.ou 3 23 rfl,p.ou 4 24 rfl,p.ou 5 25 rfl,d2_4,trivial⟩)
 rintro a k ⟨F2,⟨hg,hs,hd⟩,i1,i2,n2,q3,i3,i4,n4,c4,i23,i24,i25,d2_4,_⟩
 refine wp_block ?_
 obtain ⟨f1,hf1,hr⟩:=bind_some hr
 refine cutFe f1 (fun s' c l=>∃ F2,Bs FB k0 43 c l∧IsV rights_ (c.get 1) l∧(BoxH bw [how_59] [how_59] s'.1) F2 (c.get 2) l∧Wr FB k0 F2∧c.get 3 = v3∧IsRef (RawV.mk (WalkV 42 bw v3)) (c.get 3) l∧c.get 4 = .pointer (some ⟨b4,0,none⟩)∧Lo k0 (Eq b4)∧Gb.Box b4 s'.2.2 l∧IsV x6 (c.get 23) l∧IsL x6 (c.get 24) l∧IsV s'.2.1 (c.get 25) l∧Apart F2 (Eq b4)∧True) (fun i' s' c l=>(i' = 0∧∃ F2,Bs FB k0 43 c l∧(BoxH bw [how_59] [how_59] s'.1) F2 (c.get 2) l∧Wr FB k0 F2∧True)) (fun r' c l=>bodyPost Tryz.prog Tryz.f42 (RetC FB k0 (IsTurnH bw [how_59] [how_59] FB k0 r')) .ret c l.w) ?_ hQ ?_ ?_ ?_
 ·intro Q6 W6 hgo hex hret
  refine sim_loop ?_ _ _ _ _ _ hf1 ⟨F2,⟨hg,hs,hd⟩,i1,i2,n2,q3,i3,i4,n4,c4,i23,i24,i25,d2_4,trivial⟩ Q6 W6 hgo hex hret
  clear hr hf1 hgo hex hret W6 hQ hg hs hd F2 c4 d2_4 i1 i2 i23 i24 i25 i3 i4 n2 n4 q3
  intro s1 fl_ a k hr hS Q hQ hgo2402 hex2403 hret2404
  obtain ⟨F2,⟨hg,hs,hd⟩,i1,i2,n2,q3,i3,i4,n4,c4,i23,i24,i25,d2_4,_⟩:=hS
  unfold vested_States_1_L0 at hr
  refine cutS (fun c l=>∃ F2,Bs FB k0 43 c l∧IsV rights_ (c.get 1) l∧(BoxH bw [how_59] [how_59] s1.1) F2 (c.get 2) l∧Wr FB k0 F2∧c.get 3 = v3∧IsRef (RawV.mk (WalkV 42 bw v3)) (c.get 3) l∧c.get 4 = .pointer (some ⟨b4,0,none⟩)∧Lo k0 (Eq b4)∧Gb.Box b4 s1.2.2 l∧IsV x6 (c.get 23) l∧IsL x6 (c.get 24) l∧IsV s1.2.1 (c.get 25) l∧(IsV (decide (s1.2.1 < (x6.length:Int)))) (c.get 26) l∧Apart F2 (Eq b4)∧True) ?_ ?_
  ·intro Q7 W7 w6
   refine gS 1 (_::[]) hs (by kernel_rfl) ⟨o1 [(25,none),(24,none)] rfl fun _ _ h n=>ok_lss rfl (up i25 h n.1) (up i24 h n.2.1),trivial⟩ W7 fun b q p=>?_
   exact tail_done (k:=q) (w6 _ _ ⟨F2,Bs.post ⟨hg,hs,hd⟩ p,p.ke 1 rfl i1,p.ke 2 rfl i2,n2,(p.old 3 rfl).trans q3,p.ke 3 rfl i3,upE i4 (p.old 4 rfl),n4,Gb.Box.grow c4 p.grow,p.ke 23 rfl i23,p.ke 24 rfl i24,p.ke 25 rfl i25,p.ou 0 26 rfl,d2_4,trivial⟩)
  rintro a k ⟨F2,⟨hg,hs,hd⟩,i1,i2,n2,q3,i3,i4,n4,c4,i23,i24,i25,i26,d2_4,_⟩
  refine wp_seq ?_
  refine wp_cond_split (isBool i26) (fun hc2418=>?_) (fun hc2418=>?_)
  ·rw [if_pos hc2418] at hr
   refine wp_skip ?_
   refine wp_seq ?_
   refine wp_block ?_
   refine wp_seq ?_
   obtain ⟨x8,hx8,hr⟩:=bind_some hr
   refine cut (fun a' k'=>∃ F2,Bs FB k0 43 a' k'∧(IsV rights_) (a'.get 1) k'∧(BoxH bw [how_59] [how_59] s1.1) F2 (a'.get 2) k'∧Wr FB k0 F2∧a'.get 3 = v3∧(IsRef (RawV.mk (WalkV 42 bw v3))) (a'.get 3) k'∧a'.get 4 = .pointer (some ⟨b4,0,none⟩)∧Lo k0 (Eq b4)∧Gb.Box b4 s1.2.2 k'∧(IsRef x8) (a'.get 7) k'∧(IsV x6) (a'.get 23) k'∧(IsL x6) (a'.get 24) k'∧(IsV s1.2.1) (a'.get 25) k'∧Apart F2 (Eq b4)∧True) ?_ hQ ?_
   ·intro Q8 W8 w7
    refine gS 3 (_::_::⟨some (IsBox k.w.heap.size (⟨[],[]⟩:Phase)),[]⟩::[]) hs (by kernel_rfl) ⟨o1 [(23,none),(25,none)] rfl fun _ _ h n=>ok_indexAddr rfl Tryz.underlying39 ty46 (IsV.rd (up i23 h n.1)) (up i25 h n.2.1) hx8,o1 [(27,some 0)] rfl fun _ _ h n=>ok_load rfl ty46 n.1,ob1 rfl fun _ _ h n=>ok_alloc _ h.size rfl z46,trivial⟩ W8 fun b q p=>?_
    have hgq:=hg.then p.grow
    have hsb:=p.size.trans hs
    have hdb:=p.defers.trans hd
    have j1:=p.ke 1 rfl i1
    have j2:(BoxH bw [how_59] [how_59] s1.1) F2 (b.get 2) q:=p.ke 2 rfl i2
    have y2:=n2
    have j3:=p.ke 3 rfl i3
    have j4:=upE i4 (p.old 4 rfl)
    have z4:=Gb.Box.grow c4 p.grow
    have y4:=n4
    obtain ⟨b7,j7,x7,z7⟩:(IsBox k.w.heap.size (⟨[],[]⟩:Phase)) (b.get 7) q:=p.ou 2 7 rfl
    replace x7:Lo k (Eq b7):=Lo.eq x7
    have y7:Lo k0 (Eq b7):=x7.chg hg
    have j23:=p.ke 23 rfl i23
    have j24:=p.ke 24 rfl i24
    have j25:=p.ke 25 rfl i25
    have j28:(IsV x8) (b.get 28) q:=p.ou 1 28 rfl
    have qb3:=(p.old 3 rfl).trans q3
    have w2_4:Apart F2 (Eq b4):=by exact d2_4
    have w2_7:Apart F2 (Eq b7):=Apart.new (Rsc.lt i2) x7
    have w4_7:Apart (Eq b4) (Eq b7):=Apart.new c4.ltF x7
    have hns:=z7.nshF
    refine tail_storeB (i:=3) rfl rfl rfl rfl szf46 (Upd.self (α:=Phase)) j7 z7 j28 fun q2 hch hz=>?_
    replace hgq:=hgq.step hch y7.wr
    have hle:=hch.le hns
    replace j1:=Pers.pers hle j1
    replace j2:=Rsc.keep j2 hch w2_7 hns
    replace j3:=Pers.pers hle j3
    replace z4:=z4.keep hch (w4_7 _ rfl) hns
    replace j23:=Pers.pers hle j23
    replace j24:=Pers.pers hle j24
    replace j25:=Pers.pers hle j25
    replace j28:=Pers.pers hle j28
    replace z7:=hz
    clear hns hle hch
    obtain ⟨q,hqq⟩ : ∃ q,q = q2:=⟨q2,rfl⟩
    subst hqq
    obtain ⟨q2,hsh,jn⟩:=z7.give
    replace j1:=Pers.pers hsh.le j1
    replace j2:=Rsc.handed j2 hsh w2_7
    replace j3:=Pers.pers hsh.le j3
    replace z4:=z4.handed hsh (w4_7 _ rfl)
    replace j23:=Pers.pers hsh.le j23
    replace j24:=Pers.pers hsh.le j24
    replace j25:=Pers.pers hsh.le j25
    rw [← j7] at jn
    replace j7:=jn
    replace hgq:=hgq.hand hsh y7.wr
    rw [← hsh.w]
    clear hsh
    obtain ⟨q,hqq⟩ : ∃ q,q = q2:=⟨q2,rfl⟩
    subst hqq
    exact tail_done (k:=q) (w7 _ _ ⟨F2,⟨hgq,hsb,hdb⟩,j1,j2,y2,qb3,j3,j4,y4,z4,j7,j23,j24,j25,w2_4,trivial⟩)
   rintro a k ⟨F2,⟨hg,hs,hd⟩,i1,i2,n2,q3,i3,i4,n4,c4,i7,i23,i24,i25,d2_4,_⟩
   refine wp_seq ?_
   obtain ⟨x9,hx9,hr⟩:=bind_some hr
   obtain ⟨x10,hx10,hr⟩:=bind_some hr
   refine cut (fun a' k'=>∃ F2,Bs FB k0 43 a' k'∧(IsV rights_) (a'.get 1) k'∧(BoxH bw [how_59] [how_59] s1.1) F2 (a'.get 2) k'∧Wr FB k0 F2∧a'.get 3 = v3∧(IsRef (RawV.mk (WalkV 42 bw v3))) (a'.get 3) k'∧a'.get 4 = .pointer (some ⟨b4,0,none⟩)∧Lo k0 (Eq b4)∧Gb.Box b4 x10 k'∧(IsV x6) (a'.get 23) k'∧(IsL x6) (a'.get 24) k'∧(IsV s1.2.1) (a'.get 25) k'∧Apart F2 (Eq b4)∧True) ?_ hQ ?_
   ·intro Q9 W9 w8
    refine region (m:=8) (_::_::_::_::_::_::_::_::[]) hmix hs (by kernel_rfl) ⟨o1 [(4,none)] rfl fun _ _ h n=>ok_load rfl ty37 ⟨_,(upE i4 n.1),(c4.grow h).at⟩,mu rfl i1,o1 [(30,some 1)] rfl fun _ _ h n=>ok_indexAddr rfl Tryz.underlying38 ty43 (IsV.rd n.1) (cI rfl) hx9,o1 [(31,some 2)] rfl fun _ _ h n=>ok_fieldAddr rfl fo43_2 (at_Right_2 _) n.1,o1 [(32,some 3)] rfl fun _ _ h n=>ok_fieldAddr rfl fo41_0 (at_Drawing_0 _) n.1,o1 [(33,some 4)] rfl fun _ _ h n=>ok_load rfl ty3 n.1,o1 [(7,none)] rfl fun _ _ h n=>ok_load rfl ty46 ((up i7 h n.1)).ptr,o1 [(29,some 0),(34,some 5),(35,some 6)] rfl fun _ _ h n=>ok_call rfl Tryz.call15 (vested_After_ok n.1 n.2.1 n.2.2.1 hx10),trivial⟩ W9 fun b q p=>?_
    have hgq:=hg.then p.grow
    have hsb:=p.size.trans hs
    have hdb:=p.defers.trans hd
    have j1:=p.ke 1 rfl i1
    have j2:(BoxH bw [how_59] [how_59] s1.1) F2 (b.get 2) q:=p.ke 2 rfl i2
    have y2:=n2
    have j3:=p.ke 3 rfl i3
    have j4:=upE i4 (p.old 4 rfl)
    have z4:=Gb.Box.grow c4 p.grow
    have y4:=n4
    have j23:=p.ke 23 rfl i23
    have j24:=p.ke 24 rfl i24
    have j25:=p.ke 25 rfl i25
    have j36:(IsV x10) (b.get 36) q:=p.ou 7 36 rfl
    have qb3:=(p.old 3 rfl).trans q3
    have w2_4:Apart F2 (Eq b4):=by exact d2_4
    have hns:=z4.nshF
    refine tail_storeB (i:=8) rfl rfl rfl rfl szf37 (Upd.self (α:=Town)) j4 z4 j36 fun q2 hch hz=>?_
    replace hgq:=hgq.step hch y4.wr
    have hle:=hch.le hns
    replace j1:=Pers.pers hle j1
    replace j2:=Rsc.keep j2 hch w2_4 hns
    replace j3:=Pers.pers hle j3
    replace j23:=Pers.pers hle j23
    replace j24:=Pers.pers hle j24
    replace j25:=Pers.pers hle j25
    replace j36:=Pers.pers hle j36
    replace z4:=hz
    clear hns hle hch
    obtain ⟨q,hqq⟩ : ∃ q,q = q2:=⟨q2,rfl⟩
    subst hqq
    exact tail_done (k:=q) (w8 _ _ ⟨F2,⟨hgq,hsb,hdb⟩,j1,j2,y2,qb3,j3,j4,y4,z4,j23,j24,j25,w2_4,trivial⟩)
   rintro a k ⟨F2,⟨hg,hs,hd⟩,i1,i2,n2,q3,i3,i4,n4,c4,i23,i24,i25,d2_4,_⟩
   obtain ⟨x11,hx11,hr⟩:=bind_some hr
   obtain ⟨x12,hx12,hr⟩:=bind_some hr
   refine cut (fun a' k'=>∃ F2,Bs FB k0 43 a' k'∧(IsV rights_) (a'.get 1) k'∧(BoxH bw [how_59] [how_59] x12) F2 (a'.get 2) k'∧Wr FB k0 F2∧a'.get 3 = v3∧(IsRef (RawV.mk (WalkV 42 bw v3))) (a'.get 3) k'∧a'.get 4 = .pointer (some ⟨b4,0,none⟩)∧Lo k0 (Eq b4)∧Gb.Box b4 x10 k'∧(IsV x6) (a'.get 23) k'∧(IsL x6) (a'.get 24) k'∧(IsV s1.2.1) (a'.get 25) k'∧Apart F2 (Eq b4)∧True) ?_ hQ ?_
   ·intro Q10 W10 w9
    refine region (m:=4) (_::_::_::⟨some (IsV x11),[(39,some 2)]⟩::[]) hmix hs (by kernel_rfl) ⟨o1 [(3,none)] rfl fun _ _ h n=>ok_load rfl tyf103 ((up i3 h n.1)).ptr,o1 [(4,none)] rfl fun _ _ h n=>ok_load rfl ty37 ⟨_,(upE i4 n.1),(c4.grow h).at⟩,mu rfl i1,ob1 rfl fun _ _ h n=>ok_slice_lo rfl Tryz.underlying38 szf43 n.1 (cI rfl) hx11,trivial⟩ W10 fun b q p=>?_
    have hgq:=hg.then p.grow
    have hsb:=p.size.trans hs
    have hdb:=p.defers.trans hd
    have j1:=p.ke 1 rfl i1
    have j2:(BoxH bw [how_59] [how_59] s1.1) F2 (b.get 2) q:=p.ke 2 rfl i2
    have y2:=n2
    have j3:=p.ke 3 rfl i3
    have j4:=upE i4 (p.old 4 rfl)
    have z4:=Gb.Box.grow c4 p.grow
    have y4:=n4
    have j23:=p.ke 23 rfl i23
    have j24:=p.ke 24 rfl i24
    have j25:=p.ke 25 rfl i25
    have j37:(IsV (RawV.mk (WalkV 42 bw v3))) (b.get 37) q:=p.ou 0 37 rfl
    have j38:(IsV x10) (b.get 38) q:=p.ou 1 38 rfl
    have j40:(IsV x11) (b.get 40) q:=p.ou 3 40 rfl
    have qb3:=(p.old 3 rfl).trans q3
    have w2_4:Apart F2 (Eq b4):=by exact d2_4
    have hns:=Rsc.nsh j2
    have ex:=BoxH.ptr j2
    refine tail_callV (F:=F2) (i:=4) (d:=41) rfl rfl rfl rfl (by rw [hsb]; decide) (raw_val j37) Tryz.call42 W10 (hself _ _ _ _ v3 _ _ _ _ _ j38 j40 (BoxH.at j2) (by have h:=j3; rw [qb3] at h; exact h) hx12) fun b2 q2 hsz hdf hoth hch hR=>?_
    have hle:=hch.le hns
    obtain ⟨FF,jn,yf⟩:=hR
    rw [← ex] at jn
    have yn:Wr FB k0 FF:=fun c h=>(yf c h).elim (fun h=>y2 c h) (fun h=>.inr (Nat.le_trans hgq.size h))
    have wn4:Apart FF (Eq b4):=fun c h hu=>(yf c h).elim (fun h=>w2_4 c h hu) (fun h=>Nat.lt_irrefl _ (Nat.lt_of_lt_of_le (z4.ltF c hu) h))
    replace j1:=Pers.pers hle j1
    replace j3:=Pers.pers hle j3
    replace z4:=z4.keep hch ((w2_4.symm) _ rfl) hns
    replace j23:=Pers.pers hle j23
    replace j24:=Pers.pers hle j24
    replace j25:=Pers.pers hle j25
    replace j37:=Pers.pers hle j37
    replace j38:=Pers.pers hle j38
    replace j40:=Pers.pers hle j40
    replace hgq:=hgq.step hch y2
    obtain ⟨F2,hFe⟩ : ∃ F,F = FF:=⟨FF,rfl⟩
    subst hFe
    replace j2:=jn
    replace y2:=yn
    have w2_4:Apart F2 (Eq b4):=wn4
    clear wn4
    replace qb3:=(hoth 3 (by decide)).trans qb3
    rw [← hoth 1 (by decide)] at j1
    rw [← hoth 2 (by decide)] at j2
    rw [← hoth 3 (by decide)] at j3
    rw [← hoth 4 (by decide)] at j4
    rw [← hoth 23 (by decide)] at j23
    rw [← hoth 24 (by decide)] at j24
    rw [← hoth 25 (by decide)] at j25
    rw [← hoth 37 (by decide)] at j37
    rw [← hoth 38 (by decide)] at j38
    rw [← hoth 40 (by decide)] at j40
    replace hsb:=hsz.trans hsb
    replace hdb:=hdf.trans hdb
    clear hle hch hns hsz hdf hoth ex yf yn jn
    obtain ⟨b,hbb⟩ : ∃ b,b = b2:=⟨b2,rfl⟩
    subst hbb
    obtain ⟨q,hqq⟩ : ∃ q,q = q2:=⟨q2,rfl⟩
    subst hqq
    exact tail_done (k:=q) (w9 _ _ ⟨F2,⟨hgq,hsb,hdb⟩,j1,j2,y2,qb3,j3,j4,y4,z4,j23,j24,j25,w2_4,trivial⟩)
   rintro a k ⟨F2,⟨hg,hs,hd⟩,i1,i2,n2,q3,i3,i4,n4,c4,i23,i24,i25,d2_4,_⟩
   obtain ⟨x13,hx13,hr⟩:=bind_some hr
   refine cut (fun a' k'=>∃ F2,Bs FB k0 43 a' k'∧(IsV rights_) (a'.get 1) k'∧(BoxH bw [how_59] [how_59] x12) F2 (a'.get 2) k'∧Wr FB k0 F2∧a'.get 3 = v3∧(IsRef (RawV.mk (WalkV 42 bw v3))) (a'.get 3) k'∧a'.get 4 = .pointer (some ⟨b4,0,none⟩)∧Lo k0 (Eq b4)∧Gb.Box b4 x10 k'∧(IsV x6) (a'.get 23) k'∧(IsL x6) (a'.get 24) k'∧(IsV x13) (a'.get 25) k'∧Apart F2 (Eq b4)∧True) ?_ hQ ?_
   ·intro Q11 W11 w10
    refine gS 2 (_::_::[]) hs (by kernel_rfl) ⟨o1 [(25,none)] rfl fun _ _ h n=>ok_add rfl (up i25 h n.1) (cI rfl) hx13,cm 0 rfl rfl,trivial⟩ W11 fun b q p=>?_
    exact tail_done (k:=q) (w10 _ _ ⟨F2,Bs.post ⟨hg,hs,hd⟩ p,p.ke 1 rfl i1,p.ke 2 rfl i2,n2,(p.old 3 rfl).trans q3,p.ke 3 rfl i3,upE i4 (p.old 4 rfl),n4,Gb.Box.grow c4 p.grow,p.ke 23 rfl i23,p.ke 24 rfl i24,p.ou 1 25 rfl,d2_4,trivial⟩)
   rintro a k ⟨F2,⟨hg,hs,hd⟩,i1,i2,n2,q3,i3,i4,n4,c4,i23,i24,i25,d2_4,_⟩
   exact hgo2402 _ _ _ (Option.some.inj hr).symm ⟨F2,⟨hg,hs,hd⟩,i1,i2,n2,q3,i3,i4,n4,c4,i23,i24,i25,d2_4,trivial⟩
  rw [if_neg (by rw [hc2418]; decide)] at hr
  refine wp_exit ?_
  exact hex2403 _ _ _ _ (Option.some.inj hr).symm ⟨rfl,F2,⟨hg,hs,hd⟩,i2,n2,trivial⟩
 ·rintro r1 a k rfl hR
  dsimp only at hr
  obtain rfl:=Option.some.inj hr
  exact hR
 ·rintro _ _ _ rfl _
  simp at hr
 clear hf1
 rintro _ s2 a k rfl ⟨rfl,F2,⟨hg,hs,hd⟩,i2,n2,_⟩
 dsimp only at hr
 obtain rfl:=Option.some.inj hr
 exact retW rfl hd hg i2 n2
theorem vested_States_1_n_ok : ∀ n,WalkSpec Tryz.prog 42 how_59 (vested_States_1_n n)
 | 0=>by intro _ _ _ _ _ _ _ _ _ _ _ _ _ _ hr; exact nomatch hr
 | n + 1=>vested_States_1_ok (vested_States_1_n_ok n)
def vested_States_L0 (rights_:(List Right)) (s1:Int × Int):Option (Flow (Int × Int) ((List Town) × Int)):=
 if (decide (s1.2 < (rights_.length:Int))) then
  (getI rights_ s1.2).bind fun x1=>
  (option_Left x1).bind fun x2=>
  (addI (x2.length:Int) 1).bind fun x3=>
  (mulI s1.1 x3).bind fun x4=>
  if (decide (1024 < x4)) then
   some (.ret (([]:List Town),6))
  else
   (addI s1.2 1).bind fun x5=>
   some (.go (x4,x5))
 else
  some (.ex 0 (s1.1,s1.2))
def vested_States (t_:Town) (rights_:(List Right)):Option ((List Town) × Int):=
 (iterL (vested_States_L0 rights_) (rights_.length + 1) (1,0)).bind fun f1=>match f1 with
  | .go _=>none
  | .ex _ _=>
   (slices_Clone_Placed t_.Built).bind fun x1=>
   (slices_Clone_Entry t_.Base).bind fun x2=>
   (vested_States_1_n (rights_.length + 1) ({ { t_ with Built:=x1 } with Base:=x2 }) rights_ ([]:(List Town))).bind fun x3=>
   some (x3,0)
  | .ret r1=>some r1
theorem vested_States_ok {k0:K} {v0 v1:Value} {t_:Town} {rights_:(List Right)} {r:(List Town) × Int} (i0:(IsV t_) v0 k0) (i1:(IsV rights_) v1 k0) (hr:vested_States t_ rights_ = some r) :
  Calls Tryz.prog 23 #[v0,v1] k0.w (Ret k0 (IsTup2 (IsV r.1) (IsV r.2))):=by
 unfold vested_States at hr
 refine Ret.ofC ?_
 refine enterK Tryz.func23 rfl Tryz.ntmps23 (show 2 ≤ 40 by decide) fun a k hk0 hs hd ha=>?_
 obtain ⟨e0,e1,_⟩:=ha
 replace i0:(IsV t_) (a.get 0) k:=by rw [e0,hk0]; exact i0
 replace i1:(IsV rights_) (a.get 1) k:=by rw [e1,hk0]; exact i1
 have hQ:Gb.LetsOut (bodyPost Tryz.prog Tryz.f23 (RetC noF k0 (IsTup2 (IsV r.1) (IsV r.2)))):=letsOutC
 have hg:Chg noF k0 k:=by rw [hk0]; exact Chg.refl _ k0
 refine cutS (fun c l=>Bs noF k0 40 c l∧IsV rights_ (c.get 1) l∧(∃ b2,c.get 2 = .pointer (some ⟨b2,0,none⟩)∧Lo k0 (Eq b2)∧Gb.Box b2 t_ l∧True)) ?_ ?_
 ·intro Q1 W1 w1
  refine gS 3 (⟨some (IsBox k.w.heap.size t_),[(0,none)]⟩::⟨some IsE0,[]⟩::⟨some (IsI 0),[]⟩::[]) hs (by kernel_rfl) ⟨ob1 rfl fun _ _ h n=>ok_box _ h.size rfl (up i0 h n.1),ob1 rfl fun b q h n=>ok_assign rfl isE0_nil,aI rfl rfl,trivial⟩ W1 fun b q p=>?_
  have hgq:=hg.then p.grow
  have hsb:=p.size.trans hs
  have hdb:=p.defers.trans hd
  have j1:=p.ke 1 rfl i1
  obtain ⟨b2,j2,x2,z2⟩:(IsBox k.w.heap.size t_) (b.get 2) q:=p.ou 0 2 rfl
  replace x2:Lo k (Eq b2):=Lo.eq x2
  have y2:Lo k0 (Eq b2):=x2.chg hg
  exact tail_done (k:=q) (w1 _ _ ⟨⟨hgq,hsb,hdb⟩,j1,b2,j2,y2,z2,trivial⟩)
 rintro a k ⟨⟨hg,hs,hd⟩,i1,b2,i2,n2,c2,_⟩
 refine cutS (fun c l=>Bs noF k0 40 c l∧IsV rights_ (c.get 1) l∧c.get 2 = .pointer (some ⟨b2,0,none⟩)∧Lo k0 (Eq b2)∧Gb.Box b2 t_ l∧IsI 1 (c.get 6) l∧True) ?_ ?_
 ·intro Q2 W2 w2
  refine gS 1 (⟨some (IsI 1),[]⟩::[]) hs (by kernel_rfl) ⟨aI rfl rfl,trivial⟩ W2 fun b q p=>?_
  exact tail_done (k:=q) (w2 _ _ ⟨Bs.post ⟨hg,hs,hd⟩ p,p.ke 1 rfl i1,upE i2 (p.old 2 rfl),n2,Gb.Box.grow c2 p.grow,p.ou 0 6 rfl,trivial⟩)
 rintro a k ⟨⟨hg,hs,hd⟩,i1,i2,n2,c2,i6,_⟩
 refine wp_seq ?_
 refine cutS (fun c l=>Bs noF k0 40 c l∧IsV rights_ (c.get 1) l∧c.get 2 = .pointer (some ⟨b2,0,none⟩)∧Lo k0 (Eq b2)∧Gb.Box b2 t_ l∧IsI 1 (c.get 6) l∧IsV rights_ (c.get 11) l∧IsL rights_ (c.get 12) l∧IsI 0 (c.get 13) l∧True) ?_ ?_
 ·intro Q3 W3 w3
  refine gS 3 (_::_::⟨some (IsI 0),[]⟩::[]) hs (by kernel_rfl) ⟨mu rfl i1,o1 [(11,some 0)] rfl fun _ _ h n=>ok_len rfl rfl Tryz.underlying38 (IsV.rd n.1),ob1 rfl fun _ _ h n=>ok_move rfl (cI rfl),trivial⟩ W3 fun b q p=>?_
  exact tail_done (k:=q) (w3 _ _ ⟨Bs.post ⟨hg,hs,hd⟩ p,p.ke 1 rfl i1,upE i2 (p.old 2 rfl),n2,Gb.Box.grow c2 p.grow,p.ke 6 rfl i6,p.ou 0 11 rfl,p.ou 1 12 rfl,p.ou 2 13 rfl,trivial⟩)
 rintro a k ⟨⟨hg,hs,hd⟩,i1,i2,n2,c2,i6,i11,i12,i13,_⟩
 refine wp_block ?_
 obtain ⟨f1,hf1,hr⟩:=bind_some hr
 refine cutFe f1 (fun s' c l=>Bs noF k0 40 c l∧IsV rights_ (c.get 1) l∧c.get 2 = .pointer (some ⟨b2,0,none⟩)∧Lo k0 (Eq b2)∧Gb.Box b2 t_ l∧IsV s'.1 (c.get 6) l∧IsV rights_ (c.get 11) l∧IsL rights_ (c.get 12) l∧IsV s'.2 (c.get 13) l∧True) (fun i' s' c l=>(i' = 0∧Bs noF k0 40 c l∧IsV rights_ (c.get 1) l∧c.get 2 = .pointer (some ⟨b2,0,none⟩)∧Lo k0 (Eq b2)∧Gb.Box b2 t_ l∧True)) (fun r' c l=>bodyPost Tryz.prog Tryz.f23 (RetC noF k0 (IsTup2 (IsV r'.1) (IsV r'.2))) .ret c l.w) ?_ hQ ?_ ?_ ?_
 ·intro Q4 W4 hgo hex hret
  refine sim_loop ?_ _ _ _ _ _ hf1 ⟨⟨hg,hs,hd⟩,i1,i2,n2,c2,i6,i11,i12,i13,trivial⟩ Q4 W4 hgo hex hret
  clear hr hf1 hgo hex hret W4 hQ hg hs hd c2 i1 i11 i12 i13 i2 i6 n2
  intro s1 fl_ a k hr hS Q hQ hgo2366 hex2367 hret2368
  obtain ⟨⟨hg,hs,hd⟩,i1,i2,n2,c2,i6,i11,i12,i13,_⟩:=hS
  unfold vested_States_L0 at hr
  refine cutS (fun c l=>Bs noF k0 40 c l∧IsV rights_ (c.get 1) l∧c.get 2 = .pointer (some ⟨b2,0,none⟩)∧Lo k0 (Eq b2)∧Gb.Box b2 t_ l∧IsV s1.1 (c.get 6) l∧IsV rights_ (c.get 11) l∧IsL rights_ (c.get 12) l∧IsV s1.2 (c.get 13) l∧(IsV (decide (s1.2 < (rights_.length:Int)))) (c.get 14) l∧True) ?_ ?_
  ·intro Q5 W5 w4
   refine gS 1 (_::[]) hs (by kernel_rfl) ⟨o1 [(13,none),(12,none)] rfl fun _ _ h n=>ok_lss rfl (up i13 h n.1) (up i12 h n.2.1),trivial⟩ W5 fun b q p=>?_
   exact tail_done (k:=q) (w4 _ _ ⟨Bs.post ⟨hg,hs,hd⟩ p,p.ke 1 rfl i1,upE i2 (p.old 2 rfl),n2,Gb.Box.grow c2 p.grow,p.ke 6 rfl i6,p.ke 11 rfl i11,p.ke 12 rfl i12,p.ke 13 rfl i13,p.ou 0 14 rfl,trivial⟩)
  rintro a k ⟨⟨hg,hs,hd⟩,i1,i2,n2,c2,i6,i11,i12,i13,i14,_⟩
  refine wp_seq ?_
  refine wp_cond_split (isBool i14) (fun hc2386=>?_) (fun hc2386=>?_)
  ·rw [if_pos hc2386] at hr
   refine wp_skip ?_
   refine wp_seq ?_
   refine wp_block ?_
   refine wp_seq ?_
   obtain ⟨x1,hx1,hr⟩:=bind_some hr
   refine cut (fun a' k'=>Bs noF k0 40 a' k'∧(IsV rights_) (a'.get 1) k'∧a'.get 2 = .pointer (some ⟨b2,0,none⟩)∧Lo k0 (Eq b2)∧Gb.Box b2 t_ k'∧(IsV s1.1) (a'.get 6) k'∧(IsRef x1) (a'.get 8) k'∧(IsV rights_) (a'.get 11) k'∧(IsL rights_) (a'.get 12) k'∧(IsV s1.2) (a'.get 13) k'∧True) ?_ hQ ?_
   ·intro Q6 W6 w5
    refine gS 3 (_::_::⟨some (IsBox k.w.heap.size (⟨0,0,(⟨0,[]⟩:Drawing),0,0,false⟩:Right)),[]⟩::[]) hs (by kernel_rfl) ⟨o1 [(11,none),(13,none)] rfl fun _ _ h n=>ok_indexAddr rfl Tryz.underlying38 ty43 (IsV.rd (up i11 h n.1)) (up i13 h n.2.1) hx1,o1 [(15,some 0)] rfl fun _ _ h n=>ok_load rfl ty43 n.1,ob1 rfl fun _ _ h n=>ok_alloc _ h.size rfl z43,trivial⟩ W6 fun b q p=>?_
    have hgq:=hg.then p.grow
    have hsb:=p.size.trans hs
    have hdb:=p.defers.trans hd
    have j1:=p.ke 1 rfl i1
    have j2:=upE i2 (p.old 2 rfl)
    have z2:=Gb.Box.grow c2 p.grow
    have y2:=n2
    have j6:=p.ke 6 rfl i6
    obtain ⟨b8,j8,x8,z8⟩:(IsBox k.w.heap.size (⟨0,0,(⟨0,[]⟩:Drawing),0,0,false⟩:Right)) (b.get 8) q:=p.ou 2 8 rfl
    replace x8:Lo k (Eq b8):=Lo.eq x8
    have y8:Lo k0 (Eq b8):=x8.chg hg
    have j11:=p.ke 11 rfl i11
    have j12:=p.ke 12 rfl i12
    have j13:=p.ke 13 rfl i13
    have j16:(IsV x1) (b.get 16) q:=p.ou 1 16 rfl
    have w2_8:Apart (Eq b2) (Eq b8):=Apart.new c2.ltF x8
    have hns:=z8.nshF
    refine tail_storeB (i:=3) rfl rfl rfl rfl szf43 (Upd.self (α:=Right)) j8 z8 j16 fun q2 hch hz=>?_
    replace hgq:=hgq.step hch y8.wr
    have hle:=hch.le hns
    replace j1:=Pers.pers hle j1
    replace z2:=z2.keep hch (w2_8 _ rfl) hns
    replace j6:=Pers.pers hle j6
    replace j11:=Pers.pers hle j11
    replace j12:=Pers.pers hle j12
    replace j13:=Pers.pers hle j13
    replace j16:=Pers.pers hle j16
    replace z8:=hz
    clear hns hle hch
    obtain ⟨q,hqq⟩ : ∃ q,q = q2:=⟨q2,rfl⟩
    subst hqq
    obtain ⟨q2,hsh,jn⟩:=z8.give
    replace j1:=Pers.pers hsh.le j1
    replace z2:=z2.handed hsh (w2_8 _ rfl)
    replace j6:=Pers.pers hsh.le j6
    replace j11:=Pers.pers hsh.le j11
    replace j12:=Pers.pers hsh.le j12
    replace j13:=Pers.pers hsh.le j13
    rw [← j8] at jn
    replace j8:=jn
    replace hgq:=hgq.hand hsh y8.wr
    rw [← hsh.w]
    clear hsh
    obtain ⟨q,hqq⟩ : ∃ q,q = q2:=⟨q2,rfl⟩
    subst hqq
    exact tail_done (k:=q) (w5 _ _ ⟨⟨hgq,hsb,hdb⟩,j1,j2,y2,z2,j6,j8,j11,j12,j13,trivial⟩)
   rintro a k ⟨⟨hg,hs,hd⟩,i1,i2,n2,c2,i6,i8,i11,i12,i13,_⟩
   refine wp_seq ?_
   obtain ⟨x3,hx3,hr⟩:=bind_some hr
   obtain ⟨x4,hx4,hr⟩:=bind_some hr
   obtain ⟨x5,hx5,hr⟩:=bind_some hr
   refine cut (fun a' k'=>Bs noF k0 40 a' k'∧(IsV rights_) (a'.get 1) k'∧a'.get 2 = .pointer (some ⟨b2,0,none⟩)∧Lo k0 (Eq b2)∧Gb.Box b2 t_ k'∧(IsV x5) (a'.get 6) k'∧(IsV rights_) (a'.get 11) k'∧(IsL rights_) (a'.get 12) k'∧(IsV s1.2) (a'.get 13) k'∧True) ?_ hQ ?_
   ·intro Q7 W7 w6
    refine gS 7 (_::_::_::_::_::_::_::[]) hs (by kernel_rfl) ⟨mu rfl i6,o1 [(8,none)] rfl fun _ _ h n=>ok_load rfl ty43 ((up i8 h n.1)).ptr,o1 [(18,some 1)] rfl fun _ _ h n=>ok_call rfl Tryz.call27 (option_Left_ok n.1 hx3),o1 [(19,some 2)] rfl fun _ _ h n=>ok_len rfl rfl Tryz.underlying39 (IsV.rd n.1),o1 [(20,some 3)] rfl fun _ _ h n=>ok_add rfl n.1 (cI rfl) hx4,o1 [(17,some 0),(21,some 4)] rfl fun _ _ h n=>ok_mul rfl n.1 n.2.1 hx5,cp 5 rfl rfl,trivial⟩ W7 fun b q p=>?_
    exact tail_done (k:=q) (w6 _ _ ⟨Bs.post ⟨hg,hs,hd⟩ p,p.ke 1 rfl i1,upE i2 (p.old 2 rfl),n2,Gb.Box.grow c2 p.grow,p.ou 6 6 rfl,p.ke 11 rfl i11,p.ke 12 rfl i12,p.ke 13 rfl i13,trivial⟩)
   rintro a k ⟨⟨hg,hs,hd⟩,i1,i2,n2,c2,i6,i11,i12,i13,_⟩
   refine cutS (fun c l=>Bs noF k0 40 c l∧IsV rights_ (c.get 1) l∧c.get 2 = .pointer (some ⟨b2,0,none⟩)∧Lo k0 (Eq b2)∧Gb.Box b2 t_ l∧IsV x5 (c.get 6) l∧IsV rights_ (c.get 11) l∧IsL rights_ (c.get 12) l∧IsV s1.2 (c.get 13) l∧IsV (decide (1024 < x5)) (c.get 24) l∧True) ?_ ?_
   ·intro Q8 W8 w7
    refine gS 2 (_::_::[]) hs (by kernel_rfl) ⟨mu rfl i6,o1 [(23,some 0)] rfl fun _ _ h n=>ok_gtr rfl n.1 (cI rfl),trivial⟩ W8 fun b q p=>?_
    exact tail_done (k:=q) (w7 _ _ ⟨Bs.post ⟨hg,hs,hd⟩ p,p.ke 1 rfl i1,upE i2 (p.old 2 rfl),n2,Gb.Box.grow c2 p.grow,p.ke 6 rfl i6,p.ke 11 rfl i11,p.ke 12 rfl i12,p.ke 13 rfl i13,p.ou 1 24 rfl,trivial⟩)
   rintro a k ⟨⟨hg,hs,hd⟩,i1,i2,n2,c2,i6,i11,i12,i13,i24,_⟩
   refine wp_cond_split (isBool i24) (fun hc2379=>?_) (fun hc2379=>?_)
   ·rw [if_pos hc2379] at hr
    refine cutL noF k0 40 [⟨4,IsV ([]:List Town)⟩,⟨5,IsI 6⟩] ?_ ?_
    ·intro Q9 W9 w8
     refine gS 2 (⟨some IsE0,[]⟩::⟨some (IsI 6),[]⟩::[]) hs (by kernel_rfl) ⟨ob1 rfl fun b q h n=>ok_assign rfl isE0_nil,aI rfl rfl,trivial⟩ W9 fun b q p=>?_
     have hgq:=hg.then p.grow
     have hsb:=p.size.trans hs
     have hdb:=p.defers.trans hd
     have j4:IsE0 (b.get 4) q:=p.ou 0 4 rfl
     have j5:(IsI 6) (b.get 5) q:=p.ou 1 5 rfl
     replace j4:IsV ([]:List Town) (b.get 4) q:=j4.isV
     exact tail_done (k:=q) (w8 _ _ ⟨⟨hgq,hsb,hdb⟩,j4,j5,trivial⟩)
    rintro a k ⟨⟨hg,hs,hd⟩,i4,i5,_⟩
    refine wp_ret ?_
    exact hret2368 _ _ _ (Option.some.inj hr).symm (retC2 rfl hd hg i4 i5)
   rw [if_neg (by rw [hc2379]; decide)] at hr
   refine wp_skip ?_
   obtain ⟨x6,hx6,hr⟩:=bind_some hr
   refine cut (fun a' k'=>Bs noF k0 40 a' k'∧(IsV rights_) (a'.get 1) k'∧a'.get 2 = .pointer (some ⟨b2,0,none⟩)∧Lo k0 (Eq b2)∧Gb.Box b2 t_ k'∧(IsV x5) (a'.get 6) k'∧(IsV rights_) (a'.get 11) k'∧(IsL rights_) (a'.get 12) k'∧(IsV x6) (a'.get 13) k'∧True) ?_ hQ ?_
   ·intro Q10 W10 w9
    refine gS 2 (_::_::[]) hs (by kernel_rfl) ⟨o1 [(13,none)] rfl fun _ _ h n=>ok_add rfl (up i13 h n.1) (cI rfl) hx6,cm 0 rfl rfl,trivial⟩ W10 fun b q p=>?_
    exact tail_done (k:=q) (w9 _ _ ⟨Bs.post ⟨hg,hs,hd⟩ p,p.ke 1 rfl i1,upE i2 (p.old 2 rfl),n2,Gb.Box.grow c2 p.grow,p.ke 6 rfl i6,p.ke 11 rfl i11,p.ke 12 rfl i12,p.ou 1 13 rfl,trivial⟩)
   rintro a k ⟨⟨hg,hs,hd⟩,i1,i2,n2,c2,i6,i11,i12,i13,_⟩
   exact hgo2366 _ _ _ (Option.some.inj hr).symm ⟨⟨hg,hs,hd⟩,i1,i2,n2,c2,i6,i11,i12,i13,trivial⟩
  rw [if_neg (by rw [hc2386]; decide)] at hr
  refine wp_exit ?_
  exact hex2367 _ _ _ _ (Option.some.inj hr).symm ⟨rfl,⟨hg,hs,hd⟩,i1,i2,n2,c2,trivial⟩
 ·rintro r1 a k rfl hR
  dsimp only at hr
  obtain rfl:=Option.some.inj hr
  exact hR
 ·rintro _ _ _ rfl _
  simp at hr
 clear hf1
 rintro _ s2 a k rfl ⟨rfl,⟨hg,hs,hd⟩,i1,i2,n2,c2,_⟩
 dsimp only at hr
 refine cutS (fun c l=>Bs noF k0 40 c l∧IsV rights_ (c.get 1) l∧c.get 2 = .pointer (some ⟨b2,0,none⟩)∧Lo k0 (Eq b2)∧Gb.Box b2 t_ l∧(∃ b9 F9,(BoxH b9 [how_59] [how_59] ([]:(List Town))) F9 (c.get 9) l∧Lo k0 F9∧Apart (Eq b2) F9∧True)) ?_ ?_
 ·intro Q11 W11 w10
  refine gS 1 (⟨some (IsBoxNil Town k.w.heap.size),[]⟩::[]) hs (by kernel_rfl) ⟨ob1 rfl fun _ _ h n=>ok_allocNil _ h.size rfl Tryz.zeroValue59,trivial⟩ W11 fun b q p=>?_
  have hgq:=hg.then p.grow
  have hsb:=p.size.trans hs
  have hdb:=p.defers.trans hd
  have j1:=p.ke 1 rfl i1
  have j2:=upE i2 (p.old 2 rfl)
  have z2:=Gb.Box.grow c2 p.grow
  have y2:=n2
  obtain ⟨b9,j9,x9,z9,hnil⟩:(IsBoxNil Town k.w.heap.size) (b.get 9) q:=p.ou 0 9 rfl
  replace x9:Lo k (Eq b9):=Lo.eq x9
  have y9:Lo k0 (Eq b9):=x9.chg hg
  have w2_9:Apart (Eq b2) (Eq b9):=Apart.new c2.ltF x9
  obtain ⟨F9,jn,hFe⟩ : ∃ F,BoxH b9 [how_59] [] ([]:(List Town)) F (b.get 9) q∧F = Eq b9:=⟨_,Box.open z9 hu__59 j9,rfl⟩
  replace j9:=jn
  replace y9:Lo k0 F9:=by rw [hFe]; exact y9
  replace w2_9:Apart (Eq b2) F9:=by rw [hFe]; exact w2_9
  clear jn hFe z9
  replace j9:=BoxH.wake (g:=how_59) j9 hnil rfl
  clear hnil
  exact tail_done (k:=q) (w10 _ _ ⟨⟨hgq,hsb,hdb⟩,j1,j2,y2,z2,b9,F9,j9,y9,w2_9,trivial⟩)
 rintro a k ⟨⟨hg,hs,hd⟩,i1,i2,n2,c2,b9,F9,i9,n9,d2_9,_⟩
 refine cutS (fun c l=>∃ F9,Bs noF k0 40 c l∧IsV rights_ (c.get 1) l∧c.get 2 = .pointer (some ⟨b2,0,none⟩)∧Lo k0 (Eq b2)∧Gb.Box b2 t_ l∧(BoxH b9 [how_59] [how_59] ([]:(List Town))) F9 (c.get 9) l∧Lo k0 F9∧Apart (Eq b2) F9∧(∃ b10,c.get 10 = .pointer (some ⟨b10,0,none⟩)∧Lo k0 (Eq b10)∧Gb.Box b10 (RawV.mk .nilFunc) l∧Apart (Eq b2) (Eq b10)∧Apart F9 (Eq b10)∧True)) ?_ ?_
 ·intro Q12 W12 w11
  refine gS 1 (⟨some (IsBox k.w.heap.size (RawV.mk .nilFunc)),[]⟩::[]) hs (by kernel_rfl) ⟨ob1 rfl fun _ _ h n=>ok_alloc _ h.size rfl ⟨_,Tryz.zeroValue103,fun _=>raw_self rfl⟩,trivial⟩ W12 fun b q p=>?_
  have hgq:=hg.then p.grow
  have hsb:=p.size.trans hs
  have hdb:=p.defers.trans hd
  have j1:=p.ke 1 rfl i1
  have j2:=upE i2 (p.old 2 rfl)
  have z2:=Gb.Box.grow c2 p.grow
  have y2:=n2
  have j9:(BoxH b9 [how_59] [how_59] ([]:(List Town))) F9 (b.get 9) q:=p.ke 9 rfl i9
  have y9:=n9
  obtain ⟨b10,j10,x10,z10⟩:(IsBox k.w.heap.size (RawV.mk .nilFunc)) (b.get 10) q:=p.ou 0 10 rfl
  replace x10:Lo k (Eq b10):=Lo.eq x10
  have y10:Lo k0 (Eq b10):=x10.chg hg
  have w2_9:Apart (Eq b2) F9:=by exact d2_9
  have w2_10:Apart (Eq b2) (Eq b10):=Apart.new c2.ltF x10
  have w9_10:Apart F9 (Eq b10):=Apart.new (Rsc.lt i9) x10
  exact tail_done (k:=q) (w11 _ _ ⟨F9,⟨hgq,hsb,hdb⟩,j1,j2,y2,z2,j9,y9,w2_9,b10,j10,y10,z10,w2_10,w9_10,trivial⟩)
 rintro a k ⟨F9,⟨hg,hs,hd⟩,i1,i2,n2,c2,i9,n9,d2_9,b10,i10,n10,c10,d2_10,d9_10,_⟩
 refine cutS (fun c l=>∃ F9,Bs noF k0 40 c l∧IsV rights_ (c.get 1) l∧c.get 2 = .pointer (some ⟨b2,0,none⟩)∧Lo k0 (Eq b2)∧Gb.Box b2 t_ l∧(BoxH b9 [how_59] [how_59] ([]:(List Town))) F9 (c.get 9) l∧Lo k0 F9∧c.get 10 = .pointer (some ⟨b10,0,none⟩)∧Lo k0 (Eq b10)∧Gb.Box b10 (RawV.mk (WalkV 42 b9 (.pointer (some ⟨b10,0,none⟩)))) l∧Apart (Eq b2) F9∧Apart (Eq b2) (Eq b10)∧Apart F9 (Eq b10)∧True) ?_ ?_
 ·intro Q13 W13 w12
  refine gS 1 (⟨some (IsV (RawV.mk (WalkV 42 b9 (.pointer (some ⟨b10,0,none⟩))))),[(9,none),(10,none)]⟩::[]) hs (by kernel_rfl) ⟨ob1 rfl fun _ _ h n=>ok_makeWalk rfl (upE (BoxH.ptr i9) n.1) (upE i10 n.2.1),trivial⟩ W13 fun b q p=>?_
  have hgq:=hg.then p.grow
  have hsb:=p.size.trans hs
  have hdb:=p.defers.trans hd
  have j1:=p.ke 1 rfl i1
  have j2:=upE i2 (p.old 2 rfl)
  have z2:=Gb.Box.grow c2 p.grow
  have y2:=n2
  have j9:(BoxH b9 [how_59] [how_59] ([]:(List Town))) F9 (b.get 9) q:=p.ke 9 rfl i9
  have y9:=n9
  have j10:=upE i10 (p.old 10 rfl)
  have z10:=Gb.Box.grow c10 p.grow
  have y10:=n10
  have j26:(IsV (RawV.mk (WalkV 42 b9 (.pointer (some ⟨b10,0,none⟩))))) (b.get 26) q:=p.ou 0 26 rfl
  have w2_9:Apart (Eq b2) F9:=by exact d2_9
  have w2_10:Apart (Eq b2) (Eq b10):=by exact d2_10
  have w9_10:Apart F9 (Eq b10):=by exact d9_10
  have hns:=z10.nshF
  refine tail_storeB (i:=1) rfl rfl rfl rfl szr103 (Upd.self (α:=RawV)) j10 z10 j26 fun q2 hch hz=>?_
  replace hgq:=hgq.step hch y10.wr
  have hle:=hch.le hns
  replace j1:=Pers.pers hle j1
  replace z2:=z2.keep hch (w2_10 _ rfl) hns
  replace j9:=Rsc.keep j9 hch w9_10 hns
  replace j26:=Pers.pers hle j26
  replace z10:=hz
  clear hns hle hch
  obtain ⟨q,hqq⟩ : ∃ q,q = q2:=⟨q2,rfl⟩
  subst hqq
  exact tail_done (k:=q) (w12 _ _ ⟨F9,⟨hgq,hsb,hdb⟩,j1,j2,y2,z2,j9,y9,j10,y10,z10,w2_9,w2_10,w9_10,trivial⟩)
 rintro a k ⟨F9,⟨hg,hs,hd⟩,i1,i2,n2,c2,i9,n9,i10,n10,c10,d2_9,d2_10,d9_10,_⟩
 refine wp_seq ?_
 obtain ⟨x7,hx7,hr⟩:=bind_some hr
 obtain ⟨x11,hx11,hr⟩:=bind_some hr
 refine cut (fun a' k'=>∃ F9,Bs noF k0 40 a' k'∧(IsV rights_) (a'.get 1) k'∧a'.get 2 = .pointer (some ⟨b2,0,none⟩)∧Lo k0 (Eq b2)∧Gb.Box b2 ({ { t_ with Built:=x7 } with Base:=x11 }) k'∧(BoxH b9 [how_59] [how_59] ([]:(List Town))) F9 (a'.get 9) k'∧Lo k0 F9∧a'.get 10 = .pointer (some ⟨b10,0,none⟩)∧Lo k0 (Eq b10)∧Gb.Box b10 (RawV.mk (WalkV 42 b9 (.pointer (some ⟨b10,0,none⟩)))) k'∧Apart (Eq b2) F9∧Apart (Eq b2) (Eq b10)∧Apart F9 (Eq b10)∧True) ?_ hQ ?_
 ·intro Q14 W14 w13
  refine region (m:=7) (_::_::_::_::_::_::_::[]) hmix hs (by kernel_rfl) ⟨o1 [(2,none)] rfl fun _ _ h n=>ok_fieldAddr rfl fo37_4 (at_Town_4 _) ⟨_,(upE i2 n.1),(c2.grow h).at⟩,o1 [(27,some 0)] rfl fun _ _ h n=>ok_load rfl ty34 n.1,o1 [(28,some 1)] rfl fun _ _ h n=>ok_call rfl Tryz.call33 (slices_Clone_Placed_ok n.1 hx7),o1 [(2,none)] rfl fun _ _ h n=>ok_fieldAddr rfl fo37_5 (at_Town_5 _) ⟨_,(upE i2 n.1),(c2.grow h).at⟩,o1 [(30,some 3)] rfl fun _ _ h n=>ok_load rfl ty35 n.1,o1 [(31,some 4)] rfl fun _ _ h n=>ok_call rfl Tryz.call34 (slices_Clone_Entry_ok n.1 hx11),o1 [(2,none)] rfl fun _ _ h n=>ok_fieldAdr rfl fo37_4 (upE i2 n.1),trivial⟩ W14 fun b q p=>?_
  have hgq:=hg.then p.grow
  have hsb:=p.size.trans hs
  have hdb:=p.defers.trans hd
  have j1:=p.ke 1 rfl i1
  have j2:=upE i2 (p.old 2 rfl)
  have z2:=Gb.Box.grow c2 p.grow
  have y2:=n2
  have j9:(BoxH b9 [how_59] [how_59] ([]:(List Town))) F9 (b.get 9) q:=p.ke 9 rfl i9
  have y9:=n9
  have j10:=upE i10 (p.old 10 rfl)
  have z10:=Gb.Box.grow c10 p.grow
  have y10:=n10
  have j29:(IsV x7) (b.get 29) q:=p.ou 2 29 rfl
  have j32:(IsV x11) (b.get 32) q:=p.ou 5 32 rfl
  have j33:IsAdr b2 (11) (b.get 33) q:=p.ou 6 33 rfl
  have w2_9:Apart (Eq b2) F9:=by exact d2_9
  have w2_10:Apart (Eq b2) (Eq b10):=by exact d2_10
  have w9_10:Apart F9 (Eq b10):=by exact d9_10
  have hns:=z2.nshF
  refine tail_storeB (i:=7) rfl rfl rfl rfl szf34 upd_F37_4 j33 z2 j29 fun q2 hch hz=>?_
  replace hgq:=hgq.step hch y2.wr
  have hle:=hch.le hns
  replace j1:=Pers.pers hle j1
  replace j9:=Rsc.keep j9 hch (w2_9.symm) hns
  replace z10:=z10.keep hch ((w2_10.symm) _ rfl) hns
  replace j29:=Pers.pers hle j29
  replace j32:=Pers.pers hle j32
  replace j33:=Pers.pers hle j33
  replace z2:=hz
  clear hns hle hch
  obtain ⟨q,hqq⟩ : ∃ q,q = q2:=⟨q2,rfl⟩
  subst hqq
  refine tail_does (R:=IsAdr b2 (12)) (i:=8) (d:=34) rfl rfl rfl (by rw [hsb]; decide) W14 (ok_fieldAdr rfl fo37_5 j2) fun b2 q2 hsz hdf hoth hgr hnew=>?_
  replace j1:=Pers.pers hgr.le j1
  replace z2:=z2.grow hgr
  replace j9:=Rsc.grow j9 hgr
  replace z10:=z10.grow hgr
  replace j29:=Pers.pers hgr.le j29
  replace j32:=Pers.pers hgr.le j32
  replace j33:=Pers.pers hgr.le j33
  replace hgq:=hgq.then hgr
  rw [← hoth 1 (by decide)] at j1
  rw [← hoth 2 (by decide)] at j2
  rw [← hoth 9 (by decide)] at j9
  rw [← hoth 10 (by decide)] at j10
  rw [← hoth 29 (by decide)] at j29
  rw [← hoth 32 (by decide)] at j32
  rw [← hoth 33 (by decide)] at j33
  have j34:=hnew
  replace hsb:=hsz.trans hsb
  replace hdb:=hdf.trans hdb
  clear hgr hsz hdf hoth hnew
  obtain ⟨b,hbb⟩ : ∃ b,b = b2:=⟨b2,rfl⟩
  subst hbb
  obtain ⟨q,hqq⟩ : ∃ q,q = q2:=⟨q2,rfl⟩
  subst hqq
  have hns:=z2.nshF
  refine tail_storeB (i:=9) rfl rfl rfl rfl szf35 upd_F37_5 j34 z2 j32 fun q2 hch hz=>?_
  replace hgq:=hgq.step hch y2.wr
  have hle:=hch.le hns
  replace j1:=Pers.pers hle j1
  replace j9:=Rsc.keep j9 hch (w2_9.symm) hns
  replace z10:=z10.keep hch ((w2_10.symm) _ rfl) hns
  replace j29:=Pers.pers hle j29
  replace j32:=Pers.pers hle j32
  replace j33:=Pers.pers hle j33
  replace j34:=Pers.pers hle j34
  replace z2:=hz
  clear hns hle hch
  obtain ⟨q,hqq⟩ : ∃ q,q = q2:=⟨q2,rfl⟩
  subst hqq
  exact tail_done (k:=q) (w13 _ _ ⟨F9,⟨hgq,hsb,hdb⟩,j1,j2,y2,z2,j9,y9,j10,y10,z10,w2_9,w2_10,w9_10,trivial⟩)
 rintro a k ⟨F9,⟨hg,hs,hd⟩,i1,i2,n2,c2,i9,n9,i10,n10,c10,d2_9,d2_10,d9_10,_⟩
 refine wp_seq ?_
 obtain ⟨x12,hx12,hr⟩:=bind_some hr
 refine cut (fun a' k'=>∃ F9,Bs noF k0 40 a' k'∧(BoxH b9 [how_59] [how_59] x12) F9 (a'.get 9) k'∧Lo k0 F9∧True) ?_ hQ ?_
 ·intro Q15 W15 w14
  refine gS 3 (_::_::_::[]) hs (by kernel_rfl) ⟨o1 [(10,none)] rfl fun _ _ h n=>ok_load rfl tyf103 ⟨_,(upE i10 n.1),(c10.grow h).at⟩,o1 [(2,none)] rfl fun _ _ h n=>ok_load rfl ty37 ⟨_,(upE i2 n.1),(c2.grow h).at⟩,mu rfl i1,trivial⟩ W15 fun b q p=>?_
  have hgq:=hg.then p.grow
  have hsb:=p.size.trans hs
  have hdb:=p.defers.trans hd
  have j9:(BoxH b9 [how_59] [how_59] ([]:(List Town))) F9 (b.get 9) q:=p.ke 9 rfl i9
  have y9:=n9
  have j10:=upE i10 (p.old 10 rfl)
  have z10:=Gb.Box.grow c10 p.grow
  have y10:=n10
  have j35:(IsV (RawV.mk (WalkV 42 b9 (.pointer (some ⟨b10,0,none⟩))))) (b.get 35) q:=p.ou 0 35 rfl
  have j36:(IsV ({ { t_ with Built:=x7 } with Base:=x11 })) (b.get 36) q:=p.ou 1 36 rfl
  have j37:(IsV rights_) (b.get 37) q:=p.ou 2 37 rfl
  have w9_10:Apart F9 (Eq b10):=by exact d9_10
  have er:=j10
  obtain ⟨q2,hsh,jn⟩:=z10.give
  replace j9:=Rsc.handed j9 hsh w9_10
  replace j35:=Pers.pers hsh.le j35
  replace j36:=Pers.pers hsh.le j36
  replace j37:=Pers.pers hsh.le j37
  rw [← j10] at jn
  replace j10:=jn
  replace hgq:=hgq.hand hsh y10.wr
  rw [← hsh.w]
  clear hsh
  obtain ⟨q,hqq⟩ : ∃ q,q = q2:=⟨q2,rfl⟩
  subst hqq
  have hns:=Rsc.nsh j9
  have ex:=BoxH.ptr j9
  refine tail_callV (F:=F9) (i:=3) (d:=38) rfl rfl rfl rfl (by rw [hsb]; decide) (raw_val j35) Tryz.call42 W15 (vested_States_1_n_ok (rights_.length + 1) _ _ _ _ (.pointer (some ⟨b10,0,none⟩)) _ _ _ _ _ j36 j37 (BoxH.at j9) (by have h:=j10; rw [er] at h; exact h) hx12) fun b2 q2 hsz hdf hoth hch hR=>?_
  have hle:=hch.le hns
  obtain ⟨FF,jn,yf⟩:=hR
  rw [← ex] at jn
  have yn:Lo k0 FF:=fun c h=>(yf c h).elim (fun h=>y9 c h) (fun h=>Nat.le_trans hgq.size h)
  replace j10:=Pers.pers hle j10
  replace j35:=Pers.pers hle j35
  replace j36:=Pers.pers hle j36
  replace j37:=Pers.pers hle j37
  replace hgq:=hgq.step hch y9.wr
  obtain ⟨F9,hFe⟩ : ∃ F,F = FF:=⟨FF,rfl⟩
  subst hFe
  replace j9:=jn
  replace y9:=yn
  rw [← hoth 9 (by decide)] at j9
  rw [← hoth 10 (by decide)] at j10
  rw [← hoth 35 (by decide)] at j35
  rw [← hoth 36 (by decide)] at j36
  rw [← hoth 37 (by decide)] at j37
  replace hsb:=hsz.trans hsb
  replace hdb:=hdf.trans hdb
  clear hle hch hns hsz hdf hoth ex yf yn jn er
  obtain ⟨b,hbb⟩ : ∃ b,b = b2:=⟨b2,rfl⟩
  subst hbb
  obtain ⟨q,hqq⟩ : ∃ q,q = q2:=⟨q2,rfl⟩
  subst hqq
  exact tail_done (k:=q) (w14 _ _ ⟨F9,⟨hgq,hsb,hdb⟩,j9,y9,trivial⟩)
 rintro a k ⟨F9,⟨hg,hs,hd⟩,i9,n9,_⟩
 refine wp_seq ?_
 obtain ⟨kk,sh2436,cc9⟩:=BoxH.close i9 (hc__59 _) (fun _ h=>h)
 replace hg:=hg.hand sh2436 n9.wr
 rw [← sh2436.w]
 replace n9:Lo k0 (Eq b9):=fun c e=>n9 c (BoxH.sub i9 c e)
 replace i9:=BoxH.ptr i9
 have c9:=cc9
 clear sh2436 cc9
 obtain ⟨k,hkk⟩ : ∃ k,k = kk:=⟨kk,rfl⟩
 subst hkk
 refine cut (fun a' k'=>Bs noF k0 40 a' k'∧(IsV x12) (a'.get 4) k'∧(IsI 0) (a'.get 5) k'∧True) ?_ hQ ?_
 ·intro Q16 W16 w15
  refine gS 3 (_::_::⟨some (IsI 0),[]⟩::[]) hs (by kernel_rfl) ⟨o1 [(9,none)] rfl fun _ _ h n=>ok_load rfl ty59 ⟨_,(upE i9 n.1),(c9.grow h).at⟩,cp 0 rfl rfl,aI rfl rfl,trivial⟩ W16 fun b q p=>?_
  exact tail_done (k:=q) (w15 _ _ ⟨Bs.post ⟨hg,hs,hd⟩ p,p.ou 1 4 rfl,p.ou 2 5 rfl,trivial⟩)
 rintro a k ⟨⟨hg,hs,hd⟩,i4,i5,_⟩
 refine wp_ret ?_
 obtain rfl:=Option.some.inj hr
 exact retC2 rfl hd hg i4 i5
noncomputable def k23:=mkO 23 [.st 7,.list (.st 28)] [.list (.st 7),.int] (fun x=>vested_States x.1 x.2) Tryz.call23 fun k0 vs x r hG h hr=>by obtain ⟨v0,vs,rfl,i0,h⟩:=h.cons; obtain ⟨v1,rfl,i1⟩:=h.one; exact ret2F (T:=tb) (vested_States_ok i0 i1 hr)
def slices_IndexFunc_Right_L0 (s_:(List Right)) (f_:(Right → Option (Bool))) (s1:Int):Option (Flow (Int) (Int)):=
 if (decide (s1 < (s_.length:Int))) then
  (getI s_ s1).bind fun x1=>
  (f_ x1).bind fun x2=>
  if x2 then
   some (.ret s1)
  else
   (addI s1 1).bind fun x3=>
   some (.go x3)
 else
  some (.ex 0 s1)
def slices_IndexFunc_Right (s_:(List Right)) (f_:(Right → Option (Bool))):Option (Int):=
 (iterL (slices_IndexFunc_Right_L0 s_ f_) (s_.length + 1) 0).bind fun f1=>match f1 with
  | .go _=>none
  | .ex _ _=>
   some (-1)
  | .ret r1=>some r1
noncomputable def k70:=mk 70 [.list (.st 28),.f1 (.st 28) .bool] [.int] (fun x=>slices_IndexFunc_Right x.1 x.2) [] [] Tryz.f70 (.s .n (.s (.s .n (.l [] [(8,.v .int)] [(0,[8],[])] (fI 7) .n)) .n)) Tryz.func70 Tryz.call70 rfl rfl fun x=>by kernel_rfl
def slices_ContainsFunc_Right (s_:(List Right)) (f_:(Right → Option (Bool))):Option (Bool):=
 (slices_IndexFunc_Right s_ f_).bind fun x1=>
 some (decide (0 ≤ x1))
noncomputable def k43:=mk 43 [.list (.st 28),.f1 (.st 28) .bool] [.bool] (fun x=>slices_ContainsFunc_Right x.1 x.2) [k70] [] Tryz.f43 (.n) Tryz.func43 Tryz.call43 rfl rfl fun x=>by kernel_rfl
theorem slices_ContainsFunc_Right_ok {k0:K} {v0 v1:Value} {x0:(List Right)} {x1:(Right → Option (Bool))} {r:Bool} (i0:(IsV x0) v0 k0) (i1:(IsFn1 Tryz.prog x1) v1 k0) (hr:slices_ContainsFunc_Right x0 x1 = some r):Calls Tryz.prog 43 #[v0,v1] k0.w (Ret k0 (IsV r)):=(k43.ok.ok k0 [v0,v1] (x0,x1) r (GOk.none (fun _=>rfl) fun _ e=>by cases e) ⟨i0,(isV_f1T.2 i1)⟩ hr)
def slices_Clone_Right (s_:(List Right)):Option ((List Right)):=
 (appI [] s_).bind fun x1=>
 some x1
theorem slices_Clone_Right_okO {k0:K} {v0:Value} {s_:(List Right)} {r:(List Right)} (i0:(IsV s_) v0 k0) (hr:slices_Clone_Right s_ = some r) :
  Calls Tryz.prog 45 #[v0] k0.w (Ret k0 (IsOwn k0.w.heap.size 43 r)):=by
 unfold slices_Clone_Right at hr
 refine Ret.ofC ?_
 refine enterK Tryz.func45 rfl Tryz.ntmps45 (show 1 ≤ 8 by decide) fun a k hk0 hs hd ha=>?_
 obtain ⟨e0,_⟩:=ha
 replace i0:(IsV s_) (a.get 0) k:=by rw [e0,hk0]; exact i0
 have hQ:Gb.LetsOut (bodyPost Tryz.prog Tryz.f45 (RetC noF k0 (IsOwn k0.w.heap.size 43 r))):=letsOutC
 have hg:Chg noF k0 k:=by rw [hk0]; exact Chg.refl _ k0
 refine stepL 1 (⟨some IsE0,[]⟩::[]) rfl ⟨hg,hs,hd⟩ (by kernel_rfl) ⟨ob1 rfl fun b q h n=>ok_assign rfl isE0_nil,trivial⟩ [⟨_,_⟩] (fun b q p=>⟨p.ke 0 rfl i0,trivial⟩) ?_
 rintro a k ⟨⟨hg,hs,hd⟩,i0,_⟩
 refine wp_seq ?_
 refine stepL 2 (_::⟨some (IsNT s_),[(3,some 0)]⟩::[]) rfl ⟨hg,hs,hd⟩ (by kernel_rfl) ⟨mu rfl i0,ob1 rfl fun _ _ h n=>ok_eqNil rfl Tryz.underlying38 (IsV.rd n.1),trivial⟩ [⟨_,_⟩,⟨_,_⟩] (fun b q p=>⟨p.ke 0 rfl i0,p.ou 1 4 rfl,trivial⟩) ?_
 rintro a k ⟨⟨hg,hs,hd⟩,i0,i4,_⟩
 obtain ⟨bb,hbb,hnil⟩:=i4
 refine wp_cond_split hbb (fun hc2506=>?_) (fun hc2506=>?_)
 ·replace hr:some ([]:List Right) = some r:=by rw [hnil hc2506] at hr; simpa [appI] using hr
  refine cutS (fun c l=>Bs noF k0 8 c l∧IsOwn 0 43 ([]:List Right) (c.get 2) l∧Lo k0 (obF (c.get 2))∧True) ?_ ?_
  ·intro Q1 W1 w1
   refine gS 1 (⟨some IsE0,[]⟩::[]) hs (by kernel_rfl) ⟨ob1 rfl fun b q h n=>ok_assign rfl isE0_nil,trivial⟩ W1 fun b q p=>?_
   have hgq:=hg.then p.grow
   have hsb:=p.size.trans hs
   have hdb:=p.defers.trans hd
   have j2:IsE0 (b.get 2) q:=p.ou 0 2 rfl
   have y2:Lo k0 (obF (b.get 2)):=j2.lo
   replace j2:IsOwn 0 43 ([]:List Right) (b.get 2) q:=j2.own0
   exact tail_done (k:=q) (w1 _ _ ⟨⟨hgq,hsb,hdb⟩,j2,y2,trivial⟩)
  rintro a k ⟨⟨hg,hs,hd⟩,i2,n2,_⟩
  refine wp_ret ?_
  obtain rfl:=Option.some.inj hr
  exact retC1 rfl hd hg (show ResOk _ _ _ (.tmp 2) _ from IsOwn.raise (k0:=k0) i2 n2)
 ·skip
  refine wp_skip ?_
  refine wp_seq ?_
  obtain ⟨x1,hx1,hr⟩:=bind_some hr
  refine cut (fun a' k'=>Bs noF k0 8 a' k'∧IsOwn 0 43 x1 (a'.get 2) k'∧Lo k0 (obF (a'.get 2))∧True) ?_ hQ ?_
  ·intro Q2 W2 w2
   refine gS 4 (⟨some IsE0,[]⟩::_::⟨some (IsOwn k.w.heap.size 43 x1),[(5,some 0),(6,some 1)]⟩::_::[]) hs (by kernel_rfl) ⟨ob1 rfl fun b q h n=>ok_buildSlice0 rfl Tryz.underlying38 eo43,mu rfl i0,ob1 rfl fun _ _ h n=>ok_append0 rfl Tryz.underlying38 eo43 h.size n.1 (IsV.rd n.2.1) hx1,cp 2 rfl rfl,trivial⟩ W2 fun b q p=>?_
   have hgq:=hg.then p.grow
   have hsb:=p.size.trans hs
   have hdb:=p.defers.trans hd
   have j2:(IsOwn k.w.heap.size 43 x1) (b.get 2) q:=p.ou 3 2 rfl
   have x2:Lo k (obF (b.get 2)):=j2.loF
   have y2:=x2.chg hg
   replace j2:=j2.weaken (Nat.zero_le _)
   exact tail_done (k:=q) (w2 _ _ ⟨⟨hgq,hsb,hdb⟩,j2,y2,trivial⟩)
  rintro a k ⟨⟨hg,hs,hd⟩,i2,n2,_⟩
  refine wp_ret ?_
  obtain rfl:=Option.some.inj hr
  exact retC1 rfl hd hg (show ResOk _ _ _ (.tmp 2) _ from IsOwn.raise (k0:=k0) i2 n2)
theorem slices_Clone_Right_ok {k0:K} {v0:Value} {s_:(List Right)} {r:(List Right)} (i0:(IsV s_) v0 k0) (hr:slices_Clone_Right s_ = some r) :
  Calls Tryz.prog 45 #[v0] k0.w (Ret k0 (IsV r)):=
 ret_give (slices_Clone_Right_okO i0 hr)
def vested_Grant_1 (x_:Right) (p1_:Right):Option (Bool):=
 some (x_.Id == p1_.Id)
noncomputable def k44:=mk 44 [.st 28,.rf (.st 28)] [.bool] (fun x=>vested_Grant_1 x.1 x.2) [] [] Tryz.f44 (.n) Tryz.func44 Tryz.call44 rfl rfl fun x=>by kernel_rfl
theorem vested_Grant_1_ok {k0:K} {v0 v1:Value} {x0:Right} {x1:Right} {r:Bool} (i0:(IsV x0) v0 k0) (i1:(IsRef x1) v1 k0) (hr:vested_Grant_1 x0 x1 = some r):Calls Tryz.prog 44 #[v0,v1] k0.w (Ret k0 (IsV r)):=(k44.ok.ok k0 [v0,v1] (x0,x1) r (GOk.none (fun _=>rfl) fun _ e=>by cases e) ⟨i0,(isV_rfT.2 i1)⟩ hr)
def vested_Grant (t_:Town) (rights_:(List Right)) (r_:Right):Option (Int):=
 (option_Living r_).bind fun x1=>
 if (!x1) then
  some 1
 else
  (slices_ContainsFunc_Right rights_ (fun y0=>vested_Grant_1 y0 r_)).bind fun x2=>
  if x2 then
   some 5
  else
   (slices_Clone_Right rights_).bind fun x3=>
   (appI x3 ([r_])).bind fun x4=>
   (vested_Safe t_ x4).bind fun x5=>
   if (!x5.2) then
    some 21
   else
    some 0
theorem vested_Grant_ok {k0:K} {v0 v1 v2:Value} {t_:Town} {rights_:(List Right)} {r_:Right} {r:Int} (i0:(IsV t_) v0 k0) (i1:(IsV rights_) v1 k0) (i2:(IsV r_) v2 k0) (hr:vested_Grant t_ rights_ r_ = some r) :
  Calls Tryz.prog 25 #[v0,v1,v2] k0.w (Ret k0 (IsV r)):=by
 unfold vested_Grant at hr
 refine Ret.ofC ?_
 refine enterK Tryz.func25 rfl Tryz.ntmps25 (show 3 ≤ 27 by decide) fun a k hk0 hs hd ha=>?_
 obtain ⟨e0,e1,e2,_⟩:=ha
 replace i0:(IsV t_) (a.get 0) k:=by rw [e0,hk0]; exact i0
 replace i1:(IsV rights_) (a.get 1) k:=by rw [e1,hk0]; exact i1
 replace i2:(IsV r_) (a.get 2) k:=by rw [e2,hk0]; exact i2
 have hQ:Gb.LetsOut (bodyPost Tryz.prog Tryz.f25 (RetC noF k0 (IsV r))):=letsOutC
 have hg:Chg noF k0 k:=by rw [hk0]; exact Chg.refl _ k0
 refine stepL 3 (⟨some (IsRef t_),[(0,none)]⟩::⟨some (IsRef r_),[(2,none)]⟩::⟨some (IsI 0),[]⟩::[]) rfl ⟨hg,hs,hd⟩ (by kernel_rfl) ⟨ob1 rfl fun _ _ h n=>ok_boxR rfl (up i0 h n.1),ob1 rfl fun _ _ h n=>ok_boxR rfl (up i2 h n.1),aI rfl rfl,trivial⟩ [⟨_,_⟩,⟨_,_⟩,⟨_,_⟩] (fun b q p=>⟨p.ke 1 rfl i1,p.ou 0 3 rfl,p.ou 1 5 rfl,trivial⟩) ?_
 rintro a k ⟨⟨hg,hs,hd⟩,i1,i3,i5,_⟩
 refine wp_seq ?_
 refine wp_seq ?_
 obtain ⟨x1,hx1,hr⟩:=bind_some hr
 refine cut (fun a' k'=>Bs noF k0 27 a' k'∧(IsV rights_) (a'.get 1) k'∧(IsRef t_) (a'.get 3) k'∧(IsRef r_) (a'.get 5) k'∧(IsV (!x1)) (a'.get 11) k'∧True) ?_ hQ ?_
 ·intro Q1 W1 w1
  refine gS 3 (_::_::_::[]) hs (by kernel_rfl) ⟨o1 [(5,none)] rfl fun _ _ h n=>ok_load rfl ty43 ((up i5 h n.1)).ptr,o1 [(9,some 0)] rfl fun _ _ h n=>ok_call rfl Tryz.call28 (option_Living_ok n.1 hx1),o1 [(10,some 1)] rfl fun _ _ h n=>ok_not rfl n.1,trivial⟩ W1 fun b q p=>?_
  exact tail_done (k:=q) (w1 _ _ ⟨Bs.post ⟨hg,hs,hd⟩ p,p.ke 1 rfl i1,p.ke 3 rfl i3,p.ke 5 rfl i5,p.ou 2 11 rfl,trivial⟩)
 rintro a k ⟨⟨hg,hs,hd⟩,i1,i3,i5,i11,_⟩
 refine wp_cond_split (isBool i11) (fun hc2542=>?_) (fun hc2542=>?_)
 ·rw [if_pos hc2542] at hr
  refine stepL 1 (⟨some (IsI 1),[]⟩::[]) rfl ⟨hg,hs,hd⟩ (by kernel_rfl) ⟨aI rfl rfl,trivial⟩ [⟨_,_⟩] (fun b q p=>⟨p.ou 0 6 rfl,trivial⟩) ?_
  rintro a k ⟨⟨hg,hs,hd⟩,i6,_⟩
  refine wp_ret ?_
  obtain rfl:=Option.some.inj hr
  exact retC1 rfl hd hg i6
 rw [if_neg (by rw [hc2542]; decide)] at hr
 refine wp_skip ?_
 refine wp_seq ?_
 refine wp_seq ?_
 obtain ⟨x2,hx2,hr⟩:=bind_some hr
 refine cut (fun a' k'=>Bs noF k0 27 a' k'∧(IsV rights_) (a'.get 1) k'∧(IsRef t_) (a'.get 3) k'∧(IsRef r_) (a'.get 5) k'∧(IsV x2) (a'.get 14) k'∧True) ?_ hQ ?_
 ·intro Q2 W2 w2
  refine gS 3 (_::⟨some (IsFn1 Tryz.prog (fun y0=>vested_Grant_1 y0 r_)),[(5,none)]⟩::_::[]) hs (by kernel_rfl) ⟨mu rfl i1,ob1 rfl fun _ _ h n=>ok_makeFunc (first:=[]) (captured:=[.tmp 5]) rfl ⟨44,_,_,rfl,Tryz.call44,fun k9 hk9 _ _ _ hx0 hy9=>by simpa [evalT] using vested_Grant_1_ok hx0 (Pers.pers hk9 (up i5 h n.1)) hy9⟩,o1 [(12,some 0),(13,some 1)] rfl fun _ _ h n=>ok_call rfl Tryz.call43 (slices_ContainsFunc_Right_ok n.1 n.2.1 hx2),trivial⟩ W2 fun b q p=>?_
  exact tail_done (k:=q) (w2 _ _ ⟨Bs.post ⟨hg,hs,hd⟩ p,p.ke 1 rfl i1,p.ke 3 rfl i3,p.ke 5 rfl i5,p.ou 2 14 rfl,trivial⟩)
 rintro a k ⟨⟨hg,hs,hd⟩,i1,i3,i5,i14,_⟩
 refine wp_cond_split (isBool i14) (fun hc2539=>?_) (fun hc2539=>?_)
 ·rw [if_pos hc2539] at hr
  refine stepL 1 (⟨some (IsI 5),[]⟩::[]) rfl ⟨hg,hs,hd⟩ (by kernel_rfl) ⟨aI rfl rfl,trivial⟩ [⟨_,_⟩] (fun b q p=>⟨p.ou 0 6 rfl,trivial⟩) ?_
  rintro a k ⟨⟨hg,hs,hd⟩,i6,_⟩
  refine wp_ret ?_
  obtain rfl:=Option.some.inj hr
  exact retC1 rfl hd hg i6
 rw [if_neg (by rw [hc2539]; decide)] at hr
 refine wp_skip ?_
 refine wp_seq ?_
 refine wp_seq ?_
 obtain ⟨x3,hx3,hr⟩:=bind_some hr
 obtain ⟨x4,hx4,hr⟩:=bind_some hr
 obtain ⟨x5,hx5,hr⟩:=bind_some hr
 refine cut (fun a' k'=>Bs noF k0 27 a' k'∧(IsV x5.2) (a'.get 8) k'∧True) ?_ hQ ?_
 ·intro Q3 W3 w3
  refine region_L (a0:=a) (k0:=k) (n:=27) (⟨(PlainR (IsV t_)),16,[(3,none)],[]⟩::⟨(PlainR (IsV rights_)),17,[(1,none)],[]⟩::⟨(OwnR 43 x3),18,[(17,some 1)],[]⟩::⟨(PlainR (IsV r_)),19,[(5,none)],[]⟩::⟨(PlainR (IsV (α:=(List Right)) ([r_]))),20,[(19,some 3)],[]⟩::⟨(PlainR (IsV x4)),21,[(20,some 4)],[2]⟩::⟨(PlainR (IsTup2 (IsV x5.1) (IsV x5.2))),22,[(16,some 0),(21,some 5)],[]⟩::⟨(PlainR (IsTup2 (IsV x5.1) (IsV x5.2))),15,[(22,some 6)],[]⟩::⟨(PlainR (IsV x5.1)),23,[(15,some 7)],[]⟩::⟨(PlainR (IsV x5.2)),24,[(15,some 7)],[]⟩::⟨(BoxR (⟨0,(⟨#[]⟩:ByteArray),0⟩:Limit)),7,[],[]⟩::⟨(BoxR x5.1),7,[(23,some 8)],[10]⟩::⟨(PlainR (IsV x5.2)),8,[(24,some 9)],[]⟩::[]) hmix hs (by kernel_rfl) ⟨⟨inferInstanceAs (RscB _ (PlainR (IsV t_))),fun b q G hz hk hn ht=>by obtain ⟨m0,_⟩:=hn; obtain rfl:=taken0 ht; exact doesL_plain rfl (by rw [hz,hs]; show 16 < 27; decide) (ok_load rfl ty37 ((up i3 hk m0)).ptr)⟩,⟨inferInstanceAs (RscB _ (PlainR (IsV rights_))),fun b q G hz hk hn ht=>by obtain ⟨m0,_⟩:=hn; obtain rfl:=taken0 ht; exact doesL_plain rfl (by rw [hz,hs]; show 17 < 27; decide) (ok_move rfl (up i1 hk m0))⟩,⟨inferInstanceAs (RscB _ (OwnR 43 x3)),fun b q G hz hk hn ht=>by obtain ⟨⟨_,_,m0⟩,_⟩:=hn; obtain rfl:=taken0 ht; exact doesL_own rfl (by rw [hz,hs]; show 18 < 27; decide) (ok_call rfl Tryz.call45 (ret_weaken (Nat.le_refl _) (slices_Clone_Right_okO m0 hx3)))⟩,⟨inferInstanceAs (RscB _ (PlainR (IsV r_))),fun b q G hz hk hn ht=>by obtain ⟨m0,_⟩:=hn; obtain rfl:=taken0 ht; exact doesL_plain rfl (by rw [hz,hs]; show 19 < 27; decide) (ok_load rfl ty43 ((up i5 hk m0)).ptr)⟩,⟨inferInstanceAs (RscB _ (PlainR (IsV (α:=(List Right)) ([r_])))),fun b q G hz hk hn ht=>by obtain ⟨⟨_,_,m0⟩,_⟩:=hn; obtain rfl:=taken0 ht; exact doesL_plain rfl (by rw [hz,hs]; show 20 < 27; decide) (ok_buildSlice rfl Tryz.underlying38 eo43 rfl (by decide) (by decide) ⟨rfl,m0,trivial⟩)⟩,⟨inferInstanceAs (RscB _ (PlainR (IsV x4))),fun b q G hz hk hn ht=>by obtain ⟨⟨_,_,m0⟩,_⟩:=hn; exact doesL_app rfl (by rw [hz,hs]; show 21 < 27; decide) rfl rfl Tryz.underlying38 eo43 (taken1 ht rfl) (IsV.rd m0) hx4⟩,⟨inferInstanceAs (RscB _ (PlainR (IsTup2 (IsV x5.1) (IsV x5.2)))),fun b q G hz hk hn ht=>by obtain ⟨⟨_,_,m0⟩,⟨_,_,m1⟩,_⟩:=hn; obtain rfl:=taken0 ht; exact doesL_plain rfl (by rw [hz,hs]; show 22 < 27; decide) (ok_call rfl Tryz.call21 (vested_Safe_ok m0 m1 hx5))⟩,⟨inferInstanceAs (RscB _ (PlainR (IsTup2 (IsV x5.1) (IsV x5.2)))),fun b q G hz hk hn ht=>by obtain ⟨⟨_,_,m0⟩,_⟩:=hn; obtain rfl:=taken0 ht; exact doesL_plain rfl (by rw [hz,hs]; show 15 < 27; decide) (ok_move rfl m0)⟩,⟨inferInstanceAs (RscB _ (PlainR (IsV x5.1))),fun b q G hz hk hn ht=>by obtain ⟨⟨_,_,m0⟩,_⟩:=hn; obtain rfl:=taken0 ht; exact doesL_plain rfl (by rw [hz,hs]; show 23 < 27; decide) (ok_ext2_0 rfl m0)⟩,⟨inferInstanceAs (RscB _ (PlainR (IsV x5.2))),fun b q G hz hk hn ht=>by obtain ⟨⟨_,_,m0⟩,_⟩:=hn; obtain rfl:=taken0 ht; exact doesL_plain rfl (by rw [hz,hs]; show 24 < 27; decide) (ok_ext2_1 rfl m0)⟩,⟨inferInstanceAs (RscB _ (BoxR (⟨0,(⟨#[]⟩:ByteArray),0⟩:Limit))),fun b q G hz hk hn ht=>by obtain rfl:=taken0 ht; exact doesL_box rfl (by rw [hz,hs]; show 7 < 27; decide) (ok_alloc _ (Nat.le_refl _) rfl z55)⟩,⟨inferInstanceAs (RscB _ (BoxR x5.1)),fun b q G hz hk hn ht=>by obtain ⟨⟨_,_,m0⟩,_⟩:=hn; exact doesL_store rfl rfl rfl szf55 (taken1 ht rfl) m0⟩,⟨inferInstanceAs (RscB _ (PlainR (IsV x5.2))),fun b q G hz hk hn ht=>by obtain ⟨⟨_,_,m0⟩,_⟩:=hn; obtain rfl:=taken0 ht; exact doesL_plain rfl (by rw [hz,hs]; show 8 < 27; decide) (ok_assign rfl m0)⟩,trivial⟩ W3 fun FL b q p=>?_
  have hgq:=hg.then p.grow
  have hsb:=p.size.trans hs
  have hdb:=p.defers.trans hd
  have j8:(IsV x5.2) (b.get 8) q:=p.plain 12 rfl rfl
  exact w3 _ _ ⟨⟨hgq,hsb,hdb⟩,j8,trivial⟩
 rintro a k ⟨⟨hg,hs,hd⟩,i8,_⟩
 refine stepL 2 (_::_::[]) rfl ⟨hg,hs,hd⟩ (by kernel_rfl) ⟨mu rfl i8,o1 [(25,some 0)] rfl fun _ _ h n=>ok_not rfl n.1,trivial⟩ [⟨_,_⟩] (fun b q p=>⟨p.ou 1 26 rfl,trivial⟩) ?_
 rintro a k ⟨⟨hg,hs,hd⟩,i26,_⟩
 refine wp_cond_split (isBool i26) (fun hc2534=>?_) (fun hc2534=>?_)
 ·rw [if_pos hc2534] at hr
  refine stepL 1 (⟨some (IsI 21),[]⟩::[]) rfl ⟨hg,hs,hd⟩ (by kernel_rfl) ⟨aI rfl rfl,trivial⟩ [⟨_,_⟩] (fun b q p=>⟨p.ou 0 6 rfl,trivial⟩) ?_
  rintro a k ⟨⟨hg,hs,hd⟩,i6,_⟩
  refine wp_ret ?_
  obtain rfl:=Option.some.inj hr
  exact retC1 rfl hd hg i6
 rw [if_neg (by rw [hc2534]; decide)] at hr
 refine wp_skip ?_
 refine stepL 1 (⟨some (IsI 0),[]⟩::[]) rfl ⟨hg,hs,hd⟩ (by kernel_rfl) ⟨aI rfl rfl,trivial⟩ [⟨_,_⟩] (fun b q p=>⟨p.ou 0 6 rfl,trivial⟩) ?_
 rintro a k ⟨⟨hg,hs,hd⟩,i6,_⟩
 refine wp_ret ?_
 obtain rfl:=Option.some.inj hr
 exact retC1 rfl hd hg i6
noncomputable def k25:=mkO 25 [.st 7,.list (.st 28),.st 28] [.int] (fun x=>vested_Grant x.1 x.2.1 x.2.2) Tryz.call25 fun k0 vs x r hG h hr=>by obtain ⟨v0,vs,rfl,i0,h⟩:=h.cons; obtain ⟨v1,vs,rfl,i1,h⟩:=h.cons; obtain ⟨v2,rfl,i2⟩:=h.one; exact vested_Grant_ok i0 i1 i2 hr
def law33_small  : Option (Bool):=
 (law33_example 40).bind fun x1=>
 (law33_example 41).bind fun x2=>
 (vested_Safe x1.1 x1.2).bind fun x3=>
 (vested_Safe x2.1 x2.2).bind fun x4=>
 (law33_homes 9 0).bind fun x5=>
 (vested_Safe (⟨(⟨[],[],[],[],[],[],[(⟨1,0,1⟩:Point3)],1⟩:Plan),[],[],[(⟨7,(⟨0,0,0⟩:Point3)⟩:Window)],[],[]⟩:Town) ([(⟨3,0,(⟨1,[(⟨[x5],[]⟩:Phase),(⟨[(⟨(⟨(⟨2,0,3,1⟩:Rect),0,9⟩:Box),0,0,false⟩:Volume)],[]⟩:Phase)]⟩:Drawing),0,0,false⟩:Right)])).bind fun x6=>
 (vested_Keeps (⟨(⟨[],[],[],[],[],[],[(⟨1,0,1⟩:Point3)],1⟩:Plan),[],[],[(⟨7,(⟨0,0,0⟩:Point3)⟩:Window)],[],[]⟩:Town)).bind fun x7=>
 (vested_States x1.1 x1.2).bind fun x8=>
 (if (((((((x3.2 && (!x4.2)) && (decide (x4.1 = (⟨1,(⟨#[99]⟩:ByteArray),0⟩:Limit)))) && (!x6.2)) && (decide (x6.1 = (⟨2,(⟨#[]⟩:ByteArray),0⟩:Limit)))) && x7.2) && (x8.2 == 0)) && ((x8.1.length:Int) == 6)) then
  (sliceI x1.2 0 1).bind fun x9=>
  (subI (x1.2.length:Int) 1).bind fun x10=>
  (getI x1.2 x10).bind fun x11=>
  (vested_Grant x1.1 x9 x11).bind fun x12=>
  some (x12 == 0)
 else
  some false).bind fun x13=>
 some x13
noncomputable def k10:=mk 10 [] [.bool] (fun x=>law33_small) [k31,k21,k32,k19,k23,k25] [] Tryz.f10 (.n) Tryz.func10 Tryz.call10 rfl rfl fun x=>by kernel_rfl
theorem law33_small_ok {k0:K} {r:Bool} (hr:law33_small = some r):Calls Tryz.prog 10 #[] k0.w (Ret k0 (IsV r)):=(k10.ok.ok k0 [] () r (GOk.none (fun _=>rfl) fun _ e=>by cases e) trivial hr)
def law33_phase (ph_:Phase):Option (Bool):=
 some ((decide ((ph_.Volumes.length:Int) ≤ 2)) && (decide ((ph_.Gives.length:Int) ≤ 3)))
noncomputable def k13:=mk 13 [.st 3] [.bool] (fun x=>law33_phase x) [] [] Tryz.f13 (.n) Tryz.func13 Tryz.call13 rfl rfl fun x=>by kernel_rfl
def law33_one_L0 (r_:Right) (s1:Int):Option (Flow (Int) (Bool)):=
 if ((decide (s1 < (r_.Drawing.Phases.length:Int))) && (decide (s1 < 5))) then
  (getI r_.Drawing.Phases s1).bind fun x1=>
  (law33_phase x1).bind fun x2=>
  if (!x2) then
   some (.ret false)
  else
   (addI s1 1).bind fun x3=>
   some (.go x3)
 else
  some (.ex 0 s1)
def law33_one (r_:Right):Option (Bool):=
 (iterL (law33_one_L0 r_) (6) 0).bind fun f1=>match f1 with
  | .go _=>none
  | .ex _ _=>
   some (decide ((r_.Drawing.Phases.length:Int) ≤ 4))
  | .ret r1=>some r1
noncomputable def k12:=mk 12 [.st 28] [.bool] (fun x=>law33_one x) [k13] [] Tryz.f12 (.s .n (.s (.s .n (.l [] [(3,.v .int)] [(0,[3],[])] (fun _=>6) .n)) .n)) Tryz.func12 Tryz.call12 rfl rfl fun x=>by kernel_rfl
def law33_few_L0 (t_:Town) (s1:Int):Option (Flow (Int) (Bool)):=
 if ((decide (s1 < (t_.Plan.Caps.length:Int))) && (decide (s1 < 4))) then
  (getI t_.Plan.Caps s1).bind fun x1=>
  if (decide (12 < (x1.Corners.length:Int))) then
   some (.ret false)
  else
   (addI s1 1).bind fun x2=>
   some (.go x2)
 else
  some (.ex 0 s1)
def law33_few_L1 (t_:Town) (s1:Int):Option (Flow (Int) (Bool)):=
 if ((decide (s1 < (t_.Plan.Views.length:Int))) && (decide (s1 < 4))) then
  (getI t_.Plan.Views s1).bind fun x1=>
  if (decide (5 < (x1.Targets.length:Int))) then
   some (.ret false)
  else
   (addI s1 1).bind fun x2=>
   some (.go x2)
 else
  some (.ex 2 s1)
def law33_few_L2 (t_:Town) (s1:Int):Option (Flow (Int) (Bool)):=
 if ((decide (s1 < (t_.Plan.Tables.length:Int))) && (decide (s1 < 5))) then
  (getI t_.Plan.Tables s1).bind fun x1=>
  if (decide (8 < (x1.Rows.length:Int))) then
   some (.ret false)
  else
   (addI s1 1).bind fun x2=>
   some (.go x2)
 else
  some (.ex 4 s1)
def law33_few_L3 (rights_:(List Right)) (n_:Int) (s1:Int):Option (Flow (Int) (Bool)):=
 if ((decide (s1 < (rights_.length:Int))) && (decide (s1 ≤ n_))) then
  (getI rights_ s1).bind fun x1=>
  (law33_one x1).bind fun x2=>
  if (!x2) then
   some (.ret false)
  else
   (addI s1 1).bind fun x3=>
   some (.go x3)
 else
  some (.ex 6 s1)
def law33_few (t_:Town) (rights_:(List Right)) (n_:Int):Option (Bool):=
 (iterL (law33_few_L0 t_) (5) 0).bind fun f1=>match f1 with
  | .go _=>none
  | .ex _ _ =>
   (iterL (law33_few_L1 t_) (5) 0).bind fun f2=>match f2 with
    | .go _=>none
    | .ex _ _ =>
     (iterL (law33_few_L2 t_) (6) 0).bind fun f3=>match f3 with
      | .go _=>none
      | .ex _ _ =>
       (iterL (law33_few_L3 rights_ n_) (rights_.length + 1) 0).bind fun f4=>match f4 with
        | .go _=>none
        | .ex _ _=>
         some ((((((((decide ((t_.Plan.Caps.length:Int) ≤ 3)) && (decide ((t_.Plan.Sun.length:Int) ≤ 5))) && (decide ((t_.Windows.length:Int) ≤ 4))) && (decide ((t_.Plan.Views.length:Int) ≤ 3))) && (decide ((t_.Built.length:Int) ≤ 8))) && (decide ((t_.Base.length:Int) ≤ 6))) && (decide ((t_.Plan.Tables.length:Int) ≤ 4))) && (decide ((rights_.length:Int) ≤ n_)))
        | .ret r1=>some r1
      | .ret r2=>some r2
    | .ret r3=>some r3
  | .ret r4=>some r4
noncomputable def k11:=mk 11 [.st 7,.list (.st 28),.int] [.bool] (fun x=>law33_few x.1 x.2.1 x.2.2) [k12] [] Tryz.f11 (.s .n (.s .n (.s (.s .n (.l [] [(8,.v .int)] [(0,[8],[])] (fun _=>5) .n)) (.s (.s .n (.l [] [(9,.v .int)] [(2,[9],[])] (fun _=>5) .n)) (.s (.s .n (.l [] [(10,.v .int)] [(4,[10],[])] (fun _=>6) .n)) (.s (.s .n (.l [] [(11,.v .int)] [(6,[11],[])] (fL [1]) .n)) .n)))))) Tryz.func11 Tryz.call11 rfl rfl fun x=>by kernel_rfl
theorem law33_few_ok {k0:K} {v0 v1 v2:Value} {x0:Town} {x1:(List Right)} {x2:Int} {r:Bool} (i0:(IsV x0) v0 k0) (i1:(IsV x1) v1 k0) (i2:(IsV x2) v2 k0) (hr:law33_few x0 x1 x2 = some r):Calls Tryz.prog 11 #[v0,v1,v2] k0.w (Ret k0 (IsV r)):=(k11.ok.ok k0 [v0,v1,v2] (x0,x1,x2) r (GOk.none (fun _=>rfl) fun _ e=>by cases e) ⟨i0,i1,i2⟩ hr)
def law33_VestedLapses_L0 (t_:Town) (more_:Int) (s1:Town × Int):Option (Flow (Town × Int) (Bool)):=
 if (decide (s1.2 < (t_.Plan.Caps.length:Int))) then
  (getI t_.Plan.Caps s1.2).bind fun x1=>
  (addW x1.Limit more_).bind fun x2=>
  (appI s1.1.Plan.Caps ([{ x1 with Limit:=(max x1.Limit x2) }])).bind fun x3=>
  (addW s1.2 1).bind fun x4=>
  some (.go ({ s1.1 with Plan:={ s1.1.Plan with Caps:=x3 } },x4))
 else
  some (.ex 0 (s1.1,s1.2))
def law33_VestedLapses (t_:Town) (rights_:(List Right)) (k_:Int) (more_:Int):Option (Bool):=
 (law33_small).bind fun x1=>
 (law33_few t_ rights_ 3).bind fun x2=>
 if (((!x2) || (decide (more_ < 0))) || (decide (1099511627776 < more_))) then
  some x1
 else
  (vested_Safe t_ rights_).bind fun x3=>
  if (!x3.2) then
   some x1
  else
   (vested_Keeps t_).bind fun x4=>
   (iterL (law33_VestedLapses_L0 t_ more_) (t_.Plan.Caps.length + 1) ({ t_ with Plan:={ t_.Plan with Caps:=([]:List Cap) } },0)).bind fun f1=>match f1 with
    | .go _=>none
    | .ex _ s1 =>
     (vested_Safe s1.1 rights_).bind fun x5=>
     if ((!x4.2) || (!x5.2)) then
      some false
     else
      if ((decide (k_ < 0)) || (decide ((rights_.length:Int) ≤ k_))) then
       some x1
      else
       (sliceI rights_ 0 k_).bind fun x6=>
       (appI [] x6).bind fun x7=>
       (addW k_ 1).bind fun x8=>
       (sliceI rights_ x8 (rights_.length:Int)).bind fun x9=>
       (appI x7 x9).bind fun x10=>
       (vested_Safe t_ x10).bind fun x11=>
       (appI [] rights_).bind fun x12=>
       (getI x12 k_).bind fun x13=>
       (some (x12.set (k_).toNat ({ x13 with Over:=true }))).bind fun x14=>
       (vested_Safe t_ x14).bind fun x15=>
       some ((x1 && x11.2) && x15.2)
    | .ret r1=>some r1
theorem law33_VestedLapses_ok {k0:K} {v0 v1 v2 v3:Value} {t_:Town} {rights_:(List Right)} {k_:Int} {more_:Int} {r:Bool} (i0:(IsV t_) v0 k0) (i1:(IsV rights_) v1 k0) (i2:(IsV k_) v2 k0) (i3:(IsV more_) v3 k0) (hr:law33_VestedLapses t_ rights_ k_ more_ = some r) :
  Calls Tryz.prog 6 #[v0,v1,v2,v3] k0.w (Ret k0 (IsV r)):=by
 unfold law33_VestedLapses at hr
 refine Ret.ofC ?_
 refine enterK Tryz.func6 rfl Tryz.ntmps6 (show 4 ≤ 141 by decide) fun a k hk0 hs hd ha=>?_
 obtain ⟨e0,e1,e2,e3,_⟩:=ha
 replace i0:(IsV t_) (a.get 0) k:=by rw [e0,hk0]; exact i0
 replace i1:(IsV rights_) (a.get 1) k:=by rw [e1,hk0]; exact i1
 replace i2:(IsV k_) (a.get 2) k:=by rw [e2,hk0]; exact i2
 replace i3:(IsV more_) (a.get 3) k:=by rw [e3,hk0]; exact i3
 have hQ:Gb.LetsOut (bodyPost Tryz.prog Tryz.f6 (RetC noF k0 (IsV r))):=letsOutC
 have hg:Chg noF k0 k:=by rw [hk0]; exact Chg.refl _ k0
 refine stepL 2 (⟨some (IsRef t_),[(0,none)]⟩::⟨some (IsV false),[]⟩::[]) rfl ⟨hg,hs,hd⟩ (by kernel_rfl) ⟨ob1 rfl fun _ _ h n=>ok_boxR rfl (up i0 h n.1),ob1 rfl fun _ _ h n=>ok_assign rfl (isV_bool.2 rfl),trivial⟩ [⟨_,_⟩,⟨_,_⟩,⟨_,_⟩,⟨_,_⟩] (fun b q p=>⟨p.ke 1 rfl i1,p.ke 2 rfl i2,p.ke 3 rfl i3,p.ou 0 4 rfl,trivial⟩) ?_
 rintro a k ⟨⟨hg,hs,hd⟩,i1,i2,i3,i4,_⟩
 refine wp_seq ?_
 obtain ⟨x1,hx1,hr⟩:=bind_some hr
 refine cut (fun a' k'=>Bs noF k0 141 a' k'∧(IsV rights_) (a'.get 1) k'∧(IsV k_) (a'.get 2) k'∧(IsV more_) (a'.get 3) k'∧(IsRef t_) (a'.get 4) k'∧(IsV x1) (a'.get 9) k'∧True) ?_ hQ ?_
 ·intro Q1 W1 w1
  refine gS 2 (_::_::[]) hs (by kernel_rfl) ⟨o1 [] rfl fun _ _ h n=>ok_call rfl Tryz.call10 (law33_small_ok hx1),cp 0 rfl rfl,trivial⟩ W1 fun b q p=>?_
  exact tail_done (k:=q) (w1 _ _ ⟨Bs.post ⟨hg,hs,hd⟩ p,p.ke 1 rfl i1,p.ke 2 rfl i2,p.ke 3 rfl i3,p.ke 4 rfl i4,p.ou 1 9 rfl,trivial⟩)
 rintro a k ⟨⟨hg,hs,hd⟩,i1,i2,i3,i4,i9,_⟩
 refine wp_seq ?_
 refine wp_seq ?_
 obtain ⟨x2,hx2,hr⟩:=bind_some hr
 refine cut (fun a' k'=>Bs noF k0 141 a' k'∧(IsV rights_) (a'.get 1) k'∧(IsV k_) (a'.get 2) k'∧(IsV more_) (a'.get 3) k'∧(IsRef t_) (a'.get 4) k'∧(IsV x1) (a'.get 9) k'∧(IsV (((!x2) || (decide (more_ < 0))) || (decide (1099511627776 < more_)))) (a'.get 36) k'∧True) ?_ hQ ?_
 ·intro Q2 W2 w2
  refine gS 12 (_::_::_::_::_::_::_::_::_::_::_::_::[]) hs (by kernel_rfl) ⟨o1 [(4,none)] rfl fun _ _ h n=>ok_load rfl ty37 ((up i4 h n.1)).ptr,mu rfl i1,o1 [(25,some 0),(26,some 1)] rfl fun _ _ h n=>ok_call rfl Tryz.call11 (law33_few_ok n.1 n.2.1 (cI rfl) hx2),o1 [(27,some 2)] rfl fun _ _ h n=>ok_not rfl n.1,cm 3 rfl rfl,mF rfl rfl i3,gF [(30,some 5)] rfl rfl fun hp _ _ h n=>ok_lss rfl (Gd.get n.1 hp) (cI rfl),o1 [(29,some 4),(31,some 6)] rfl fun _ _ h n=>ok_pickOr rfl n.1 (cB rfl) (Gd.get n.2.1),cm 7 rfl rfl,mF rfl rfl i3,gF [(34,some 9)] rfl rfl fun hp _ _ h n=>ok_gtr rfl (Gd.get n.1 hp) (cI rfl),o1 [(33,some 8),(35,some 10)] rfl fun _ _ h n=>ok_pickOr rfl n.1 (cB rfl) (Gd.get n.2.1),trivial⟩ W2 fun b q p=>?_
  exact tail_done (k:=q) (w2 _ _ ⟨Bs.post ⟨hg,hs,hd⟩ p,p.ke 1 rfl i1,p.ke 2 rfl i2,p.ke 3 rfl i3,p.ke 4 rfl i4,p.ke 9 rfl i9,p.ou 11 36 rfl,trivial⟩)
 rintro a k ⟨⟨hg,hs,hd⟩,i1,i2,i3,i4,i9,i36,_⟩
 refine wp_cond_split (isBool i36) (fun hc2812=>?_) (fun hc2812=>?_)
 ·rw [if_pos hc2812] at hr
  refine stepL 2 (_::_::[]) rfl ⟨hg,hs,hd⟩ (by kernel_rfl) ⟨mu rfl i9,cp 0 rfl rfl,trivial⟩ [⟨_,_⟩] (fun b q p=>⟨p.ou 1 8 rfl,trivial⟩) ?_
  rintro a k ⟨⟨hg,hs,hd⟩,i8,_⟩
  refine wp_ret ?_
  obtain rfl:=Option.some.inj hr
  exact retC1 rfl hd hg i8
 rw [if_neg (by rw [hc2812]; decide)] at hr
 refine wp_skip ?_
 refine wp_seq ?_
 obtain ⟨x3,hx3,hr⟩:=bind_some hr
 refine cut (fun a' k'=>Bs noF k0 141 a' k'∧(IsV rights_) (a'.get 1) k'∧(IsV k_) (a'.get 2) k'∧(IsV more_) (a'.get 3) k'∧(IsRef t_) (a'.get 4) k'∧(IsV x1) (a'.get 9) k'∧(IsV x3.2) (a'.get 11) k'∧True) ?_ hQ ?_
 ·intro Q3 W3 w3
  refine gS 7 (_::_::_::_::_::_::⟨some (IsBox k.w.heap.size (⟨0,(⟨#[]⟩:ByteArray),0⟩:Limit)),[]⟩::[]) hs (by kernel_rfl) ⟨o1 [(4,none)] rfl fun _ _ h n=>ok_load rfl ty37 ((up i4 h n.1)).ptr,mu rfl i1,o1 [(39,some 0),(40,some 1)] rfl fun _ _ h n=>ok_call rfl Tryz.call21 (vested_Safe_ok n.1 n.2.1 hx3),cm 2 rfl rfl,o1 [(38,some 3)] rfl fun _ _ h n=>ok_ext2_0 rfl n.1,o1 [(38,some 3)] rfl fun _ _ h n=>ok_ext2_1 rfl n.1,ob1 rfl fun _ _ h n=>ok_alloc _ h.size rfl z55,trivial⟩ W3 fun b q p=>?_
  have hgq:=hg.then p.grow
  have hsb:=p.size.trans hs
  have hdb:=p.defers.trans hd
  have j1:=p.ke 1 rfl i1
  have j2:=p.ke 2 rfl i2
  have j3:=p.ke 3 rfl i3
  have j4:=p.ke 4 rfl i4
  have j9:=p.ke 9 rfl i9
  obtain ⟨b10,j10,x10,z10⟩:(IsBox k.w.heap.size (⟨0,(⟨#[]⟩:ByteArray),0⟩:Limit)) (b.get 10) q:=p.ou 6 10 rfl
  replace x10:Lo k (Eq b10):=Lo.eq x10
  have y10:Lo k0 (Eq b10):=x10.chg hg
  have j42:(IsV x3.1) (b.get 42) q:=p.ou 4 42 rfl
  have j43:(IsV x3.2) (b.get 43) q:=p.ou 5 43 rfl
  have hns:=z10.nshF
  refine tail_storeB (i:=7) rfl rfl rfl rfl szf55 (Upd.self (α:=Limit)) j10 z10 j42 fun q2 hch hz=>?_
  replace hgq:=hgq.step hch y10.wr
  have hle:=hch.le hns
  replace j1:=Pers.pers hle j1
  replace j2:=Pers.pers hle j2
  replace j3:=Pers.pers hle j3
  replace j4:=Pers.pers hle j4
  replace j9:=Pers.pers hle j9
  replace j42:=Pers.pers hle j42
  replace j43:=Pers.pers hle j43
  replace z10:=hz
  clear hns hle hch
  obtain ⟨q,hqq⟩ : ∃ q,q = q2:=⟨q2,rfl⟩
  subst hqq
  refine tail_assign (i:=8) (d:=11) rfl rfl (.inl rfl) rfl (by rw [hsb]; decide) fun b2 hsz hdf hnew hoth=>?_
  have jn:(IsV x3.2) (b2.get 11) q:=by rw [hnew]; exact j43
  rw [← hoth 1 (by decide)] at j1
  rw [← hoth 2 (by decide)] at j2
  rw [← hoth 3 (by decide)] at j3
  rw [← hoth 4 (by decide)] at j4
  rw [← hoth 9 (by decide)] at j9
  rw [← hoth 10 (by decide)] at j10
  rw [← hoth 42 (by decide)] at j42
  rw [← hoth 43 (by decide)] at j43
  have j11:=jn
  replace hsb:=hsz.trans hsb
  replace hdb:=hdf.trans hdb
  clear hsz hdf hoth
  obtain ⟨b,hbb⟩ : ∃ b,b = b2:=⟨b2,rfl⟩
  subst hbb
  exact tail_done (k:=q) (w3 _ _ ⟨⟨hgq,hsb,hdb⟩,j1,j2,j3,j4,j9,j11,trivial⟩)
 rintro a k ⟨⟨hg,hs,hd⟩,i1,i2,i3,i4,i9,i11,_⟩
 refine wp_seq ?_
 refine stepL 2 (_::_::[]) rfl ⟨hg,hs,hd⟩ (by kernel_rfl) ⟨mu rfl i11,o1 [(44,some 0)] rfl fun _ _ h n=>ok_not rfl n.1,trivial⟩ [⟨_,_⟩,⟨_,_⟩,⟨_,_⟩,⟨_,_⟩,⟨_,_⟩,⟨_,_⟩] (fun b q p=>⟨p.ke 1 rfl i1,p.ke 2 rfl i2,p.ke 3 rfl i3,p.ke 4 rfl i4,p.ke 9 rfl i9,p.ou 1 45 rfl,trivial⟩) ?_
 rintro a k ⟨⟨hg,hs,hd⟩,i1,i2,i3,i4,i9,i45,_⟩
 refine wp_cond_split (isBool i45) (fun hc2807=>?_) (fun hc2807=>?_)
 ·rw [if_pos hc2807] at hr
  refine stepL 2 (_::_::[]) rfl ⟨hg,hs,hd⟩ (by kernel_rfl) ⟨mu rfl i9,cp 0 rfl rfl,trivial⟩ [⟨_,_⟩] (fun b q p=>⟨p.ou 1 8 rfl,trivial⟩) ?_
  rintro a k ⟨⟨hg,hs,hd⟩,i8,_⟩
  refine wp_ret ?_
  obtain rfl:=Option.some.inj hr
  exact retC1 rfl hd hg i8
 rw [if_neg (by rw [hc2807]; decide)] at hr
 refine wp_skip ?_
 refine wp_seq ?_
 obtain ⟨x4,hx4,hr⟩:=bind_some hr
 refine cut (fun a' k'=>Bs noF k0 141 a' k'∧(IsV rights_) (a'.get 1) k'∧(IsV k_) (a'.get 2) k'∧(IsV more_) (a'.get 3) k'∧(IsRef t_) (a'.get 4) k'∧(IsV x1) (a'.get 9) k'∧(IsV x4.2) (a'.get 13) k'∧True) ?_ hQ ?_
 ·intro Q4 W4 w4
  refine gS 6 (_::_::_::_::_::⟨some (IsBox k.w.heap.size (⟨0,(⟨#[]⟩:ByteArray),0⟩:Limit)),[]⟩::[]) hs (by kernel_rfl) ⟨o1 [(4,none)] rfl fun _ _ h n=>ok_load rfl ty37 ((up i4 h n.1)).ptr,o1 [(48,some 0)] rfl fun _ _ h n=>ok_call rfl Tryz.call19 (vested_Keeps_ok n.1 hx4),cm 1 rfl rfl,o1 [(47,some 2)] rfl fun _ _ h n=>ok_ext2_0 rfl n.1,o1 [(47,some 2)] rfl fun _ _ h n=>ok_ext2_1 rfl n.1,ob1 rfl fun _ _ h n=>ok_alloc _ h.size rfl z55,trivial⟩ W4 fun b q p=>?_
  have hgq:=hg.then p.grow
  have hsb:=p.size.trans hs
  have hdb:=p.defers.trans hd
  have j1:=p.ke 1 rfl i1
  have j2:=p.ke 2 rfl i2
  have j3:=p.ke 3 rfl i3
  have j4:=p.ke 4 rfl i4
  have j9:=p.ke 9 rfl i9
  obtain ⟨b12,j12,x12,z12⟩:(IsBox k.w.heap.size (⟨0,(⟨#[]⟩:ByteArray),0⟩:Limit)) (b.get 12) q:=p.ou 5 12 rfl
  replace x12:Lo k (Eq b12):=Lo.eq x12
  have y12:Lo k0 (Eq b12):=x12.chg hg
  have j50:(IsV x4.1) (b.get 50) q:=p.ou 3 50 rfl
  have j51:(IsV x4.2) (b.get 51) q:=p.ou 4 51 rfl
  have hns:=z12.nshF
  refine tail_storeB (i:=6) rfl rfl rfl rfl szf55 (Upd.self (α:=Limit)) j12 z12 j50 fun q2 hch hz=>?_
  replace hgq:=hgq.step hch y12.wr
  have hle:=hch.le hns
  replace j1:=Pers.pers hle j1
  replace j2:=Pers.pers hle j2
  replace j3:=Pers.pers hle j3
  replace j4:=Pers.pers hle j4
  replace j9:=Pers.pers hle j9
  replace j50:=Pers.pers hle j50
  replace j51:=Pers.pers hle j51
  replace z12:=hz
  clear hns hle hch
  obtain ⟨q,hqq⟩ : ∃ q,q = q2:=⟨q2,rfl⟩
  subst hqq
  refine tail_assign (i:=7) (d:=13) rfl rfl (.inl rfl) rfl (by rw [hsb]; decide) fun b2 hsz hdf hnew hoth=>?_
  have jn:(IsV x4.2) (b2.get 13) q:=by rw [hnew]; exact j51
  rw [← hoth 1 (by decide)] at j1
  rw [← hoth 2 (by decide)] at j2
  rw [← hoth 3 (by decide)] at j3
  rw [← hoth 4 (by decide)] at j4
  rw [← hoth 9 (by decide)] at j9
  rw [← hoth 12 (by decide)] at j12
  rw [← hoth 50 (by decide)] at j50
  rw [← hoth 51 (by decide)] at j51
  have j13:=jn
  replace hsb:=hsz.trans hsb
  replace hdb:=hdf.trans hdb
  clear hsz hdf hoth
  obtain ⟨b,hbb⟩ : ∃ b,b = b2:=⟨b2,rfl⟩
  subst hbb
  exact tail_done (k:=q) (w4 _ _ ⟨⟨hgq,hsb,hdb⟩,j1,j2,j3,j4,j9,j13,trivial⟩)
 rintro a k ⟨⟨hg,hs,hd⟩,i1,i2,i3,i4,i9,i13,_⟩
 refine cutS (fun c l=>Bs noF k0 141 c l∧IsV rights_ (c.get 1) l∧IsV k_ (c.get 2) l∧IsV more_ (c.get 3) l∧IsRef t_ (c.get 4) l∧IsV x1 (c.get 9) l∧IsV x4.2 (c.get 13) l∧(∃ b14,c.get 14 = .pointer (some ⟨b14,0,none⟩)∧Lo k0 (Eq b14)∧Gb.Box b14 t_ l∧True)) ?_ ?_
 ·intro Q5 W5 w5
  refine gS 2 (_::⟨some (IsBox k.w.heap.size (⟨(⟨[],[],[],[],[],[],[],0⟩:Plan),[],[],[],[],[]⟩:Town)),[]⟩::[]) hs (by kernel_rfl) ⟨o1 [(4,none)] rfl fun _ _ h n=>ok_load rfl ty37 ((up i4 h n.1)).ptr,ob1 rfl fun _ _ h n=>ok_alloc _ h.size rfl z37,trivial⟩ W5 fun b q p=>?_
  have hgq:=hg.then p.grow
  have hsb:=p.size.trans hs
  have hdb:=p.defers.trans hd
  have j1:=p.ke 1 rfl i1
  have j2:=p.ke 2 rfl i2
  have j3:=p.ke 3 rfl i3
  have j4:=p.ke 4 rfl i4
  have j9:=p.ke 9 rfl i9
  have j13:=p.ke 13 rfl i13
  obtain ⟨b14,j14,x14,z14⟩:(IsBox k.w.heap.size (⟨(⟨[],[],[],[],[],[],[],0⟩:Plan),[],[],[],[],[]⟩:Town)) (b.get 14) q:=p.ou 1 14 rfl
  replace x14:Lo k (Eq b14):=Lo.eq x14
  have y14:Lo k0 (Eq b14):=x14.chg hg
  have j52:(IsV t_) (b.get 52) q:=p.ou 0 52 rfl
  have hns:=z14.nshF
  refine tail_storeB (i:=2) rfl rfl rfl rfl szf37 (Upd.self (α:=Town)) j14 z14 j52 fun q2 hch hz=>?_
  replace hgq:=hgq.step hch y14.wr
  have hle:=hch.le hns
  replace j1:=Pers.pers hle j1
  replace j2:=Pers.pers hle j2
  replace j3:=Pers.pers hle j3
  replace j4:=Pers.pers hle j4
  replace j9:=Pers.pers hle j9
  replace j13:=Pers.pers hle j13
  replace j52:=Pers.pers hle j52
  replace z14:=hz
  clear hns hle hch
  obtain ⟨q,hqq⟩ : ∃ q,q = q2:=⟨q2,rfl⟩
  subst hqq
  exact tail_done (k:=q) (w5 _ _ ⟨⟨hgq,hsb,hdb⟩,j1,j2,j3,j4,j9,j13,b14,j14,y14,z14,trivial⟩)
 rintro a k ⟨⟨hg,hs,hd⟩,i1,i2,i3,i4,i9,i13,b14,i14,n14,c14,_⟩
 refine cutS (fun c l=>∃ F14,Bs noF k0 141 c l∧IsV rights_ (c.get 1) l∧IsV k_ (c.get 2) l∧IsV more_ (c.get 3) l∧IsRef t_ (c.get 4) l∧IsV x1 (c.get 9) l∧IsV x4.2 (c.get 13) l∧(BoxH b14 [ho_37_0_30_4] [ho_37_0_30_4] ({ t_ with Plan:={ t_.Plan with Caps:=([]:List Cap) } })) F14 (c.get 14) l∧Lo k0 F14∧True) ?_ ?_
 ·intro Q6 W6 w6
  refine gS 2 (_::_::[]) hs (by kernel_rfl) ⟨o1 [(14,none)] rfl fun _ _ h n=>ok_fieldAdr rfl fo37_0 (upE i14 n.1),o1 [(53,some 0)] rfl fun _ _ h n=>ok_fieldAdr2 rfl fo30_4 n.1,trivial⟩ W6 fun b q p=>?_
  have hgq:=hg.then p.grow
  have hsb:=p.size.trans hs
  have hdb:=p.defers.trans hd
  have j1:=p.ke 1 rfl i1
  have j2:=p.ke 2 rfl i2
  have j3:=p.ke 3 rfl i3
  have j4:=p.ke 4 rfl i4
  have j9:=p.ke 9 rfl i9
  have j13:=p.ke 13 rfl i13
  have j14:=upE i14 (p.old 14 rfl)
  have z14:=Gb.Box.grow c14 p.grow
  have y14:=n14
  have j54:IsAdr b14 (0 + 4) (b.get 54) q:=p.ou 1 54 rfl
  obtain ⟨F14,jn,hFe⟩ : ∃ F,BoxH b14 [ho_37_0_30_4] [] t_ F (b.get 14) q∧F = Eq b14:=⟨_,Box.open z14 hu_37_0_30_4 j14,rfl⟩
  replace j14:=jn
  replace y14:Lo k0 F14:=by rw [hFe]; exact y14
  clear jn hFe z14
  refine tail_storeH (i:=2) (g:=ho_37_0_30_4) (x':=({ t_ with Plan:={ t_.Plan with Caps:=([]:List Cap) } }:Town)) rfl rfl rfl rfl szf26 j54 j14 (by decide) ⟨_,(.head _),rfl⟩ rfl (fun _ _ _ h=>h) (fun _ h=>nomatch h) (show IsOwn 0 71 ([]:List Cap) _ _ from .inl ⟨rfl,rfl⟩) (fun c h=>by simp [obF,ob,Act.eval] at h) fun q2 FF hch hz hF=>?_
  have hns:=Rsc.nsh j14
  have hle:=hch.le hns
  replace hgq:=hgq.step hch y14.wr
  replace j1:=Pers.pers hle j1
  replace j2:=Pers.pers hle j2
  replace j3:=Pers.pers hle j3
  replace j4:=Pers.pers hle j4
  replace j9:=Pers.pers hle j9
  replace j13:=Pers.pers hle j13
  replace j54:=Pers.pers hle j54
  have yn:Lo k0 FF:=fun c h=>(hF c h).elim (fun h=>y14 c h) (fun h=>absurd h (by simp [obF,ob,Act.eval]))
  clear hns hle hch hF
  obtain ⟨F14,hFe⟩ : ∃ F,F = FF:=⟨FF,rfl⟩
  subst hFe
  replace j14:=hz
  replace y14:=yn
  clear hz yn
  obtain ⟨q,hqq⟩ : ∃ q,q = q2:=⟨q2,rfl⟩
  subst hqq
  exact tail_done (k:=q) (w6 _ _ ⟨F14,⟨hgq,hsb,hdb⟩,j1,j2,j3,j4,j9,j13,j14,y14,trivial⟩)
 rintro a k ⟨F14,⟨hg,hs,hd⟩,i1,i2,i3,i4,i9,i13,i14,n14,_⟩
 refine wp_seq ?_
 refine cutS (fun c l=>∃ F14,Bs noF k0 141 c l∧IsV rights_ (c.get 1) l∧IsV k_ (c.get 2) l∧IsV more_ (c.get 3) l∧IsRef t_ (c.get 4) l∧IsV x1 (c.get 9) l∧IsV x4.2 (c.get 13) l∧(BoxH b14 [ho_37_0_30_4] [ho_37_0_30_4] ({ t_ with Plan:={ t_.Plan with Caps:=([]:List Cap) } })) F14 (c.get 14) l∧Lo k0 F14∧IsI 0 (c.get 15) l∧True) ?_ ?_
 ·intro Q7 W7 w7
  refine gS 1 (⟨some (IsI 0),[]⟩::[]) hs (by kernel_rfl) ⟨aI rfl rfl,trivial⟩ W7 fun b q p=>?_
  exact tail_done (k:=q) (w7 _ _ ⟨F14,Bs.post ⟨hg,hs,hd⟩ p,p.ke 1 rfl i1,p.ke 2 rfl i2,p.ke 3 rfl i3,p.ke 4 rfl i4,p.ke 9 rfl i9,p.ke 13 rfl i13,p.ke 14 rfl i14,n14,p.ou 0 15 rfl,trivial⟩)
 rintro a k ⟨F14,⟨hg,hs,hd⟩,i1,i2,i3,i4,i9,i13,i14,n14,i15,_⟩
 refine wp_block ?_
 obtain ⟨f1,hf1,hr⟩:=bind_some hr
 refine cutFe f1 (fun s' c l=>∃ F14,Bs noF k0 141 c l∧IsV rights_ (c.get 1) l∧IsV k_ (c.get 2) l∧IsV more_ (c.get 3) l∧IsRef t_ (c.get 4) l∧IsV x1 (c.get 9) l∧IsV x4.2 (c.get 13) l∧(BoxH b14 [ho_37_0_30_4] [ho_37_0_30_4] s'.1) F14 (c.get 14) l∧Lo k0 F14∧IsV s'.2 (c.get 15) l∧True) (fun i' s' c l=>(i' = 0∧Bs noF k0 141 c l∧IsV rights_ (c.get 1) l∧IsV k_ (c.get 2) l∧IsRef t_ (c.get 4) l∧IsV x1 (c.get 9) l∧IsV x4.2 (c.get 13) l∧c.get 14 = .pointer (some ⟨b14,0,none⟩)∧Lo k0 (Eq b14)∧Gb.Box b14 s'.1 l∧True)) (fun r' c l=>bodyPost Tryz.prog Tryz.f6 (RetC noF k0 (IsV r')) .ret c l.w) ?_ hQ ?_ ?_ ?_
 ·intro Q8 W8 hgo hex hret
  refine sim_loop ?_ _ _ _ _ _ hf1 ⟨F14,⟨hg,hs,hd⟩,i1,i2,i3,i4,i9,i13,i14,n14,i15,trivial⟩ Q8 W8 hgo hex hret
  clear hr hf1 hgo hex hret W8 hQ hg hs hd F14 i1 i13 i14 i15 i2 i3 i4 i9 n14
  intro s1 fl_ a k hr hS Q hQ hgo2742 hex2743 hret2744
  obtain ⟨F14,⟨hg,hs,hd⟩,i1,i2,i3,i4,i9,i13,i14,n14,i15,_⟩:=hS
  unfold law33_VestedLapses_L0 at hr
  refine wp_seq ?_
  refine cutS (fun c l=>∃ F14,Bs noF k0 141 c l∧IsV rights_ (c.get 1) l∧IsV k_ (c.get 2) l∧IsV more_ (c.get 3) l∧IsRef t_ (c.get 4) l∧IsV x1 (c.get 9) l∧IsV x4.2 (c.get 13) l∧(BoxH b14 [ho_37_0_30_4] [ho_37_0_30_4] s1.1) F14 (c.get 14) l∧Lo k0 F14∧IsV s1.2 (c.get 15) l∧(IsV (decide (s1.2 < (t_.Plan.Caps.length:Int)))) (c.get 60) l∧True) ?_ ?_
  ·intro Q9 W9 w8
   refine gS 6 (_::_::_::_::_::_::[]) hs (by kernel_rfl) ⟨mu rfl i15,o1 [(4,none)] rfl fun _ _ h n=>ok_fieldAddr rfl fo37_0 (at_Town_0 _) ((up i4 h n.1)).ptr,o1 [(56,some 1)] rfl fun _ _ h n=>ok_fieldAddr rfl fo30_4 (at_Plan_4 _) n.1,o1 [(57,some 2)] rfl fun _ _ h n=>ok_load rfl ty26 n.1,o1 [(58,some 3)] rfl fun _ _ h n=>ok_len rfl rfl Tryz.underlying26 (IsV.rd n.1),o1 [(55,some 0),(59,some 4)] rfl fun _ _ h n=>ok_lss rfl n.1 n.2.1,trivial⟩ W9 fun b q p=>?_
   exact tail_done (k:=q) (w8 _ _ ⟨F14,Bs.post ⟨hg,hs,hd⟩ p,p.ke 1 rfl i1,p.ke 2 rfl i2,p.ke 3 rfl i3,p.ke 4 rfl i4,p.ke 9 rfl i9,p.ke 13 rfl i13,p.ke 14 rfl i14,n14,p.ke 15 rfl i15,p.ou 5 60 rfl,trivial⟩)
  rintro a k ⟨F14,⟨hg,hs,hd⟩,i1,i2,i3,i4,i9,i13,i14,n14,i15,i60,_⟩
  refine wp_cond_split (isBool i60) (fun hc2759=>?_) (fun hc2759=>?_)
  ·rw [if_pos hc2759] at hr
   refine wp_skip ?_
   refine wp_seq ?_
   refine wp_block ?_
   refine wp_seq ?_
   obtain ⟨x5,hx5,hr⟩:=bind_some hr
   refine cut (fun a' k'=>∃ F14,Bs noF k0 141 a' k'∧(IsV rights_) (a'.get 1) k'∧(IsV k_) (a'.get 2) k'∧(IsV more_) (a'.get 3) k'∧(IsRef t_) (a'.get 4) k'∧(IsV x1) (a'.get 9) k'∧(IsV x4.2) (a'.get 13) k'∧(BoxH b14 [ho_37_0_30_4] [ho_37_0_30_4] s1.1) F14 (a'.get 14) k'∧Lo k0 F14∧(IsV s1.2) (a'.get 15) k'∧(∃ b16,a'.get 16 = .pointer (some ⟨b16,0,none⟩)∧Lo k0 (Eq b16)∧Gb.Box b16 x5 k'∧Apart F14 (Eq b16)∧True)) ?_ hQ ?_
   ·intro Q10 W10 w9
    refine gS 7 (_::_::_::_::_::_::⟨some (IsBox k.w.heap.size (⟨(⟨#[]⟩:ByteArray),0,0,[]⟩:Cap)),[]⟩::[]) hs (by kernel_rfl) ⟨o1 [(4,none)] rfl fun _ _ h n=>ok_fieldAddr rfl fo37_0 (at_Town_0 _) ((up i4 h n.1)).ptr,o1 [(63,some 0)] rfl fun _ _ h n=>ok_fieldAddr rfl fo30_4 (at_Plan_4 _) n.1,o1 [(64,some 1)] rfl fun _ _ h n=>ok_load rfl ty26 n.1,mu rfl i15,o1 [(65,some 2),(66,some 3)] rfl fun _ _ h n=>ok_indexAddr rfl Tryz.underlying26 ty71 (IsV.rd n.1) n.2.1 hx5,o1 [(67,some 4)] rfl fun _ _ h n=>ok_load rfl ty71 n.1,ob1 rfl fun _ _ h n=>ok_alloc _ h.size rfl z71,trivial⟩ W10 fun b q p=>?_
    have hgq:=hg.then p.grow
    have hsb:=p.size.trans hs
    have hdb:=p.defers.trans hd
    have j1:=p.ke 1 rfl i1
    have j2:=p.ke 2 rfl i2
    have j3:=p.ke 3 rfl i3
    have j4:=p.ke 4 rfl i4
    have j9:=p.ke 9 rfl i9
    have j13:=p.ke 13 rfl i13
    have j14:(BoxH b14 [ho_37_0_30_4] [ho_37_0_30_4] s1.1) F14 (b.get 14) q:=p.ke 14 rfl i14
    have y14:=n14
    have j15:=p.ke 15 rfl i15
    obtain ⟨b16,j16,x16,z16⟩:(IsBox k.w.heap.size (⟨(⟨#[]⟩:ByteArray),0,0,[]⟩:Cap)) (b.get 16) q:=p.ou 6 16 rfl
    replace x16:Lo k (Eq b16):=Lo.eq x16
    have y16:Lo k0 (Eq b16):=x16.chg hg
    have j68:(IsV x5) (b.get 68) q:=p.ou 5 68 rfl
    have w14_16:Apart F14 (Eq b16):=Apart.new (Rsc.lt i14) x16
    have hns:=z16.nshF
    refine tail_storeB (i:=7) rfl rfl rfl rfl szf71 (Upd.self (α:=Cap)) j16 z16 j68 fun q2 hch hz=>?_
    replace hgq:=hgq.step hch y16.wr
    have hle:=hch.le hns
    replace j1:=Pers.pers hle j1
    replace j2:=Pers.pers hle j2
    replace j3:=Pers.pers hle j3
    replace j4:=Pers.pers hle j4
    replace j9:=Pers.pers hle j9
    replace j13:=Pers.pers hle j13
    replace j14:=Rsc.keep j14 hch w14_16 hns
    replace j15:=Pers.pers hle j15
    replace j68:=Pers.pers hle j68
    replace z16:=hz
    clear hns hle hch
    obtain ⟨q,hqq⟩ : ∃ q,q = q2:=⟨q2,rfl⟩
    subst hqq
    exact tail_done (k:=q) (w9 _ _ ⟨F14,⟨hgq,hsb,hdb⟩,j1,j2,j3,j4,j9,j13,j14,y14,j15,b16,j16,y16,z16,w14_16,trivial⟩)
   rintro a k ⟨F14,⟨hg,hs,hd⟩,i1,i2,i3,i4,i9,i13,i14,n14,i15,b16,i16,n16,c16,d14_16,_⟩
   refine wp_seq ?_
   obtain ⟨x6,hx6,hr⟩:=bind_some hr
   refine cut (fun a' k'=>∃ F14,Bs noF k0 141 a' k'∧(IsV rights_) (a'.get 1) k'∧(IsV k_) (a'.get 2) k'∧(IsV more_) (a'.get 3) k'∧(IsRef t_) (a'.get 4) k'∧(IsV x1) (a'.get 9) k'∧(IsV x4.2) (a'.get 13) k'∧(BoxH b14 [ho_37_0_30_4] [ho_37_0_30_4] s1.1) F14 (a'.get 14) k'∧Lo k0 F14∧(IsV s1.2) (a'.get 15) k'∧a'.get 16 = .pointer (some ⟨b16,0,none⟩)∧Lo k0 (Eq b16)∧Gb.Box b16 ({ x5 with Limit:=(max x5.Limit x6) }) k'∧Apart F14 (Eq b16)∧True) ?_ hQ ?_
   ·intro Q11 W11 w10
    refine gS 8 (_::_::_::_::_::⟨some (IsV x6),[(72,some 3),(73,some 4)]⟩::_::_::[]) hs (by kernel_rfl) ⟨o1 [(16,none)] rfl fun _ _ h n=>ok_fieldAddr rfl fo71_2 (at_Cap_2 _) ⟨_,(upE i16 n.1),(c16.grow h).at⟩,o1 [(69,some 0)] rfl fun _ _ h n=>ok_load rfl ty3 n.1,o1 [(16,none)] rfl fun _ _ h n=>ok_fieldAddr rfl fo71_2 (at_Cap_2 _) ⟨_,(upE i16 n.1),(c16.grow h).at⟩,o1 [(71,some 2)] rfl fun _ _ h n=>ok_load rfl ty3 n.1,mu rfl i3,ob1 rfl fun _ _ h n=>ok_addW rfl n.1 n.2.1 hx6,o1 [(70,some 1),(74,some 5)] rfl fun _ _ h n=>ok_max2 rfl n.1 n.2.1,o1 [(16,none)] rfl fun _ _ h n=>ok_fieldAdr rfl fo71_2 (upE i16 n.1),trivial⟩ W11 fun b q p=>?_
    have hgq:=hg.then p.grow
    have hsb:=p.size.trans hs
    have hdb:=p.defers.trans hd
    have j1:=p.ke 1 rfl i1
    have j2:=p.ke 2 rfl i2
    have j3:=p.ke 3 rfl i3
    have j4:=p.ke 4 rfl i4
    have j9:=p.ke 9 rfl i9
    have j13:=p.ke 13 rfl i13
    have j14:(BoxH b14 [ho_37_0_30_4] [ho_37_0_30_4] s1.1) F14 (b.get 14) q:=p.ke 14 rfl i14
    have y14:=n14
    have j15:=p.ke 15 rfl i15
    have j16:=upE i16 (p.old 16 rfl)
    have z16:=Gb.Box.grow c16 p.grow
    have y16:=n16
    have j75:(IsI (max x5.Limit x6)) (b.get 75) q:=p.ou 6 75 rfl
    have j76:IsAdr b16 (2) (b.get 76) q:=p.ou 7 76 rfl
    have w14_16:Apart F14 (Eq b16):=by exact d14_16
    have hns:=z16.nshF
    refine tail_storeB (i:=8) rfl rfl rfl rfl szf3 upd_F71_2 j76 z16 j75 fun q2 hch hz=>?_
    replace hgq:=hgq.step hch y16.wr
    have hle:=hch.le hns
    replace j1:=Pers.pers hle j1
    replace j2:=Pers.pers hle j2
    replace j3:=Pers.pers hle j3
    replace j4:=Pers.pers hle j4
    replace j9:=Pers.pers hle j9
    replace j13:=Pers.pers hle j13
    replace j14:=Rsc.keep j14 hch w14_16 hns
    replace j15:=Pers.pers hle j15
    replace j75:=Pers.pers hle j75
    replace j76:=Pers.pers hle j76
    replace z16:=hz
    clear hns hle hch
    obtain ⟨q,hqq⟩ : ∃ q,q = q2:=⟨q2,rfl⟩
    subst hqq
    exact tail_done (k:=q) (w10 _ _ ⟨F14,⟨hgq,hsb,hdb⟩,j1,j2,j3,j4,j9,j13,j14,y14,j15,j16,y16,z16,w14_16,trivial⟩)
   rintro a k ⟨F14,⟨hg,hs,hd⟩,i1,i2,i3,i4,i9,i13,i14,n14,i15,i16,n16,c16,d14_16,_⟩
   obtain ⟨x7,hx7,hr⟩:=bind_some hr
   refine cut (fun a' k'=>∃ F14,Bs noF k0 141 a' k'∧(IsV rights_) (a'.get 1) k'∧(IsV k_) (a'.get 2) k'∧(IsV more_) (a'.get 3) k'∧(IsRef t_) (a'.get 4) k'∧(IsV x1) (a'.get 9) k'∧(IsV x4.2) (a'.get 13) k'∧(BoxH b14 [ho_37_0_30_4] [ho_37_0_30_4] ({ s1.1 with Plan:={ s1.1.Plan with Caps:=x7 } })) F14 (a'.get 14) k'∧Lo k0 F14∧(IsV s1.2) (a'.get 15) k'∧True) ?_ hQ ?_
   ·intro Q12 W12 w11
    refine gS 5 (_::_::⟨some (HdAt b14 ho_37_0_30_4.off),[(78,some 1)]⟩::_::⟨some (IsV (α:=(List Cap)) ([{ x5 with Limit:=(max x5.Limit x6) }])),[(80,some 3)]⟩::[]) hs (by kernel_rfl) ⟨o1 [(14,none)] rfl fun _ _ h n=>ok_fieldAdr rfl fo37_0 (upE (BoxH.ptr i14) n.1),o1 [(77,some 0)] rfl fun _ _ h n=>ok_fieldAdr2 rfl fo30_4 n.1,ob1 rfl fun _ _ h n=>ok_loadH (g:=ho_37_0_30_4) rfl Tryz.underlying26 szf26 n.1 (Rsc.grow i14 h) (.head _),o1 [(16,none)] rfl fun _ _ h n=>ok_load rfl ty71 ⟨_,(upE i16 n.1),(c16.grow h).at⟩,ob1 rfl fun _ _ h n=>ok_buildSlice rfl Tryz.underlying26 eo71 rfl (by decide) (by decide) ⟨rfl,n.1,trivial⟩,trivial⟩ W12 fun b q p=>?_
    have hgq:=hg.then p.grow
    have hsb:=p.size.trans hs
    have hdb:=p.defers.trans hd
    have j1:=p.ke 1 rfl i1
    have j2:=p.ke 2 rfl i2
    have j3:=p.ke 3 rfl i3
    have j4:=p.ke 4 rfl i4
    have j9:=p.ke 9 rfl i9
    have j13:=p.ke 13 rfl i13
    have j14:(BoxH b14 [ho_37_0_30_4] [ho_37_0_30_4] s1.1) F14 (b.get 14) q:=p.ke 14 rfl i14
    have y14:=n14
    have j15:=p.ke 15 rfl i15
    have j79:(HdAt b14 ho_37_0_30_4.off) (b.get 79) q:=p.ou 2 79 rfl
    have j81:(IsV (α:=(List Cap)) ([{ x5 with Limit:=(max x5.Limit x6) }])) (b.get 81) q:=p.ou 4 81 rfl
    obtain ⟨F14,jt,jo,jw,jf,je⟩:=BoxH.take j14 j79
    have y79:Lo k0 (obF (b.get 79)):=fun c h=>y14 c (je c h)
    replace y14:Lo k0 F14:=fun c h=>y14 c (jf c h)
    replace j14:=jt
    replace j79:IsOwn 0 71 s1.1.Plan.Caps (b.get 79) q:=jo
    have w14_79:Apart F14 (obF (b.get 79)):=(jw).symm
    clear jt jo jw jf je
    have hns:=j79.nshF
    refine tail_appendS (i:=5) (d:=82) rfl rfl rfl rfl (by rw [hsb]; decide) (e:=71) Tryz.underlying26 eo71 j79 (IsV.rd j81) hx7 fun b2 q2 hsz hdf hoth hch hown hob=>?_
    have hle:=hch.le hns
    have yn:Lo k0 (obF (b2.get 82)):=y79.app hgq hob
    have v14:Apart F14 (obF (b2.get 82)):=Apart.app w14_79 (Rsc.lt j14) hob
    replace j1:=Pers.pers hle j1
    replace j2:=Pers.pers hle j2
    replace j3:=Pers.pers hle j3
    replace j4:=Pers.pers hle j4
    replace j9:=Pers.pers hle j9
    replace j13:=Pers.pers hle j13
    replace j14:=Rsc.keep j14 hch w14_79 hns
    replace j15:=Pers.pers hle j15
    replace j81:=Pers.pers hle j81
    replace hgq:=hgq.step hch y79.wr
    rw [← hoth 1 (by decide)] at j1
    rw [← hoth 2 (by decide)] at j2
    rw [← hoth 3 (by decide)] at j3
    rw [← hoth 4 (by decide)] at j4
    rw [← hoth 9 (by decide)] at j9
    rw [← hoth 13 (by decide)] at j13
    rw [← hoth 14 (by decide)] at j14
    rw [← hoth 15 (by decide)] at j15
    rw [← hoth 81 (by decide)] at j81
    have w14_82:=v14
    have j82:=hown
    have y82:=yn
    replace hsb:=hsz.trans hsb
    replace hdb:=hdf.trans hdb
    clear hle hch hown hob hns yn hsz hdf hoth
    obtain ⟨b,hbb⟩ : ∃ b,b = b2:=⟨b2,rfl⟩
    subst hbb
    obtain ⟨q,hqq⟩ : ∃ q,q = q2:=⟨q2,rfl⟩
    subst hqq
    refine tail_does (R:=IsAdr b14 (0)) (i:=6) (d:=83) rfl rfl rfl (by rw [hsb]; decide) W12 (ok_fieldAdr rfl fo37_0 (BoxH.ptr j14)) fun b2 q2 hsz hdf hoth hgr hnew=>?_
    replace j1:=Pers.pers hgr.le j1
    replace j2:=Pers.pers hgr.le j2
    replace j3:=Pers.pers hgr.le j3
    replace j4:=Pers.pers hgr.le j4
    replace j9:=Pers.pers hgr.le j9
    replace j13:=Pers.pers hgr.le j13
    replace j14:=Rsc.grow j14 hgr
    replace j15:=Pers.pers hgr.le j15
    replace j81:=Pers.pers hgr.le j81
    replace j82:=Mono.mono hgr j82
    replace hgq:=hgq.then hgr
    rw [← hoth 1 (by decide)] at j1
    rw [← hoth 2 (by decide)] at j2
    rw [← hoth 3 (by decide)] at j3
    rw [← hoth 4 (by decide)] at j4
    rw [← hoth 9 (by decide)] at j9
    rw [← hoth 13 (by decide)] at j13
    rw [← hoth 14 (by decide)] at j14
    rw [← hoth 15 (by decide)] at j15
    rw [← hoth 81 (by decide)] at j81
    rw [← hoth 82 (by decide)] at j82
    rw [← hoth 82 (by decide)] at y82
    rw [← hoth 82 (by decide)] at w14_82
    have j83:=hnew
    replace hsb:=hsz.trans hsb
    replace hdb:=hdf.trans hdb
    clear hgr hsz hdf hoth hnew
    obtain ⟨b,hbb⟩ : ∃ b,b = b2:=⟨b2,rfl⟩
    subst hbb
    obtain ⟨q,hqq⟩ : ∃ q,q = q2:=⟨q2,rfl⟩
    subst hqq
    refine tail_does (R:=IsAdr b14 (0 + 4)) (i:=7) (d:=84) rfl rfl rfl (by rw [hsb]; decide) W12 (ok_fieldAdr2 rfl fo30_4 j83) fun b2 q2 hsz hdf hoth hgr hnew=>?_
    replace j1:=Pers.pers hgr.le j1
    replace j2:=Pers.pers hgr.le j2
    replace j3:=Pers.pers hgr.le j3
    replace j4:=Pers.pers hgr.le j4
    replace j9:=Pers.pers hgr.le j9
    replace j13:=Pers.pers hgr.le j13
    replace j14:=Rsc.grow j14 hgr
    replace j15:=Pers.pers hgr.le j15
    replace j81:=Pers.pers hgr.le j81
    replace j82:=Mono.mono hgr j82
    replace j83:=Pers.pers hgr.le j83
    replace hgq:=hgq.then hgr
    rw [← hoth 1 (by decide)] at j1
    rw [← hoth 2 (by decide)] at j2
    rw [← hoth 3 (by decide)] at j3
    rw [← hoth 4 (by decide)] at j4
    rw [← hoth 9 (by decide)] at j9
    rw [← hoth 13 (by decide)] at j13
    rw [← hoth 14 (by decide)] at j14
    rw [← hoth 15 (by decide)] at j15
    rw [← hoth 81 (by decide)] at j81
    rw [← hoth 82 (by decide)] at j82
    rw [← hoth 82 (by decide)] at y82
    rw [← hoth 83 (by decide)] at j83
    rw [← hoth 82 (by decide)] at w14_82
    have j84:=hnew
    replace hsb:=hsz.trans hsb
    replace hdb:=hdf.trans hdb
    clear hgr hsz hdf hoth hnew
    obtain ⟨b,hbb⟩ : ∃ b,b = b2:=⟨b2,rfl⟩
    subst hbb
    obtain ⟨q,hqq⟩ : ∃ q,q = q2:=⟨q2,rfl⟩
    subst hqq
    refine tail_storeH (i:=8) (g:=ho_37_0_30_4) (x':=({ s1.1 with Plan:={ s1.1.Plan with Caps:=x7 } }:Town)) rfl rfl rfl rfl szf26 j84 j14 (by decide) ⟨_,(.head _),rfl⟩ rfl (fun _ _ _ h=>h) (fun _ h=>nomatch h) j82 (w14_82.symm) fun q2 FF hch hz hF=>?_
    have hns:=Rsc.nsh j14
    have hle:=hch.le hns
    replace hgq:=hgq.step hch y14.wr
    replace j1:=Pers.pers hle j1
    replace j2:=Pers.pers hle j2
    replace j3:=Pers.pers hle j3
    replace j4:=Pers.pers hle j4
    replace j9:=Pers.pers hle j9
    replace j13:=Pers.pers hle j13
    replace j15:=Pers.pers hle j15
    replace j81:=Pers.pers hle j81
    replace j83:=Pers.pers hle j83
    replace j84:=Pers.pers hle j84
    have yn:Lo k0 FF:=fun c h=>(hF c h).elim (fun h=>y14 c h) (fun h=>y82 c h)
    clear hns hle hch hF
    obtain ⟨F14,hFe⟩ : ∃ F,F = FF:=⟨FF,rfl⟩
    subst hFe
    replace j14:=hz
    replace y14:=yn
    clear hz yn
    obtain ⟨q,hqq⟩ : ∃ q,q = q2:=⟨q2,rfl⟩
    subst hqq
    exact tail_done (k:=q) (w11 _ _ ⟨F14,⟨hgq,hsb,hdb⟩,j1,j2,j3,j4,j9,j13,j14,y14,j15,trivial⟩)
   rintro a k ⟨F14,⟨hg,hs,hd⟩,i1,i2,i3,i4,i9,i13,i14,n14,i15,_⟩
   obtain ⟨x8,hx8,hr⟩:=bind_some hr
   refine cut (fun a' k'=>∃ F14,Bs noF k0 141 a' k'∧(IsV rights_) (a'.get 1) k'∧(IsV k_) (a'.get 2) k'∧(IsV more_) (a'.get 3) k'∧(IsRef t_) (a'.get 4) k'∧(IsV x1) (a'.get 9) k'∧(IsV x4.2) (a'.get 13) k'∧(BoxH b14 [ho_37_0_30_4] [ho_37_0_30_4] ({ s1.1 with Plan:={ s1.1.Plan with Caps:=x7 } })) F14 (a'.get 14) k'∧Lo k0 F14∧(IsV x8) (a'.get 15) k'∧True) ?_ hQ ?_
   ·intro Q13 W13 w12
    refine gS 3 (_::⟨some (IsV x8),[(61,some 0)]⟩::_::[]) hs (by kernel_rfl) ⟨mu rfl i15,ob1 rfl fun _ _ h n=>ok_addW rfl n.1 (cI rfl) hx8,cp 1 rfl rfl,trivial⟩ W13 fun b q p=>?_
    exact tail_done (k:=q) (w12 _ _ ⟨F14,Bs.post ⟨hg,hs,hd⟩ p,p.ke 1 rfl i1,p.ke 2 rfl i2,p.ke 3 rfl i3,p.ke 4 rfl i4,p.ke 9 rfl i9,p.ke 13 rfl i13,p.ke 14 rfl i14,n14,p.ou 2 15 rfl,trivial⟩)
   rintro a k ⟨F14,⟨hg,hs,hd⟩,i1,i2,i3,i4,i9,i13,i14,n14,i15,_⟩
   exact hgo2742 _ _ _ (Option.some.inj hr).symm ⟨F14,⟨hg,hs,hd⟩,i1,i2,i3,i4,i9,i13,i14,n14,i15,trivial⟩
  rw [if_neg (by rw [hc2759]; decide)] at hr
  refine wp_exit ?_
  obtain ⟨kk,sh2758,cc14⟩:=BoxH.close i14 (hc_37_0_30_4 _) (fun _ h=>h)
  replace i1:=Pers.pers sh2758.le i1
  replace i2:=Pers.pers sh2758.le i2
  replace i4:=Pers.pers sh2758.le i4
  replace i9:=Pers.pers sh2758.le i9
  replace i13:=Pers.pers sh2758.le i13
  replace hg:=hg.hand sh2758 n14.wr
  rw [← sh2758.w]
  replace n14:Lo k0 (Eq b14):=fun c e=>n14 c (BoxH.sub i14 c e)
  replace i14:=BoxH.ptr i14
  have c14:=cc14
  clear sh2758 cc14
  obtain ⟨k,hkk⟩ : ∃ k,k = kk:=⟨kk,rfl⟩
  subst hkk
  exact hex2743 _ _ _ _ (Option.some.inj hr).symm ⟨rfl,⟨hg,hs,hd⟩,i1,i2,i4,i9,i13,i14,n14,c14,trivial⟩
 ·rintro r1 a k rfl hR
  dsimp only at hr
  obtain rfl:=Option.some.inj hr
  exact hR
 ·rintro _ _ _ rfl _
  simp at hr
 clear hf1
 rintro _ s2 a k rfl ⟨rfl,⟨hg,hs,hd⟩,i1,i2,i4,i9,i13,i14,n14,c14,_⟩
 dsimp only at hr
 refine wp_seq ?_
 obtain ⟨x9,hx9,hr⟩:=bind_some hr
 refine cut (fun a' k'=>Bs noF k0 141 a' k'∧(IsV rights_) (a'.get 1) k'∧(IsV k_) (a'.get 2) k'∧(IsRef t_) (a'.get 4) k'∧(IsV x1) (a'.get 9) k'∧(IsV x4.2) (a'.get 13) k'∧(IsV x9.2) (a'.get 18) k'∧True) ?_ hQ ?_
 ·intro Q14 W14 w13
  refine gS 7 (_::_::_::_::_::_::⟨some (IsBox k.w.heap.size (⟨0,(⟨#[]⟩:ByteArray),0⟩:Limit)),[]⟩::[]) hs (by kernel_rfl) ⟨o1 [(14,none)] rfl fun _ _ h n=>ok_load rfl ty37 ⟨_,(upE i14 n.1),(c14.grow h).at⟩,mu rfl i1,o1 [(86,some 0),(87,some 1)] rfl fun _ _ h n=>ok_call rfl Tryz.call21 (vested_Safe_ok n.1 n.2.1 hx9),cm 2 rfl rfl,o1 [(85,some 3)] rfl fun _ _ h n=>ok_ext2_0 rfl n.1,o1 [(85,some 3)] rfl fun _ _ h n=>ok_ext2_1 rfl n.1,ob1 rfl fun _ _ h n=>ok_alloc _ h.size rfl z55,trivial⟩ W14 fun b q p=>?_
  have hgq:=hg.then p.grow
  have hsb:=p.size.trans hs
  have hdb:=p.defers.trans hd
  have j1:=p.ke 1 rfl i1
  have j2:=p.ke 2 rfl i2
  have j4:=p.ke 4 rfl i4
  have j9:=p.ke 9 rfl i9
  have j13:=p.ke 13 rfl i13
  obtain ⟨b17,j17,x17,z17⟩:(IsBox k.w.heap.size (⟨0,(⟨#[]⟩:ByteArray),0⟩:Limit)) (b.get 17) q:=p.ou 6 17 rfl
  replace x17:Lo k (Eq b17):=Lo.eq x17
  have y17:Lo k0 (Eq b17):=x17.chg hg
  have j89:(IsV x9.1) (b.get 89) q:=p.ou 4 89 rfl
  have j90:(IsV x9.2) (b.get 90) q:=p.ou 5 90 rfl
  have hns:=z17.nshF
  refine tail_storeB (i:=7) rfl rfl rfl rfl szf55 (Upd.self (α:=Limit)) j17 z17 j89 fun q2 hch hz=>?_
  replace hgq:=hgq.step hch y17.wr
  have hle:=hch.le hns
  replace j1:=Pers.pers hle j1
  replace j2:=Pers.pers hle j2
  replace j4:=Pers.pers hle j4
  replace j9:=Pers.pers hle j9
  replace j13:=Pers.pers hle j13
  replace j89:=Pers.pers hle j89
  replace j90:=Pers.pers hle j90
  replace z17:=hz
  clear hns hle hch
  obtain ⟨q,hqq⟩ : ∃ q,q = q2:=⟨q2,rfl⟩
  subst hqq
  refine tail_assign (i:=8) (d:=18) rfl rfl (.inl rfl) rfl (by rw [hsb]; decide) fun b2 hsz hdf hnew hoth=>?_
  have jn:(IsV x9.2) (b2.get 18) q:=by rw [hnew]; exact j90
  rw [← hoth 1 (by decide)] at j1
  rw [← hoth 2 (by decide)] at j2
  rw [← hoth 4 (by decide)] at j4
  rw [← hoth 9 (by decide)] at j9
  rw [← hoth 13 (by decide)] at j13
  rw [← hoth 17 (by decide)] at j17
  rw [← hoth 89 (by decide)] at j89
  rw [← hoth 90 (by decide)] at j90
  have j18:=jn
  replace hsb:=hsz.trans hsb
  replace hdb:=hdf.trans hdb
  clear hsz hdf hoth
  obtain ⟨b,hbb⟩ : ∃ b,b = b2:=⟨b2,rfl⟩
  subst hbb
  exact tail_done (k:=q) (w13 _ _ ⟨⟨hgq,hsb,hdb⟩,j1,j2,j4,j9,j13,j18,trivial⟩)
 rintro a k ⟨⟨hg,hs,hd⟩,i1,i2,i4,i9,i13,i18,_⟩
 refine wp_seq ?_
 refine stepL 6 (_::_::_::_::_::_::[]) rfl ⟨hg,hs,hd⟩ (by kernel_rfl) ⟨mu rfl i13,o1 [(91,some 0)] rfl fun _ _ h n=>ok_not rfl n.1,cm 1 rfl rfl,mF rfl rfl i18,gF [(94,some 3)] rfl rfl fun hp _ _ h n=>ok_not rfl (Gd.get n.1 hp),o1 [(93,some 2),(95,some 4)] rfl fun _ _ h n=>ok_pickOr rfl n.1 (cB rfl) (Gd.get n.2.1),trivial⟩ [⟨_,_⟩,⟨_,_⟩,⟨_,_⟩,⟨_,_⟩,⟨_,_⟩] (fun b q p=>⟨p.ke 1 rfl i1,p.ke 2 rfl i2,p.ke 4 rfl i4,p.ke 9 rfl i9,p.ou 5 96 rfl,trivial⟩) ?_
 rintro a k ⟨⟨hg,hs,hd⟩,i1,i2,i4,i9,i96,_⟩
 refine wp_cond_split (isBool i96) (fun hc2792=>?_) (fun hc2792=>?_)
 ·rw [if_pos hc2792] at hr
  refine stepL 1 (⟨some (IsV false),[]⟩::[]) rfl ⟨hg,hs,hd⟩ (by kernel_rfl) ⟨ob1 rfl fun _ _ h n=>ok_assign rfl (isV_bool.2 rfl),trivial⟩ [⟨_,_⟩] (fun b q p=>⟨p.ou 0 8 rfl,trivial⟩) ?_
  rintro a k ⟨⟨hg,hs,hd⟩,i8,_⟩
  refine wp_ret ?_
  obtain rfl:=Option.some.inj hr
  exact retC1 rfl hd hg i8
 rw [if_neg (by rw [hc2792]; decide)] at hr
 refine wp_skip ?_
 refine wp_seq ?_
 refine stepL 8 (_::_::_::_::_::_::_::_::[]) rfl ⟨hg,hs,hd⟩ (by kernel_rfl) ⟨mu rfl i2,o1 [(97,some 0)] rfl fun _ _ h n=>ok_lss rfl n.1 (cI rfl),cm 1 rfl rfl,mF rfl rfl i2,mF rfl rfl i1,gF [(101,some 4)] rfl rfl fun hp _ _ h n=>ok_len rfl rfl Tryz.underlying38 (IsV.rd (Gd.get n.1 hp)),gF [(100,some 3),(102,some 5)] rfl rfl fun hp _ _ h n=>ok_geq rfl (Gd.get n.1 hp) (Gd.get n.2.1 hp),o1 [(99,some 2),(103,some 6)] rfl fun _ _ h n=>ok_pickOr rfl n.1 (cB rfl) (Gd.get n.2.1),trivial⟩ [⟨_,_⟩,⟨_,_⟩,⟨_,_⟩,⟨_,_⟩,⟨_,_⟩] (fun b q p=>⟨p.ke 1 rfl i1,p.ke 2 rfl i2,p.ke 4 rfl i4,p.ke 9 rfl i9,p.ou 7 104 rfl,trivial⟩) ?_
 rintro a k ⟨⟨hg,hs,hd⟩,i1,i2,i4,i9,i104,_⟩
 refine wp_cond_split (isBool i104) (fun hc2789=>?_) (fun hc2789=>?_)
 ·rw [if_pos hc2789] at hr
  refine stepL 2 (_::_::[]) rfl ⟨hg,hs,hd⟩ (by kernel_rfl) ⟨mu rfl i9,cp 0 rfl rfl,trivial⟩ [⟨_,_⟩] (fun b q p=>⟨p.ou 1 8 rfl,trivial⟩) ?_
  rintro a k ⟨⟨hg,hs,hd⟩,i8,_⟩
  refine wp_ret ?_
  obtain rfl:=Option.some.inj hr
  exact retC1 rfl hd hg i8
 rw [if_neg (by rw [hc2789]; decide)] at hr
 refine wp_skip ?_
 refine wp_seq ?_
 obtain ⟨x11,hx11,hr⟩:=bind_some hr
 obtain ⟨x13,hx13,hr⟩:=bind_some hr
 obtain ⟨x15,hx15,hr⟩:=bind_some hr
 obtain ⟨x18,hx18,hr⟩:=bind_some hr
 obtain ⟨x19,hx19,hr⟩:=bind_some hr
 obtain ⟨x20,hx20,hr⟩:=bind_some hr
 refine cut (fun a' k'=>Bs noF k0 141 a' k'∧(IsV rights_) (a'.get 1) k'∧(IsV k_) (a'.get 2) k'∧(IsRef t_) (a'.get 4) k'∧(IsV x1) (a'.get 9) k'∧(IsV x20.2) (a'.get 20) k'∧True) ?_ hQ ?_
 ·intro Q15 W15 w14
  refine region_L (a0:=a) (k0:=k) (n:=141) (⟨(PlainR (IsV t_)),107,[(4,none)],[]⟩::⟨(PlainR IsE0),108,[],[]⟩::⟨(PlainR (IsV rights_)),109,[(1,none)],[]⟩::⟨(PlainR (IsV k_)),110,[(2,none)],[]⟩::⟨(PlainR (IsV x11)),111,[(109,some 2),(110,some 3)],[]⟩::⟨(OwnR 43 x13),112,[(108,some 1),(111,some 4)],[]⟩::⟨(PlainR (IsV rights_)),113,[(1,none)],[]⟩::⟨(PlainR (IsV k_)),114,[(2,none)],[]⟩::⟨(PlainR (IsV x15)),115,[(114,some 7)],[]⟩::⟨(PlainR (IsV x18)),116,[(113,some 6),(115,some 8)],[]⟩::⟨(PlainR (IsV x19)),117,[(116,some 9)],[5]⟩::⟨(PlainR (IsTup2 (IsV x20.1) (IsV x20.2))),118,[(107,some 0),(117,some 10)],[]⟩::⟨(PlainR (IsTup2 (IsV x20.1) (IsV x20.2))),106,[(118,some 11)],[]⟩::⟨(PlainR (IsV x20.1)),119,[(106,some 12)],[]⟩::⟨(PlainR (IsV x20.2)),120,[(106,some 12)],[]⟩::⟨(BoxR (⟨0,(⟨#[]⟩:ByteArray),0⟩:Limit)),19,[],[]⟩::⟨(BoxR x20.1),19,[(119,some 13)],[15]⟩::⟨(PlainR (IsV x20.2)),20,[(120,some 14)],[]⟩::[]) hmix hs (by kernel_rfl) ⟨⟨inferInstanceAs (RscB _ (PlainR (IsV t_))),fun b q G hz hk hn ht=>by obtain ⟨m0,_⟩:=hn; obtain rfl:=taken0 ht; exact doesL_plain rfl (by rw [hz,hs]; show 107 < 141; decide) (ok_load rfl ty37 ((up i4 hk m0)).ptr)⟩,⟨inferInstanceAs (RscB _ (PlainR IsE0)),fun b q G hz hk hn ht=>by obtain rfl:=taken0 ht; exact doesL_plain rfl (by rw [hz,hs]; show 108 < 141; decide) (ok_buildSlice0 rfl Tryz.underlying38 eo43)⟩,⟨inferInstanceAs (RscB _ (PlainR (IsV rights_))),fun b q G hz hk hn ht=>by obtain ⟨m0,_⟩:=hn; obtain rfl:=taken0 ht; exact doesL_plain rfl (by rw [hz,hs]; show 109 < 141; decide) (ok_move rfl (up i1 hk m0))⟩,⟨inferInstanceAs (RscB _ (PlainR (IsV k_))),fun b q G hz hk hn ht=>by obtain ⟨m0,_⟩:=hn; obtain rfl:=taken0 ht; exact doesL_plain rfl (by rw [hz,hs]; show 110 < 141; decide) (ok_move rfl (up i2 hk m0))⟩,⟨inferInstanceAs (RscB _ (PlainR (IsV x11))),fun b q G hz hk hn ht=>by obtain ⟨⟨_,_,m0⟩,⟨_,_,m1⟩,_⟩:=hn; obtain rfl:=taken0 ht; exact doesL_plain rfl (by rw [hz,hs]; show 111 < 141; decide) (ok_slice_hi rfl Tryz.underlying38 szf43 m0 m1 hx11)⟩,⟨inferInstanceAs (RscB _ (OwnR 43 x13)),fun b q G hz hk hn ht=>by obtain ⟨⟨_,_,m0⟩,⟨_,_,m1⟩,_⟩:=hn; obtain rfl:=taken0 ht; exact doesL_own rfl (by rw [hz,hs]; show 112 < 141; decide) (ok_append0 rfl Tryz.underlying38 eo43 (Nat.le_refl _) m0 (IsV.rd m1) hx13)⟩,⟨inferInstanceAs (RscB _ (PlainR (IsV rights_))),fun b q G hz hk hn ht=>by obtain ⟨m0,_⟩:=hn; obtain rfl:=taken0 ht; exact doesL_plain rfl (by rw [hz,hs]; show 113 < 141; decide) (ok_move rfl (up i1 hk m0))⟩,⟨inferInstanceAs (RscB _ (PlainR (IsV k_))),fun b q G hz hk hn ht=>by obtain ⟨m0,_⟩:=hn; obtain rfl:=taken0 ht; exact doesL_plain rfl (by rw [hz,hs]; show 114 < 141; decide) (ok_move rfl (up i2 hk m0))⟩,⟨inferInstanceAs (RscB _ (PlainR (IsV x15))),fun b q G hz hk hn ht=>by obtain ⟨⟨_,_,m0⟩,_⟩:=hn; obtain rfl:=taken0 ht; exact doesL_plain rfl (by rw [hz,hs]; show 115 < 141; decide) (ok_addW rfl m0 (isV_int.2 rfl) hx15)⟩,⟨inferInstanceAs (RscB _ (PlainR (IsV x18))),fun b q G hz hk hn ht=>by obtain ⟨⟨_,_,m0⟩,⟨_,_,m1⟩,_⟩:=hn; obtain rfl:=taken0 ht; exact doesL_plain rfl (by rw [hz,hs]; show 116 < 141; decide) (ok_slice_lo rfl Tryz.underlying38 szf43 m0 m1 hx18)⟩,⟨inferInstanceAs (RscB _ (PlainR (IsV x19))),fun b q G hz hk hn ht=>by obtain ⟨⟨_,_,m0⟩,_⟩:=hn; exact doesL_app rfl (by rw [hz,hs]; show 117 < 141; decide) rfl rfl Tryz.underlying38 eo43 (taken1 ht rfl) (IsV.rd m0) hx19⟩,⟨inferInstanceAs (RscB _ (PlainR (IsTup2 (IsV x20.1) (IsV x20.2)))),fun b q G hz hk hn ht=>by obtain ⟨⟨_,_,m0⟩,⟨_,_,m1⟩,_⟩:=hn; obtain rfl:=taken0 ht; exact doesL_plain rfl (by rw [hz,hs]; show 118 < 141; decide) (ok_call rfl Tryz.call21 (vested_Safe_ok m0 m1 hx20))⟩,⟨inferInstanceAs (RscB _ (PlainR (IsTup2 (IsV x20.1) (IsV x20.2)))),fun b q G hz hk hn ht=>by obtain ⟨⟨_,_,m0⟩,_⟩:=hn; obtain rfl:=taken0 ht; exact doesL_plain rfl (by rw [hz,hs]; show 106 < 141; decide) (ok_move rfl m0)⟩,⟨inferInstanceAs (RscB _ (PlainR (IsV x20.1))),fun b q G hz hk hn ht=>by obtain ⟨⟨_,_,m0⟩,_⟩:=hn; obtain rfl:=taken0 ht; exact doesL_plain rfl (by rw [hz,hs]; show 119 < 141; decide) (ok_ext2_0 rfl m0)⟩,⟨inferInstanceAs (RscB _ (PlainR (IsV x20.2))),fun b q G hz hk hn ht=>by obtain ⟨⟨_,_,m0⟩,_⟩:=hn; obtain rfl:=taken0 ht; exact doesL_plain rfl (by rw [hz,hs]; show 120 < 141; decide) (ok_ext2_1 rfl m0)⟩,⟨inferInstanceAs (RscB _ (BoxR (⟨0,(⟨#[]⟩:ByteArray),0⟩:Limit))),fun b q G hz hk hn ht=>by obtain rfl:=taken0 ht; exact doesL_box rfl (by rw [hz,hs]; show 19 < 141; decide) (ok_alloc _ (Nat.le_refl _) rfl z55)⟩,⟨inferInstanceAs (RscB _ (BoxR x20.1)),fun b q G hz hk hn ht=>by obtain ⟨⟨_,_,m0⟩,_⟩:=hn; exact doesL_store rfl rfl rfl szf55 (taken1 ht rfl) m0⟩,⟨inferInstanceAs (RscB _ (PlainR (IsV x20.2))),fun b q G hz hk hn ht=>by obtain ⟨⟨_,_,m0⟩,_⟩:=hn; obtain rfl:=taken0 ht; exact doesL_plain rfl (by rw [hz,hs]; show 20 < 141; decide) (ok_assign rfl m0)⟩,trivial⟩ W15 fun FL b q p=>?_
  have hgq:=hg.then p.grow
  have hsb:=p.size.trans hs
  have hdb:=p.defers.trans hd
  have j1:=keepR p 1 rfl i1
  have j2:=keepR p 2 rfl i2
  have j4:=keepR p 4 rfl i4
  have j9:=keepR p 9 rfl i9
  have j20:(IsV x20.2) (b.get 20) q:=p.plain 17 rfl rfl
  exact w14 _ _ ⟨⟨hgq,hsb,hdb⟩,j1,j2,j4,j9,j20,trivial⟩
 rintro a k ⟨⟨hg,hs,hd⟩,i1,i2,i4,i9,i20,_⟩
 refine wp_seq ?_
 obtain ⟨x23,hx23,hr⟩:=bind_some hr
 refine cut (fun a' k'=>Bs noF k0 141 a' k'∧(IsV k_) (a'.get 2) k'∧(IsRef t_) (a'.get 4) k'∧(IsV x1) (a'.get 9) k'∧(IsV x20.2) (a'.get 20) k'∧IsOwn 0 43 x23 (a'.get 21) k'∧Lo k0 (obF (a'.get 21))∧True) ?_ hQ ?_
 ·intro Q16 W16 w15
  refine gS 4 (⟨some IsE0,[]⟩::_::⟨some (IsOwn k.w.heap.size 43 x23),[(121,some 0),(122,some 1)]⟩::_::[]) hs (by kernel_rfl) ⟨ob1 rfl fun b q h n=>ok_buildSlice0 rfl Tryz.underlying38 eo43,mu rfl i1,ob1 rfl fun _ _ h n=>ok_append0 rfl Tryz.underlying38 eo43 h.size n.1 (IsV.rd n.2.1) hx23,cp 2 rfl rfl,trivial⟩ W16 fun b q p=>?_
  have hgq:=hg.then p.grow
  have hsb:=p.size.trans hs
  have hdb:=p.defers.trans hd
  have j2:=p.ke 2 rfl i2
  have j4:=p.ke 4 rfl i4
  have j9:=p.ke 9 rfl i9
  have j20:=p.ke 20 rfl i20
  have j21:(IsOwn k.w.heap.size 43 x23) (b.get 21) q:=p.ou 3 21 rfl
  have x21:Lo k (obF (b.get 21)):=j21.loF
  have y21:=x21.chg hg
  replace j21:=j21.weaken (Nat.zero_le _)
  exact tail_done (k:=q) (w15 _ _ ⟨⟨hgq,hsb,hdb⟩,j2,j4,j9,j20,j21,y21,trivial⟩)
 rintro a k ⟨⟨hg,hs,hd⟩,i2,i4,i9,i20,i21,n21,_⟩
 refine wp_seq ?_
 obtain ⟨x24,hx24,hr⟩:=bind_some hr
 obtain ⟨x25,hx25,hr⟩:=bind_some hr
 refine cut (fun a' k'=>Bs noF k0 141 a' k'∧(IsRef t_) (a'.get 4) k'∧(IsV x1) (a'.get 9) k'∧(IsV x20.2) (a'.get 20) k'∧IsOwn 0 43 x25 (a'.get 21) k'∧Lo k0 (obF (a'.get 21))∧True) ?_ hQ ?_
 ·intro Q17 W17 w16
  refine gS 4 (⟨some (OwnAt (a.get 21) 0 43 x23),[(21,none)]⟩::_::⟨some (IsAdrO (a.get 21) ((k_).toNat * Enc.sz Right)),[(124,some 0),(125,some 1)]⟩::_::[]) hs (by kernel_rfl) ⟨ob1 rfl fun _ _ h n=>ok_moveOA (.inl rfl) (ownAt n.1 (up i21 h n.1)),mu rfl i2,ob1 rfl fun _ _ h n=>ok_indexO rfl Tryz.underlying38 ty43 n.1 n.2.1 hx24,o1 [(126,some 2)] rfl fun _ _ h n=>ok_fieldAdrO rfl fo43_5 n.1,trivial⟩ W17 fun b q p=>?_
  have hgq:=hg.then p.grow
  have hsb:=p.size.trans hs
  have hdb:=p.defers.trans hd
  have j4:=p.ke 4 rfl i4
  have j9:=p.ke 9 rfl i9
  have j20:=p.ke 20 rfl i20
  have j21:=p.ke 21 rfl i21
  have y21:Lo k0 (obF (b.get 21)):=by rw [p.old 21 rfl]; exact n21
  have j127:IsAdrO (a.get 21) ((k_).toNat * Enc.sz Right + 6) (b.get 127) q:=p.ou 3 127 rfl
  have eo:b.get 21 = a.get 21:=p.old 21 rfl
  have hns:=j21.nshF
  refine tail_storeS (i:=4) (u:=b.get 21) (m:=(k_).toNat) (off:=0 + 6) rfl rfl rfl rfl szf4 upd_F43_5 (by rw [eo]; exact j127) j21 (getI_spec hx24).2.1 (isV_bool.2 rfl) fun q2 hch hz=>?_
  replace hgq:=hgq.step hch y21.wr
  have hle:=hch.le hns
  replace j4:=Pers.pers hle j4
  replace j9:=Pers.pers hle j9
  replace j20:=Pers.pers hle j20
  replace j127:=Pers.pers hle j127
  replace j21:=hz
  rw [Option.some.inj hx25] at j21
  clear hns hle hch eo hz
  obtain ⟨q,hqq⟩ : ∃ q,q = q2:=⟨q2,rfl⟩
  subst hqq
  exact tail_done (k:=q) (w16 _ _ ⟨⟨hgq,hsb,hdb⟩,j4,j9,j20,j21,y21,trivial⟩)
 rintro a k ⟨⟨hg,hs,hd⟩,i4,i9,i20,i21,n21,_⟩
 refine wp_seq ?_
 obtain ⟨kk,sh2776,ii21⟩:=i21.give
 replace i4:=Pers.pers sh2776.le i4
 replace i9:=Pers.pers sh2776.le i9
 replace i20:=Pers.pers sh2776.le i20
 replace i21:=ii21
 replace hg:=hg.hand sh2776 n21.wr
 rw [← sh2776.w]
 clear sh2776
 obtain ⟨k,hkk⟩ : ∃ k,k = kk:=⟨kk,rfl⟩
 subst hkk
 obtain ⟨x26,hx26,hr⟩:=bind_some hr
 refine cut (fun a' k'=>Bs noF k0 141 a' k'∧(IsV x1) (a'.get 9) k'∧(IsV x20.2) (a'.get 20) k'∧(IsV x26.2) (a'.get 23) k'∧True) ?_ hQ ?_
 ·intro Q18 W18 w17
  refine gS 7 (_::_::_::_::_::_::⟨some (IsBox k.w.heap.size (⟨0,(⟨#[]⟩:ByteArray),0⟩:Limit)),[]⟩::[]) hs (by kernel_rfl) ⟨o1 [(4,none)] rfl fun _ _ h n=>ok_load rfl ty37 ((up i4 h n.1)).ptr,mu rfl i21,o1 [(129,some 0),(130,some 1)] rfl fun _ _ h n=>ok_call rfl Tryz.call21 (vested_Safe_ok n.1 n.2.1 hx26),cm 2 rfl rfl,o1 [(128,some 3)] rfl fun _ _ h n=>ok_ext2_0 rfl n.1,o1 [(128,some 3)] rfl fun _ _ h n=>ok_ext2_1 rfl n.1,ob1 rfl fun _ _ h n=>ok_alloc _ h.size rfl z55,trivial⟩ W18 fun b q p=>?_
  have hgq:=hg.then p.grow
  have hsb:=p.size.trans hs
  have hdb:=p.defers.trans hd
  have j9:=p.ke 9 rfl i9
  have j20:=p.ke 20 rfl i20
  obtain ⟨b22,j22,x22,z22⟩:(IsBox k.w.heap.size (⟨0,(⟨#[]⟩:ByteArray),0⟩:Limit)) (b.get 22) q:=p.ou 6 22 rfl
  replace x22:Lo k (Eq b22):=Lo.eq x22
  have y22:Lo k0 (Eq b22):=x22.chg hg
  have j132:(IsV x26.1) (b.get 132) q:=p.ou 4 132 rfl
  have j133:(IsV x26.2) (b.get 133) q:=p.ou 5 133 rfl
  have hns:=z22.nshF
  refine tail_storeB (i:=7) rfl rfl rfl rfl szf55 (Upd.self (α:=Limit)) j22 z22 j132 fun q2 hch hz=>?_
  replace hgq:=hgq.step hch y22.wr
  have hle:=hch.le hns
  replace j9:=Pers.pers hle j9
  replace j20:=Pers.pers hle j20
  replace j132:=Pers.pers hle j132
  replace j133:=Pers.pers hle j133
  replace z22:=hz
  clear hns hle hch
  obtain ⟨q,hqq⟩ : ∃ q,q = q2:=⟨q2,rfl⟩
  subst hqq
  refine tail_assign (i:=8) (d:=23) rfl rfl (.inl rfl) rfl (by rw [hsb]; decide) fun b2 hsz hdf hnew hoth=>?_
  have jn:(IsV x26.2) (b2.get 23) q:=by rw [hnew]; exact j133
  rw [← hoth 9 (by decide)] at j9
  rw [← hoth 20 (by decide)] at j20
  rw [← hoth 22 (by decide)] at j22
  rw [← hoth 132 (by decide)] at j132
  rw [← hoth 133 (by decide)] at j133
  have j23:=jn
  replace hsb:=hsz.trans hsb
  replace hdb:=hdf.trans hdb
  clear hsz hdf hoth
  obtain ⟨b,hbb⟩ : ∃ b,b = b2:=⟨b2,rfl⟩
  subst hbb
  exact tail_done (k:=q) (w17 _ _ ⟨⟨hgq,hsb,hdb⟩,j9,j20,j23,trivial⟩)
 rintro a k ⟨⟨hg,hs,hd⟩,i9,i20,i23,_⟩
 refine stepL 8 (_::_::_::_::_::_::_::_::[]) rfl ⟨hg,hs,hd⟩ (by kernel_rfl) ⟨mu rfl i9,cm 0 rfl rfl,mT rfl rfl i20,o1 [(135,some 1),(136,some 2)] rfl fun _ _ h n=>ok_pickAnd rfl n.1 (Gd.get n.2.1) (cB rfl),cm 3 rfl rfl,mT rfl rfl i23,o1 [(138,some 4),(139,some 5)] rfl fun _ _ h n=>ok_pickAnd rfl n.1 (Gd.get n.2.1) (cB rfl),cp 6 rfl rfl,trivial⟩ [⟨_,_⟩] (fun b q p=>⟨p.ou 7 8 rfl,trivial⟩) ?_
 rintro a k ⟨⟨hg,hs,hd⟩,i8,_⟩
 refine wp_ret ?_
 obtain rfl:=Option.some.inj hr
 exact retC1 rfl hd hg i8
end Go.Proofs.YtegglcdhfnjhcaaGreat
