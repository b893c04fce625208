/- What the functions compute that the law reaches, part 3 -/
import Derived.Test.YtegglcdhfnjhcaaGreatT2
set_option linter.unusedVariables false
set_option linter.unusedSimpArgs false
set_option linter.unusedSectionVars false
namespace Go.Proofs.YtegglcdhfnjhcaaGreat
open Go.Gb
set_option maxRecDepth 100000
def du (self:aq → (List ax) → (List aq) → Option (List aq)) (rights_:(List ax)) (x1:(List Phase)) (s1:(List aq) × Int × aq):Option (aN ((List aq) × Int × aq) ((List aq))):=
 if (decide (s1.2.1 < (x1.length:Int))) then
  (au x1 s1.2.1).bind fun x2=>
  (au rights_ 0).bind fun x3=>
  (eX s1.2.2 x3.aE.Lot x2).bind fun x4=>
  (gQ rights_ 1 (rights_.length:Int)).bind fun x5=>
  (self x4 x5 s1.1).bind fun x6=>
  (aD s1.2.1 1).bind fun x7=>
  some (.go (x6,x7,x4))
 else
  some (.ex 0 (s1.1,s1.2.1,s1.2.2))
def dL (self:aq → (List ax) → (List aq) → Option (List aq)) (t_:aq) (rights_:(List ax)) (out_:(List aq)):Option (List aq):=
 if ((rights_.length:Int) == 0) then
  (cg out_ ([t_])).bind fun x1=>
  some x1
 else
  (gQ rights_ 1 (rights_.length:Int)).bind fun x2=>
  (self t_ x2 out_).bind fun x3=>
  (au rights_ 0).bind fun x4=>
  (gd x4).bind fun x5=>
  (ah (du self rights_ x5) (x5.length + 1) (x3,0,t_)).bind fun f1=>match f1 with
   | .go _=>none
   | .ex _ s1=>
    some s1.1
   | .ret r1=>some r1
def cu:Nat → aq → (List ax) → (List aq) → Option (List aq)
 | 0=>fun _ _ _=>none
 | n + 1=>dL (cu n)
theorem qX {self:aq → (List ax) → (List aq) → Option (List aq)} (hself:vL Tryz.prog 42 aR self):vL Tryz.prog 42 aR (dL self):=by
 intro k0 FB v0 v1 v3 bw t_ rights_ out_ r i0 i1 i2 i3 hr
 unfold dL at hr
 refine iN Tryz.func42 rfl Tryz.ntmps42 (show 4 ≤ 43 by decide) fun a k hk0 hs hd ha=>?_
 obtain ⟨e0,e1,e2,e3,_⟩:=ha
 replace i0:(IsV t_) (a.get 0) k:=by rw [e0,hk0]; exact i0
 replace i1:(IsV rights_) (a.get 1) k:=by rw [e1,hk0]; exact i1
 replace i2:(aU bw [aR] [aR] out_) FB (a.get 2) k:=by rw [e2,hk0]; exact i2
 replace i3:(aL (hY.mk (jM 42 bw v3))) (a.get 3) k:=by rw [e3,hk0]; exact i3
 obtain ⟨F2,iX,n2⟩ : ∃ F,(aU bw [aR] [aR] out_) F (a.get 2) k∧Wr FB k0 F:=⟨FB,i2,fun b h=>.inl h⟩
 replace i2:=iX
 clear iX
 have q3:=e3
 have hQ:Gb.LetsOut (bodyPost Tryz.prog Tryz.f42 (dw FB k0 (ub bw [aR] [aR] FB k0 r))):=fc
 have hg:Chg FB k0 k:=by rw [hk0]; exact Chg.refl _ k0
 refine gP (fun c l=>∃ F2,Bs FB k0 43 c l∧IsV rights_ (c.get 1) l∧(aU bw [aR] [aR] out_) F2 (c.get 2) l∧Wr FB k0 F2∧c.get 3 = v3∧aL (hY.mk (jM 42 bw v3)) (c.get 3) l∧(∃ b4,c.get 4 = .pointer (some ⟨b4,0,none⟩)∧Lo k0 (Eq b4)∧Gb.Box b4 t_ l∧ai F2 (Eq b4)∧True)) ?_ ?_
 ·intro Q1 W1 w1
  refine gS 1 (⟨some (dR k.w.heap.size t_),[(0,none)]⟩::[]) hs (by kernel_rfl) ⟨ob1 rfl fun _ _ h n=>xS _ h.size rfl (up i0 h n.1),trivial⟩ W1 fun b q p=>?_
  have hgq:=hg.then p.grow
  have hsb:=p.size.trans hs
  have hdb:=p.defers.trans hd
  have j1:=p.ke 1 rfl i1
  have j2:(aU bw [aR] [aR] out_) F2 (b.get 2) q:=p.ke 2 rfl i2
  have y2:=n2
  have j3:=p.ke 3 rfl i3
  obtain ⟨b4,j4,x4,z4⟩:(dR k.w.heap.size t_) (b.get 4) q:=p.ou 0 4 rfl
  replace x4:Lo k (Eq b4):=Lo.eq x4
  have y4:Lo k0 (Eq b4):=x4.chg hg
  have qb3:=(p.old 3 rfl).trans q3
  have w2_4:ai F2 (Eq b4):=ai.new (Rsc.lt i2) x4
  exact aj (k:=q) (w1 _ _ ⟨F2,⟨hgq,hsb,hdb⟩,j1,j2,y2,qb3,j3,b4,j4,y4,z4,w2_4,trivial⟩)
 rintro a k ⟨F2,⟨hg,hs,hd⟩,i1,i2,n2,q3,i3,b4,i4,n4,c4,d2_4,_⟩
 refine wp_seq ?_
 refine gP (fun c l=>∃ F2,Bs FB k0 43 c l∧IsV rights_ (c.get 1) l∧(aU bw [aR] [aR] out_) F2 (c.get 2) l∧Wr FB k0 F2∧c.get 3 = v3∧aL (hY.mk (jM 42 bw v3)) (c.get 3) l∧c.get 4 = .pointer (some ⟨b4,0,none⟩)∧Lo k0 (Eq b4)∧Gb.Box b4 t_ l∧IsV ((rights_.length:Int) == 0) (c.get 10) l∧ai F2 (Eq b4)∧True) ?_ ?_
 ·intro Q2 W2 w2
  refine gS 3 (_::_::_::[]) hs (by kernel_rfl) ⟨mu rfl i1,o1 [(8,some 0)] rfl fun _ _ h n=>ep rfl rfl Tryz.underlying38 (IsV.rd n.1),o1 [(9,some 1)] rfl fun _ _ h n=>yG rfl n.1 (cI rfl),trivial⟩ W2 fun b q p=>?_
  exact aj (k:=q) (w2 _ _ ⟨F2,Bs.post ⟨hg,hs,hd⟩ p,p.ke 1 rfl i1,p.ke 2 rfl i2,n2,(p.old 3 rfl).trans q3,p.ke 3 rfl i3,upE i4 (p.old 4 rfl),n4,Gb.Box.grow c4 p.grow,p.ou 2 10 rfl,d2_4,trivial⟩)
 rintro a k ⟨F2,⟨hg,hs,hd⟩,i1,i2,n2,q3,i3,i4,n4,c4,i10,d2_4,_⟩
 refine wp_cond_split (isBool i10) (fun hc2429=>?_) (fun hc2429=>?_)
 ·rw [if_pos hc2429] at hr
  refine wp_seq ?_
  obtain ⟨x1,hx1,hr⟩:=bind_some hr
  refine cut (fun a' k'=>∃ F2,Bs FB k0 43 a' k'∧(aU bw [aR] [aR] x1) F2 (a'.get 2) k'∧Wr FB k0 F2∧True) ?_ hQ ?_
  ·intro Q3 W3 w3
   refine gS 3 (⟨some (pW bw aR.off),[(2,none)]⟩::_::⟨some (IsV (α:=(List aq)) ([t_])),[(12,some 1)]⟩::[]) hs (by kernel_rfl) ⟨ob1 rfl fun _ _ h n=>pQ (g:=aR) rfl Tryz.underlying59 Hp (upE (aU.ptr i2) n.1) (Rsc.grow i2 h) (.head _),o1 [(4,none)] rfl fun _ _ h n=>aM rfl pP ⟨_,(upE i4 n.1),(c4.grow h).at⟩,ob1 rfl fun _ _ h n=>cG rfl Tryz.underlying59 Bg rfl (by decide) (by decide) ⟨rfl,n.1,trivial⟩,trivial⟩ W3 fun b q p=>?_
   have hgq:=hg.then p.grow
   have hsb:=p.size.trans hs
   have hdb:=p.defers.trans hd
   have j2:(aU bw [aR] [aR] out_) F2 (b.get 2) q:=p.ke 2 rfl i2
   have y2:=n2
   have j11:(pW bw aR.off) (b.get 11) q:=p.ou 0 11 rfl
   have j13:(IsV (α:=(List aq)) ([t_])) (b.get 13) q:=p.ou 2 13 rfl
   obtain ⟨F2,jt,jo,jw,jf,je⟩:=aU.take j2 j11
   have y11:Wr FB k0 (obF (b.get 11)):=fun c h=>y2 c (je c h)
   replace y2:Wr FB k0 F2:=fun c h=>y2 c (jf c h)
   replace j2:=jt
   replace j11:ay 0 37 out_ (b.get 11) q:=jo
   have w2_11:ai F2 (obF (b.get 11)):=(jw).symm
   clear jt jo jw jf je
   have hns:=j11.kN
   refine cX (i:=3) (d:=14) rfl rfl rfl rfl (by rw [hsb]; decide) (e:=37) Tryz.underlying59 Bg j11 (IsV.rd j13) hx1 fun b2 q2 hsz hdf hoth hch hown hob=>?_
   have hle:=hch.le hns
   have yn:Wr FB k0 (obF (b2.get 14)):=y11.app hgq hob
   have v2:ai F2 (obF (b2.get 14)):=ai.app w2_11 (Rsc.lt j2) hob
   replace j2:=Rsc.keep j2 hch w2_11 hns
   replace j13:=aA.pers hle j13
   replace hgq:=hgq.step hch y11
   rw [← hoth 2 (by decide)] at j2
   rw [← hoth 13 (by decide)] at j13
   have w2_14:=v2
   have j14:=hown
   have y14:=yn
   replace hsb:=hsz.trans hsb
   replace hdb:=hdf.trans hdb
   clear hle hch hown hob hns yn hsz hdf hoth
   obtain ⟨b,hbb⟩ : ∃ b,b = b2:=⟨b2,rfl⟩
   subst hbb
   obtain ⟨q,hqq⟩ : ∃ q,q = q2:=⟨q2,rfl⟩
   subst hqq
   refine ij (i:=4) (g:=aR) (x':=(x1:(List aq))) rfl rfl rfl rfl Hp (aU.ptr j2) j2 (by decide) ⟨_,(.head _),rfl⟩ rfl (fun _ _ _ h=>h) (fun _ h=>nomatch h) j14 (w2_14.symm) fun q2 FF hch hz hF=>?_
   have hns:=Rsc.nsh j2
   have hle:=hch.le hns
   replace hgq:=hgq.step hch y2
   replace j13:=aA.pers hle j13
   have yn:Wr FB k0 FF:=fun c h=>(hF c h).elim (fun h=>y2 c h) (fun h=>y14 c h)
   clear hns hle hch hF
   obtain ⟨F2,hFe⟩ : ∃ F,F = FF:=⟨FF,rfl⟩
   subst hFe
   replace j2:=hz
   replace y2:=yn
   clear hz yn
   obtain ⟨q,hqq⟩ : ∃ q,q = q2:=⟨q2,rfl⟩
   subst hqq
   exact aj (k:=q) (w3 _ _ ⟨F2,⟨hgq,hsb,hdb⟩,j2,y2,trivial⟩)
  rintro a k ⟨F2,⟨hg,hs,hd⟩,i2,n2,_⟩
  refine wp_ret ?_
  obtain rfl:=Option.some.inj hr
  exact Ja rfl hd hg i2 n2
 rw [if_neg (by rw [hc2429]; decide)] at hr
 refine wp_skip ?_
 refine wp_seq ?_
 obtain ⟨x2,hx2,hr⟩:=bind_some hr
 obtain ⟨x3,hx3,hr⟩:=bind_some hr
 refine cut (fun a' k'=>∃ F2,Bs FB k0 43 a' k'∧(IsV rights_) (a'.get 1) k'∧(aU bw [aR] [aR] x3) F2 (a'.get 2) k'∧Wr FB k0 F2∧a'.get 3 = v3∧(aL (hY.mk (jM 42 bw v3))) (a'.get 3) k'∧a'.get 4 = .pointer (some ⟨b4,0,none⟩)∧Lo k0 (Eq b4)∧Gb.Box b4 t_ k'∧ai F2 (Eq b4)∧True) ?_ hQ ?_
 ·intro Q4 W4 w4
  refine region (m:=4) (_::_::_::⟨some (IsV x2),[(17,some 2)]⟩::[]) oH hs (by kernel_rfl) ⟨o1 [(3,none)] rfl fun _ _ h n=>aM rfl B8 ((up i3 h n.1)).ptr,o1 [(4,none)] rfl fun _ _ h n=>aM rfl pP ⟨_,(upE i4 n.1),(c4.grow h).at⟩,mu rfl i1,ob1 rfl fun _ _ h n=>nA rfl Tryz.underlying38 C4 n.1 (cI rfl) hx2,trivial⟩ W4 fun b q p=>?_
  have hgq:=hg.then p.grow
  have hsb:=p.size.trans hs
  have hdb:=p.defers.trans hd
  have j1:=p.ke 1 rfl i1
  have j2:(aU bw [aR] [aR] out_) F2 (b.get 2) q:=p.ke 2 rfl i2
  have y2:=n2
  have j3:=p.ke 3 rfl i3
  have j4:=upE i4 (p.old 4 rfl)
  have z4:=Gb.Box.grow c4 p.grow
  have y4:=n4
  have j15:(IsV (hY.mk (jM 42 bw v3))) (b.get 15) q:=p.ou 0 15 rfl
  have j16:(IsV t_) (b.get 16) q:=p.ou 1 16 rfl
  have j18:(IsV x2) (b.get 18) q:=p.ou 3 18 rfl
  have qb3:=(p.old 3 rfl).trans q3
  have w2_4:ai F2 (Eq b4):=by exact d2_4
  have hns:=Rsc.nsh j2
  have ex:=aU.ptr j2
  refine qF (F:=F2) (i:=4) (d:=19) rfl rfl rfl rfl (by rw [hsb]; decide) (tZ j15) Tryz.call42 W4 (hself _ _ _ _ v3 _ _ _ _ _ j16 j18 (aU.at j2) (by have h:=j3; rw [qb3] at h; exact h) hx3) fun b2 q2 hsz hdf hoth hch hR=>?_
  have hle:=hch.le hns
  obtain ⟨FF,jn,yf⟩:=hR
  rw [← ex] at jn
  have yn:Wr FB k0 FF:=fun c h=>(yf c h).elim (fun h=>y2 c h) (fun h=>.inr (Nat.le_trans hgq.size h))
  have wn4:ai FF (Eq b4):=fun c h hu=>(yf c h).elim (fun h=>w2_4 c h hu) (fun h=>Nat.lt_irrefl _ (Nat.lt_of_lt_of_le (z4.ltF c hu) h))
  replace j1:=aA.pers hle j1
  replace j3:=aA.pers hle j3
  replace z4:=z4.keep hch ((w2_4.symm) _ rfl) hns
  replace j15:=aA.pers hle j15
  replace j16:=aA.pers hle j16
  replace j18:=aA.pers hle j18
  replace hgq:=hgq.step hch y2
  obtain ⟨F2,hFe⟩ : ∃ F,F = FF:=⟨FF,rfl⟩
  subst hFe
  replace j2:=jn
  replace y2:=yn
  have w2_4:ai F2 (Eq b4):=wn4
  clear wn4
  replace qb3:=(hoth 3 (by decide)).trans qb3
  rw [← hoth 1 (by decide)] at j1
  rw [← hoth 2 (by decide)] at j2
  rw [← hoth 3 (by decide)] at j3
  rw [← hoth 4 (by decide)] at j4
  rw [← hoth 15 (by decide)] at j15
  rw [← hoth 16 (by decide)] at j16
  rw [← hoth 18 (by decide)] at j18
  replace hsb:=hsz.trans hsb
  replace hdb:=hdf.trans hdb
  clear hle hch hns hsz hdf hoth ex yf yn jn
  obtain ⟨b,hbb⟩ : ∃ b,b = b2:=⟨b2,rfl⟩
  subst hbb
  obtain ⟨q,hqq⟩ : ∃ q,q = q2:=⟨q2,rfl⟩
  subst hqq
  exact aj (k:=q) (w4 _ _ ⟨F2,⟨hgq,hsb,hdb⟩,j1,j2,y2,qb3,j3,j4,y4,z4,w2_4,trivial⟩)
 rintro a k ⟨F2,⟨hg,hs,hd⟩,i1,i2,n2,q3,i3,i4,n4,c4,d2_4,_⟩
 refine wp_seq ?_
 obtain ⟨x5,hx5,hr⟩:=bind_some hr
 obtain ⟨x6,hx6,hr⟩:=bind_some hr
 refine cut (fun a' k'=>∃ F2,Bs FB k0 43 a' k'∧(IsV rights_) (a'.get 1) k'∧(aU bw [aR] [aR] x3) F2 (a'.get 2) k'∧Wr FB k0 F2∧a'.get 3 = v3∧(aL (hY.mk (jM 42 bw v3))) (a'.get 3) k'∧a'.get 4 = .pointer (some ⟨b4,0,none⟩)∧Lo k0 (Eq b4)∧Gb.Box b4 t_ k'∧(IsV x6) (a'.get 23) k'∧(IsL x6) (a'.get 24) k'∧(IsI 0) (a'.get 25) k'∧ai F2 (Eq b4)∧True) ?_ hQ ?_
 ·intro Q5 W5 w5
  refine gS 6 (_::_::_::_::_::⟨some (IsI 0),[]⟩::[]) hs (by kernel_rfl) ⟨mu rfl i1,o1 [(20,some 0)] rfl fun _ _ h n=>bs rfl Tryz.underlying38 oN (IsV.rd n.1) (cI rfl) hx5,o1 [(21,some 1)] rfl fun _ _ h n=>aM rfl oN n.1,o1 [(22,some 2)] rfl fun _ _ h n=>cN rfl Tryz.call27 (pV n.1 hx6),o1 [(23,some 3)] rfl fun _ _ h n=>ep rfl rfl Tryz.underlying39 (IsV.rd n.1),ob1 rfl fun _ _ h n=>cV rfl (cI rfl),trivial⟩ W5 fun b q p=>?_
  exact aj (k:=q) (w5 _ _ ⟨F2,Bs.post ⟨hg,hs,hd⟩ p,p.ke 1 rfl i1,p.ke 2 rfl i2,n2,(p.old 3 rfl).trans q3,p.ke 3 rfl i3,upE i4 (p.old 4 rfl),n4,Gb.Box.grow c4 p.grow,p.ou 3 23 rfl,p.ou 4 24 rfl,p.ou 5 25 rfl,d2_4,trivial⟩)
 rintro a k ⟨F2,⟨hg,hs,hd⟩,i1,i2,n2,q3,i3,i4,n4,c4,i23,i24,i25,d2_4,_⟩
 refine wp_block ?_
 obtain ⟨f1,hf1,hr⟩:=bind_some hr
 refine nM f1 (fun s' c l=>∃ F2,Bs FB k0 43 c l∧IsV rights_ (c.get 1) l∧(aU bw [aR] [aR] s'.1) F2 (c.get 2) l∧Wr FB k0 F2∧c.get 3 = v3∧aL (hY.mk (jM 42 bw v3)) (c.get 3) l∧c.get 4 = .pointer (some ⟨b4,0,none⟩)∧Lo k0 (Eq b4)∧Gb.Box b4 s'.2.2 l∧IsV x6 (c.get 23) l∧IsL x6 (c.get 24) l∧IsV s'.2.1 (c.get 25) l∧ai F2 (Eq b4)∧True) (fun i' s' c l=>(i' = 0∧∃ F2,Bs FB k0 43 c l∧(aU bw [aR] [aR] s'.1) F2 (c.get 2) l∧Wr FB k0 F2∧True)) (fun r' c l=>bodyPost Tryz.prog Tryz.f42 (dw FB k0 (ub bw [aR] [aR] FB k0 r')) .ret c l.w) ?_ hQ ?_ ?_ ?_
 ·intro Q6 W6 hgo hex hret
  refine ek ?_ _ _ _ _ _ hf1 ⟨F2,⟨hg,hs,hd⟩,i1,i2,n2,q3,i3,i4,n4,c4,i23,i24,i25,d2_4,trivial⟩ Q6 W6 hgo hex hret
  clear hr hf1 hgo hex hret W6 hQ hg hs hd F2 c4 d2_4 i1 i2 i23 i24 i25 i3 i4 n2 n4 q3
  intro s1 fl_ a k hr hS Q hQ hgo2402 hex2403 hret2404
  obtain ⟨F2,⟨hg,hs,hd⟩,i1,i2,n2,q3,i3,i4,n4,c4,i23,i24,i25,d2_4,_⟩:=hS
  unfold du at hr
  refine gP (fun c l=>∃ F2,Bs FB k0 43 c l∧IsV rights_ (c.get 1) l∧(aU bw [aR] [aR] s1.1) F2 (c.get 2) l∧Wr FB k0 F2∧c.get 3 = v3∧aL (hY.mk (jM 42 bw v3)) (c.get 3) l∧c.get 4 = .pointer (some ⟨b4,0,none⟩)∧Lo k0 (Eq b4)∧Gb.Box b4 s1.2.2 l∧IsV x6 (c.get 23) l∧IsL x6 (c.get 24) l∧IsV s1.2.1 (c.get 25) l∧(IsV (decide (s1.2.1 < (x6.length:Int)))) (c.get 26) l∧ai F2 (Eq b4)∧True) ?_ ?_
  ·intro Q7 W7 w6
   refine gS 1 (_::[]) hs (by kernel_rfl) ⟨o1 [(25,none),(24,none)] rfl fun _ _ h n=>gU rfl (up i25 h n.1) (up i24 h n.2.1),trivial⟩ W7 fun b q p=>?_
   exact aj (k:=q) (w6 _ _ ⟨F2,Bs.post ⟨hg,hs,hd⟩ p,p.ke 1 rfl i1,p.ke 2 rfl i2,n2,(p.old 3 rfl).trans q3,p.ke 3 rfl i3,upE i4 (p.old 4 rfl),n4,Gb.Box.grow c4 p.grow,p.ke 23 rfl i23,p.ke 24 rfl i24,p.ke 25 rfl i25,p.ou 0 26 rfl,d2_4,trivial⟩)
  rintro a k ⟨F2,⟨hg,hs,hd⟩,i1,i2,n2,q3,i3,i4,n4,c4,i23,i24,i25,i26,d2_4,_⟩
  refine wp_seq ?_
  refine wp_cond_split (isBool i26) (fun hc2418=>?_) (fun hc2418=>?_)
  ·rw [if_pos hc2418] at hr
   refine wp_skip ?_
   refine wp_seq ?_
   refine wp_block ?_
   refine wp_seq ?_
   obtain ⟨x8,hx8,hr⟩:=bind_some hr
   refine cut (fun a' k'=>∃ F2,Bs FB k0 43 a' k'∧(IsV rights_) (a'.get 1) k'∧(aU bw [aR] [aR] s1.1) F2 (a'.get 2) k'∧Wr FB k0 F2∧a'.get 3 = v3∧(aL (hY.mk (jM 42 bw v3))) (a'.get 3) k'∧a'.get 4 = .pointer (some ⟨b4,0,none⟩)∧Lo k0 (Eq b4)∧Gb.Box b4 s1.2.2 k'∧(aL x8) (a'.get 7) k'∧(IsV x6) (a'.get 23) k'∧(IsL x6) (a'.get 24) k'∧(IsV s1.2.1) (a'.get 25) k'∧ai F2 (Eq b4)∧True) ?_ hQ ?_
   ·intro Q8 W8 w7
    refine gS 3 (_::_::⟨some (dR k.w.heap.size (⟨[],[]⟩:Phase)),[]⟩::[]) hs (by kernel_rfl) ⟨o1 [(23,none),(25,none)] rfl fun _ _ h n=>bs rfl Tryz.underlying39 El (IsV.rd (up i23 h n.1)) (up i25 h n.2.1) hx8,o1 [(27,some 0)] rfl fun _ _ h n=>aM rfl El n.1,ob1 rfl fun _ _ h n=>dQ _ h.size rfl z46,trivial⟩ W8 fun b q p=>?_
    have hgq:=hg.then p.grow
    have hsb:=p.size.trans hs
    have hdb:=p.defers.trans hd
    have j1:=p.ke 1 rfl i1
    have j2:(aU bw [aR] [aR] s1.1) F2 (b.get 2) q:=p.ke 2 rfl i2
    have y2:=n2
    have j3:=p.ke 3 rfl i3
    have j4:=upE i4 (p.old 4 rfl)
    have z4:=Gb.Box.grow c4 p.grow
    have y4:=n4
    obtain ⟨b7,j7,x7,z7⟩:(dR k.w.heap.size (⟨[],[]⟩:Phase)) (b.get 7) q:=p.ou 2 7 rfl
    replace x7:Lo k (Eq b7):=Lo.eq x7
    have y7:Lo k0 (Eq b7):=x7.chg hg
    have j23:=p.ke 23 rfl i23
    have j24:=p.ke 24 rfl i24
    have j25:=p.ke 25 rfl i25
    have j28:(IsV x8) (b.get 28) q:=p.ou 1 28 rfl
    have qb3:=(p.old 3 rfl).trans q3
    have w2_4:ai F2 (Eq b4):=by exact d2_4
    have w2_7:ai F2 (Eq b7):=ai.new (Rsc.lt i2) x7
    have w4_7:ai (Eq b4) (Eq b7):=ai.new c4.ltF x7
    have hns:=z7.kN
    refine bC (i:=3) rfl rfl rfl rfl JQ (Upd.self (α:=Phase)) j7 z7 j28 fun q2 hch hz=>?_
    replace hgq:=hgq.step hch y7.wr
    have hle:=hch.le hns
    replace j1:=aA.pers hle j1
    replace j2:=Rsc.keep j2 hch w2_7 hns
    replace j3:=aA.pers hle j3
    replace z4:=z4.keep hch (w4_7 _ rfl) hns
    replace j23:=aA.pers hle j23
    replace j24:=aA.pers hle j24
    replace j25:=aA.pers hle j25
    replace j28:=aA.pers hle j28
    replace z7:=hz
    clear hns hle hch
    obtain ⟨q,hqq⟩ : ∃ q,q = q2:=⟨q2,rfl⟩
    subst hqq
    obtain ⟨q2,hsh,jn⟩:=z7.fZ
    replace j1:=aA.pers hsh.le j1
    replace j2:=Rsc.handed j2 hsh w2_7
    replace j3:=aA.pers hsh.le j3
    replace z4:=z4.handed hsh (w4_7 _ rfl)
    replace j23:=aA.pers hsh.le j23
    replace j24:=aA.pers hsh.le j24
    replace j25:=aA.pers hsh.le j25
    rw [← j7] at jn
    replace j7:=jn
    replace hgq:=hgq.hand hsh y7.wr
    rw [← hsh.w]
    clear hsh
    obtain ⟨q,hqq⟩ : ∃ q,q = q2:=⟨q2,rfl⟩
    subst hqq
    exact aj (k:=q) (w7 _ _ ⟨F2,⟨hgq,hsb,hdb⟩,j1,j2,y2,qb3,j3,j4,y4,z4,j7,j23,j24,j25,w2_4,trivial⟩)
   rintro a k ⟨F2,⟨hg,hs,hd⟩,i1,i2,n2,q3,i3,i4,n4,c4,i7,i23,i24,i25,d2_4,_⟩
   refine wp_seq ?_
   obtain ⟨x9,hx9,hr⟩:=bind_some hr
   obtain ⟨x10,hx10,hr⟩:=bind_some hr
   refine cut (fun a' k'=>∃ F2,Bs FB k0 43 a' k'∧(IsV rights_) (a'.get 1) k'∧(aU bw [aR] [aR] s1.1) F2 (a'.get 2) k'∧Wr FB k0 F2∧a'.get 3 = v3∧(aL (hY.mk (jM 42 bw v3))) (a'.get 3) k'∧a'.get 4 = .pointer (some ⟨b4,0,none⟩)∧Lo k0 (Eq b4)∧Gb.Box b4 x10 k'∧(IsV x6) (a'.get 23) k'∧(IsL x6) (a'.get 24) k'∧(IsV s1.2.1) (a'.get 25) k'∧ai F2 (Eq b4)∧True) ?_ hQ ?_
   ·intro Q9 W9 w8
    refine region (m:=8) (_::_::_::_::_::_::_::_::[]) oH hs (by kernel_rfl) ⟨o1 [(4,none)] rfl fun _ _ h n=>aM rfl pP ⟨_,(upE i4 n.1),(c4.grow h).at⟩,mu rfl i1,o1 [(30,some 1)] rfl fun _ _ h n=>bs rfl Tryz.underlying38 oN (IsV.rd n.1) (cI rfl) hx9,o1 [(31,some 2)] rfl fun _ _ h n=>bB rfl D8 (uD _) n.1,o1 [(32,some 3)] rfl fun _ _ h n=>bB rfl Ef (ru _) n.1,o1 [(33,some 4)] rfl fun _ _ h n=>aM rfl ty3 n.1,o1 [(7,none)] rfl fun _ _ h n=>aM rfl El ((up i7 h n.1)).ptr,o1 [(29,some 0),(34,some 5),(35,some 6)] rfl fun _ _ h n=>cN rfl Tryz.call15 (o8 n.1 n.2.1 n.2.2.1 hx10),trivial⟩ W9 fun b q p=>?_
    have hgq:=hg.then p.grow
    have hsb:=p.size.trans hs
    have hdb:=p.defers.trans hd
    have j1:=p.ke 1 rfl i1
    have j2:(aU bw [aR] [aR] s1.1) F2 (b.get 2) q:=p.ke 2 rfl i2
    have y2:=n2
    have j3:=p.ke 3 rfl i3
    have j4:=upE i4 (p.old 4 rfl)
    have z4:=Gb.Box.grow c4 p.grow
    have y4:=n4
    have j23:=p.ke 23 rfl i23
    have j24:=p.ke 24 rfl i24
    have j25:=p.ke 25 rfl i25
    have j36:(IsV x10) (b.get 36) q:=p.ou 7 36 rfl
    have qb3:=(p.old 3 rfl).trans q3
    have w2_4:ai F2 (Eq b4):=by exact d2_4
    have hns:=z4.kN
    refine bC (i:=8) rfl rfl rfl rfl C6 (Upd.self (α:=aq)) j4 z4 j36 fun q2 hch hz=>?_
    replace hgq:=hgq.step hch y4.wr
    have hle:=hch.le hns
    replace j1:=aA.pers hle j1
    replace j2:=Rsc.keep j2 hch w2_4 hns
    replace j3:=aA.pers hle j3
    replace j23:=aA.pers hle j23
    replace j24:=aA.pers hle j24
    replace j25:=aA.pers hle j25
    replace j36:=aA.pers hle j36
    replace z4:=hz
    clear hns hle hch
    obtain ⟨q,hqq⟩ : ∃ q,q = q2:=⟨q2,rfl⟩
    subst hqq
    exact aj (k:=q) (w8 _ _ ⟨F2,⟨hgq,hsb,hdb⟩,j1,j2,y2,qb3,j3,j4,y4,z4,j23,j24,j25,w2_4,trivial⟩)
   rintro a k ⟨F2,⟨hg,hs,hd⟩,i1,i2,n2,q3,i3,i4,n4,c4,i23,i24,i25,d2_4,_⟩
   obtain ⟨x11,hx11,hr⟩:=bind_some hr
   obtain ⟨x12,hx12,hr⟩:=bind_some hr
   refine cut (fun a' k'=>∃ F2,Bs FB k0 43 a' k'∧(IsV rights_) (a'.get 1) k'∧(aU bw [aR] [aR] x12) F2 (a'.get 2) k'∧Wr FB k0 F2∧a'.get 3 = v3∧(aL (hY.mk (jM 42 bw v3))) (a'.get 3) k'∧a'.get 4 = .pointer (some ⟨b4,0,none⟩)∧Lo k0 (Eq b4)∧Gb.Box b4 x10 k'∧(IsV x6) (a'.get 23) k'∧(IsL x6) (a'.get 24) k'∧(IsV s1.2.1) (a'.get 25) k'∧ai F2 (Eq b4)∧True) ?_ hQ ?_
   ·intro Q10 W10 w9
    refine region (m:=4) (_::_::_::⟨some (IsV x11),[(39,some 2)]⟩::[]) oH hs (by kernel_rfl) ⟨o1 [(3,none)] rfl fun _ _ h n=>aM rfl B8 ((up i3 h n.1)).ptr,o1 [(4,none)] rfl fun _ _ h n=>aM rfl pP ⟨_,(upE i4 n.1),(c4.grow h).at⟩,mu rfl i1,ob1 rfl fun _ _ h n=>nA rfl Tryz.underlying38 C4 n.1 (cI rfl) hx11,trivial⟩ W10 fun b q p=>?_
    have hgq:=hg.then p.grow
    have hsb:=p.size.trans hs
    have hdb:=p.defers.trans hd
    have j1:=p.ke 1 rfl i1
    have j2:(aU bw [aR] [aR] s1.1) F2 (b.get 2) q:=p.ke 2 rfl i2
    have y2:=n2
    have j3:=p.ke 3 rfl i3
    have j4:=upE i4 (p.old 4 rfl)
    have z4:=Gb.Box.grow c4 p.grow
    have y4:=n4
    have j23:=p.ke 23 rfl i23
    have j24:=p.ke 24 rfl i24
    have j25:=p.ke 25 rfl i25
    have j37:(IsV (hY.mk (jM 42 bw v3))) (b.get 37) q:=p.ou 0 37 rfl
    have j38:(IsV x10) (b.get 38) q:=p.ou 1 38 rfl
    have j40:(IsV x11) (b.get 40) q:=p.ou 3 40 rfl
    have qb3:=(p.old 3 rfl).trans q3
    have w2_4:ai F2 (Eq b4):=by exact d2_4
    have hns:=Rsc.nsh j2
    have ex:=aU.ptr j2
    refine qF (F:=F2) (i:=4) (d:=41) rfl rfl rfl rfl (by rw [hsb]; decide) (tZ j37) Tryz.call42 W10 (hself _ _ _ _ v3 _ _ _ _ _ j38 j40 (aU.at j2) (by have h:=j3; rw [qb3] at h; exact h) hx12) fun b2 q2 hsz hdf hoth hch hR=>?_
    have hle:=hch.le hns
    obtain ⟨FF,jn,yf⟩:=hR
    rw [← ex] at jn
    have yn:Wr FB k0 FF:=fun c h=>(yf c h).elim (fun h=>y2 c h) (fun h=>.inr (Nat.le_trans hgq.size h))
    have wn4:ai FF (Eq b4):=fun c h hu=>(yf c h).elim (fun h=>w2_4 c h hu) (fun h=>Nat.lt_irrefl _ (Nat.lt_of_lt_of_le (z4.ltF c hu) h))
    replace j1:=aA.pers hle j1
    replace j3:=aA.pers hle j3
    replace z4:=z4.keep hch ((w2_4.symm) _ rfl) hns
    replace j23:=aA.pers hle j23
    replace j24:=aA.pers hle j24
    replace j25:=aA.pers hle j25
    replace j37:=aA.pers hle j37
    replace j38:=aA.pers hle j38
    replace j40:=aA.pers hle j40
    replace hgq:=hgq.step hch y2
    obtain ⟨F2,hFe⟩ : ∃ F,F = FF:=⟨FF,rfl⟩
    subst hFe
    replace j2:=jn
    replace y2:=yn
    have w2_4:ai F2 (Eq b4):=wn4
    clear wn4
    replace qb3:=(hoth 3 (by decide)).trans qb3
    rw [← hoth 1 (by decide)] at j1
    rw [← hoth 2 (by decide)] at j2
    rw [← hoth 3 (by decide)] at j3
    rw [← hoth 4 (by decide)] at j4
    rw [← hoth 23 (by decide)] at j23
    rw [← hoth 24 (by decide)] at j24
    rw [← hoth 25 (by decide)] at j25
    rw [← hoth 37 (by decide)] at j37
    rw [← hoth 38 (by decide)] at j38
    rw [← hoth 40 (by decide)] at j40
    replace hsb:=hsz.trans hsb
    replace hdb:=hdf.trans hdb
    clear hle hch hns hsz hdf hoth ex yf yn jn
    obtain ⟨b,hbb⟩ : ∃ b,b = b2:=⟨b2,rfl⟩
    subst hbb
    obtain ⟨q,hqq⟩ : ∃ q,q = q2:=⟨q2,rfl⟩
    subst hqq
    exact aj (k:=q) (w9 _ _ ⟨F2,⟨hgq,hsb,hdb⟩,j1,j2,y2,qb3,j3,j4,y4,z4,j23,j24,j25,w2_4,trivial⟩)
   rintro a k ⟨F2,⟨hg,hs,hd⟩,i1,i2,n2,q3,i3,i4,n4,c4,i23,i24,i25,d2_4,_⟩
   obtain ⟨x13,hx13,hr⟩:=bind_some hr
   refine cut (fun a' k'=>∃ F2,Bs FB k0 43 a' k'∧(IsV rights_) (a'.get 1) k'∧(aU bw [aR] [aR] x12) F2 (a'.get 2) k'∧Wr FB k0 F2∧a'.get 3 = v3∧(aL (hY.mk (jM 42 bw v3))) (a'.get 3) k'∧a'.get 4 = .pointer (some ⟨b4,0,none⟩)∧Lo k0 (Eq b4)∧Gb.Box b4 x10 k'∧(IsV x6) (a'.get 23) k'∧(IsL x6) (a'.get 24) k'∧(IsV x13) (a'.get 25) k'∧ai F2 (Eq b4)∧True) ?_ hQ ?_
   ·intro Q11 W11 w10
    refine gS 2 (_::_::[]) hs (by kernel_rfl) ⟨o1 [(25,none)] rfl fun _ _ h n=>gV rfl (up i25 h n.1) (cI rfl) hx13,cm 0 rfl rfl,trivial⟩ W11 fun b q p=>?_
    exact aj (k:=q) (w10 _ _ ⟨F2,Bs.post ⟨hg,hs,hd⟩ p,p.ke 1 rfl i1,p.ke 2 rfl i2,n2,(p.old 3 rfl).trans q3,p.ke 3 rfl i3,upE i4 (p.old 4 rfl),n4,Gb.Box.grow c4 p.grow,p.ke 23 rfl i23,p.ke 24 rfl i24,p.ou 1 25 rfl,d2_4,trivial⟩)
   rintro a k ⟨F2,⟨hg,hs,hd⟩,i1,i2,n2,q3,i3,i4,n4,c4,i23,i24,i25,d2_4,_⟩
   exact hgo2402 _ _ _ (Option.some.inj hr).symm ⟨F2,⟨hg,hs,hd⟩,i1,i2,n2,q3,i3,i4,n4,c4,i23,i24,i25,d2_4,trivial⟩
  rw [if_neg (by rw [hc2418]; decide)] at hr
  refine wp_exit ?_
  exact hex2403 _ _ _ _ (Option.some.inj hr).symm ⟨rfl,F2,⟨hg,hs,hd⟩,i2,n2,trivial⟩
 ·rintro r1 a k rfl hR
  dsimp only at hr
  obtain rfl:=Option.some.inj hr
  exact hR
 ·rintro _ _ _ rfl _
  simp at hr
 clear hf1
 rintro _ s2 a k rfl ⟨rfl,F2,⟨hg,hs,hd⟩,i2,n2,_⟩
 dsimp only at hr
 obtain rfl:=Option.some.inj hr
 exact Ja rfl hd hg i2 n2
theorem lS : ∀ n,vL Tryz.prog 42 aR (cu n)
 | 0=>by intro _ _ _ _ _ _ _ _ _ _ _ _ _ _ hr; exact nomatch hr
 | n + 1=>qX (lS n)
def fP (rights_:(List ax)) (s1:Int × Int):Option (aN (Int × Int) ((List aq) × Int)):=
 if (decide (s1.2 < (rights_.length:Int))) then
  (au rights_ s1.2).bind fun x1=>
  (gd x1).bind fun x2=>
  (aD (x2.length:Int) 1).bind fun x3=>
  (qs s1.1 x3).bind fun x4=>
  if (decide (1024 < x4)) then
   some (.ret (([]:List aq),6))
  else
   (aD s1.2 1).bind fun x5=>
   some (.go (x4,x5))
 else
  some (.ex 0 (s1.1,s1.2))
def fg (t_:aq) (rights_:(List ax)):Option ((List aq) × Int):=
 (ah (fP rights_) (rights_.length + 1) (1,0)).bind fun f1=>match f1 with
  | .go _=>none
  | .ex _ _=>
   (bD t_.Built).bind fun x1=>
   (bq t_.Base).bind fun x2=>
   (cu (rights_.length + 1) ({ { t_ with Built:=x1 } with Base:=x2 }) rights_ ([]:(List aq))).bind fun x3=>
   some (x3,0)
  | .ret r1=>some r1
theorem sG {k0:K} {v0 v1:Value} {t_:aq} {rights_:(List ax)} {r:(List aq) × Int} (i0:(IsV t_) v0 k0) (i1:(IsV rights_) v1 k0) (hr:fg t_ rights_ = some r) :
  Calls Tryz.prog 23 #[v0,v1] k0.w (Ret k0 (dv (IsV r.1) (IsV r.2))):=by
 unfold fg at hr
 refine Ret.ofC ?_
 refine iN Tryz.func23 rfl Tryz.ntmps23 (show 2 ≤ 40 by decide) fun a k hk0 hs hd ha=>?_
 obtain ⟨e0,e1,_⟩:=ha
 replace i0:(IsV t_) (a.get 0) k:=by rw [e0,hk0]; exact i0
 replace i1:(IsV rights_) (a.get 1) k:=by rw [e1,hk0]; exact i1
 have hQ:Gb.LetsOut (bodyPost Tryz.prog Tryz.f23 (dw noF k0 (dv (IsV r.1) (IsV r.2)))):=fc
 have hg:Chg noF k0 k:=by rw [hk0]; exact Chg.refl _ k0
 refine gP (fun c l=>Bs noF k0 40 c l∧IsV rights_ (c.get 1) l∧(∃ b2,c.get 2 = .pointer (some ⟨b2,0,none⟩)∧Lo k0 (Eq b2)∧Gb.Box b2 t_ l∧True)) ?_ ?_
 ·intro Q1 W1 w1
  refine gS 3 (⟨some (dR k.w.heap.size t_),[(0,none)]⟩::⟨some cO,[]⟩::⟨some (IsI 0),[]⟩::[]) hs (by kernel_rfl) ⟨ob1 rfl fun _ _ h n=>xS _ h.size rfl (up i0 h n.1),ob1 rfl fun b q h n=>bL rfl dp,aI rfl rfl,trivial⟩ W1 fun b q p=>?_
  have hgq:=hg.then p.grow
  have hsb:=p.size.trans hs
  have hdb:=p.defers.trans hd
  have j1:=p.ke 1 rfl i1
  obtain ⟨b2,j2,x2,z2⟩:(dR k.w.heap.size t_) (b.get 2) q:=p.ou 0 2 rfl
  replace x2:Lo k (Eq b2):=Lo.eq x2
  have y2:Lo k0 (Eq b2):=x2.chg hg
  exact aj (k:=q) (w1 _ _ ⟨⟨hgq,hsb,hdb⟩,j1,b2,j2,y2,z2,trivial⟩)
 rintro a k ⟨⟨hg,hs,hd⟩,i1,b2,i2,n2,c2,_⟩
 refine gP (fun c l=>Bs noF k0 40 c l∧IsV rights_ (c.get 1) l∧c.get 2 = .pointer (some ⟨b2,0,none⟩)∧Lo k0 (Eq b2)∧Gb.Box b2 t_ l∧IsI 1 (c.get 6) l∧True) ?_ ?_
 ·intro Q2 W2 w2
  refine gS 1 (⟨some (IsI 1),[]⟩::[]) hs (by kernel_rfl) ⟨aI rfl rfl,trivial⟩ W2 fun b q p=>?_
  exact aj (k:=q) (w2 _ _ ⟨Bs.post ⟨hg,hs,hd⟩ p,p.ke 1 rfl i1,upE i2 (p.old 2 rfl),n2,Gb.Box.grow c2 p.grow,p.ou 0 6 rfl,trivial⟩)
 rintro a k ⟨⟨hg,hs,hd⟩,i1,i2,n2,c2,i6,_⟩
 refine wp_seq ?_
 refine gP (fun c l=>Bs noF k0 40 c l∧IsV rights_ (c.get 1) l∧c.get 2 = .pointer (some ⟨b2,0,none⟩)∧Lo k0 (Eq b2)∧Gb.Box b2 t_ l∧IsI 1 (c.get 6) l∧IsV rights_ (c.get 11) l∧IsL rights_ (c.get 12) l∧IsI 0 (c.get 13) l∧True) ?_ ?_
 ·intro Q3 W3 w3
  refine gS 3 (_::_::⟨some (IsI 0),[]⟩::[]) hs (by kernel_rfl) ⟨mu rfl i1,o1 [(11,some 0)] rfl fun _ _ h n=>ep rfl rfl Tryz.underlying38 (IsV.rd n.1),ob1 rfl fun _ _ h n=>cV rfl (cI rfl),trivial⟩ W3 fun b q p=>?_
  exact aj (k:=q) (w3 _ _ ⟨Bs.post ⟨hg,hs,hd⟩ p,p.ke 1 rfl i1,upE i2 (p.old 2 rfl),n2,Gb.Box.grow c2 p.grow,p.ke 6 rfl i6,p.ou 0 11 rfl,p.ou 1 12 rfl,p.ou 2 13 rfl,trivial⟩)
 rintro a k ⟨⟨hg,hs,hd⟩,i1,i2,n2,c2,i6,i11,i12,i13,_⟩
 refine wp_block ?_
 obtain ⟨f1,hf1,hr⟩:=bind_some hr
 refine nM f1 (fun s' c l=>Bs noF k0 40 c l∧IsV rights_ (c.get 1) l∧c.get 2 = .pointer (some ⟨b2,0,none⟩)∧Lo k0 (Eq b2)∧Gb.Box b2 t_ l∧IsV s'.1 (c.get 6) l∧IsV rights_ (c.get 11) l∧IsL rights_ (c.get 12) l∧IsV s'.2 (c.get 13) l∧True) (fun i' s' c l=>(i' = 0∧Bs noF k0 40 c l∧IsV rights_ (c.get 1) l∧c.get 2 = .pointer (some ⟨b2,0,none⟩)∧Lo k0 (Eq b2)∧Gb.Box b2 t_ l∧True)) (fun r' c l=>bodyPost Tryz.prog Tryz.f23 (dw noF k0 (dv (IsV r'.1) (IsV r'.2))) .ret c l.w) ?_ hQ ?_ ?_ ?_
 ·intro Q4 W4 hgo hex hret
  refine ek ?_ _ _ _ _ _ hf1 ⟨⟨hg,hs,hd⟩,i1,i2,n2,c2,i6,i11,i12,i13,trivial⟩ Q4 W4 hgo hex hret
  clear hr hf1 hgo hex hret W4 hQ hg hs hd c2 i1 i11 i12 i13 i2 i6 n2
  intro s1 fl_ a k hr hS Q hQ hgo2366 hex2367 hret2368
  obtain ⟨⟨hg,hs,hd⟩,i1,i2,n2,c2,i6,i11,i12,i13,_⟩:=hS
  unfold fP at hr
  refine gP (fun c l=>Bs noF k0 40 c l∧IsV rights_ (c.get 1) l∧c.get 2 = .pointer (some ⟨b2,0,none⟩)∧Lo k0 (Eq b2)∧Gb.Box b2 t_ l∧IsV s1.1 (c.get 6) l∧IsV rights_ (c.get 11) l∧IsL rights_ (c.get 12) l∧IsV s1.2 (c.get 13) l∧(IsV (decide (s1.2 < (rights_.length:Int)))) (c.get 14) l∧True) ?_ ?_
  ·intro Q5 W5 w4
   refine gS 1 (_::[]) hs (by kernel_rfl) ⟨o1 [(13,none),(12,none)] rfl fun _ _ h n=>gU rfl (up i13 h n.1) (up i12 h n.2.1),trivial⟩ W5 fun b q p=>?_
   exact aj (k:=q) (w4 _ _ ⟨Bs.post ⟨hg,hs,hd⟩ p,p.ke 1 rfl i1,upE i2 (p.old 2 rfl),n2,Gb.Box.grow c2 p.grow,p.ke 6 rfl i6,p.ke 11 rfl i11,p.ke 12 rfl i12,p.ke 13 rfl i13,p.ou 0 14 rfl,trivial⟩)
  rintro a k ⟨⟨hg,hs,hd⟩,i1,i2,n2,c2,i6,i11,i12,i13,i14,_⟩
  refine wp_seq ?_
  refine wp_cond_split (isBool i14) (fun hc2386=>?_) (fun hc2386=>?_)
  ·rw [if_pos hc2386] at hr
   refine wp_skip ?_
   refine wp_seq ?_
   refine wp_block ?_
   refine wp_seq ?_
   obtain ⟨x1,hx1,hr⟩:=bind_some hr
   refine cut (fun a' k'=>Bs noF k0 40 a' k'∧(IsV rights_) (a'.get 1) k'∧a'.get 2 = .pointer (some ⟨b2,0,none⟩)∧Lo k0 (Eq b2)∧Gb.Box b2 t_ k'∧(IsV s1.1) (a'.get 6) k'∧(aL x1) (a'.get 8) k'∧(IsV rights_) (a'.get 11) k'∧(IsL rights_) (a'.get 12) k'∧(IsV s1.2) (a'.get 13) k'∧True) ?_ hQ ?_
   ·intro Q6 W6 w5
    refine gS 3 (_::_::⟨some (dR k.w.heap.size (⟨0,0,(⟨0,[]⟩:aE),0,0,false⟩:ax)),[]⟩::[]) hs (by kernel_rfl) ⟨o1 [(11,none),(13,none)] rfl fun _ _ h n=>bs rfl Tryz.underlying38 oN (IsV.rd (up i11 h n.1)) (up i13 h n.2.1) hx1,o1 [(15,some 0)] rfl fun _ _ h n=>aM rfl oN n.1,ob1 rfl fun _ _ h n=>dQ _ h.size rfl z43,trivial⟩ W6 fun b q p=>?_
    have hgq:=hg.then p.grow
    have hsb:=p.size.trans hs
    have hdb:=p.defers.trans hd
    have j1:=p.ke 1 rfl i1
    have j2:=upE i2 (p.old 2 rfl)
    have z2:=Gb.Box.grow c2 p.grow
    have y2:=n2
    have j6:=p.ke 6 rfl i6
    obtain ⟨b8,j8,x8,z8⟩:(dR k.w.heap.size (⟨0,0,(⟨0,[]⟩:aE),0,0,false⟩:ax)) (b.get 8) q:=p.ou 2 8 rfl
    replace x8:Lo k (Eq b8):=Lo.eq x8
    have y8:Lo k0 (Eq b8):=x8.chg hg
    have j11:=p.ke 11 rfl i11
    have j12:=p.ke 12 rfl i12
    have j13:=p.ke 13 rfl i13
    have j16:(IsV x1) (b.get 16) q:=p.ou 1 16 rfl
    have w2_8:ai (Eq b2) (Eq b8):=ai.new c2.ltF x8
    have hns:=z8.kN
    refine bC (i:=3) rfl rfl rfl rfl C4 (Upd.self (α:=ax)) j8 z8 j16 fun q2 hch hz=>?_
    replace hgq:=hgq.step hch y8.wr
    have hle:=hch.le hns
    replace j1:=aA.pers hle j1
    replace z2:=z2.keep hch (w2_8 _ rfl) hns
    replace j6:=aA.pers hle j6
    replace j11:=aA.pers hle j11
    replace j12:=aA.pers hle j12
    replace j13:=aA.pers hle j13
    replace j16:=aA.pers hle j16
    replace z8:=hz
    clear hns hle hch
    obtain ⟨q,hqq⟩ : ∃ q,q = q2:=⟨q2,rfl⟩
    subst hqq
    obtain ⟨q2,hsh,jn⟩:=z8.fZ
    replace j1:=aA.pers hsh.le j1
    replace z2:=z2.handed hsh (w2_8 _ rfl)
    replace j6:=aA.pers hsh.le j6
    replace j11:=aA.pers hsh.le j11
    replace j12:=aA.pers hsh.le j12
    replace j13:=aA.pers hsh.le j13
    rw [← j8] at jn
    replace j8:=jn
    replace hgq:=hgq.hand hsh y8.wr
    rw [← hsh.w]
    clear hsh
    obtain ⟨q,hqq⟩ : ∃ q,q = q2:=⟨q2,rfl⟩
    subst hqq
    exact aj (k:=q) (w5 _ _ ⟨⟨hgq,hsb,hdb⟩,j1,j2,y2,z2,j6,j8,j11,j12,j13,trivial⟩)
   rintro a k ⟨⟨hg,hs,hd⟩,i1,i2,n2,c2,i6,i8,i11,i12,i13,_⟩
   refine wp_seq ?_
   obtain ⟨x3,hx3,hr⟩:=bind_some hr
   obtain ⟨x4,hx4,hr⟩:=bind_some hr
   obtain ⟨x5,hx5,hr⟩:=bind_some hr
   refine cut (fun a' k'=>Bs noF k0 40 a' k'∧(IsV rights_) (a'.get 1) k'∧a'.get 2 = .pointer (some ⟨b2,0,none⟩)∧Lo k0 (Eq b2)∧Gb.Box b2 t_ k'∧(IsV x5) (a'.get 6) k'∧(IsV rights_) (a'.get 11) k'∧(IsL rights_) (a'.get 12) k'∧(IsV s1.2) (a'.get 13) k'∧True) ?_ hQ ?_
   ·intro Q7 W7 w6
    refine gS 7 (_::_::_::_::_::_::_::[]) hs (by kernel_rfl) ⟨mu rfl i6,o1 [(8,none)] rfl fun _ _ h n=>aM rfl oN ((up i8 h n.1)).ptr,o1 [(18,some 1)] rfl fun _ _ h n=>cN rfl Tryz.call27 (pV n.1 hx3),o1 [(19,some 2)] rfl fun _ _ h n=>ep rfl rfl Tryz.underlying39 (IsV.rd n.1),o1 [(20,some 3)] rfl fun _ _ h n=>gV rfl n.1 (cI rfl) hx4,o1 [(17,some 0),(21,some 4)] rfl fun _ _ h n=>BI rfl n.1 n.2.1 hx5,cp 5 rfl rfl,trivial⟩ W7 fun b q p=>?_
    exact aj (k:=q) (w6 _ _ ⟨Bs.post ⟨hg,hs,hd⟩ p,p.ke 1 rfl i1,upE i2 (p.old 2 rfl),n2,Gb.Box.grow c2 p.grow,p.ou 6 6 rfl,p.ke 11 rfl i11,p.ke 12 rfl i12,p.ke 13 rfl i13,trivial⟩)
   rintro a k ⟨⟨hg,hs,hd⟩,i1,i2,n2,c2,i6,i11,i12,i13,_⟩
   refine gP (fun c l=>Bs noF k0 40 c l∧IsV rights_ (c.get 1) l∧c.get 2 = .pointer (some ⟨b2,0,none⟩)∧Lo k0 (Eq b2)∧Gb.Box b2 t_ l∧IsV x5 (c.get 6) l∧IsV rights_ (c.get 11) l∧IsL rights_ (c.get 12) l∧IsV s1.2 (c.get 13) l∧IsV (decide (1024 < x5)) (c.get 24) l∧True) ?_ ?_
   ·intro Q8 W8 w7
    refine gS 2 (_::_::[]) hs (by kernel_rfl) ⟨mu rfl i6,o1 [(23,some 0)] rfl fun _ _ h n=>Cb rfl n.1 (cI rfl),trivial⟩ W8 fun b q p=>?_
    exact aj (k:=q) (w7 _ _ ⟨Bs.post ⟨hg,hs,hd⟩ p,p.ke 1 rfl i1,upE i2 (p.old 2 rfl),n2,Gb.Box.grow c2 p.grow,p.ke 6 rfl i6,p.ke 11 rfl i11,p.ke 12 rfl i12,p.ke 13 rfl i13,p.ou 1 24 rfl,trivial⟩)
   rintro a k ⟨⟨hg,hs,hd⟩,i1,i2,n2,c2,i6,i11,i12,i13,i24,_⟩
   refine wp_cond_split (isBool i24) (fun hc2379=>?_) (fun hc2379=>?_)
   ·rw [if_pos hc2379] at hr
    refine GC noF k0 40 [⟨4,IsV ([]:List aq)⟩,⟨5,IsI 6⟩] ?_ ?_
    ·intro Q9 W9 w8
     refine gS 2 (⟨some cO,[]⟩::⟨some (IsI 6),[]⟩::[]) hs (by kernel_rfl) ⟨ob1 rfl fun b q h n=>bL rfl dp,aI rfl rfl,trivial⟩ W9 fun b q p=>?_
     have hgq:=hg.then p.grow
     have hsb:=p.size.trans hs
     have hdb:=p.defers.trans hd
     have j4:cO (b.get 4) q:=p.ou 0 4 rfl
     have j5:(IsI 6) (b.get 5) q:=p.ou 1 5 rfl
     replace j4:IsV ([]:List aq) (b.get 4) q:=j4.isV
     exact aj (k:=q) (w8 _ _ ⟨⟨hgq,hsb,hdb⟩,j4,j5,trivial⟩)
    rintro a k ⟨⟨hg,hs,hd⟩,i4,i5,_⟩
    refine wp_ret ?_
    exact hret2368 _ _ _ (Option.some.inj hr).symm (CN rfl hd hg i4 i5)
   rw [if_neg (by rw [hc2379]; decide)] at hr
   refine wp_skip ?_
   obtain ⟨x6,hx6,hr⟩:=bind_some hr
   refine cut (fun a' k'=>Bs noF k0 40 a' k'∧(IsV rights_) (a'.get 1) k'∧a'.get 2 = .pointer (some ⟨b2,0,none⟩)∧Lo k0 (Eq b2)∧Gb.Box b2 t_ k'∧(IsV x5) (a'.get 6) k'∧(IsV rights_) (a'.get 11) k'∧(IsL rights_) (a'.get 12) k'∧(IsV x6) (a'.get 13) k'∧True) ?_ hQ ?_
   ·intro Q10 W10 w9
    refine gS 2 (_::_::[]) hs (by kernel_rfl) ⟨o1 [(13,none)] rfl fun _ _ h n=>gV rfl (up i13 h n.1) (cI rfl) hx6,cm 0 rfl rfl,trivial⟩ W10 fun b q p=>?_
    exact aj (k:=q) (w9 _ _ ⟨Bs.post ⟨hg,hs,hd⟩ p,p.ke 1 rfl i1,upE i2 (p.old 2 rfl),n2,Gb.Box.grow c2 p.grow,p.ke 6 rfl i6,p.ke 11 rfl i11,p.ke 12 rfl i12,p.ou 1 13 rfl,trivial⟩)
   rintro a k ⟨⟨hg,hs,hd⟩,i1,i2,n2,c2,i6,i11,i12,i13,_⟩
   exact hgo2366 _ _ _ (Option.some.inj hr).symm ⟨⟨hg,hs,hd⟩,i1,i2,n2,c2,i6,i11,i12,i13,trivial⟩
  rw [if_neg (by rw [hc2386]; decide)] at hr
  refine wp_exit ?_
  exact hex2367 _ _ _ _ (Option.some.inj hr).symm ⟨rfl,⟨hg,hs,hd⟩,i1,i2,n2,c2,trivial⟩
 ·rintro r1 a k rfl hR
  dsimp only at hr
  obtain rfl:=Option.some.inj hr
  exact hR
 ·rintro _ _ _ rfl _
  simp at hr
 clear hf1
 rintro _ s2 a k rfl ⟨rfl,⟨hg,hs,hd⟩,i1,i2,n2,c2,_⟩
 dsimp only at hr
 refine gP (fun c l=>Bs noF k0 40 c l∧IsV rights_ (c.get 1) l∧c.get 2 = .pointer (some ⟨b2,0,none⟩)∧Lo k0 (Eq b2)∧Gb.Box b2 t_ l∧(∃ b9 F9,(aU b9 [aR] [aR] ([]:(List aq))) F9 (c.get 9) l∧Lo k0 F9∧ai (Eq b2) F9∧True)) ?_ ?_
 ·intro Q11 W11 w10
  refine gS 1 (⟨some (rR aq k.w.heap.size),[]⟩::[]) hs (by kernel_rfl) ⟨ob1 rfl fun _ _ h n=>AW _ h.size rfl Tryz.zeroValue59,trivial⟩ W11 fun b q p=>?_
  have hgq:=hg.then p.grow
  have hsb:=p.size.trans hs
  have hdb:=p.defers.trans hd
  have j1:=p.ke 1 rfl i1
  have j2:=upE i2 (p.old 2 rfl)
  have z2:=Gb.Box.grow c2 p.grow
  have y2:=n2
  obtain ⟨b9,j9,x9,z9,hnil⟩:(rR aq k.w.heap.size) (b.get 9) q:=p.ou 0 9 rfl
  replace x9:Lo k (Eq b9):=Lo.eq x9
  have y9:Lo k0 (Eq b9):=x9.chg hg
  have w2_9:ai (Eq b2) (Eq b9):=ai.new c2.ltF x9
  obtain ⟨F9,jn,hFe⟩ : ∃ F,aU b9 [aR] [] ([]:(List aq)) F (b.get 9) q∧F = Eq b9:=⟨_,Box.open z9 IM j9,rfl⟩
  replace j9:=jn
  replace y9:Lo k0 F9:=by rw [hFe]; exact y9
  replace w2_9:ai (Eq b2) F9:=by rw [hFe]; exact w2_9
  clear jn hFe z9
  replace j9:=aU.Ir (g:=aR) j9 hnil rfl
  clear hnil
  exact aj (k:=q) (w10 _ _ ⟨⟨hgq,hsb,hdb⟩,j1,j2,y2,z2,b9,F9,j9,y9,w2_9,trivial⟩)
 rintro a k ⟨⟨hg,hs,hd⟩,i1,i2,n2,c2,b9,F9,i9,n9,d2_9,_⟩
 refine gP (fun c l=>∃ F9,Bs noF k0 40 c l∧IsV rights_ (c.get 1) l∧c.get 2 = .pointer (some ⟨b2,0,none⟩)∧Lo k0 (Eq b2)∧Gb.Box b2 t_ l∧(aU b9 [aR] [aR] ([]:(List aq))) F9 (c.get 9) l∧Lo k0 F9∧ai (Eq b2) F9∧(∃ b10,c.get 10 = .pointer (some ⟨b10,0,none⟩)∧Lo k0 (Eq b10)∧Gb.Box b10 (hY.mk .nilFunc) l∧ai (Eq b2) (Eq b10)∧ai F9 (Eq b10)∧True)) ?_ ?_
 ·intro Q12 W12 w11
  refine gS 1 (⟨some (dR k.w.heap.size (hY.mk .nilFunc)),[]⟩::[]) hs (by kernel_rfl) ⟨ob1 rfl fun _ _ h n=>dQ _ h.size rfl ⟨_,Tryz.zeroValue103,fun _=>vE rfl⟩,trivial⟩ W12 fun b q p=>?_
  have hgq:=hg.then p.grow
  have hsb:=p.size.trans hs
  have hdb:=p.defers.trans hd
  have j1:=p.ke 1 rfl i1
  have j2:=upE i2 (p.old 2 rfl)
  have z2:=Gb.Box.grow c2 p.grow
  have y2:=n2
  have j9:(aU b9 [aR] [aR] ([]:(List aq))) F9 (b.get 9) q:=p.ke 9 rfl i9
  have y9:=n9
  obtain ⟨b10,j10,x10,z10⟩:(dR k.w.heap.size (hY.mk .nilFunc)) (b.get 10) q:=p.ou 0 10 rfl
  replace x10:Lo k (Eq b10):=Lo.eq x10
  have y10:Lo k0 (Eq b10):=x10.chg hg
  have w2_9:ai (Eq b2) F9:=by exact d2_9
  have w2_10:ai (Eq b2) (Eq b10):=ai.new c2.ltF x10
  have w9_10:ai F9 (Eq b10):=ai.new (Rsc.lt i9) x10
  exact aj (k:=q) (w11 _ _ ⟨F9,⟨hgq,hsb,hdb⟩,j1,j2,y2,z2,j9,y9,w2_9,b10,j10,y10,z10,w2_10,w9_10,trivial⟩)
 rintro a k ⟨F9,⟨hg,hs,hd⟩,i1,i2,n2,c2,i9,n9,d2_9,b10,i10,n10,c10,d2_10,d9_10,_⟩
 refine gP (fun c l=>∃ F9,Bs noF k0 40 c l∧IsV rights_ (c.get 1) l∧c.get 2 = .pointer (some ⟨b2,0,none⟩)∧Lo k0 (Eq b2)∧Gb.Box b2 t_ l∧(aU b9 [aR] [aR] ([]:(List aq))) F9 (c.get 9) l∧Lo k0 F9∧c.get 10 = .pointer (some ⟨b10,0,none⟩)∧Lo k0 (Eq b10)∧Gb.Box b10 (hY.mk (jM 42 b9 (.pointer (some ⟨b10,0,none⟩)))) l∧ai (Eq b2) F9∧ai (Eq b2) (Eq b10)∧ai F9 (Eq b10)∧True) ?_ ?_
 ·intro Q13 W13 w12
  refine gS 1 (⟨some (IsV (hY.mk (jM 42 b9 (.pointer (some ⟨b10,0,none⟩))))),[(9,none),(10,none)]⟩::[]) hs (by kernel_rfl) ⟨ob1 rfl fun _ _ h n=>AZ rfl (upE (aU.ptr i9) n.1) (upE i10 n.2.1),trivial⟩ W13 fun b q p=>?_
  have hgq:=hg.then p.grow
  have hsb:=p.size.trans hs
  have hdb:=p.defers.trans hd
  have j1:=p.ke 1 rfl i1
  have j2:=upE i2 (p.old 2 rfl)
  have z2:=Gb.Box.grow c2 p.grow
  have y2:=n2
  have j9:(aU b9 [aR] [aR] ([]:(List aq))) F9 (b.get 9) q:=p.ke 9 rfl i9
  have y9:=n9
  have j10:=upE i10 (p.old 10 rfl)
  have z10:=Gb.Box.grow c10 p.grow
  have y10:=n10
  have j26:(IsV (hY.mk (jM 42 b9 (.pointer (some ⟨b10,0,none⟩))))) (b.get 26) q:=p.ou 0 26 rfl
  have w2_9:ai (Eq b2) F9:=by exact d2_9
  have w2_10:ai (Eq b2) (Eq b10):=by exact d2_10
  have w9_10:ai F9 (Eq b10):=by exact d9_10
  have hns:=z10.kN
  refine bC (i:=1) rfl rfl rfl rfl IP (Upd.self (α:=hY)) j10 z10 j26 fun q2 hch hz=>?_
  replace hgq:=hgq.step hch y10.wr
  have hle:=hch.le hns
  replace j1:=aA.pers hle j1
  replace z2:=z2.keep hch (w2_10 _ rfl) hns
  replace j9:=Rsc.keep j9 hch w9_10 hns
  replace j26:=aA.pers hle j26
  replace z10:=hz
  clear hns hle hch
  obtain ⟨q,hqq⟩ : ∃ q,q = q2:=⟨q2,rfl⟩
  subst hqq
  exact aj (k:=q) (w12 _ _ ⟨F9,⟨hgq,hsb,hdb⟩,j1,j2,y2,z2,j9,y9,j10,y10,z10,w2_9,w2_10,w9_10,trivial⟩)
 rintro a k ⟨F9,⟨hg,hs,hd⟩,i1,i2,n2,c2,i9,n9,i10,n10,c10,d2_9,d2_10,d9_10,_⟩
 refine wp_seq ?_
 obtain ⟨x7,hx7,hr⟩:=bind_some hr
 obtain ⟨x11,hx11,hr⟩:=bind_some hr
 refine cut (fun a' k'=>∃ F9,Bs noF k0 40 a' k'∧(IsV rights_) (a'.get 1) k'∧a'.get 2 = .pointer (some ⟨b2,0,none⟩)∧Lo k0 (Eq b2)∧Gb.Box b2 ({ { t_ with Built:=x7 } with Base:=x11 }) k'∧(aU b9 [aR] [aR] ([]:(List aq))) F9 (a'.get 9) k'∧Lo k0 F9∧a'.get 10 = .pointer (some ⟨b10,0,none⟩)∧Lo k0 (Eq b10)∧Gb.Box b10 (hY.mk (jM 42 b9 (.pointer (some ⟨b10,0,none⟩)))) k'∧ai (Eq b2) F9∧ai (Eq b2) (Eq b10)∧ai F9 (Eq b10)∧True) ?_ hQ ?_
 ·intro Q14 W14 w13
  refine region (m:=7) (_::_::_::_::_::_::_::[]) oH hs (by kernel_rfl) ⟨o1 [(2,none)] rfl fun _ _ h n=>bB rfl sB (xG _) ⟨_,(upE i2 n.1),(c2.grow h).at⟩,o1 [(27,some 0)] rfl fun _ _ h n=>aM rfl IZ n.1,o1 [(28,some 1)] rfl fun _ _ h n=>cN rfl Tryz.call33 (kH n.1 hx7),o1 [(2,none)] rfl fun _ _ h n=>bB rfl se (xg _) ⟨_,(upE i2 n.1),(c2.grow h).at⟩,o1 [(30,some 3)] rfl fun _ _ h n=>aM rfl HW n.1,o1 [(31,some 4)] rfl fun _ _ h n=>cN rfl Tryz.call34 (kL n.1 hx11),o1 [(2,none)] rfl fun _ _ h n=>cM rfl sB (upE i2 n.1),trivial⟩ W14 fun b q p=>?_
  have hgq:=hg.then p.grow
  have hsb:=p.size.trans hs
  have hdb:=p.defers.trans hd
  have j1:=p.ke 1 rfl i1
  have j2:=upE i2 (p.old 2 rfl)
  have z2:=Gb.Box.grow c2 p.grow
  have y2:=n2
  have j9:(aU b9 [aR] [aR] ([]:(List aq))) F9 (b.get 9) q:=p.ke 9 rfl i9
  have y9:=n9
  have j10:=upE i10 (p.old 10 rfl)
  have z10:=Gb.Box.grow c10 p.grow
  have y10:=n10
  have j29:(IsV x7) (b.get 29) q:=p.ou 2 29 rfl
  have j32:(IsV x11) (b.get 32) q:=p.ou 5 32 rfl
  have j33:jG b2 (11) (b.get 33) q:=p.ou 6 33 rfl
  have w2_9:ai (Eq b2) F9:=by exact d2_9
  have w2_10:ai (Eq b2) (Eq b10):=by exact d2_10
  have w9_10:ai F9 (Eq b10):=by exact d9_10
  have hns:=z2.kN
  refine bC (i:=7) rfl rfl rfl rfl C7 r5 j33 z2 j29 fun q2 hch hz=>?_
  replace hgq:=hgq.step hch y2.wr
  have hle:=hch.le hns
  replace j1:=aA.pers hle j1
  replace j9:=Rsc.keep j9 hch (w2_9.symm) hns
  replace z10:=z10.keep hch ((w2_10.symm) _ rfl) hns
  replace j29:=aA.pers hle j29
  replace j32:=aA.pers hle j32
  replace j33:=aA.pers hle j33
  replace z2:=hz
  clear hns hle hch
  obtain ⟨q,hqq⟩ : ∃ q,q = q2:=⟨q2,rfl⟩
  subst hqq
  refine gI (R:=jG b2 (12)) (i:=8) (d:=34) rfl rfl rfl (by rw [hsb]; decide) W14 (cM rfl se j2) fun b2 q2 hsz hdf hoth hgr hnew=>?_
  replace j1:=aA.pers hgr.le j1
  replace z2:=z2.grow hgr
  replace j9:=Rsc.grow j9 hgr
  replace z10:=z10.grow hgr
  replace j29:=aA.pers hgr.le j29
  replace j32:=aA.pers hgr.le j32
  replace j33:=aA.pers hgr.le j33
  replace hgq:=hgq.then hgr
  rw [← hoth 1 (by decide)] at j1
  rw [← hoth 2 (by decide)] at j2
  rw [← hoth 9 (by decide)] at j9
  rw [← hoth 10 (by decide)] at j10
  rw [← hoth 29 (by decide)] at j29
  rw [← hoth 32 (by decide)] at j32
  rw [← hoth 33 (by decide)] at j33
  have j34:=hnew
  replace hsb:=hsz.trans hsb
  replace hdb:=hdf.trans hdb
  clear hgr hsz hdf hoth hnew
  obtain ⟨b,hbb⟩ : ∃ b,b = b2:=⟨b2,rfl⟩
  subst hbb
  obtain ⟨q,hqq⟩ : ∃ q,q = q2:=⟨q2,rfl⟩
  subst hqq
  have hns:=z2.kN
  refine bC (i:=9) rfl rfl rfl rfl CH sK j34 z2 j32 fun q2 hch hz=>?_
  replace hgq:=hgq.step hch y2.wr
  have hle:=hch.le hns
  replace j1:=aA.pers hle j1
  replace j9:=Rsc.keep j9 hch (w2_9.symm) hns
  replace z10:=z10.keep hch ((w2_10.symm) _ rfl) hns
  replace j29:=aA.pers hle j29
  replace j32:=aA.pers hle j32
  replace j33:=aA.pers hle j33
  replace j34:=aA.pers hle j34
  replace z2:=hz
  clear hns hle hch
  obtain ⟨q,hqq⟩ : ∃ q,q = q2:=⟨q2,rfl⟩
  subst hqq
  exact aj (k:=q) (w13 _ _ ⟨F9,⟨hgq,hsb,hdb⟩,j1,j2,y2,z2,j9,y9,j10,y10,z10,w2_9,w2_10,w9_10,trivial⟩)
 rintro a k ⟨F9,⟨hg,hs,hd⟩,i1,i2,n2,c2,i9,n9,i10,n10,c10,d2_9,d2_10,d9_10,_⟩
 refine wp_seq ?_
 obtain ⟨x12,hx12,hr⟩:=bind_some hr
 refine cut (fun a' k'=>∃ F9,Bs noF k0 40 a' k'∧(aU b9 [aR] [aR] x12) F9 (a'.get 9) k'∧Lo k0 F9∧True) ?_ hQ ?_
 ·intro Q15 W15 w14
  refine gS 3 (_::_::_::[]) hs (by kernel_rfl) ⟨o1 [(10,none)] rfl fun _ _ h n=>aM rfl B8 ⟨_,(upE i10 n.1),(c10.grow h).at⟩,o1 [(2,none)] rfl fun _ _ h n=>aM rfl pP ⟨_,(upE i2 n.1),(c2.grow h).at⟩,mu rfl i1,trivial⟩ W15 fun b q p=>?_
  have hgq:=hg.then p.grow
  have hsb:=p.size.trans hs
  have hdb:=p.defers.trans hd
  have j9:(aU b9 [aR] [aR] ([]:(List aq))) F9 (b.get 9) q:=p.ke 9 rfl i9
  have y9:=n9
  have j10:=upE i10 (p.old 10 rfl)
  have z10:=Gb.Box.grow c10 p.grow
  have y10:=n10
  have j35:(IsV (hY.mk (jM 42 b9 (.pointer (some ⟨b10,0,none⟩))))) (b.get 35) q:=p.ou 0 35 rfl
  have j36:(IsV ({ { t_ with Built:=x7 } with Base:=x11 })) (b.get 36) q:=p.ou 1 36 rfl
  have j37:(IsV rights_) (b.get 37) q:=p.ou 2 37 rfl
  have w9_10:ai F9 (Eq b10):=by exact d9_10
  have er:=j10
  obtain ⟨q2,hsh,jn⟩:=z10.fZ
  replace j9:=Rsc.handed j9 hsh w9_10
  replace j35:=aA.pers hsh.le j35
  replace j36:=aA.pers hsh.le j36
  replace j37:=aA.pers hsh.le j37
  rw [← j10] at jn
  replace j10:=jn
  replace hgq:=hgq.hand hsh y10.wr
  rw [← hsh.w]
  clear hsh
  obtain ⟨q,hqq⟩ : ∃ q,q = q2:=⟨q2,rfl⟩
  subst hqq
  have hns:=Rsc.nsh j9
  have ex:=aU.ptr j9
  refine qF (F:=F9) (i:=3) (d:=38) rfl rfl rfl rfl (by rw [hsb]; decide) (tZ j35) Tryz.call42 W15 (lS (rights_.length + 1) _ _ _ _ (.pointer (some ⟨b10,0,none⟩)) _ _ _ _ _ j36 j37 (aU.at j9) (by have h:=j10; rw [er] at h; exact h) hx12) fun b2 q2 hsz hdf hoth hch hR=>?_
  have hle:=hch.le hns
  obtain ⟨FF,jn,yf⟩:=hR
  rw [← ex] at jn
  have yn:Lo k0 FF:=fun c h=>(yf c h).elim (fun h=>y9 c h) (fun h=>Nat.le_trans hgq.size h)
  replace j10:=aA.pers hle j10
  replace j35:=aA.pers hle j35
  replace j36:=aA.pers hle j36
  replace j37:=aA.pers hle j37
  replace hgq:=hgq.step hch y9.wr
  obtain ⟨F9,hFe⟩ : ∃ F,F = FF:=⟨FF,rfl⟩
  subst hFe
  replace j9:=jn
  replace y9:=yn
  rw [← hoth 9 (by decide)] at j9
  rw [← hoth 10 (by decide)] at j10
  rw [← hoth 35 (by decide)] at j35
  rw [← hoth 36 (by decide)] at j36
  rw [← hoth 37 (by decide)] at j37
  replace hsb:=hsz.trans hsb
  replace hdb:=hdf.trans hdb
  clear hle hch hns hsz hdf hoth ex yf yn jn er
  obtain ⟨b,hbb⟩ : ∃ b,b = b2:=⟨b2,rfl⟩
  subst hbb
  obtain ⟨q,hqq⟩ : ∃ q,q = q2:=⟨q2,rfl⟩
  subst hqq
  exact aj (k:=q) (w14 _ _ ⟨F9,⟨hgq,hsb,hdb⟩,j9,y9,trivial⟩)
 rintro a k ⟨F9,⟨hg,hs,hd⟩,i9,n9,_⟩
 refine wp_seq ?_
 obtain ⟨kk,sh2436,cc9⟩:=aU.close i9 (Im _) (fun _ h=>h)
 replace hg:=hg.hand sh2436 n9.wr
 rw [← sh2436.w]
 replace n9:Lo k0 (Eq b9):=fun c e=>n9 c (aU.sub i9 c e)
 replace i9:=aU.ptr i9
 have c9:=cc9
 clear sh2436 cc9
 obtain ⟨k,hkk⟩ : ∃ k,k = kk:=⟨kk,rfl⟩
 subst hkk
 refine cut (fun a' k'=>Bs noF k0 40 a' k'∧(IsV x12) (a'.get 4) k'∧(IsI 0) (a'.get 5) k'∧True) ?_ hQ ?_
 ·intro Q16 W16 w15
  refine gS 3 (_::_::⟨some (IsI 0),[]⟩::[]) hs (by kernel_rfl) ⟨o1 [(9,none)] rfl fun _ _ h n=>aM rfl Kq ⟨_,(upE i9 n.1),(c9.grow h).at⟩,cp 0 rfl rfl,aI rfl rfl,trivial⟩ W16 fun b q p=>?_
  exact aj (k:=q) (w15 _ _ ⟨Bs.post ⟨hg,hs,hd⟩ p,p.ou 1 4 rfl,p.ou 2 5 rfl,trivial⟩)
 rintro a k ⟨⟨hg,hs,hd⟩,i4,i5,_⟩
 refine wp_ret ?_
 obtain rfl:=Option.some.inj hr
 exact CN rfl hd hg i4 i5
noncomputable def k23:=mkO 23 [.st 7,.list (.st 30)] [.list (.st 7),.int] (fun x=>fg x.1 x.2) Tryz.call23 fun k0 vs x r hG h hr=>by obtain ⟨v0,vs,rfl,i0,h⟩:=h.cons; obtain ⟨v1,rfl,i1⟩:=h.one; exact Hh (T:=tb) (sG i0 i1 hr)
def dk (s_:(List ax)) (f_:(ax → Option (Bool))) (s1:Int):Option (aN (Int) (Int)):=
 if (decide (s1 < (s_.length:Int))) then
  (au s_ s1).bind fun x1=>
  (f_ x1).bind fun x2=>
  if x2 then
   some (.ret s1)
  else
   (aD s1 1).bind fun x3=>
   some (.go x3)
 else
  some (.ex 0 s1)
def gj (s_:(List ax)) (f_:(ax → Option (Bool))):Option (Int):=
 (ah (dk s_ f_) (s_.length + 1) 0).bind fun f1=>match f1 with
  | .go _=>none
  | .ex _ _=>
   some (-1)
  | .ret r1=>some r1
noncomputable def k70:=mk 70 [.list (.st 30),.f1 (.st 30) .bool] [.int] (fun x=>gj x.1 x.2) [] [] Tryz.f70 (.s .n (.s (.s .n (.l [] [(8,.v .int)] [(0,[8],[])] (fI 7) .n)) .n)) Tryz.func70 Tryz.call70 rfl rfl fun x=>by kernel_rfl
def bW (s_:(List ax)) (f_:(ax → Option (Bool))):Option (Bool):=
 (gj s_ f_).bind fun x1=>
 some (decide (0 ≤ x1))
noncomputable def k43:=mk 43 [.list (.st 30),.f1 (.st 30) .bool] [.bool] (fun x=>bW x.1 x.2) [k70] [] Tryz.f43 (.n) Tryz.func43 Tryz.call43 rfl rfl fun x=>by kernel_rfl
theorem me {k0:K} {v0 v1:Value} {x0:(List ax)} {x1:(ax → Option (Bool))} {r:Bool} (i0:(IsV x0) v0 k0) (i1:(qD Tryz.prog x1) v1 k0) (hr:bW x0 x1 = some r):Calls Tryz.prog 43 #[v0,v1] k0.w (Ret k0 (IsV r)):=(k43.ok.ok k0 [v0,v1] (x0,x1) r (GOk.none (fun _=>rfl) fun _ e=>by cases e) ⟨i0,(ud.2 i1)⟩ hr)
def eo (s_:(List ax)):Option ((List ax)):=
 (cg [] s_).bind fun x1=>
 some x1
theorem oX {k0:K} {v0:Value} {s_:(List ax)} {r:(List ax)} (i0:(IsV s_) v0 k0) (hr:eo s_ = some r) :
  Calls Tryz.prog 45 #[v0] k0.w (Ret k0 (ay k0.w.heap.size 43 r)):=by
 unfold eo at hr
 refine Ret.ofC ?_
 refine iN Tryz.func45 rfl Tryz.ntmps45 (show 1 ≤ 8 by decide) fun a k hk0 hs hd ha=>?_
 obtain ⟨e0,_⟩:=ha
 replace i0:(IsV s_) (a.get 0) k:=by rw [e0,hk0]; exact i0
 have hQ:Gb.LetsOut (bodyPost Tryz.prog Tryz.f45 (dw noF k0 (ay k0.w.heap.size 43 r))):=fc
 have hg:Chg noF k0 k:=by rw [hk0]; exact Chg.refl _ k0
 refine dr 1 (⟨some cO,[]⟩::[]) rfl ⟨hg,hs,hd⟩ (by kernel_rfl) ⟨ob1 rfl fun b q h n=>bL rfl dp,trivial⟩ [⟨_,_⟩] (fun b q p=>⟨p.ke 0 rfl i0,trivial⟩) ?_
 rintro a k ⟨⟨hg,hs,hd⟩,i0,_⟩
 refine wp_seq ?_
 refine dr 2 (_::⟨some (Df s_),[(3,some 0)]⟩::[]) rfl ⟨hg,hs,hd⟩ (by kernel_rfl) ⟨mu rfl i0,ob1 rfl fun _ _ h n=>rP rfl Tryz.underlying38 (IsV.rd n.1),trivial⟩ [⟨_,_⟩,⟨_,_⟩] (fun b q p=>⟨p.ke 0 rfl i0,p.ou 1 4 rfl,trivial⟩) ?_
 rintro a k ⟨⟨hg,hs,hd⟩,i0,i4,_⟩
 obtain ⟨bb,hbb,hnil⟩:=i4
 refine wp_cond_split hbb (fun hc2506=>?_) (fun hc2506=>?_)
 ·replace hr:some ([]:List ax) = some r:=by rw [hnil hc2506] at hr; simpa [cg] using hr
  refine gP (fun c l=>Bs noF k0 8 c l∧ay 0 43 ([]:List ax) (c.get 2) l∧Lo k0 (obF (c.get 2))∧True) ?_ ?_
  ·intro Q1 W1 w1
   refine gS 1 (⟨some cO,[]⟩::[]) hs (by kernel_rfl) ⟨ob1 rfl fun b q h n=>bL rfl dp,trivial⟩ W1 fun b q p=>?_
   have hgq:=hg.then p.grow
   have hsb:=p.size.trans hs
   have hdb:=p.defers.trans hd
   have j2:cO (b.get 2) q:=p.ou 0 2 rfl
   have y2:Lo k0 (obF (b.get 2)):=j2.lo
   replace j2:ay 0 43 ([]:List ax) (b.get 2) q:=j2.DS
   exact aj (k:=q) (w1 _ _ ⟨⟨hgq,hsb,hdb⟩,j2,y2,trivial⟩)
  rintro a k ⟨⟨hg,hs,hd⟩,i2,n2,_⟩
  refine wp_ret ?_
  obtain rfl:=Option.some.inj hr
  exact iT rfl hd hg (show pd _ _ _ (.tmp 2) _ from ay.raise (k0:=k0) i2 n2)
 ·skip
  refine wp_skip ?_
  refine wp_seq ?_
  obtain ⟨x1,hx1,hr⟩:=bind_some hr
  refine cut (fun a' k'=>Bs noF k0 8 a' k'∧ay 0 43 x1 (a'.get 2) k'∧Lo k0 (obF (a'.get 2))∧True) ?_ hQ ?_
  ·intro Q2 W2 w2
   refine gS 4 (⟨some cO,[]⟩::_::⟨some (ay k.w.heap.size 43 x1),[(5,some 0),(6,some 1)]⟩::_::[]) hs (by kernel_rfl) ⟨ob1 rfl fun b q h n=>fO rfl Tryz.underlying38 zG,mu rfl i0,ob1 rfl fun _ _ h n=>kO rfl Tryz.underlying38 zG h.size n.1 (IsV.rd n.2.1) hx1,cp 2 rfl rfl,trivial⟩ W2 fun b q p=>?_
   have hgq:=hg.then p.grow
   have hsb:=p.size.trans hs
   have hdb:=p.defers.trans hd
   have j2:(ay k.w.heap.size 43 x1) (b.get 2) q:=p.ou 3 2 rfl
   have x2:Lo k (obF (b.get 2)):=j2.loF
   have y2:=x2.chg hg
   replace j2:=j2.weaken (Nat.zero_le _)
   exact aj (k:=q) (w2 _ _ ⟨⟨hgq,hsb,hdb⟩,j2,y2,trivial⟩)
  rintro a k ⟨⟨hg,hs,hd⟩,i2,n2,_⟩
  refine wp_ret ?_
  obtain rfl:=Option.some.inj hr
  exact iT rfl hd hg (show pd _ _ _ (.tmp 2) _ from ay.raise (k0:=k0) i2 n2)
def fV (x_:ax) (p1_:ax):Option (Bool):=
 some (x_.Id == p1_.Id)
noncomputable def k44:=mk 44 [.st 30,.rf (.st 30)] [.bool] (fun x=>fV x.1 x.2) [] [] Tryz.f44 (.n) Tryz.func44 Tryz.call44 rfl rfl fun x=>by kernel_rfl
theorem rO {k0:K} {v0 v1:Value} {x0:ax} {x1:ax} {r:Bool} (i0:(IsV x0) v0 k0) (i1:(aL x1) v1 k0) (hr:fV x0 x1 = some r):Calls Tryz.prog 44 #[v0,v1] k0.w (Ret k0 (IsV r)):=(k44.ok.ok k0 [v0,v1] (x0,x1) r (GOk.none (fun _=>rfl) fun _ e=>by cases e) ⟨i0,(uh.2 i1)⟩ hr)
def dC (t_:aq) (rights_:(List ax)) (r_:ax):Option (Int):=
 (fj r_).bind fun x1=>
 if (!x1) then
  some 1
 else
  (bW rights_ (fun y0=>fV y0 r_)).bind fun x2=>
  if x2 then
   some 5
  else
   (eo rights_).bind fun x3=>
   (cg x3 ([r_])).bind fun x4=>
   (bU t_ x4).bind fun x5=>
   if (!x5.2) then
    some 21
   else
    some 0
theorem tT {k0:K} {v0 v1 v2:Value} {t_:aq} {rights_:(List ax)} {r_:ax} {r:Int} (i0:(IsV t_) v0 k0) (i1:(IsV rights_) v1 k0) (i2:(IsV r_) v2 k0) (hr:dC t_ rights_ r_ = some r) :
  Calls Tryz.prog 25 #[v0,v1,v2] k0.w (Ret k0 (IsV r)):=by
 unfold dC at hr
 refine Ret.ofC ?_
 refine iN Tryz.func25 rfl Tryz.ntmps25 (show 3 ≤ 27 by decide) fun a k hk0 hs hd ha=>?_
 obtain ⟨e0,e1,e2,_⟩:=ha
 replace i0:(IsV t_) (a.get 0) k:=by rw [e0,hk0]; exact i0
 replace i1:(IsV rights_) (a.get 1) k:=by rw [e1,hk0]; exact i1
 replace i2:(IsV r_) (a.get 2) k:=by rw [e2,hk0]; exact i2
 have hQ:Gb.LetsOut (bodyPost Tryz.prog Tryz.f25 (dw noF k0 (IsV r))):=fc
 have hg:Chg noF k0 k:=by rw [hk0]; exact Chg.refl _ k0
 refine dr 3 (⟨some (aL t_),[(0,none)]⟩::⟨some (aL r_),[(2,none)]⟩::⟨some (IsI 0),[]⟩::[]) rfl ⟨hg,hs,hd⟩ (by kernel_rfl) ⟨ob1 rfl fun _ _ h n=>js rfl (up i0 h n.1),ob1 rfl fun _ _ h n=>js rfl (up i2 h n.1),aI rfl rfl,trivial⟩ [⟨_,_⟩,⟨_,_⟩,⟨_,_⟩] (fun b q p=>⟨p.ke 1 rfl i1,p.ou 0 3 rfl,p.ou 1 5 rfl,trivial⟩) ?_
 rintro a k ⟨⟨hg,hs,hd⟩,i1,i3,i5,_⟩
 refine wp_seq ?_
 refine wp_seq ?_
 obtain ⟨x1,hx1,hr⟩:=bind_some hr
 refine cut (fun a' k'=>Bs noF k0 27 a' k'∧(IsV rights_) (a'.get 1) k'∧(aL t_) (a'.get 3) k'∧(aL r_) (a'.get 5) k'∧(IsV (!x1)) (a'.get 11) k'∧True) ?_ hQ ?_
 ·intro Q1 W1 w1
  refine gS 3 (_::_::_::[]) hs (by kernel_rfl) ⟨o1 [(5,none)] rfl fun _ _ h n=>aM rfl oN ((up i5 h n.1)).ptr,o1 [(9,some 0)] rfl fun _ _ h n=>cN rfl Tryz.call28 (r7 n.1 hx1),o1 [(10,some 1)] rfl fun _ _ h n=>vS rfl n.1,trivial⟩ W1 fun b q p=>?_
  exact aj (k:=q) (w1 _ _ ⟨Bs.post ⟨hg,hs,hd⟩ p,p.ke 1 rfl i1,p.ke 3 rfl i3,p.ke 5 rfl i5,p.ou 2 11 rfl,trivial⟩)
 rintro a k ⟨⟨hg,hs,hd⟩,i1,i3,i5,i11,_⟩
 refine wp_cond_split (isBool i11) (fun hc2542=>?_) (fun hc2542=>?_)
 ·rw [if_pos hc2542] at hr
  refine dr 1 (⟨some (IsI 1),[]⟩::[]) rfl ⟨hg,hs,hd⟩ (by kernel_rfl) ⟨aI rfl rfl,trivial⟩ [⟨_,_⟩] (fun b q p=>⟨p.ou 0 6 rfl,trivial⟩) ?_
  rintro a k ⟨⟨hg,hs,hd⟩,i6,_⟩
  refine wp_ret ?_
  obtain rfl:=Option.some.inj hr
  exact iT rfl hd hg i6
 rw [if_neg (by rw [hc2542]; decide)] at hr
 refine wp_skip ?_
 refine wp_seq ?_
 refine wp_seq ?_
 obtain ⟨x2,hx2,hr⟩:=bind_some hr
 refine cut (fun a' k'=>Bs noF k0 27 a' k'∧(IsV rights_) (a'.get 1) k'∧(aL t_) (a'.get 3) k'∧(aL r_) (a'.get 5) k'∧(IsV x2) (a'.get 14) k'∧True) ?_ hQ ?_
 ·intro Q2 W2 w2
  refine gS 3 (_::⟨some (qD Tryz.prog (fun y0=>fV y0 r_)),[(5,none)]⟩::_::[]) hs (by kernel_rfl) ⟨mu rfl i1,ob1 rfl fun _ _ h n=>pD (first:=[]) (captured:=[.tmp 5]) rfl ⟨44,_,_,rfl,Tryz.call44,fun k9 hk9 _ _ _ hx0 hy9=>by simpa [JN] using rO hx0 (aA.pers hk9 (up i5 h n.1)) hy9⟩,o1 [(12,some 0),(13,some 1)] rfl fun _ _ h n=>cN rfl Tryz.call43 (me n.1 n.2.1 hx2),trivial⟩ W2 fun b q p=>?_
  exact aj (k:=q) (w2 _ _ ⟨Bs.post ⟨hg,hs,hd⟩ p,p.ke 1 rfl i1,p.ke 3 rfl i3,p.ke 5 rfl i5,p.ou 2 14 rfl,trivial⟩)
 rintro a k ⟨⟨hg,hs,hd⟩,i1,i3,i5,i14,_⟩
 refine wp_cond_split (isBool i14) (fun hc2539=>?_) (fun hc2539=>?_)
 ·rw [if_pos hc2539] at hr
  refine dr 1 (⟨some (IsI 5),[]⟩::[]) rfl ⟨hg,hs,hd⟩ (by kernel_rfl) ⟨aI rfl rfl,trivial⟩ [⟨_,_⟩] (fun b q p=>⟨p.ou 0 6 rfl,trivial⟩) ?_
  rintro a k ⟨⟨hg,hs,hd⟩,i6,_⟩
  refine wp_ret ?_
  obtain rfl:=Option.some.inj hr
  exact iT rfl hd hg i6
 rw [if_neg (by rw [hc2539]; decide)] at hr
 refine wp_skip ?_
 refine wp_seq ?_
 refine wp_seq ?_
 obtain ⟨x3,hx3,hr⟩:=bind_some hr
 obtain ⟨x4,hx4,hr⟩:=bind_some hr
 obtain ⟨x5,hx5,hr⟩:=bind_some hr
 refine cut (fun a' k'=>Bs noF k0 27 a' k'∧(IsV x5.2) (a'.get 8) k'∧True) ?_ hQ ?_
 ·intro Q3 W3 w3
  refine uZ (a0:=a) (k0:=k) (n:=27) (⟨(aP (IsV t_)),16,[(3,none)],[]⟩::⟨(aP (IsV rights_)),17,[(1,none)],[]⟩::⟨(rI 43 x3),18,[(17,some 1)],[]⟩::⟨(aP (IsV r_)),19,[(5,none)],[]⟩::⟨(aP (IsV (α:=(List ax)) ([r_]))),20,[(19,some 3)],[]⟩::⟨(aP (IsV x4)),21,[(20,some 4)],[2]⟩::⟨(aP (dv (IsV x5.1) (IsV x5.2))),22,[(16,some 0),(21,some 5)],[]⟩::⟨(aP (dv (IsV x5.1) (IsV x5.2))),15,[(22,some 6)],[]⟩::⟨(aP (IsV x5.1)),23,[(15,some 7)],[]⟩::⟨(aP (IsV x5.2)),24,[(15,some 7)],[]⟩::⟨(sL (⟨0,(⟨#[]⟩:ByteArray),0⟩:aK)),7,[],[]⟩::⟨(sL x5.1),7,[(23,some 8)],[10]⟩::⟨(aP (IsV x5.2)),8,[(24,some 9)],[]⟩::[]) oH hs (by kernel_rfl) ⟨⟨inferInstanceAs (eB _ (aP (IsV t_))),fun b q G hz hk hn ht=>by obtain ⟨m0,_⟩:=hn; obtain rfl:=cd ht; exact aQ rfl (by rw [hz,hs]; show 16 < 27; decide) (aM rfl pP ((up i3 hk m0)).ptr)⟩,⟨inferInstanceAs (eB _ (aP (IsV rights_))),fun b q G hz hk hn ht=>by obtain ⟨m0,_⟩:=hn; obtain rfl:=cd ht; exact aQ rfl (by rw [hz,hs]; show 17 < 27; decide) (cV rfl (up i1 hk m0))⟩,⟨inferInstanceAs (eB _ (rI 43 x3)),fun b q G hz hk hn ht=>by obtain ⟨⟨_,_,m0⟩,_⟩:=hn; obtain rfl:=cd ht; exact sC rfl (by rw [hz,hs]; show 18 < 27; decide) (cN rfl Tryz.call45 (oP (Nat.le_refl _) (oX m0 hx3)))⟩,⟨inferInstanceAs (eB _ (aP (IsV r_))),fun b q G hz hk hn ht=>by obtain ⟨m0,_⟩:=hn; obtain rfl:=cd ht; exact aQ rfl (by rw [hz,hs]; show 19 < 27; decide) (aM rfl oN ((up i5 hk m0)).ptr)⟩,⟨inferInstanceAs (eB _ (aP (IsV (α:=(List ax)) ([r_])))),fun b q G hz hk hn ht=>by obtain ⟨⟨_,_,m0⟩,_⟩:=hn; obtain rfl:=cd ht; exact aQ rfl (by rw [hz,hs]; show 20 < 27; decide) (cG rfl Tryz.underlying38 zG rfl (by decide) (by decide) ⟨rfl,m0,trivial⟩)⟩,⟨inferInstanceAs (eB _ (aP (IsV x4))),fun b q G hz hk hn ht=>by obtain ⟨⟨_,_,m0⟩,_⟩:=hn; exact sy rfl (by rw [hz,hs]; show 21 < 27; decide) rfl rfl Tryz.underlying38 zG (sU ht rfl) (IsV.rd m0) hx4⟩,⟨inferInstanceAs (eB _ (aP (dv (IsV x5.1) (IsV x5.2)))),fun b q G hz hk hn ht=>by obtain ⟨⟨_,_,m0⟩,⟨_,_,m1⟩,_⟩:=hn; obtain rfl:=cd ht; exact aQ rfl (by rw [hz,hs]; show 22 < 27; decide) (cN rfl Tryz.call21 (vV m0 m1 hx5))⟩,⟨inferInstanceAs (eB _ (aP (dv (IsV x5.1) (IsV x5.2)))),fun b q G hz hk hn ht=>by obtain ⟨⟨_,_,m0⟩,_⟩:=hn; obtain rfl:=cd ht; exact aQ rfl (by rw [hz,hs]; show 15 < 27; decide) (cV rfl m0)⟩,⟨inferInstanceAs (eB _ (aP (IsV x5.1))),fun b q G hz hk hn ht=>by obtain ⟨⟨_,_,m0⟩,_⟩:=hn; obtain rfl:=cd ht; exact aQ rfl (by rw [hz,hs]; show 23 < 27; decide) (sQ rfl m0)⟩,⟨inferInstanceAs (eB _ (aP (IsV x5.2))),fun b q G hz hk hn ht=>by obtain ⟨⟨_,_,m0⟩,_⟩:=hn; obtain rfl:=cd ht; exact aQ rfl (by rw [hz,hs]; show 24 < 27; decide) (sF rfl m0)⟩,⟨inferInstanceAs (eB _ (sL (⟨0,(⟨#[]⟩:ByteArray),0⟩:aK))),fun b q G hz hk hn ht=>by obtain rfl:=cd ht; exact xM rfl (by rw [hz,hs]; show 7 < 27; decide) (dQ _ (Nat.le_refl _) rfl z55)⟩,⟨inferInstanceAs (eB _ (sL x5.1)),fun b q G hz hk hn ht=>by obtain ⟨⟨_,_,m0⟩,_⟩:=hn; exact s9 rfl rfl rfl Ha (sU ht rfl) m0⟩,⟨inferInstanceAs (eB _ (aP (IsV x5.2))),fun b q G hz hk hn ht=>by obtain ⟨⟨_,_,m0⟩,_⟩:=hn; obtain rfl:=cd ht; exact aQ rfl (by rw [hz,hs]; show 8 < 27; decide) (bL rfl m0)⟩,trivial⟩ W3 fun FL b q p=>?_
  have hgq:=hg.then p.grow
  have hsb:=p.size.trans hs
  have hdb:=p.defers.trans hd
  have j8:(IsV x5.2) (b.get 8) q:=p.plain 12 rfl rfl
  exact w3 _ _ ⟨⟨hgq,hsb,hdb⟩,j8,trivial⟩
 rintro a k ⟨⟨hg,hs,hd⟩,i8,_⟩
 refine dr 2 (_::_::[]) rfl ⟨hg,hs,hd⟩ (by kernel_rfl) ⟨mu rfl i8,o1 [(25,some 0)] rfl fun _ _ h n=>vS rfl n.1,trivial⟩ [⟨_,_⟩] (fun b q p=>⟨p.ou 1 26 rfl,trivial⟩) ?_
 rintro a k ⟨⟨hg,hs,hd⟩,i26,_⟩
 refine wp_cond_split (isBool i26) (fun hc2534=>?_) (fun hc2534=>?_)
 ·rw [if_pos hc2534] at hr
  refine dr 1 (⟨some (IsI 21),[]⟩::[]) rfl ⟨hg,hs,hd⟩ (by kernel_rfl) ⟨aI rfl rfl,trivial⟩ [⟨_,_⟩] (fun b q p=>⟨p.ou 0 6 rfl,trivial⟩) ?_
  rintro a k ⟨⟨hg,hs,hd⟩,i6,_⟩
  refine wp_ret ?_
  obtain rfl:=Option.some.inj hr
  exact iT rfl hd hg i6
 rw [if_neg (by rw [hc2534]; decide)] at hr
 refine wp_skip ?_
 refine dr 1 (⟨some (IsI 0),[]⟩::[]) rfl ⟨hg,hs,hd⟩ (by kernel_rfl) ⟨aI rfl rfl,trivial⟩ [⟨_,_⟩] (fun b q p=>⟨p.ou 0 6 rfl,trivial⟩) ?_
 rintro a k ⟨⟨hg,hs,hd⟩,i6,_⟩
 refine wp_ret ?_
 obtain rfl:=Option.some.inj hr
 exact iT rfl hd hg i6
noncomputable def k25:=mkO 25 [.st 7,.list (.st 30),.st 30] [.int] (fun x=>dC x.1 x.2.1 x.2.2) Tryz.call25 fun k0 vs x r hG h hr=>by obtain ⟨v0,vs,rfl,i0,h⟩:=h.cons; obtain ⟨v1,vs,rfl,i1,h⟩:=h.cons; obtain ⟨v2,rfl,i2⟩:=h.one; exact tT i0 i1 i2 hr
def ny  : Option (Bool):=
 (lH 40).bind fun x1=>
 (lH 41).bind fun x2=>
 (bU x1.1 x1.2).bind fun x3=>
 (bU x2.1 x2.2).bind fun x4=>
 (mc 9 0).bind fun x5=>
 (bU (⟨(⟨[],[],[],[],[],[],[(⟨1,0,1⟩:aJ)],1⟩:an),[],[],[(⟨7,(⟨0,0,0⟩:aJ)⟩:fm)],[],[]⟩:aq) ([(⟨3,0,(⟨1,[(⟨[x5],[]⟩:Phase),(⟨[(⟨(⟨(⟨2,0,3,1⟩:aw),0,9⟩:Box),0,0,false⟩:af)],[]⟩:Phase)]⟩:aE),0,0,false⟩:ax)])).bind fun x6=>
 (dW (⟨(⟨[],[],[],[],[],[],[(⟨1,0,1⟩:aJ)],1⟩:an),[],[],[(⟨7,(⟨0,0,0⟩:aJ)⟩:fm)],[],[]⟩:aq)).bind fun x7=>
 (fg x1.1 x1.2).bind fun x8=>
 (if (((((((x3.2 && (!x4.2)) && (decide (x4.1 = (⟨1,(⟨#[99]⟩:ByteArray),0⟩:aK)))) && (!x6.2)) && (decide (x6.1 = (⟨2,(⟨#[]⟩:ByteArray),0⟩:aK)))) && x7.2) && (x8.2 == 0)) && ((x8.1.length:Int) == 6)) then
  (gQ x1.2 0 1).bind fun x9=>
  (bZ (x1.2.length:Int) 1).bind fun x10=>
  (au x1.2 x10).bind fun x11=>
  (dC x1.1 x9 x11).bind fun x12=>
  some (x12 == 0)
 else
  some false).bind fun x13=>
 some x13
noncomputable def k10:=mk 10 [] [.bool] (fun x=>ny) [k31,k21,k32,k19,k23,k25] [] Tryz.f10 (.n) Tryz.func10 Tryz.call10 rfl rfl fun x=>by kernel_rfl
def db (ph_:Phase):Option (Bool):=
 some ((decide ((ph_.Volumes.length:Int) ≤ 2)) && (decide ((ph_.bd.length:Int) ≤ 3)))
noncomputable def k13:=mk 13 [.st 3] [.bool] (fun x=>db x) [] [] Tryz.f13 (.n) Tryz.func13 Tryz.call13 rfl rfl fun x=>by kernel_rfl
def mC (r_:ax) (s1:Int):Option (aN (Int) (Bool)):=
 if ((decide (s1 < (r_.aE.Phases.length:Int))) && (decide (s1 < 5))) then
  (au r_.aE.Phases s1).bind fun x1=>
  (db x1).bind fun x2=>
  if (!x2) then
   some (.ret false)
  else
   (aD s1 1).bind fun x3=>
   some (.go x3)
 else
  some (.ex 0 s1)
def mL (r_:ax):Option (Bool):=
 (ah (mC r_) (6) 0).bind fun f1=>match f1 with
  | .go _=>none
  | .ex _ _=>
   some (decide ((r_.aE.Phases.length:Int) ≤ 4))
  | .ret r1=>some r1
noncomputable def k12:=mk 12 [.st 30] [.bool] (fun x=>mL x) [k13] [] Tryz.f12 (.s .n (.s (.s .n (.l [] [(3,.v .int)] [(0,[3],[])] (fun _=>6) .n)) .n)) Tryz.func12 Tryz.call12 rfl rfl fun x=>by kernel_rfl
def my (t_:aq) (s1:Int):Option (aN (Int) (Bool)):=
 if ((decide (s1 < (t_.an.Caps.length:Int))) && (decide (s1 < 4))) then
  (au t_.an.Caps s1).bind fun x1=>
  if (decide (12 < (x1.Corners.length:Int))) then
   some (.ret false)
  else
   (aD s1 1).bind fun x2=>
   some (.go x2)
 else
  some (.ex 0 s1)
def mr (t_:aq) (s1:Int):Option (aN (Int) (Bool)):=
 if ((decide (s1 < (t_.an.Views.length:Int))) && (decide (s1 < 4))) then
  (au t_.an.Views s1).bind fun x1=>
  if (decide (5 < (x1.Targets.length:Int))) then
   some (.ret false)
  else
   (aD s1 1).bind fun x2=>
   some (.go x2)
 else
  some (.ex 2 s1)
def mm (t_:aq) (s1:Int):Option (aN (Int) (Bool)):=
 if ((decide (s1 < (t_.an.Tables.length:Int))) && (decide (s1 < 5))) then
  (au t_.an.Tables s1).bind fun x1=>
  if (decide (8 < (x1.Rows.length:Int))) then
   some (.ret false)
  else
   (aD s1 1).bind fun x2=>
   some (.go x2)
 else
  some (.ex 4 s1)
def mw (rights_:(List ax)) (n_:Int) (s1:Int):Option (aN (Int) (Bool)):=
 if ((decide (s1 < (rights_.length:Int))) && (decide (s1 ≤ n_))) then
  (au rights_ s1).bind fun x1=>
  (mL x1).bind fun x2=>
  if (!x2) then
   some (.ret false)
  else
   (aD s1 1).bind fun x3=>
   some (.go x3)
 else
  some (.ex 6 s1)
def oG (t_:aq) (rights_:(List ax)) (n_:Int):Option (Bool):=
 (ah (my t_) (5) 0).bind fun f1=>match f1 with
  | .go _=>none
  | .ex _ _ =>
   (ah (mr t_) (5) 0).bind fun f2=>match f2 with
    | .go _=>none
    | .ex _ _ =>
     (ah (mm t_) (6) 0).bind fun f3=>match f3 with
      | .go _=>none
      | .ex _ _ =>
       (ah (mw rights_ n_) (rights_.length + 1) 0).bind fun f4=>match f4 with
        | .go _=>none
        | .ex _ _=>
         some ((((((((decide ((t_.an.Caps.length:Int) ≤ 3)) && (decide ((t_.an.Sun.length:Int) ≤ 5))) && (decide ((t_.Windows.length:Int) ≤ 4))) && (decide ((t_.an.Views.length:Int) ≤ 3))) && (decide ((t_.Built.length:Int) ≤ 8))) && (decide ((t_.Base.length:Int) ≤ 6))) && (decide ((t_.an.Tables.length:Int) ≤ 4))) && (decide ((rights_.length:Int) ≤ n_)))
        | .ret r1=>some r1
      | .ret r2=>some r2
    | .ret r3=>some r3
  | .ret r4=>some r4
noncomputable def k11:=mk 11 [.st 7,.list (.st 30),.int] [.bool] (fun x=>oG x.1 x.2.1 x.2.2) [k12] [] Tryz.f11 (.s .n (.s .n (.s (.s .n (.l [] [(8,.v .int)] [(0,[8],[])] (fun _=>5) .n)) (.s (.s .n (.l [] [(9,.v .int)] [(2,[9],[])] (fun _=>5) .n)) (.s (.s .n (.l [] [(10,.v .int)] [(4,[10],[])] (fun _=>6) .n)) (.s (.s .n (.l [] [(11,.v .int)] [(6,[11],[])] (fL [1]) .n)) .n)))))) Tryz.func11 Tryz.call11 rfl rfl fun x=>by kernel_rfl
def dZ (n_:Int):Option (Int):=
 some (max (-1099511627776) (min n_ 1099511627776))
noncomputable def k36:=mk 36 [.int] [.int] (fun x=>dZ x) [] [] Tryz.f36 (.n) Tryz.func36 Tryz.call36 rfl rfl fun x=>by kernel_rfl
def kD (lot_:Int) (ph_:Phase) (s1:(List bf) × Int):Option (aN ((List bf) × Int) (aq)):=
 if (decide (s1.2 < (ph_.Volumes.length:Int))) then
  (au ph_.Volumes s1.2).bind fun x1=>
  (cg s1.1 ([(⟨lot_,x1⟩:bf)])).bind fun x2=>
  (aD s1.2 1).bind fun x3=>
  some (.go (x2,x3))
 else
  some (.ex 0 (s1.1,s1.2))
def jV (ph_:Phase) (s1:(List Entry) × Int):Option (aN ((List Entry) × Int) (aq)):=
 if (decide (s1.2 < (ph_.bd.length:Int))) then
  (au ph_.bd s1.2).bind fun x1=>
  (au ph_.bd s1.2).bind fun x2=>
  (dZ x2.N).bind fun x3=>
  (bZ 0 x3).bind fun x4=>
  (cg s1.1 ([(⟨x1.Name,x4⟩:Entry)])).bind fun x5=>
  (aD s1.2 1).bind fun x6=>
  some (.go (x5,x6))
 else
  some (.ex 2 (s1.1,s1.2))
def hZ (t_:aq) (lot_:Int) (ph_:Phase):Option (aq):=
 (cg [] t_.Built).bind fun x1=>
 (ah (kD lot_ ph_) (ph_.Volumes.length + 1) (x1,0)).bind fun f1=>match f1 with
  | .go _=>none
  | .ex _ s1 =>
   (cg [] t_.Base).bind fun x2=>
   (ah (jV ph_) (ph_.bd.length + 1) (x2,0)).bind fun f2=>match f2 with
    | .go _=>none
    | .ex _ s2=>
     some ({ { t_ with Built:=s1.1 } with Base:=s2.1 })
    | .ret r1=>some r1
  | .ret r2=>some r2
noncomputable def k16:=mk 16 [.st 7,.int,.st 3] [.st 7] (fun x=>hZ x.1 x.2.1 x.2.2) [k36] [3,6,7,9,11,14,22,31,32,35,43,60] Tryz.f16 (.s .n (.s .n (.s (.s .n (.l [] [(7,.o 97 (.st 21)),(8,.v .int)] [(0,[8],[])] (fun e=>(gt e 2 (.st 3):Phase).Volumes.length + 1) .n)) (.s (.f [7] .n) (.s (.s (.f [7] .n) (.l [] [(9,.o 99 (.st 6)),(10,.v .int)] [(2,[10],[])] (fun e=>(gt e 2 (.st 3):Phase).bd.length + 1) (.s (.s (.f [7] .n) .n) (.s (.f [7] .n) (.f [7] .n))))) (.s (.f [7,9] .n) (.s (.f [9] .n) .n))))))) Tryz.func16 Tryz.call16 rfl rfl fun x=>by kernel_rfl
theorem vu {k0:K} {v0 v1 v2:Value} {x0:aq} {x1:Int} {x2:Phase} {r:aq} (i0:(IsV x0) v0 k0) (i1:(IsV x1) v1 k0) (i2:(IsV x2) v2 k0) (hr:hZ x0 x1 x2 = some r):Calls Tryz.prog 16 #[v0,v1,v2] k0.w (Ret k0 (IsV r)):=(k16.ok.ok k0 [v0,v1,v2] (x0,x1,x2) r (GOk.none (fun _=>rfl) fun _ e=>by cases e) ⟨i0,i1,i2⟩ hr)
def lu (a_:aq) (b_:aq) (s1:Int):Option (aN (Int) (Bool)):=
 if (decide (s1 < (a_.Built.length:Int))) then
  (au a_.Built s1).bind fun x1=>
  (au b_.Built s1).bind fun x2=>
  if (!decide (x1 = x2)) then
   some (.ret false)
  else
   (aD s1 1).bind fun x3=>
   some (.go x3)
 else
  some (.ex 0 s1)
def lr (a_:aq) (b_:aq) (s1:Int):Option (aN (Int) (Bool)):=
 if (decide (s1 < (a_.Base.length:Int))) then
  (au a_.Base s1).bind fun x1=>
  (au b_.Base s1).bind fun x2=>
  if (!decide (x1 = x2)) then
   some (.ret false)
  else
   (aD s1 1).bind fun x3=>
   some (.go x3)
 else
  some (.ex 2 s1)
def k7 (a_:aq) (b_:aq):Option (Bool):=
 if (((a_.Built.length:Int) != (b_.Built.length:Int)) || ((a_.Base.length:Int) != (b_.Base.length:Int))) then
  some false
 else
  (ah (lu a_ b_) (a_.Built.length + 1) 0).bind fun f1=>match f1 with
   | .go _=>none
   | .ex _ _ =>
    (ah (lr a_ b_) (a_.Base.length + 1) 0).bind fun f2=>match f2 with
     | .go _=>none
     | .ex _ _=>
      some true
     | .ret r1=>some r1
   | .ret r2=>some r2
noncomputable def k14:=mk 14 [.st 7,.st 7] [.bool] (fun x=>k7 x.1 x.2) [] [] Tryz.f14 (.s .n (.s .n (.s (.s .n (.l [] [(5,.v .int)] [(0,[5],[])] (fun e=>(gt e 0 (.st 7):aq).Built.length + 1) .n)) (.s (.s .n (.l [] [(6,.v .int)] [(2,[6],[])] (fun e=>(gt e 0 (.st 7):aq).Base.length + 1) .n)) .n)))) Tryz.func14 Tryz.call14 rfl rfl fun x=>by kernel_rfl
def iz (r_:ax):Option (Bool):=
 some (((!r_.Over) && (decide (0 ≤ r_.Used))) && (decide (r_.Used < (r_.aE.Phases.length:Int))))
noncomputable def k46:=mk 46 [.st 30] [.bool] (fun x=>iz x) [] [] Tryz.f46 (.n) Tryz.func46 Tryz.call46 rfl rfl fun x=>by kernel_rfl
theorem tP {k0:K} {v0:Value} {x0:ax} {r:Bool} (i0:(IsV x0) v0 k0) (hr:iz x0 = some r):Calls Tryz.prog 46 #[v0] k0.w (Ret k0 (IsV r)):=(k46.ok.ok k0 [v0] x0 r (GOk.none (fun _=>rfl) fun _ e=>by cases e) i0 hr)
def jq (l_:(List Phase)) (s1:(List Phase) × Int):Option (aN ((List Phase) × Int) ((List Phase))):=
 if (decide (s1.2 < (l_.length:Int))) then
  (au l_ s1.2).bind fun x1=>
  (cg [] x1.Volumes).bind fun x2=>
  (au l_ s1.2).bind fun x3=>
  (cg [] x3.bd).bind fun x4=>
  (cg s1.1 ([(⟨x2,x4⟩:Phase)])).bind fun x5=>
  (aD s1.2 1).bind fun x6=>
  some (.go (x5,x6))
 else
  some (.ex 0 (s1.1,s1.2))
def mn (l_:(List Phase)):Option ((List Phase)):=
 (ah (jq l_) (l_.length + ([]:List Phase).length + 1) (([]:List Phase),0)).bind fun f1=>match f1 with
  | .go _=>none
  | .ex _ s1=>
   some s1.1
  | .ret r1=>some r1
noncomputable def k52:=mk 52 [.list (.st 3)] [.list (.st 3)] (fun x=>mn x) [] [3,11,28] Tryz.f52 (.s .n (.s .n (.s (.s .n (.l [] [(3,.o 46 (.st 3)),(4,.v .int)] [(0,[4],[])] (fL [0,3]) .n)) (.s (.f [3] .n) .n)))) Tryz.func52 Tryz.call52 rfl rfl fun x=>by kernel_rfl
def ju (r_:ax):Option ((List Phase)):=
 (iz r_).bind fun x1=>
 if (!x1) then
  some ([]:List Phase)
 else
  (gQ r_.aE.Phases r_.Used (r_.aE.Phases.length:Int)).bind fun x2=>
  (mn x2).bind fun x3=>
  some x3
noncomputable def k37:=mk 37 [.st 30] [.list (.st 3)] (fun x=>ju x) [k46,k52] [] Tryz.f37 (.n) Tryz.func37 Tryz.call37 rfl rfl fun x=>by kernel_rfl
theorem wy {k0:K} {v0:Value} {x0:ax} {r:(List Phase)} (i0:(IsV x0) v0 k0) (hr:ju x0 = some r):Calls Tryz.prog 37 #[v0] k0.w (Ret k0 (IsV r)):=(k37.ok.ok k0 [v0] x0 r (GOk.none (fun _=>rfl) fun _ e=>by cases e) i0 hr)
def iU (rights_:(List ax)) (s1:Int × aq) (x1:(List Phase)) (s2:Int × aq):Option (aN (Int × aq) (aq)):=
 if (decide (s2.1 < (x1.length:Int))) then
  (au rights_ s1.1).bind fun x2=>
  (au x1 s2.1).bind fun x3=>
  (hZ s2.2 x2.aE.Lot x3).bind fun x4=>
  (aD s2.1 1).bind fun x5=>
  some (.go (x5,x4))
 else
  some (.ex 2 (s2.1,s2.2))
def ll (rights_:(List ax)) (s1:Int × aq):Option (aN (Int × aq) (aq)):=
 if (decide (s1.1 < (rights_.length:Int))) then
  (au rights_ s1.1).bind fun x1=>
  (ju x1).bind fun x2=>
  (ah (iU rights_ s1 x2) (rights_.length + x2.length + 1) (0,s1.2)).bind fun f1=>match f1 with
   | .go _=>none
   | .ex _ s2=>
    (aD s1.1 1).bind fun x3=>
    some (.go (x3,s2.2))
   | .ret r1=>some (.ret r1)
 else
  some (.ex 0 (s1.1,s1.2))
def mZ (t_:aq) (rights_:(List ax)):Option (aq):=
 (ah (ll rights_) (rights_.length + 1) (0,t_)).bind fun f1=>match f1 with
  | .go _=>none
  | .ex _ s1=>
   some s1.2
  | .ret r1=>some r1
noncomputable def k18:=mk 18 [.st 7,.list (.st 30)] [.st 7] (fun x=>mZ x.1 x.2) [k37,k16] [2,4] Tryz.f18 (.s .n (.s (.s .n (.l [] [(5,.v .int),(2,.b (.st 7))] [(0,[5],[])] (fL [1]) (.s .n (.s (.s .n (.s .n (.l [] [(7,.v .int),(2,.b (.st 7))] [(2,[7],[])] (fL [1,6]) .n))) .n)))) .n)) Tryz.func18 Tryz.call18 rfl rfl fun x=>by kernel_rfl
def eO (r_:aw):Option (Bool):=
 some ((((((decide (0 ≤ r_.X0)) && (decide (r_.X0 < r_.X1))) && (decide (r_.X1 ≤ 1048576))) && (decide (0 ≤ r_.Y0))) && (decide (r_.Y0 < r_.Y1))) && (decide (r_.Y1 ≤ 1048576)))
noncomputable def It:=mk 124 [.st 2] [.bool] (fun x=>eO x) [] [] Tryz.f124 (.n) Tryz.func124 Tryz.call124 rfl rfl fun x=>by kernel_rfl
def mR (b_:Box):Option (Bool):=
 (eO b_.Base).bind fun x1=>
 some (((x1 && (decide (0 ≤ b_.Z0))) && (decide (b_.Z0 < b_.Z1))) && (decide (b_.Z1 ≤ 4096)))
noncomputable def KJ:=mk 113 [.st 5] [.bool] (fun x=>mR x) [It] [] Tryz.f113 (.n) Tryz.func113 Tryz.call113 rfl rfl fun x=>by kernel_rfl
def mj (n_:Int) (from_:Int) (to_:Int):Option (Bool):=
 some ((decide (from_ ≤ n_)) && (decide (n_ ≤ to_)))
noncomputable def Lv:=mk 114 [.int,.int,.int] [.bool] (fun x=>mj x.1 x.2.1 x.2.2) [] [] Tryz.f114 (.n) Tryz.func114 Tryz.call114 rfl rfl fun x=>by kernel_rfl
def dH (v_:af):Option (Bool):=
 (mR v_.Box).bind fun x1=>
 (if x1 then
  (mj v_.Use 0 5).bind fun x2=>
  some x2
 else
  some false).bind fun x3=>
 (if x3 then
  (mj v_.Units 0 1048576).bind fun x4=>
  some x4
 else
  some false).bind fun x5=>
 some (x5 && ((v_.Units == 0) || (v_.Use == 0)))
noncomputable def k89:=mk 89 [.st 4] [.bool] (fun x=>dH x) [KJ,Lv] [] Tryz.f89 (.n) Tryz.func89 Tryz.call89 rfl rfl fun x=>by kernel_rfl
def fR (p_:(List aT)) (s1:Int):Option (aN (Int) (Bool)):=
 if (decide (s1 < (p_.length:Int))) then
  (au p_ s1).bind fun x1=>
  (aD s1 1).bind fun x2=>
  (nm x2 (p_.length:Int)).bind fun x3=>
  (au p_ x3).bind fun x4=>
  (aD s1 2).bind fun x5=>
  (nm x5 (p_.length:Int)).bind fun x6=>
  (au p_ x6).bind fun x7=>
  if ((((((decide (x1.X < 0)) || (decide (1048576 < x1.X))) || (decide (x1.Y < 0))) || (decide (1048576 < x1.Y))) || ((x1.X == x4.X) == (x1.Y == x4.Y))) || ((x1.X == x4.X) == (x4.X == x7.X))) then
   some (.ret false)
  else
   (aD s1 1).bind fun x8=>
   some (.go x8)
 else
  some (.ex 0 s1)
def iS (p_:(List aT)):Option (Bool):=
 (ah (fR p_) (p_.length + 1) 0).bind fun f1=>match f1 with
  | .go _=>none
  | .ex _ _=>
   some true
  | .ret r1=>some r1
noncomputable def Kc:=mk 140 [.list (.st 1)] [.bool] (fun x=>iS x) [] [] Tryz.f140 (.s .n (.s .n (.s (.s .n (.l [] [(4,.v .int)] [(0,[4],[])] (fL [0]) .n)) .n))) Tryz.func140 Tryz.call140 rfl rfl fun x=>by kernel_rfl
def oJ (a_:aT) (b_:aT):Option (Bool):=
 some ((decide (a_.X < b_.X)) || ((a_.X == b_.X) && (decide (a_.Y < b_.Y))))
noncomputable def KF:=mk 141 [.st 1,.st 1] [.bool] (fun x=>oJ x.1 x.2) [] [] Tryz.f141 (.n) Tryz.func141 Tryz.call141 rfl rfl fun x=>by kernel_rfl
def vR (a_:aT) (b_:aT) (c_:aT) (d_:aT):Option (Bool):=
 some ((decide ((max (min a_.X b_.X) (min c_.X d_.X)) ≤ (min (max a_.X b_.X) (max c_.X d_.X)))) && (decide ((max (min a_.Y b_.Y) (min c_.Y d_.Y)) ≤ (min (max a_.Y b_.Y) (max c_.Y d_.Y)))))
noncomputable def Ky:=mk 142 [.st 1,.st 1,.st 1,.st 1] [.bool] (fun x=>vR x.1 x.2.1 x.2.2.1 x.2.2.2) [] [] Tryz.f142 (.n) Tryz.func142 Tryz.call142 rfl rfl fun x=>by kernel_rfl
def cF (p_:(List aT)) (s1:Int) (s2:Int):Option (aN (Int) (Bool)):=
 if (decide (s2 < (p_.length:Int))) then
  (aD s2 1).bind fun x1=>
  (nm x1 (p_.length:Int)).bind fun x2=>
  (if (x2 != s1) then
   (au p_ s1).bind fun x3=>
   (aD s1 1).bind fun x4=>
   (au p_ x4).bind fun x5=>
   (au p_ s2).bind fun x6=>
   (aD s2 1).bind fun x7=>
   (nm x7 (p_.length:Int)).bind fun x8=>
   (au p_ x8).bind fun x9=>
   (vR x3 x5 x6 x9).bind fun x10=>
   some x10
  else
   some false).bind fun x11=>
  if x11 then
   some (.ret false)
  else
   (aD s2 1).bind fun x12=>
   some (.go x12)
 else
  some (.ex 2 s2)
def kf (p_:(List aT)) (s1:Int):Option (aN (Int) (Bool)):=
 if (decide (s1 < (p_.length:Int))) then
  (if (decide (0 < s1)) then
   (au p_ 0).bind fun x1=>
   (au p_ s1).bind fun x2=>
   (oJ x1 x2).bind fun x3=>
   some (!x3)
  else
   some false).bind fun x4=>
  if x4 then
   some (.ret false)
  else
   (aD s1 2).bind fun x5=>
   (ah (cF p_ s1) (p_.length + 1) x5).bind fun f1=>match f1 with
    | .go _=>none
    | .ex _ _=>
     (aD s1 1).bind fun x6=>
     some (.go x6)
    | .ret r1=>some (.ret r1)
 else
  some (.ex 0 s1)
def nL (p_:(List aT)):Option (Bool):=
 if ((decide ((p_.length:Int) < 4)) || (decide (60 < (p_.length:Int)))) then
  some false
 else
  (iS p_).bind fun x1=>
  (if (!x1) then
   some true
  else
   (au p_ 0).bind fun x2=>
   (au p_ 1).bind fun x3=>
   some (x2.Y != x3.Y)).bind fun x4=>
  if x4 then
   some false
  else
   (ah (kf p_) (p_.length + 1) 0).bind fun f1=>match f1 with
    | .go _=>none
    | .ex _ _=>
     some true
    | .ret r1=>some r1
noncomputable def Kw:=mk 115 [.list (.st 1)] [.bool] (fun x=>nL x) [Kc,KF,Ky] [] Tryz.f115 (.s .n (.s .n (.s .n (.s .n (.s (.s .n (.l [] [(4,.v .int)] [(0,[4],[])] (fL [0]) (.s .n (.s (.s .n (.s .n (.l [] [(5,.v .int)] [(2,[5],[])] (fL [0]) .n))) .n)))) .n))))) Tryz.func115 Tryz.call115 rfl rfl fun x=>by kernel_rfl
def eS (l_:(List Int)) (s1:(List Int) × Int) (s2:Int):Option (aN (Int) ((List Int))):=
 (if (decide (s2 < (s1.1.length:Int))) then
  (au s1.1 s2).bind fun x1=>
  (au l_ s1.2).bind fun x2=>
  some (decide (x1 < x2))
 else
  some false).bind fun x3=>
 if x3 then
  (aD s2 1).bind fun x4=>
  some (.go x4)
 else
  some (.ex 2 s2)
def gF (l_:(List Int)) (s1:(List Int) × Int):Option (aN ((List Int) × Int) ((List Int))):=
 if (decide (s1.2 < (l_.length:Int))) then
  ((ah (eS l_ s1) (l_.length + s1.1.length + 1) 0).bind fun f1=>match f1 with
   | .go _=>none
   | .ex _ s2 =>
    (if (decide (s2 < (s1.1.length:Int))) then
     (au s1.1 s2).bind fun x1=>
     (au l_ s1.2).bind fun x2=>
     some (x1 == x2)
    else
     some false).bind fun x3=>
    if x3 then
     some s1.1
    else
     (gQ s1.1 0 s2).bind fun x4=>
     (cg [] x4).bind fun x5=>
     (au l_ s1.2).bind fun x6=>
     (cg x5 ([x6])).bind fun x7=>
     (gQ s1.1 s2 (s1.1.length:Int)).bind fun x8=>
     (cg x7 x8).bind fun x9=>
     some x9
   | .ret r1=>none).bind fun s3=>
  (aD s1.2 1).bind fun x10=>
  some (.go (s3,x10))
 else
  some (.ex 0 (s1.1,s1.2))
def eU (l_:(List Int)):Option ((List Int)):=
 (ah (gF l_) (l_.length + ([]:List Int).length + 1) (([]:List Int),0)).bind fun f1=>match f1 with
  | .go _=>none
  | .ex _ s1=>
   some s1.1
  | .ret r1=>some r1
theorem tH {k0:K} {v0:Value} {l_:(List Int)} {r:(List Int)} (i0:(IsV l_) v0 k0) (hr:eU l_ = some r) :
  Calls Tryz.prog 116 #[v0] k0.w (Ret k0 (IsV r)):=by
 unfold eU at hr
 refine Ret.ofC ?_
 refine iN Tryz.func116 rfl Tryz.ntmps116 (show 1 ≤ 62 by decide) fun a k hk0 hs hd ha=>?_
 obtain ⟨e0,_⟩:=ha
 replace i0:(IsV l_) (a.get 0) k:=by rw [e0,hk0]; exact i0
 have hQ:Gb.LetsOut (bodyPost Tryz.prog Tryz.f116 (dw noF k0 (IsV r))):=fc
 have hg:Chg noF k0 k:=by rw [hk0]; exact Chg.refl _ k0
 refine dr 1 (⟨some cO,[]⟩::[]) rfl ⟨hg,hs,hd⟩ (by kernel_rfl) ⟨ob1 rfl fun b q h n=>bL rfl dp,trivial⟩ [⟨_,_⟩] (fun b q p=>⟨p.ke 0 rfl i0,trivial⟩) ?_
 rintro a k ⟨⟨hg,hs,hd⟩,i0,_⟩
 refine GC noF k0 62 [⟨0,IsV l_⟩,⟨3,IsV ([]:List Int)⟩] ?_ ?_
 ·intro Q1 W1 w1
  refine gS 1 (⟨some cO,[]⟩::[]) hs (by kernel_rfl) ⟨ob1 rfl fun b q h n=>bL rfl dp,trivial⟩ W1 fun b q p=>?_
  have hgq:=hg.then p.grow
  have hsb:=p.size.trans hs
  have hdb:=p.defers.trans hd
  have j0:=p.ke 0 rfl i0
  have j3:cO (b.get 3) q:=p.ou 0 3 rfl
  replace j3:IsV ([]:List Int) (b.get 3) q:=j3.isV
  exact aj (k:=q) (w1 _ _ ⟨⟨hgq,hsb,hdb⟩,j0,j3,trivial⟩)
 rintro a k ⟨⟨hg,hs,hd⟩,i0,i3,_⟩
 refine wp_seq ?_
 refine dr 1 (⟨some (IsI 0),[]⟩::[]) rfl ⟨hg,hs,hd⟩ (by kernel_rfl) ⟨aI rfl rfl,trivial⟩ [⟨_,_⟩,⟨_,_⟩,⟨_,_⟩] (fun b q p=>⟨p.ke 0 rfl i0,p.ke 3 rfl i3,p.ou 0 4 rfl,trivial⟩) ?_
 rintro a k ⟨⟨hg,hs,hd⟩,i0,i3,i4,_⟩
 refine wp_block ?_
 obtain ⟨f1,hf1,hr⟩:=bind_some hr
 refine nM f1 (fun s' c l=>Bs noF k0 62 c l∧IsV l_ (c.get 0) l∧IsV s'.1 (c.get 3) l∧IsV s'.2 (c.get 4) l∧True) (fun i' s' c l=>(i' = 0∧Bs noF k0 62 c l∧IsV s'.1 (c.get 3) l∧True)) (fun r' c l=>bodyPost Tryz.prog Tryz.f116 (dw noF k0 (IsV r')) .ret c l.w) ?_ hQ ?_ ?_ ?_
 ·intro Q2 W2 hgo hex hret
  refine ek ?_ _ _ _ _ _ hf1 ⟨⟨hg,hs,hd⟩,i0,i3,i4,trivial⟩ Q2 W2 hgo hex hret
  clear hr hf1 hgo hex hret W2 hQ hg hs hd i0 i3 i4
  intro s1 fl_ a k hr hS Q hQ hgo3117 hex3118 hret3119
  obtain ⟨⟨hg,hs,hd⟩,i0,i3,i4,_⟩:=hS
  unfold gF at hr
  refine wp_seq ?_
  refine dr 4 (_::_::_::_::[]) rfl ⟨hg,hs,hd⟩ (by kernel_rfl) ⟨mu rfl i4,mu rfl i0,o1 [(8,some 1)] rfl fun _ _ h n=>ep rfl rfl Tryz.underlying67 (IsV.rd n.1),o1 [(7,some 0),(9,some 2)] rfl fun _ _ h n=>gU rfl n.1 n.2.1,trivial⟩ [⟨_,_⟩,⟨_,_⟩,⟨_,_⟩,⟨_,_⟩] (fun b q p=>⟨p.ke 0 rfl i0,p.ke 3 rfl i3,p.ke 4 rfl i4,p.ou 3 10 rfl,trivial⟩) ?_
  rintro a k ⟨⟨hg,hs,hd⟩,i0,i3,i4,i10,_⟩
  refine wp_cond_split (isBool i10) (fun hc3158=>?_) (fun hc3158=>?_)
  ·rw [if_pos hc3158] at hr
   refine wp_skip ?_
   refine wp_seq ?_
   obtain ⟨s2,hs2,hr⟩:=bind_some hr
   refine cut (fun a' k'=>Bs noF k0 62 a' k'∧(IsV l_) (a'.get 0) k'∧(IsV s2) (a'.get 3) k'∧(IsV s1.2) (a'.get 4) k'∧True) ?_ hQ ?_
   ·intro Q3 W3 w2
    replace hr:=hs2
    clear hQ
    have hQ:=W3
    refine wp_block ?_
    refine dr 1 (⟨some (IsI 0),[]⟩::[]) rfl ⟨hg,hs,hd⟩ (by kernel_rfl) ⟨aI rfl rfl,trivial⟩ [⟨_,_⟩,⟨_,_⟩,⟨_,_⟩,⟨_,_⟩] (fun b q p=>⟨p.ke 0 rfl i0,p.ke 3 rfl i3,p.ke 4 rfl i4,p.ou 0 5 rfl,trivial⟩) ?_
    rintro a k ⟨⟨hg,hs,hd⟩,i0,i3,i4,i5,_⟩
    refine wp_seq ?_
    refine wp_block ?_
    obtain ⟨f2,hf2,hr⟩:=bind_some hr
    refine nM f2 (fun s' c l=>Bs noF k0 62 c l∧IsV l_ (c.get 0) l∧IsV s1.1 (c.get 3) l∧IsV s1.2 (c.get 4) l∧IsV s' (c.get 5) l∧True) (fun i' s' c l=>(i' = 2∧Bs noF k0 62 c l∧IsV l_ (c.get 0) l∧IsV s1.1 (c.get 3) l∧IsV s1.2 (c.get 4) l∧IsV s' (c.get 5) l∧True)) (fun r' c l=>bodyPost Tryz.prog Tryz.f116 (dw noF k0 (IsV r')) .ret c l.w) ?_ hQ ?_ ?_ ?_
    ·intro Q4 W4 hgo hex hret
     refine ek ?_ _ _ _ _ _ hf2 ⟨⟨hg,hs,hd⟩,i0,i3,i4,i5,trivial⟩ Q4 W4 hgo hex hret
     clear hr hf2 hgo hex hret W4 hQ hg hs hd i0 i3 i4 i5
     intro s3 fl_ a k hr hS Q hQ hgo3125 hex3126 hret3127
     obtain ⟨⟨hg,hs,hd⟩,i0,i3,i4,i5,_⟩:=hS
     unfold eS at hr
     refine wp_seq ?_
     refine wp_seq ?_
     obtain ⟨x1,hx1,hr⟩:=bind_some hr
     obtain ⟨x2,hx2,hx1⟩:=rG hx1
     obtain ⟨x3,hx3,hx1⟩:=rG hx1
     refine cut (fun a' k'=>Bs noF k0 62 a' k'∧(IsV l_) (a'.get 0) k'∧(IsV s1.1) (a'.get 3) k'∧(IsV s1.2) (a'.get 4) k'∧(IsV s3) (a'.get 5) k'∧(IsV x1) (a'.get 27) k'∧True) ?_ hQ ?_
     ·intro Q5 W5 w3
      refine region (m:=15) (_::_::_::_::_::_::_::_::_::_::_::_::_::_::_::[]) oH hs (by kernel_rfl) ⟨mu rfl i5,mu rfl i3,o1 [(14,some 1)] rfl fun _ _ h n=>ep rfl rfl Tryz.underlying67 (IsV.rd n.1),o1 [(13,some 0),(15,some 2)] rfl fun _ _ h n=>gU rfl n.1 n.2.1,cm 3 rfl rfl,mT rfl rfl i3,mT rfl rfl i5,gT [(18,some 5),(19,some 6)] rfl rfl fun hp _ _ h n=>bs rfl Tryz.underlying67 ty3 (IsV.rd (Gd.get n.1 hp)) (Gd.get n.2.1 hp) (hx2 hp),gT [(20,some 7)] rfl rfl fun hp _ _ h n=>aM rfl ty3 (Gd.get n.1 hp),mT rfl rfl i0,mT rfl rfl i4,gT [(22,some 9),(23,some 10)] rfl rfl fun hp _ _ h n=>bs rfl Tryz.underlying67 ty3 (IsV.rd (Gd.get n.1 hp)) (Gd.get n.2.1 hp) (hx3 hp),gT [(24,some 11)] rfl rfl fun hp _ _ h n=>aM rfl ty3 (Gd.get n.1 hp),gT [(21,some 8),(25,some 12)] rfl rfl fun hp _ _ h n=>gU rfl (Gd.get n.1 hp) (Gd.get n.2.1 hp),o1 [(17,some 4),(26,some 13)] rfl fun _ _ h n=>A5 rfl n.1 hx1 (Gd.get n.2.1) (cB rfl),trivial⟩ W5 fun b q p=>?_
      exact aj (k:=q) (w3 _ _ ⟨Bs.post ⟨hg,hs,hd⟩ p,p.ke 0 rfl i0,p.ke 3 rfl i3,p.ke 4 rfl i4,p.ke 5 rfl i5,p.ou 14 27 rfl,trivial⟩)
     rintro a k ⟨⟨hg,hs,hd⟩,i0,i3,i4,i5,i27,_⟩
     refine wp_cond_split (isBool i27) (fun hc3132=>?_) (fun hc3132=>?_)
     ·rw [if_pos hc3132] at hr
      refine wp_skip ?_
      refine wp_block ?_
      obtain ⟨x4,hx4,hr⟩:=bind_some hr
      refine cut (fun a' k'=>Bs noF k0 62 a' k'∧(IsV l_) (a'.get 0) k'∧(IsV s1.1) (a'.get 3) k'∧(IsV s1.2) (a'.get 4) k'∧(IsV x4) (a'.get 5) k'∧True) ?_ hQ ?_
      ·intro Q6 W6 w4
       refine gS 3 (_::_::_::[]) hs (by kernel_rfl) ⟨mu rfl i5,o1 [(28,some 0)] rfl fun _ _ h n=>gV rfl n.1 (cI rfl) hx4,cp 1 rfl rfl,trivial⟩ W6 fun b q p=>?_
       exact aj (k:=q) (w4 _ _ ⟨Bs.post ⟨hg,hs,hd⟩ p,p.ke 0 rfl i0,p.ke 3 rfl i3,p.ke 4 rfl i4,p.ou 2 5 rfl,trivial⟩)
      rintro a k ⟨⟨hg,hs,hd⟩,i0,i3,i4,i5,_⟩
      exact hgo3125 _ _ _ (Option.some.inj hr).symm ⟨⟨hg,hs,hd⟩,i0,i3,i4,i5,trivial⟩
     rw [if_neg (by rw [hc3132]; decide)] at hr
     refine wp_exit ?_
     exact hex3126 _ _ _ _ (Option.some.inj hr).symm ⟨rfl,⟨hg,hs,hd⟩,i0,i3,i4,i5,trivial⟩
    ·rintro r1 a k rfl hR
     dsimp only at hr
     simp at hr
    ·rintro _ _ _ rfl _
     simp at hr
    clear hf2
    rintro _ s4 a k rfl ⟨rfl,⟨hg,hs,hd⟩,i0,i3,i4,i5,_⟩
    dsimp only at hr
    refine wp_seq ?_
    refine wp_seq ?_
    obtain ⟨x5,hx5,hr⟩:=bind_some hr
    obtain ⟨x6,hx6,hx5⟩:=rG hx5
    obtain ⟨x7,hx7,hx5⟩:=rG hx5
    refine cut (fun a' k'=>Bs noF k0 62 a' k'∧(IsV l_) (a'.get 0) k'∧(IsV s1.1) (a'.get 3) k'∧(IsV s1.2) (a'.get 4) k'∧(IsV s4) (a'.get 5) k'∧(IsV x5) (a'.get 44) k'∧True) ?_ hQ ?_
    ·intro Q7 W7 w5
     refine region (m:=15) (_::_::_::_::_::_::_::_::_::_::_::_::_::_::_::[]) oH hs (by kernel_rfl) ⟨mu rfl i5,mu rfl i3,o1 [(31,some 1)] rfl fun _ _ h n=>ep rfl rfl Tryz.underlying67 (IsV.rd n.1),o1 [(30,some 0),(32,some 2)] rfl fun _ _ h n=>gU rfl n.1 n.2.1,cm 3 rfl rfl,mT rfl rfl i3,mT rfl rfl i5,gT [(35,some 5),(36,some 6)] rfl rfl fun hp _ _ h n=>bs rfl Tryz.underlying67 ty3 (IsV.rd (Gd.get n.1 hp)) (Gd.get n.2.1 hp) (hx6 hp),gT [(37,some 7)] rfl rfl fun hp _ _ h n=>aM rfl ty3 (Gd.get n.1 hp),mT rfl rfl i0,mT rfl rfl i4,gT [(39,some 9),(40,some 10)] rfl rfl fun hp _ _ h n=>bs rfl Tryz.underlying67 ty3 (IsV.rd (Gd.get n.1 hp)) (Gd.get n.2.1 hp) (hx7 hp),gT [(41,some 11)] rfl rfl fun hp _ _ h n=>aM rfl ty3 (Gd.get n.1 hp),gT [(38,some 8),(42,some 12)] rfl rfl fun hp _ _ h n=>yG rfl (Gd.get n.1 hp) (Gd.get n.2.1 hp),o1 [(34,some 4),(43,some 13)] rfl fun _ _ h n=>A5 rfl n.1 hx5 (Gd.get n.2.1) (cB rfl),trivial⟩ W7 fun b q p=>?_
     exact aj (k:=q) (w5 _ _ ⟨Bs.post ⟨hg,hs,hd⟩ p,p.ke 0 rfl i0,p.ke 3 rfl i3,p.ke 4 rfl i4,p.ke 5 rfl i5,p.ou 14 44 rfl,trivial⟩)
    rintro a k ⟨⟨hg,hs,hd⟩,i0,i3,i4,i5,i44,_⟩
    refine wp_cond_split (isBool i44) (fun hc3147=>?_) (fun hc3147=>?_)
    ·rw [if_pos hc3147] at hr
     refine wp_exit ?_
     obtain rfl:=Option.some.inj hr
     exact w2 _ _ ⟨⟨hg,hs,hd⟩,i0,i3,i4,trivial⟩
    rw [if_neg (by rw [hc3147]; decide)] at hr
    refine wp_skip ?_
    refine gP (fun c l=>Bs noF k0 62 c l∧IsV l_ (c.get 0) l∧IsV s1.1 (c.get 3) l∧IsV s1.2 (c.get 4) l∧IsV s4 (c.get 5) l∧cO (c.get 6) l∧True) ?_ ?_
    ·intro Q8 W8 w6
     refine gS 1 (⟨some cO,[]⟩::[]) hs (by kernel_rfl) ⟨ob1 rfl fun b q h n=>bL rfl dp,trivial⟩ W8 fun b q p=>?_
     have hgq:=hg.then p.grow
     have hsb:=p.size.trans hs
     have hdb:=p.defers.trans hd
     have j0:=p.ke 0 rfl i0
     have j3:=p.ke 3 rfl i3
     have j4:=p.ke 4 rfl i4
     have j5:=p.ke 5 rfl i5
     have j6:cO (b.get 6) q:=p.ou 0 6 rfl
     exact aj (k:=q) (w6 _ _ ⟨⟨hgq,hsb,hdb⟩,j0,j3,j4,j5,j6,trivial⟩)
    rintro a k ⟨⟨hg,hs,hd⟩,i0,i3,i4,i5,i6,_⟩
    refine wp_seq ?_
    obtain ⟨x8,hx8,hr⟩:=bind_some hr
    obtain ⟨x9,hx9,hr⟩:=bind_some hr
    obtain ⟨x10,hx10,hr⟩:=bind_some hr
    obtain ⟨x11,hx11,hr⟩:=bind_some hr
    obtain ⟨x12,hx12,hr⟩:=bind_some hr
    obtain ⟨x13,hx13,hr⟩:=bind_some hr
    refine cut (fun a' k'=>Bs noF k0 62 a' k'∧(IsV l_) (a'.get 0) k'∧(IsV s1.2) (a'.get 4) k'∧(IsV x13) (a'.get 6) k'∧True) ?_ hQ ?_
    ·intro Q9 W9 w7
     refine uZ (a0:=a) (k0:=k) (n:=62) (⟨(aP cO),45,[(6,none)],[]⟩::⟨(aP (IsV s1.1)),46,[(3,none)],[]⟩::⟨(aP (IsV s4)),47,[(5,none)],[]⟩::⟨(aP (IsV x8)),48,[(46,some 1),(47,some 2)],[]⟩::⟨(rI 3 x9),49,[(45,some 0),(48,some 3)],[]⟩::⟨(aP (IsV l_)),50,[(0,none)],[]⟩::⟨(aP (IsV s1.2)),51,[(4,none)],[]⟩::⟨(aP (aL x10)),52,[(50,some 5),(51,some 6)],[]⟩::⟨(aP (IsV x10)),53,[(52,some 7)],[]⟩::⟨(aP (IsV (α:=(List Int)) ([x10]))),54,[(53,some 8)],[]⟩::⟨(rI 3 x11),55,[(54,some 9)],[4]⟩::⟨(aP (IsV s1.1)),56,[(3,none)],[]⟩::⟨(aP (IsV s4)),57,[(5,none)],[]⟩::⟨(aP (IsV x12)),58,[(56,some 11),(57,some 12)],[]⟩::⟨(aP (IsV x13)),59,[(58,some 13)],[10]⟩::⟨(aP (IsV x13)),6,[(59,some 14)],[]⟩::[]) oH hs (by kernel_rfl) ⟨⟨inferInstanceAs (eB _ (aP cO)),fun b q G hz hk hn ht=>by obtain ⟨m0,_⟩:=hn; obtain rfl:=cd ht; exact aQ rfl (by rw [hz,hs]; show 45 < 62; decide) (cV rfl (up i6 hk m0))⟩,⟨inferInstanceAs (eB _ (aP (IsV s1.1))),fun b q G hz hk hn ht=>by obtain ⟨m0,_⟩:=hn; obtain rfl:=cd ht; exact aQ rfl (by rw [hz,hs]; show 46 < 62; decide) (cV rfl (up i3 hk m0))⟩,⟨inferInstanceAs (eB _ (aP (IsV s4))),fun b q G hz hk hn ht=>by obtain ⟨m0,_⟩:=hn; obtain rfl:=cd ht; exact aQ rfl (by rw [hz,hs]; show 47 < 62; decide) (cV rfl (up i5 hk m0))⟩,⟨inferInstanceAs (eB _ (aP (IsV x8))),fun b q G hz hk hn ht=>by obtain ⟨⟨_,_,m0⟩,⟨_,_,m1⟩,_⟩:=hn; obtain rfl:=cd ht; exact aQ rfl (by rw [hz,hs]; show 48 < 62; decide) (tv rfl Tryz.underlying67 I2 m0 m1 hx8)⟩,⟨inferInstanceAs (eB _ (rI 3 x9)),fun b q G hz hk hn ht=>by obtain ⟨⟨_,_,m0⟩,⟨_,_,m1⟩,_⟩:=hn; obtain rfl:=cd ht; exact sC rfl (by rw [hz,hs]; show 49 < 62; decide) (kO rfl Tryz.underlying67 eo3 (Nat.le_refl _) m0 (IsV.rd m1) hx9)⟩,⟨inferInstanceAs (eB _ (aP (IsV l_))),fun b q G hz hk hn ht=>by obtain ⟨m0,_⟩:=hn; obtain rfl:=cd ht; exact aQ rfl (by rw [hz,hs]; show 50 < 62; decide) (cV rfl (up i0 hk m0))⟩,⟨inferInstanceAs (eB _ (aP (IsV s1.2))),fun b q G hz hk hn ht=>by obtain ⟨m0,_⟩:=hn; obtain rfl:=cd ht; exact aQ rfl (by rw [hz,hs]; show 51 < 62; decide) (cV rfl (up i4 hk m0))⟩,⟨inferInstanceAs (eB _ (aP (aL x10))),fun b q G hz hk hn ht=>by obtain ⟨⟨_,_,m0⟩,⟨_,_,m1⟩,_⟩:=hn; obtain rfl:=cd ht; exact aQ rfl (by rw [hz,hs]; show 52 < 62; decide) (tA rfl Tryz.underlying67 ty3 m0 m1 hx10)⟩,⟨inferInstanceAs (eB _ (aP (IsV x10))),fun b q G hz hk hn ht=>by obtain ⟨⟨_,_,m0⟩,_⟩:=hn; obtain rfl:=cd ht; exact aQ rfl (by rw [hz,hs]; show 53 < 62; decide) (aM rfl ty3 (m0).ptr)⟩,⟨inferInstanceAs (eB _ (aP (IsV (α:=(List Int)) ([x10])))),fun b q G hz hk hn ht=>by obtain ⟨⟨_,_,m0⟩,_⟩:=hn; obtain rfl:=cd ht; exact aQ rfl (by rw [hz,hs]; show 54 < 62; decide) (cG rfl Tryz.underlying67 eo3 rfl (by decide) (by decide) ⟨rfl,m0,trivial⟩)⟩,⟨inferInstanceAs (eB _ (rI 3 x11)),fun b q G hz hk hn ht=>by obtain ⟨⟨_,_,m0⟩,_⟩:=hn; exact B9 rfl (by rw [hz,hs]; show 55 < 62; decide) rfl rfl Tryz.underlying67 eo3 (sU ht rfl) (IsV.rd m0) hx11⟩,⟨inferInstanceAs (eB _ (aP (IsV s1.1))),fun b q G hz hk hn ht=>by obtain ⟨m0,_⟩:=hn; obtain rfl:=cd ht; exact aQ rfl (by rw [hz,hs]; show 56 < 62; decide) (cV rfl (up i3 hk m0))⟩,⟨inferInstanceAs (eB _ (aP (IsV s4))),fun b q G hz hk hn ht=>by obtain ⟨m0,_⟩:=hn; obtain rfl:=cd ht; exact aQ rfl (by rw [hz,hs]; show 57 < 62; decide) (cV rfl (up i5 hk m0))⟩,⟨inferInstanceAs (eB _ (aP (IsV x12))),fun b q G hz hk hn ht=>by obtain ⟨⟨_,_,m0⟩,⟨_,_,m1⟩,_⟩:=hn; obtain rfl:=cd ht; exact aQ rfl (by rw [hz,hs]; show 58 < 62; decide) (nA rfl Tryz.underlying67 I2 m0 m1 hx12)⟩,⟨inferInstanceAs (eB _ (aP (IsV x13))),fun b q G hz hk hn ht=>by obtain ⟨⟨_,_,m0⟩,_⟩:=hn; exact sy rfl (by rw [hz,hs]; show 59 < 62; decide) rfl rfl Tryz.underlying67 eo3 (sU ht rfl) (IsV.rd m0) hx13⟩,⟨inferInstanceAs (eB _ (aP (IsV x13))),fun b q G hz hk hn ht=>by obtain ⟨⟨_,_,m0⟩,_⟩:=hn; obtain rfl:=cd ht; exact aQ rfl (by rw [hz,hs]; show 6 < 62; decide) (bL rfl m0)⟩,trivial⟩ W9 fun FL b q p=>?_
     have hgq:=hg.then p.grow
     have hsb:=p.size.trans hs
     have hdb:=p.defers.trans hd
     have j0:=He p 0 rfl i0
     have j4:=He p 4 rfl i4
     have j6:(IsV x13) (b.get 6) q:=p.plain 15 rfl rfl
     exact w7 _ _ ⟨⟨hgq,hsb,hdb⟩,j0,j4,j6,trivial⟩
    rintro a k ⟨⟨hg,hs,hd⟩,i0,i4,i6,_⟩
    refine cut (fun a' k'=>Bs noF k0 62 a' k'∧(IsV l_) (a'.get 0) k'∧(IsV x13) (a'.get 3) k'∧(IsV s1.2) (a'.get 4) k'∧True) ?_ hQ ?_
    ·intro Q10 W10 w8
     refine gS 2 (_::_::[]) hs (by kernel_rfl) ⟨mu rfl i6,cp 0 rfl rfl,trivial⟩ W10 fun b q p=>?_
     exact aj (k:=q) (w8 _ _ ⟨Bs.post ⟨hg,hs,hd⟩ p,p.ke 0 rfl i0,p.ou 1 3 rfl,p.ke 4 rfl i4,trivial⟩)
    rintro a k ⟨⟨hg,hs,hd⟩,i0,i3,i4,_⟩
    obtain rfl:=Option.some.inj hr
    exact w2 _ _ ⟨⟨hg,hs,hd⟩,i0,i3,i4,trivial⟩
   clear hs2
   rintro a k ⟨⟨hg,hs,hd⟩,i0,i3,i4,_⟩
   obtain ⟨x14,hx14,hr⟩:=bind_some hr
   refine cut (fun a' k'=>Bs noF k0 62 a' k'∧(IsV l_) (a'.get 0) k'∧(IsV s2) (a'.get 3) k'∧(IsV x14) (a'.get 4) k'∧True) ?_ hQ ?_
   ·intro Q11 W11 w9
    refine gS 3 (_::_::_::[]) hs (by kernel_rfl) ⟨mu rfl i4,o1 [(11,some 0)] rfl fun _ _ h n=>gV rfl n.1 (cI rfl) hx14,cp 1 rfl rfl,trivial⟩ W11 fun b q p=>?_
    exact aj (k:=q) (w9 _ _ ⟨Bs.post ⟨hg,hs,hd⟩ p,p.ke 0 rfl i0,p.ke 3 rfl i3,p.ou 2 4 rfl,trivial⟩)
   rintro a k ⟨⟨hg,hs,hd⟩,i0,i3,i4,_⟩
   exact hgo3117 _ _ _ (Option.some.inj hr).symm ⟨⟨hg,hs,hd⟩,i0,i3,i4,trivial⟩
  rw [if_neg (by rw [hc3158]; decide)] at hr
  refine wp_exit ?_
  exact hex3118 _ _ _ _ (Option.some.inj hr).symm ⟨rfl,⟨hg,hs,hd⟩,i3,trivial⟩
 ·rintro r2 a k rfl hR
  dsimp only at hr
  obtain rfl:=Option.some.inj hr
  exact hR
 ·rintro _ _ _ rfl _
  simp at hr
 clear hf1
 rintro _ s5 a k rfl ⟨rfl,⟨hg,hs,hd⟩,i3,_⟩
 dsimp only at hr
 refine dr 2 (_::_::[]) rfl ⟨hg,hs,hd⟩ (by kernel_rfl) ⟨mu rfl i3,cp 0 rfl rfl,trivial⟩ [⟨_,_⟩] (fun b q p=>⟨p.ou 1 2 rfl,trivial⟩) ?_
 rintro a k ⟨⟨hg,hs,hd⟩,i2,_⟩
 refine wp_ret ?_
 obtain rfl:=Option.some.inj hr
 exact iT rfl hd hg i2
noncomputable def JH:=mkO 116 [.list .int] [.list .int] (fun x=>eU x) Tryz.call116 fun k0 vs x r hG h hr=>by obtain ⟨v0,rfl,i0⟩:=h.one; exact tH i0 hr
def lj (p_:(List aT)) (x_:Int) (s1:(List Int) × Int):Option (aN ((List Int) × Int) ((List Int))):=
 if (decide (s1.2 < (p_.length:Int))) then
  (au p_ s1.2).bind fun x1=>
  (aD s1.2 1).bind fun x2=>
  (nm x2 (p_.length:Int)).bind fun x3=>
  (au p_ x3).bind fun x4=>
  (if (((x1.Y == x4.Y) && (decide ((min x1.X x4.X) ≤ x_))) && (decide (x_ < (max x1.X x4.X)))) then
   (cg s1.1 ([x1.Y])).bind fun x5=>
   some x5
  else
   some s1.1).bind fun s2=>
  (aD s1.2 1).bind fun x6=>
  some (.go (s2,x6))
 else
  some (.ex 0 (s1.1,s1.2))
def jB (p_:(List aT)) (x_:Int):Option ((List Int)):=
 (ah (lj p_ x_) (p_.length + ([]:List Int).length + 1) (([]:List Int),0)).bind fun f1=>match f1 with
  | .go _=>none
  | .ex _ s1=>
   (eU s1.1).bind fun x1=>
   some x1
  | .ret r1=>some r1
noncomputable def KE:=mk 117 [.list (.st 1),.int] [.list .int] (fun x=>jB x.1 x.2) [JH] [5,50,54] Tryz.f117 (.s .n (.s .n (.s (.s .n (.l [] [(5,.o 3 .int),(6,.v .int)] [(0,[6],[])] (fL [0,5]) (.s .n (.s (.s .n (.s .n (.s .n (.j [] [(5,.o 3 .int)] ([],[]) (.s .n .n))))) .n)))) (.s (.f [5] .n) .n)))) Tryz.func117 Tryz.call117 rfl rfl fun x=>by kernel_rfl
def jm (p_:(List aT)) (s1:(List Int) × Int):Option (aN ((List Int) × Int) ((List aw) × Int)):=
 if (decide (s1.2 < (p_.length:Int))) then
  (au p_ s1.2).bind fun x1=>
  (cg s1.1 ([x1.X])).bind fun x2=>
  (aD s1.2 1).bind fun x3=>
  some (.go (x2,x3))
 else
  some (.ex 0 (s1.1,s1.2))
def gz (x1:(List Int)) (s1:(List aw) × Int) (x2:(List Int)) (s2:(List aw) × Int):Option (aN ((List aw) × Int) ((List aw) × Int)):=
 (aD s2.2 1).bind fun x3=>
 if (decide (x3 < (x2.length:Int))) then
  (au x1 s1.2).bind fun x4=>
  (au x2 s2.2).bind fun x5=>
  (aD s1.2 1).bind fun x6=>
  (au x1 x6).bind fun x7=>
  (aD s2.2 1).bind fun x8=>
  (au x2 x8).bind fun x9=>
  (cg s2.1 ([(⟨x4,x5,x7,x9⟩:aw)])).bind fun x10=>
  (aD s2.2 2).bind fun x11=>
  some (.go (x10,x11))
 else
  some (.ex 4 (s2.1,s2.2))
def gC (p_:(List aT)) (x1:(List Int)) (s1:(List aw) × Int):Option (aN ((List aw) × Int) ((List aw) × Int)):=
 (aD s1.2 1).bind fun x2=>
 if (decide (x2 < (x1.length:Int))) then
  (au x1 s1.2).bind fun x3=>
  (jB p_ x3).bind fun x4=>
  (ah (gz x1 s1 x4) (p_.length + x1.length + s1.1.length + x4.length + 1) (s1.1,0)).bind fun f1=>match f1 with
   | .go _=>none
   | .ex _ s2=>
    (aD s1.2 1).bind fun x5=>
    some (.go (s2.1,x5))
   | .ret r1=>some (.ret r1)
 else
  some (.ex 2 (s1.1,s1.2))
def iE (p_:(List aT)):Option ((List aw) × Int):=
 (nL p_).bind fun x1=>
 if (!x1) then
  some (([]:List aw),10)
 else
  (ah (jm p_) (p_.length + ([]:List Int).length + 1) (([]:List Int),0)).bind fun f1=>match f1 with
   | .go _=>none
   | .ex _ s1 =>
    (eU s1.1).bind fun x2=>
    (ah (gC p_ x2) (p_.length + x2.length + ([]:List aw).length + 1) (([]:List aw),0)).bind fun f2=>match f2 with
     | .go _=>none
     | .ex _ s2 =>
      if (decide (200 < (s2.1.length:Int))) then
       some (([]:List aw),6)
      else
       some (s2.1,0)
     | .ret r1=>some r1
   | .ret r2=>some r2
noncomputable def k90:=mk 90 [.list (.st 1)] [.list (.st 2),.int] (fun x=>iE x) [Kw,JH,KE] [4,7,20,27,50,71] Tryz.f90 (.s .n (.s .n (.s .n (.s (.s .n (.l [] [(4,.o 3 .int),(5,.v .int)] [(0,[5],[])] (fL [0,4]) .n)) (.s (.f [4] .n) (.s .n (.s (.s .n (.l [] [(7,.o 79 (.st 2)),(8,.v .int)] [(2,[8],[])] (fL [0,6,7]) (.s .n (.s (.s .n (.s .n (.l [] [(7,.o 79 (.st 2)),(10,.v .int)] [(4,[10],[])] (fL [0,6,7,9]) .n))) .n)))) (.s (.s (.f [7] .n) .n) (.s (.f [7] .n) .n))))))))) Tryz.func90 Tryz.call90 rfl rfl fun x=>by kernel_rfl
def de (l_:(List Int)) (s1:(List Int) × Int) (s2:Int):Option (aN (Int) ((List Int))):=
 (if (decide (0 < s2)) then
  (bZ s2 1).bind fun x1=>
  (au s1.1 x1).bind fun x2=>
  (au l_ s1.2).bind fun x3=>
  some (decide (x3 < x2))
 else
  some false).bind fun x4=>
 if x4 then
  (bZ s2 1).bind fun x5=>
  some (.go x5)
 else
  some (.ex 2 s2)
def dc (s1:Int) (s2:(List Int) × Int):Option (aN ((List Int) × Int) ((List Int))):=
 if (decide (s1 < s2.2)) then
  (bZ s2.2 1).bind fun x1=>
  (au s2.1 x1).bind fun x2=>
  (au s2.1 s2.2).bind fun x3=>
  (some (s2.1.set (s2.2).toNat x2)).bind fun x4=>
  (bZ s2.2 1).bind fun x5=>
  some (.go (x4,x5))
 else
  some (.ex 4 (s2.1,s2.2))
def gx (l_:(List Int)) (s1:(List Int) × Int):Option (aN ((List Int) × Int) ((List Int))):=
 if (decide (s1.2 < (l_.length:Int))) then
  ((ah (de l_ s1) (l_.length + s1.1.length + 1) (s1.1.length:Int)).bind fun f1=>match f1 with
   | .go _=>none
   | .ex _ s2 =>
    (if (decide (0 < s2)) then
     (bZ s2 1).bind fun x1=>
     (au s1.1 x1).bind fun x2=>
     (au l_ s1.2).bind fun x3=>
     some (x2 == x3)
    else
     some false).bind fun x4=>
    if x4 then
     some s1.1
    else
     (cg s1.1 ([0])).bind fun x5=>
     (bZ (x5.length:Int) 1).bind fun x6=>
     (ah (dc s2) (l_.length + x5.length + 1) (x5,x6)).bind fun f2=>match f2 with
      | .go _=>none
      | .ex _ s3=>
       (au l_ s1.2).bind fun x7=>
       (au s3.1 s2).bind fun x8=>
       (some (s3.1.set (s2).toNat x7)).bind fun x9=>
       some x9
      | .ret r1=>none
   | .ret r2=>none).bind fun s4=>
  (aD s1.2 1).bind fun x10=>
  some (.go (s4,x10))
 else
  some (.ex 0 (s1.1,s1.2))
def mF (l_:(List Int)):Option ((List Int)):=
 (ah (gx l_) (l_.length + ([]:List Int).length + 1) (([]:List Int),0)).bind fun f1=>match f1 with
  | .go _=>none
  | .ex _ s1=>
   some s1.1
  | .ret r1=>some r1
noncomputable def KX:=mk 143 [.list .int] [.list .int] (fun x=>mF x) [] [3,45,47] Tryz.f143 (.s .n (.s .n (.s (.s .n (.l [] [(3,.o 3 .int),(4,.v .int)] [(0,[4],[])] (fL [0,3]) (.s .n (.s (.j [] [(3,.o 3 .int)] ([],[]) (.s .n (.s (.l [] [(5,.v .int)] [(2,[],[])] (fL [0,3]) .n) (.s .n (.s .n (.s (.s .n (.l [] [(3,.o 3 .int),(6,.v .int)] [(4,[6],[])] (fL [0,3]) .n)) .n)))))) .n)))) (.s (.f [3] .n) .n)))) Tryz.func143 Tryz.call143 rfl rfl fun x=>by kernel_rfl
def kg (a_:(List aw)) (s1:(List Int) × Int):Option (aN ((List Int) × Int) ((List Int))):=
 if (decide (s1.2 < (a_.length:Int))) then
  (au a_ s1.2).bind fun x1=>
  (au a_ s1.2).bind fun x2=>
  (cg s1.1 ([x1.X0,x2.X1])).bind fun x3=>
  (aD s1.2 1).bind fun x4=>
  some (.go (x3,x4))
 else
  some (.ex 0 (s1.1,s1.2))
def kz (b_:(List aw)) (s1:(List Int) × Int):Option (aN ((List Int) × Int) ((List Int))):=
 if (decide (s1.2 < (b_.length:Int))) then
  (au b_ s1.2).bind fun x1=>
  (au b_ s1.2).bind fun x2=>
  (cg s1.1 ([x1.X0,x2.X1])).bind fun x3=>
  (aD s1.2 1).bind fun x4=>
  some (.go (x3,x4))
 else
  some (.ex 2 (s1.1,s1.2))
def nF (a_:(List aw)) (b_:(List aw)):Option ((List Int)):=
 (ah (kg a_) (a_.length + b_.length + ([]:List Int).length + 1) (([]:List Int),0)).bind fun f1=>match f1 with
  | .go _=>none
  | .ex _ s1 =>
   (ah (kz b_) (b_.length + s1.1.length + 1) (s1.1,0)).bind fun f2=>match f2 with
    | .go _=>none
    | .ex _ s2=>
     (mF s2.1).bind fun x1=>
     some x1
    | .ret r1=>some r1
  | .ret r2=>some r2
noncomputable def Kz:=mk 118 [.list (.st 2),.list (.st 2)] [.list .int] (fun x=>nF x.1 x.2) [KX] [5,14,26,33,45] Tryz.f118 (.s .n (.s .n (.s (.s .n (.l [] [(5,.o 3 .int),(6,.v .int)] [(0,[6],[])] (fL [0,1,5]) .n)) (.s (.s .n (.l [] [(5,.o 3 .int),(7,.v .int)] [(2,[7],[])] (fL [1,5]) .n)) (.s (.f [5] .n) .n))))) Tryz.func118 Tryz.call118 rfl rfl fun x=>by kernel_rfl
def dh (l_:(List aw)) (s1:(List Int) × (List Int) × Int) (s2:(List Int) × (List Int) × Int):Option (aN ((List Int) × (List Int) × Int) ((List Int))):=
 (if (decide (0 < s2.2.2)) then
  (bZ s2.2.2 1).bind fun x1=>
  (au s2.1 x1).bind fun x2=>
  (au l_ s1.2.2).bind fun x3=>
  some (decide (x3.Y0 < x2))
 else
  some false).bind fun x4=>
 if x4 then
  (bZ s2.2.2 1).bind fun x5=>
  (au s2.1 x5).bind fun x6=>
  (au s2.1 s2.2.2).bind fun x7=>
  (some (s2.1.set (s2.2.2).toNat x6)).bind fun x8=>
  (bZ s2.2.2 1).bind fun x9=>
  (au s2.2.1 x9).bind fun x10=>
  (au s2.2.1 s2.2.2).bind fun x11=>
  (some (s2.2.1.set (s2.2.2).toNat x10)).bind fun x12=>
  (bZ s2.2.2 1).bind fun x13=>
  some (.go (x8,x12,x13))
 else
  some (.ex 2 (s2.1,s2.2.1,s2.2.2))
def eQ (l_:(List aw)) (x_:Int) (s1:(List Int) × (List Int) × Int):Option (aN ((List Int) × (List Int) × Int) ((List Int))):=
 if (decide (s1.2.2 < (l_.length:Int))) then
  ((au l_ s1.2.2).bind fun x1=>
  (if (decide (x_ < x1.X0)) then
   some true
  else
   (au l_ s1.2.2).bind fun x2=>
   some (decide (x2.X1 ≤ x_))).bind fun x3=>
  if x3 then
   some (s1.1,s1.2.1)
  else
   (cg s1.1 ([0])).bind fun x4=>
   (cg s1.2.1 ([0])).bind fun x5=>
   (ah (dh l_ s1) (l_.length + x4.length + x5.length + 1) (x4,x5,(s1.1.length:Int))).bind fun f1=>match f1 with
    | .go _=>none
    | .ex _ s2=>
     (au l_ s1.2.2).bind fun x6=>
     (au s2.1 s2.2.2).bind fun x7=>
     (some (s2.1.set (s2.2.2).toNat x6.Y0)).bind fun x8=>
     (au l_ s1.2.2).bind fun x9=>
     (au s2.2.1 s2.2.2).bind fun x10=>
     (some (s2.2.1.set (s2.2.2).toNat x9.Y1)).bind fun x11=>
     some (x8,x11)
    | .ret r1=>none).bind fun s3=>
  (aD s1.2.2 1).bind fun x12=>
  some (.go (s3.1,s3.2,x12))
 else
  some (.ex 0 (s1.1,s1.2.1,s1.2.2))
def eT (s1:(List Int) × (List Int) × Int) (s2:(List Int) × Int):Option (aN ((List Int) × Int) ((List Int))):=
 if (decide (s2.2 < (s1.1.length:Int))) then
  ((if (decide (0 < (s2.1.length:Int))) then
   (au s1.1 s2.2).bind fun x1=>
   (bZ (s2.1.length:Int) 1).bind fun x2=>
   (au s2.1 x2).bind fun x3=>
   some (decide (x1 ≤ x3))
  else
   some false).bind fun x4=>
  if x4 then
   (bZ (s2.1.length:Int) 1).bind fun x5=>
   (bZ (s2.1.length:Int) 1).bind fun x6=>
   (au s2.1 x6).bind fun x7=>
   (au s1.2.1 s2.2).bind fun x8=>
   (au s2.1 x5).bind fun x9=>
   (some (s2.1.set (x5).toNat (max x7 x8))).bind fun x10=>
   some x10
  else
   (au s1.1 s2.2).bind fun x11=>
   (au s1.2.1 s2.2).bind fun x12=>
   (cg s2.1 ([x11,x12])).bind fun x13=>
   some x13).bind fun s3=>
  (aD s2.2 1).bind fun x14=>
  some (.go (s3,x14))
 else
  some (.ex 4 (s2.1,s2.2))
def gm (l_:(List aw)) (x_:Int):Option ((List Int)):=
 (ah (eQ l_ x_) (l_.length + ([]:List Int).length + ([]:List Int).length + 1) (([]:List Int),([]:List Int),0)).bind fun f1=>match f1 with
  | .go _=>none
  | .ex _ s1 =>
   (ah (eT s1) (s1.1.length + s1.2.1.length + ([]:List Int).length + 1) (([]:List Int),0)).bind fun f2=>match f2 with
    | .go _=>none
    | .ex _ s2=>
     some s2.1
    | .ret r1=>some r1
  | .ret r2=>some r2
noncomputable def LB:=mk 120 [.list (.st 2),.int] [.list .int] (fun x=>gm x.1 x.2) [] [5,6,9,35,37,38,40,128,138] Tryz.f120 (.s .n (.s .n (.s .n (.s (.s .n (.l [] [(5,.o 3 .int),(6,.o 3 .int),(7,.v .int)] [(0,[7],[])] (fL [0,5,6]) (.s .n (.s (.j [] [(5,.o 3 .int),(6,.o 3 .int)] ([],[]) (.s .n (.s .n (.s .n (.s .n (.s (.l [] [(5,.o 3 .int),(6,.o 3 .int),(8,.v .int)] [(2,[],[])] (fL [0,5,6]) .n) .n)))))) .n)))) (.s (.f [5,6] .n) (.s (.s (.f [5,6] .n) (.l [] [(9,.o 3 .int),(10,.v .int)] [(4,[10],[])] (fL [5,6,9]) (.s (.s (.f [5,6] .n) .n) (.s (.j [] [(9,.o 3 .int)] ([],[]) (.s (.s (.f [5,6] .n) (.s (.s (.f [5,6] .n) .n) .n)) (.f [5,6] .n))) (.f [5,6] .n))))) (.s (.f [9] .n) .n))))))) Tryz.func120 Tryz.call120 rfl rfl fun x=>by kernel_rfl
def fG (a_:(List Int)) (b_:(List Int)) (op_:Int) (s1:(List Int) × Int × Int × Bool):Option (aN ((List Int) × Int × Int × Bool) ((List Int))):=
 if ((decide (s1.2.1 < (a_.length:Int))) || (decide (s1.2.2.1 < (b_.length:Int)))) then
  (if (decide (s1.2.1 < (a_.length:Int))) then
   (if (decide ((b_.length:Int) ≤ s1.2.2.1)) then
    some true
   else
    (au a_ s1.2.1).bind fun x1=>
    (bZ (b_.length:Int) 1).bind fun x2=>
    (au b_ (min s1.2.2.1 x2)).bind fun x3=>
    some (decide (x1 ≤ x3))).bind fun x4=>
   some x4
  else
   some false).bind fun x5=>
  (if x5 then
   (au a_ s1.2.1).bind fun x6=>
   some x6
  else
   (au b_ s1.2.2.1).bind fun x7=>
   some x7).bind fun s2=>
  (if (decide (s1.2.1 < (a_.length:Int))) then
   (au a_ s1.2.1).bind fun x8=>
   some (x8 == s2)
  else
   some false).bind fun x9=>
  (if x9 then
   (aD s1.2.1 1).bind fun x10=>
   some x10
  else
   some s1.2.1).bind fun s3=>
  (if (decide (s1.2.2.1 < (b_.length:Int))) then
   (au b_ s1.2.2.1).bind fun x11=>
   some (x11 == s2)
  else
   some false).bind fun x12=>
  (if x12 then
   (aD s1.2.2.1 1).bind fun x13=>
   some x13
  else
   some s1.2.2.1).bind fun s4=>
  (nm s3 2).bind fun x14=>
  (nm s4 2).bind fun x15=>
  (if (op_ == 1) then
   some ((x14 == 1) && (x15 == 1))
  else
   some ((x14 == 1) || (x15 == 1))).bind fun s5=>
  (if (op_ == 2) then
   some ((x14 == 1) && (!(x15 == 1)))
  else
   some s5).bind fun s6=>
  (if (s6 != s1.2.2.2) then
   (cg s1.1 ([s2])).bind fun x16=>
   some x16
  else
   some s1.1).bind fun s7=>
  some (.go (s7,s3,s4,s6))
 else
  some (.ex 0 (s1.1,s1.2.1,s1.2.2.1,s1.2.2.2))
def fh (a_:(List Int)) (b_:(List Int)) (op_:Int):Option ((List Int)):=
 (ah (fG a_ b_ op_) (a_.length + b_.length + ([]:List Int).length + 1) (([]:List Int),0,0,false)).bind fun f1=>match f1 with
  | .go _=>none
  | .ex _ s1=>
   some s1.1
  | .ret r1=>some r1
noncomputable def J7:=mk 119 [.list .int,.list .int,.int] [.list .int] (fun x=>fh x.1 x.2.1 x.2.2) [] [7,112,115] Tryz.f119 (.s .n (.s .n (.s .n (.s .n (.s .n (.s (.l [] [(7,.o 3 .int),(8,.v .int),(9,.v .int),(10,.v .bool)] [(0,[8,9,10],[])] (fL [0,1,7]) (.s .n (.s .n (.s (.s .n (.j [] [(11,.v .int)] ([],[]) (.s .n .n))) (.s (.s .n (.j [] [(8,.v .int)] ([],[]) (.s .n .n))) (.s (.s .n (.j [] [(9,.v .int)] ([],[]) (.s .n .n))) (.s .n (.s .n (.s .n (.s (.s .n (.j [] [(14,.v .bool)] ([],[]) (.s .n .n))) (.s (.s .n (.j [] [(14,.v .bool)] ([],[]) (.s .n .n))) (.s (.s .n (.j [] [(7,.o 3 .int)] ([],[]) (.s .n .n))) .n)))))))))))) (.s (.f [7] .n) .n))))))) Tryz.func119 Tryz.call119 rfl rfl fun x=>by kernel_rfl
def lp (a_:(List Int)) (b_:(List Int)) (s1:Int):Option (aN (Int) (Bool)):=
 if (decide (s1 < (a_.length:Int))) then
  (au a_ s1).bind fun x1=>
  (au b_ s1).bind fun x2=>
  if (x1 != x2) then
   some (.ret false)
  else
   (aD s1 1).bind fun x3=>
   some (.go x3)
 else
  some (.ex 0 s1)
def mU (a_:(List Int)) (b_:(List Int)):Option (Bool):=
 if ((a_.length:Int) != (b_.length:Int)) then
  some false
 else
  (ah (lp a_ b_) (a_.length + b_.length + 1) 0).bind fun f1=>match f1 with
   | .go _=>none
   | .ex _ _=>
    some true
   | .ret r1=>some r1
noncomputable def Kj:=mk 121 [.list .int,.list .int] [.bool] (fun x=>mU x.1 x.2) [] [] Tryz.f121 (.s .n (.s .n (.s (.s .n (.l [] [(5,.v .int)] [(0,[5],[])] (fL [0,1]) .n)) .n))) Tryz.func121 Tryz.call121 rfl rfl fun x=>by kernel_rfl
def gG (x1:(List Int)) (s1:(List aw) × (List Int) × Int × Int) (s2:(List aw) × Int):Option (aN ((List aw) × Int) ((List aw))):=
 if (decide (s2.2 < (s2.1.length:Int))) then
  (aD s1.2.2.2 1).bind fun x2=>
  (au x1 x2).bind fun x3=>
  (au s2.1 s2.2).bind fun x4=>
  (some (s2.1.set (s2.2).toNat ({ x4 with X1:=x3 }))).bind fun x5=>
  (aD s2.2 1).bind fun x6=>
  some (.go (x5,x6))
 else
  some (.ex 2 (s2.1,s2.2))
def iQ (x1:(List Int)) (s1:(List aw) × (List Int) × Int × Int) (x2:(List Int)) (s2:(List aw) × Int):Option (aN ((List aw) × Int) ((List aw))):=
 (aD s2.2 1).bind fun x3=>
 if (decide (x3 < (x2.length:Int))) then
  (au x1 s1.2.2.2).bind fun x4=>
  (au x2 s2.2).bind fun x5=>
  (aD s1.2.2.2 1).bind fun x6=>
  (au x1 x6).bind fun x7=>
  (aD s2.2 1).bind fun x8=>
  (au x2 x8).bind fun x9=>
  (cg s2.1 ([(⟨x4,x5,x7,x9⟩:aw)])).bind fun x10=>
  (aD s2.2 2).bind fun x11=>
  some (.go (x10,x11))
 else
  some (.ex 4 (s2.1,s2.2))
def gH (a_:(List aw)) (b_:(List aw)) (op_:Int) (x1:(List Int)) (s1:(List aw) × (List Int) × Int × Int):Option (aN ((List aw) × (List Int) × Int × Int) ((List aw))):=
 (aD s1.2.2.2 1).bind fun x2=>
 if (decide (x2 < (x1.length:Int))) then
  ((au x1 s1.2.2.2).bind fun x3=>
  (gm a_ x3).bind fun x4=>
  (au x1 s1.2.2.2).bind fun x5=>
  (gm b_ x5).bind fun x6=>
  (fh x4 x6 op_).bind fun x7=>
  (if ((decide (0 < s1.2.2.2)) && (decide (0 < (x7.length:Int)))) then
   (mU x7 s1.2.1).bind fun x8=>
   some x8
  else
   some false).bind fun x9=>
  if x9 then
   (ah (gG x1 s1) (a_.length + b_.length + s1.1.length + x1.length + s1.2.1.length + 1) (s1.1,s1.2.2.1)).bind fun f1=>match f1 with
    | .go _=>none
    | .ex _ s2=>
     some (s2.1,s1.2.1,s1.2.2.1)
    | .ret r1=>none
  else
   (ah (iQ x1 s1 x7) (a_.length + b_.length + s1.1.length + x1.length + x7.length + x7.length + 1) (s1.1,0)).bind fun f2=>match f2 with
    | .go _=>none
    | .ex _ s3=>
     some (s3.1,x7,(s1.1.length:Int))
    | .ret r2=>none).bind fun s4=>
  (aD s1.2.2.2 1).bind fun x10=>
  some (.go (s4.1,s4.2.1,s4.2.2,x10))
 else
  some (.ex 0 (s1.1,s1.2.1,s1.2.2.1,s1.2.2.2))
def jy (a_:(List aw)) (b_:(List aw)) (op_:Int):Option ((List aw)):=
 (nF a_ b_).bind fun x1=>
 (ah (gH a_ b_ op_ x1) (a_.length + b_.length + ([]:List aw).length + x1.length + ([]:List Int).length + 1) (([]:List aw),([]:List Int),0,0)).bind fun f1=>match f1 with
  | .go _=>none
  | .ex _ s1=>
   some s1.1
  | .ret r1=>some r1
noncomputable def k91:=mk 91 [.list (.st 2),.list (.st 2),.int] [.list (.st 2)] (fun x=>jy x.1 x.2.1 x.2.2) [Kz,LB,J7,Kj] [7,77,98] Tryz.f91 (.s .n (.s .n (.s .n (.s .n (.s .n (.s (.s .n (.l [] [(7,.o 79 (.st 2)),(9,.v (.list .int)),(10,.v .int),(11,.v .int)] [(0,[9,10,11],[])] (fL [0,1,7,8,9]) (.s .n (.s (.j [] [(7,.o 79 (.st 2)),(9,.v (.list .int)),(10,.v .int)] ([],[]) (.s .n (.s (.s .n (.s (.s (.s .n (.l [] [(7,.o 79 (.st 2)),(13,.v .int)] [(2,[13],[])] (fL [0,1,7,8,9]) .n)) .n) .n)) (.s .n (.s .n (.s .n (.l [] [(7,.o 79 (.st 2)),(14,.v .int)] [(4,[14],[])] (fL [0,1,7,8,9,12]) .n))))))) .n)))) (.s (.f [7] .n) .n))))))) Tryz.func91 Tryz.call91 rfl rfl fun x=>by kernel_rfl
def sn (n_:Int):Option (ByteArray):=
 (au ([(⟨#[104,111,109,101]⟩:ByteArray),(⟨#[115,104,111,112]⟩:ByteArray),(⟨#[119,111,114,107]⟩:ByteArray),(⟨#[112,97,114,107]⟩:ByteArray),(⟨#[112,108,97,110,116]⟩:ByteArray),(⟨#[104,97,108,108]⟩:ByteArray)]) n_).bind fun x1=>
 some x1
noncomputable def Ly:=mk 144 [.int] [.str] (fun x=>sn x) [] [] Tryz.f144 (.n) Tryz.func144 Tryz.call144 rfl rfl fun x=>by kernel_rfl
def kG (n_:Int) (x1:Table) (s1:Int):Option (aN (Int) (Int)):=
 if (decide (s1 < (x1.Rows.length:Int))) then
  (au x1.Rows s1).bind fun x2=>
  (sn n_).bind fun x3=>
  if ((x2.Name.toList == x3.toList)) then
   (au x1.Rows s1).bind fun x4=>
   some (.ret (max 0 (min x4.N 1048576)))
  else
   (aD s1 1).bind fun x5=>
   some (.go x5)
 else
  some (.ex 2 s1)
def gp (p_:an) (n_:Int) (s1:Int):Option (aN (Int) (Int)):=
 if (decide (s1 < (p_.Tables.length:Int))) then
  (au p_.Tables s1).bind fun x1=>
  if (!(x1.Name.toList == (⟨#[116,114,97,102,102,105,99]⟩:ByteArray).toList)) then
   (aD s1 1).bind fun x2=>
   some (.go x2)
  else
   (au p_.Tables s1).bind fun x3=>
   (ah (kG n_ x3) ((p_.Tables.flatMap fun t=>t.Rows).length + 1) 0).bind fun f1=>match f1 with
    | .go _=>none
    | .ex _ _=>
     some (.ret (max 0 (min x3.Else 1048576)))
    | .ret r1=>some (.ret r1)
 else
  some (.ex 0 s1)
def qf (p_:an) (n_:Int):Option (Int):=
 (ah (gp p_ n_) (p_.Tables.length + 1) 0).bind fun f1=>match f1 with
  | .go _=>none
  | .ex _ _=>
   some 0
  | .ret r1=>some r1
noncomputable def Kn:=mk 122 [.st 8,.int] [.int] (fun x=>qf x.1 x.2) [Ly] [] Tryz.f122 (.s .n (.s (.s .n (.l [] [(5,.v .int)] [(0,[5],[])] (fun e=>(gt e 0 (.st 8):an).Tables.length + 1) (.s .n (.s (.s .n (.s .n (.s (.s .n (.l [] [(7,.v .int)] [(2,[7],[])] (fun e=>((gt e 0 (.st 8):an).Tables.flatMap fun t=>t.Rows).length + 1) .n)) .n))) .n)))) .n)) Tryz.func122 Tryz.call122 rfl rfl fun x=>by kernel_rfl
def l7 (r_:aw):Option (Int):=
 (bZ r_.X1 r_.X0).bind fun x1=>
 (bZ r_.Y1 r_.Y0).bind fun x2=>
 (qs x1 x2).bind fun x3=>
 some x3
noncomputable def k93:=mk 93 [.st 2] [.int] (fun x=>l7 x) [] [] Tryz.f93 (.n) Tryz.func93 Tryz.call93 rfl rfl fun x=>by kernel_rfl
def lv (v_:af):Option (Int):=
 (if v_.Extra then
  some true
 else
  (dH v_).bind fun x1=>
  some (!x1)).bind fun x2=>
 if x2 then
  some 0
 else
  (bZ v_.Box.Z1 v_.Box.Z0).bind fun x3=>
  (aD x3 2).bind fun x4=>
  (qJ x4 3).bind fun x5=>
  some x5
noncomputable def Kv:=mk 145 [.st 4] [.int] (fun x=>lv x) [k89] [] Tryz.f145 (.n) Tryz.func145 Tryz.call145 rfl rfl fun x=>by kernel_rfl
def nB (v_:af):Option (Int):=
 (dH v_).bind fun x1=>
 if (!x1) then
  some 0
 else
  (l7 v_.Box.Base).bind fun x2=>
  (lv v_).bind fun x3=>
  (qs x2 x3).bind fun x4=>
  some x4
noncomputable def K2:=mk 123 [.st 4] [.int] (fun x=>nB x) [k89,k93,Kv] [] Tryz.f123 (.n) Tryz.func123 Tryz.call123 rfl rfl fun x=>by kernel_rfl
def lI (p_:an) (v_:af):Option (Int):=
 (qf p_ v_.Use).bind fun x1=>
 (nB v_).bind fun x2=>
 if ((x1 == 0) || (x2 == 0)) then
  some 0
 else
  (qJ 109951162777600 x1).bind fun x3=>
  if (decide (x3 < x2)) then
   some 1099511627776
  else
   (qs x1 x2).bind fun x4=>
   (aD x4 99).bind fun x5=>
   (qJ x5 100).bind fun x6=>
   some x6
noncomputable def k92:=mk 92 [.st 8,.st 4] [.int] (fun x=>lI x.1 x.2) [Kn,K2] [] Tryz.f92 (.n) Tryz.func92 Tryz.call92 rfl rfl fun x=>by kernel_rfl
def jx (p_:an) (c_:Cap) (v_:af):Option (Int):=
 (dH v_).bind fun x1=>
 if (((!x1) || (decide (c_.Load < 0))) || (decide (3 ≤ c_.Load))) then
  some 0
 else
  (iE c_.Corners).bind fun x2=>
  (if (x2.2 != 0) then
   some true
  else
   (jy x2.1 ([v_.Box.Base]) 1).bind fun x3=>
   some ((x3.length:Int) == 0)).bind fun x4=>
  if x4 then
   some 0
  else
   if (c_.Load == 0) then
    some v_.Units
   else
    if (c_.Load == 1) then
     (lI p_ v_).bind fun x5=>
     some x5
    else
     (l7 v_.Box.Base).bind fun x6=>
     some x6
noncomputable def k64:=mk 64 [.st 8,.st 15,.st 4] [.int] (fun x=>jx x.1 x.2.1 x.2.2) [k89,k90,k91,k92,k93] [] Tryz.f64 (.n) Tryz.func64 Tryz.call64 rfl rfl fun x=>by kernel_rfl
def lF (t_:aq) (c_:Cap) (s1:Int × Int):Option (aN (Int × Int) (Int)):=
 if (decide (s1.2 < (t_.Base.length:Int))) then
  (au t_.Base s1.2).bind fun x1=>
  (if ((x1.Name.toList == c_.Name.toList)) then
   (au t_.Base s1.2).bind fun x2=>
   (dZ x2.N).bind fun x3=>
   (aD s1.1 x3).bind fun x4=>
   some x4
  else
   some s1.1).bind fun s2=>
  (aD s1.2 1).bind fun x5=>
  some (.go (s2,x5))
 else
  some (.ex 0 (s1.1,s1.2))
def ly (t_:aq) (c_:Cap) (s1:Int × Int):Option (aN (Int × Int) (Int)):=
 if (decide (s1.2 < (t_.Built.length:Int))) then
  (au t_.Built s1.2).bind fun x1=>
  (jx t_.an c_ x1.af).bind fun x2=>
  (aD s1.1 x2).bind fun x3=>
  (aD s1.2 1).bind fun x4=>
  some (.go (x3,x4))
 else
  some (.ex 2 (s1.1,s1.2))
def kS (t_:aq) (c_:Cap):Option (Int):=
 (ah (lF t_ c_) (t_.Base.length + 1) (0,0)).bind fun f1=>match f1 with
  | .go _=>none
  | .ex _ s1 =>
   (ah (ly t_ c_) (t_.Built.length + 1) (s1.1,0)).bind fun f2=>match f2 with
    | .go _=>none
    | .ex _ s2=>
     some s2.1
    | .ret r1=>some r1
  | .ret r2=>some r2
noncomputable def k39:=mk 39 [.st 7,.st 15] [.int] (fun x=>kS x.1 x.2) [k36,k64] [] Tryz.f39 (.s .n (.s .n (.s (.s .n (.l [] [(5,.v .int),(6,.v .int)] [(0,[6],[])] (fun e=>(gt e 0 (.st 7):aq).Base.length + 1) (.s .n (.s (.s .n (.j [] [(5,.v .int)] ([],[]) (.s .n .n))) .n)))) (.s (.s .n (.l [] [(5,.v .int),(7,.v .int)] [(2,[7],[])] (fun e=>(gt e 0 (.st 7):aq).Built.length + 1) .n)) .n)))) Tryz.func39 Tryz.call39 rfl rfl fun x=>by kernel_rfl
theorem wH {k0:K} {v0 v1:Value} {x0:aq} {x1:Cap} {r:Int} (i0:(IsV x0) v0 k0) (i1:(IsV x1) v1 k0) (hr:kS x0 x1 = some r):Calls Tryz.prog 39 #[v0,v1] k0.w (Ret k0 (IsV r)):=(k39.ok.ok k0 [v0,v1] (x0,x1) r (GOk.none (fun _=>rfl) fun _ e=>by cases e) ⟨i0,i1⟩ hr)
def iu (v_:af):Option (Bool):=
 (eO v_.Box.Base).bind fun x1=>
 some (((((x1 && (decide (0 ≤ v_.Box.Z0))) && (decide (v_.Box.Z0 < v_.Box.Z1))) && (decide (v_.Box.Z1 ≤ 4096))) && (decide (0 ≤ v_.Use))) && (decide (v_.Use < 6)))
noncomputable def k94:=mk 94 [.st 4] [.bool] (fun x=>iu x) [It] [] Tryz.f94 (.n) Tryz.func94 Tryz.call94 rfl rfl fun x=>by kernel_rfl
def lT (v_:af):Option ((List bk)):=
 some ([(⟨v_.Box.Z0,v_.Box.Z1,[v_.Box.Base]⟩:bk)])
noncomputable def k96:=mk 96 [.st 4] [.list (.st 22)] (fun x=>lT x) [] [] Tryz.f96 (.n) Tryz.func96 Tryz.call96 rfl rfl fun x=>by kernel_rfl
def jJ (p_:aJ):Option (Bool):=
 some ((((((decide (0 ≤ p_.X)) && (decide (p_.X ≤ 1048576))) && (decide (0 ≤ p_.Y))) && (decide (p_.Y ≤ 1048576))) && (decide (0 ≤ p_.Z))) && (decide (p_.Z ≤ 4096)))
noncomputable def Jm:=mk 125 [.st 17] [.bool] (fun x=>jJ x) [] [] Tryz.f125 (.n) Tryz.func125 Tryz.call125 rfl rfl fun x=>by kernel_rfl
def kj (n_:Int):Option (Bool):=
 some ((decide ((-1048576) ≤ n_)) && (decide (n_ ≤ 1048576)))
noncomputable def KP:=mk 126 [.int] [.bool] (fun x=>kj x) [] [] Tryz.f126 (.n) Tryz.func126 Tryz.call126 rfl rfl fun x=>by kernel_rfl
def jH (l_:(List aw)) (s1:Int):Option (aN (Int) ((List aw) × Int)):=
 if (decide (s1 < (l_.length:Int))) then
  (au l_ s1).bind fun x1=>
  (eO x1).bind fun x2=>
  if (!x2) then
   some (.ret (([]:List aw),1))
  else
   (aD s1 1).bind fun x3=>
   some (.go x3)
 else
  some (.ex 0 s1)
def jZ (l_:(List aw)):Option ((List aw) × Int):=
 (ah (jH l_) (l_.length + 1) 0).bind fun f1=>match f1 with
  | .go _=>none
  | .ex _ _ =>
   if (decide (400 < (l_.length:Int))) then
    some (([]:List aw),6)
   else
    (jy l_ ([]:List aw) 0).bind fun x1=>
    if (decide (200 < (x1.length:Int))) then
     some (([]:List aw),6)
    else
     some (x1,0)
  | .ret r1=>some r1
noncomputable def KR:=mk 181 [.list (.st 2)] [.list (.st 2),.int] (fun x=>jZ x) [It,k91] [] Tryz.f181 (.s .n (.s (.s .n (.l [] [(4,.v .int)] [(0,[4],[])] (fL [0]) .n)) .n)) Tryz.func181 Tryz.call181 rfl rfl fun x=>by kernel_rfl
def lG (a_:(List aw)) (b_:(List aw)) (s1:Int):Option (aN (Int) (Bool)):=
 if (decide (s1 < (a_.length:Int))) then
  (au a_ s1).bind fun x1=>
  (au b_ s1).bind fun x2=>
  if (!decide (x1 = x2)) then
   some (.ret false)
  else
   (aD s1 1).bind fun x3=>
   some (.go x3)
 else
  some (.ex 0 s1)
def kM (a_:(List aw)) (b_:(List aw)):Option (Bool):=
 if ((a_.length:Int) != (b_.length:Int)) then
  some false
 else
  (ah (lG a_ b_) (a_.length + b_.length + 1) 0).bind fun f1=>match f1 with
   | .go _=>none
   | .ex _ _=>
    some true
   | .ret r1=>some r1
noncomputable def Jb:=mk 176 [.list (.st 2),.list (.st 2)] [.bool] (fun x=>kM x.1 x.2) [] [] Tryz.f176 (.s .n (.s .n (.s (.s .n (.l [] [(5,.v .int)] [(0,[5],[])] (fL [0,1]) .n)) .n))) Tryz.func176 Tryz.call176 rfl rfl fun x=>by kernel_rfl
def nD (a_:(List aw)):Option (Bool):=
 (jZ a_).bind fun x1=>
 (if (x1.2 == 0) then
  (kM x1.1 a_).bind fun x2=>
  some x2
 else
  some false).bind fun x3=>
 some x3
noncomputable def K3:=mk 175 [.list (.st 2)] [.bool] (fun x=>nD x) [KR,Jb] [] Tryz.f175 (.n) Tryz.func175 Tryz.call175 rfl rfl fun x=>by kernel_rfl
def kt (s_:(List bk)) (s1:Int):Option (aN (Int) (Bool)):=
 if (decide (s1 < (s_.length:Int))) then
  (au s_ s1).bind fun x1=>
  (if (decide (x1.Z0 < 0)) then
   some true
  else
   (au s_ s1).bind fun x2=>
   (au s_ s1).bind fun x3=>
   some (decide (x3.Z1 ≤ x2.Z0))).bind fun x4=>
  (if x4 then
   some true
  else
   (au s_ s1).bind fun x5=>
   some (decide (4096 < x5.Z1))).bind fun x6=>
  (if x6 then
   some true
  else
   (au s_ s1).bind fun x7=>
   some ((x7.Area.length:Int) == 0)).bind fun x8=>
  (if x8 then
   some true
  else
   (au s_ s1).bind fun x9=>
   (nD x9.Area).bind fun x10=>
   some (!x10)).bind fun x11=>
  if x11 then
   some (.ret false)
  else
   (if (decide (0 < s1)) then
    (bZ s1 1).bind fun x12=>
    (au s_ x12).bind fun x13=>
    (au s_ s1).bind fun x14=>
    (if (decide (x14.Z0 < x13.Z1)) then
     some true
    else
     (bZ s1 1).bind fun x15=>
     (au s_ x15).bind fun x16=>
     (au s_ s1).bind fun x17=>
     (if (x16.Z1 == x17.Z0) then
      (bZ s1 1).bind fun x18=>
      (au s_ x18).bind fun x19=>
      (au s_ s1).bind fun x20=>
      (kM x19.Area x20.Area).bind fun x21=>
      some x21
     else
      some false).bind fun x22=>
     some x22).bind fun x23=>
    some x23
   else
    some false).bind fun x24=>
   if x24 then
    some (.ret false)
   else
    (aD s1 1).bind fun x25=>
    some (.go x25)
 else
  some (.ex 0 s1)
def jE (s_:(List bk)):Option (Bool):=
 if (decide (80 < (s_.length:Int))) then
  some false
 else
  (ah (kt s_) (s_.length + 1) 0).bind fun f1=>match f1 with
   | .go _=>none
   | .ex _ _=>
    some true
   | .ret r1=>some r1
noncomputable def Ka:=mk 164 [.list (.st 22)] [.bool] (fun x=>jE x) [K3,Jb] [] Tryz.f164 (.s .n (.s .n (.s (.s .n (.l [] [(3,.v .int)] [(0,[3],[])] (fL [0]) .n)) .n))) Tryz.func164 Tryz.call164 rfl rfl fun x=>by kernel_rfl
def ie (s_:(List bk)) (s1:(List Box) × Int) (s2:(List Box) × Int):Option (aN ((List Box) × Int) ((List Box))):=
 (au s_ s1.2).bind fun x1=>
 if (decide (s2.2 < (x1.Area.length:Int))) then
  (au s_ s1.2).bind fun x2=>
  (au x2.Area s2.2).bind fun x3=>
  (au s_ s1.2).bind fun x4=>
  (au s_ s1.2).bind fun x5=>
  (cg s2.1 ([(⟨x3,x4.Z0,x5.Z1⟩:Box)])).bind fun x6=>
  (aD s2.2 1).bind fun x7=>
  some (.go (x6,x7))
 else
  some (.ex 2 (s2.1,s2.2))
def jT (s_:(List bk)) (s1:(List Box) × Int):Option (aN ((List Box) × Int) ((List Box))):=
 if (decide (s1.2 < (s_.length:Int))) then
  (ah (ie s_ s1) ((s_.flatMap fun b=>b.Area).length + 1) (s1.1,0)).bind fun f1=>match f1 with
   | .go _=>none
   | .ex _ s2=>
    (aD s1.2 1).bind fun x1=>
    some (.go (s2.1,x1))
   | .ret r1=>some (.ret r1)
 else
  some (.ex 0 (s1.1,s1.2))
def jD (s_:(List bk)):Option ((List Box)):=
 (jE s_).bind fun x1=>
 if (!x1) then
  some ([]:List Box)
 else
  (ah (jT s_) (s_.length + ([]:List Box).length + 1) (([]:List Box),0)).bind fun f1=>match f1 with
   | .go _=>none
   | .ex _ s1=>
    some s1.1
   | .ret r1=>some r1
noncomputable def Lf:=mk 146 [.list (.st 22)] [.list (.st 5)] (fun x=>jD x) [Ka] [3,25,46] Tryz.f146 (.s .n (.s .n (.s .n (.s (.s .n (.l [] [(3,.o 81 (.st 5)),(4,.v .int)] [(0,[4],[])] (fL [0,3]) (.s .n (.s (.s .n (.l [] [(3,.o 81 (.st 5)),(5,.v .int)] [(2,[5],[])] (fun e=>(List.flatMap (fun b=>b.Area) (gt e 0 (.list (.st 22)):List bk)).length + 1) .n)) .n)))) (.s (.f [3] .n) .n))))) Tryz.func146 Tryz.call146 rfl rfl fun x=>by kernel_rfl
def et (a_:br) (b_:br):Option (Bool):=
 (qs a_.N b_.D).bind fun x1=>
 (qs b_.N a_.D).bind fun x2=>
 some (decide (x1 < x2))
noncomputable def Ih:=mk 148 [.st 29,.st 29] [.bool] (fun x=>et x.1 x.2) [] [] Tryz.f148 (.n) Tryz.func148 Tryz.call148 rfl rfl fun x=>by kernel_rfl
def kq (a_:br) (b_:br):Option (br):=
 (et a_ b_).bind fun x1=>
 (if x1 then
  some true
 else
  (et b_ a_).bind fun x2=>
  some ((!x2) && b_.Open)).bind fun x3=>
 if x3 then
  some b_
 else
  some a_
noncomputable def Ld:=mk 165 [.st 29,.st 29] [.st 29] (fun x=>kq x.1 x.2) [Ih] [4] Tryz.f165 (.n) Tryz.func165 Tryz.call165 rfl rfl fun x=>by kernel_rfl
def lN (a_:br) (b_:br):Option (br):=
 (et b_ a_).bind fun x1=>
 (if x1 then
  some true
 else
  (et a_ b_).bind fun x2=>
  some ((!x2) && b_.Open)).bind fun x3=>
 if x3 then
  some b_
 else
  some a_
noncomputable def KZ:=mk 166 [.st 29,.st 29] [.st 29] (fun x=>lN x.1 x.2) [Ih] [4] Tryz.f166 (.n) Tryz.func166 Tryz.call166 rfl rfl fun x=>by kernel_rfl
def iL (x_:fS) (at_:Int) (by_:Int) (from_:Int) (to_:Int):Option (fS):=
 (if (decide (0 < by_)) then
  (bZ from_ at_).bind fun x1=>
  (kq x_.Lo (⟨x1,by_,false⟩:br)).bind fun x2=>
  (bZ to_ at_).bind fun x3=>
  (lN (({ x_ with Lo:=x2 }).Hi) (⟨x3,by_,true⟩:br)).bind fun x4=>
  some { { x_ with Lo:=x2 } with Hi:=x4 }
 else
  some x_).bind fun s1=>
 (if (decide (by_ < 0)) then
  (bZ at_ to_).bind fun x5=>
  (bZ 0 by_).bind fun x6=>
  (kq s1.Lo (⟨x5,x6,true⟩:br)).bind fun x7=>
  (bZ at_ from_).bind fun x8=>
  (bZ 0 by_).bind fun x9=>
  (lN (({ s1 with Lo:=x7 }).Hi) (⟨x8,x9,false⟩:br)).bind fun x10=>
  some { { s1 with Lo:=x7 } with Hi:=x10 }
 else
  some s1).bind fun s2=>
 some ({ s2 with None:=(s2.None || ((by_ == 0) && ((decide (at_ < from_)) || (decide (to_ ≤ at_))))) })
noncomputable def KA:=mk 147 [.st 28,.int,.int,.int,.int] [.st 28] (fun x=>iL x.1 x.2.1 x.2.2.1 x.2.2.2.1 x.2.2.2.2) [Ld,KZ] [5,10] Tryz.f147 (.s .n (.s (.s .n (.j [] [(5,.b (.st 28))] ([],[]) (.s .n .n))) (.s (.s .n (.j [] [(5,.b (.st 28))] ([],[]) (.s .n .n))) .n))) Tryz.func147 Tryz.call147 rfl rfl fun x=>by kernel_rfl
def iv (p_:aJ) (v_:aJ) (most_:Int) (x1:(List Box)) (s1:Int):Option (aN (Int) (Bool)):=
 if (decide (s1 < (x1.length:Int))) then
  (au x1 s1).bind fun x2=>
  (au x1 s1).bind fun x3=>
  (iL (⟨(⟨0,1,true⟩:br),(⟨most_,1,true⟩:br),false⟩:fS) p_.X v_.X x2.Base.X0 x3.Base.X1).bind fun x4=>
  (au x1 s1).bind fun x5=>
  (au x1 s1).bind fun x6=>
  (iL x4 p_.Y v_.Y x5.Base.Y0 x6.Base.Y1).bind fun x7=>
  (au x1 s1).bind fun x8=>
  (au x1 s1).bind fun x9=>
  (iL x7 p_.Z v_.Z x8.Z0 x9.Z1).bind fun x10=>
  (et x10.Lo x10.Hi).bind fun x11=>
  (if (!x11) then
   (et x10.Hi x10.Lo).bind fun x12=>
   some (!x12)
  else
   some false).bind fun x13=>
  (if (!x10.None) then
   (et x10.Lo x10.Hi).bind fun x14=>
   some (x14 || ((x13 && (!x10.Lo.Open)) && (!x10.Hi.Open)))
  else
   some false).bind fun x15=>
  if x15 then
   some (.ret true)
  else
   (aD s1 1).bind fun x16=>
   some (.go x16)
 else
  some (.ex 0 s1)
def l8 (s_:(List bk)) (p_:aJ) (v_:aJ) (most_:Int):Option (Bool):=
 (jD s_).bind fun x1=>
 (ah (iv p_ v_ most_ x1) (x1.length + 1) 0).bind fun f1=>match f1 with
  | .go _=>none
  | .ex _ _=>
   some false
  | .ret r1=>some r1
noncomputable def Jp:=mk 127 [.list (.st 22),.st 17,.st 17,.int] [.bool] (fun x=>l8 x.1 x.2.1 x.2.2.1 x.2.2.2) [Lf,KA,Ih] [11] Tryz.f127 (.s .n (.s .n (.s (.s .n (.l [] [(10,.v .int)] [(0,[10],[])] (fL [9]) .n)) .n))) Tryz.func127 Tryz.call127 rfl rfl fun x=>by kernel_rfl
def mO (s_:(List bk)) (p_:aJ) (d_:aJ):Option (Bool):=
 (jJ p_).bind fun x1=>
 (if (!x1) then
  some true
 else
  (kj d_.X).bind fun x2=>
  some (!x2)).bind fun x3=>
 (if x3 then
  some true
 else
  (kj d_.Y).bind fun x4=>
  some (!x4)).bind fun x5=>
 (if x5 then
  some true
 else
  (kj d_.Z).bind fun x6=>
  some (!x6)).bind fun x7=>
 if (x7 || (((d_.X == 0) && (d_.Y == 0)) && (d_.Z == 0))) then
  some false
 else
  (l8 s_ p_ d_ 2097152).bind fun x8=>
  some x8
noncomputable def k95:=mk 95 [.list (.st 22),.st 17,.st 17] [.bool] (fun x=>mO x.1 x.2.1 x.2.2) [Jm,KP,Jp] [] Tryz.f95 (.n) Tryz.func95 Tryz.call95 rfl rfl fun x=>by kernel_rfl
def ib (t_:aq) (w_:fm) (s1:Int × Int) (s2:Bool × Int):Option (aN (Bool × Int) (Int)):=
 if (decide (s2.2 < (t_.Built.length:Int))) then
  (au t_.Built s2.2).bind fun x1=>
  (au t_.Built s2.2).bind fun x2=>
  (if (x2.Lot != w_.Lot) then
   (iu x1.af).bind fun x3=>
   some x3
  else
   some false).bind fun x4=>
  (if x4 then
   (lT x1.af).bind fun x5=>
   (au t_.an.Sun s1.2).bind fun x6=>
   (mO x5 w_.At x6).bind fun x7=>
   some (s2.1 && (!x7))
  else
   some s2.1).bind fun s3=>
  (aD s2.2 1).bind fun x8=>
  some (.go (s3,x8))
 else
  some (.ex 2 (s2.1,s2.2))
def kE (t_:aq) (w_:fm) (s1:Int × Int):Option (aN (Int × Int) (Int)):=
 if (decide (s1.2 < (t_.an.Sun.length:Int))) then
  (ah (ib t_ w_ s1) (t_.Built.length + 1) (true,0)).bind fun f1=>match f1 with
   | .go _=>none
   | .ex _ s2 =>
    (if s2.1 then
     (aD s1.1 1).bind fun x1=>
     some x1
    else
     some s1.1).bind fun s3=>
    (aD s1.2 1).bind fun x2=>
    some (.go (s3,x2))
   | .ret r1=>some (.ret r1)
 else
  some (.ex 0 (s1.1,s1.2))
def nC (t_:aq) (w_:fm):Option (Int):=
 (ah (kE t_ w_) (t_.an.Sun.length + 1) (0,0)).bind fun f1=>match f1 with
  | .go _=>none
  | .ex _ s1=>
   some s1.1
  | .ret r1=>some r1
noncomputable def k65:=mk 65 [.st 7,.st 20] [.int] (fun x=>nC x.1 x.2) [k94,k96,k95] [] Tryz.f65 (.s .n (.s .n (.s (.s .n (.l [] [(5,.v .int),(6,.v .int)] [(0,[6],[])] (fun e=>(gt e 0 (.st 7):aq).an.Sun.length + 1) (.s .n (.s (.s .n (.s (.s .n (.l [] [(7,.v .bool),(8,.v .int)] [(2,[8],[])] (fun e=>(gt e 0 (.st 7):aq).Built.length + 1) (.s .n (.s (.s .n (.s .n (.j [] [(7,.v .bool)] ([],[]) (.s .n .n)))) .n)))) (.s .n (.j [] [(5,.v .int)] ([],[]) (.s .n .n))))) .n)))) .n))) Tryz.func65 Tryz.call65 rfl rfl fun x=>by kernel_rfl
def gM (s_:(List bk)) (p_:aJ) (q_:aJ):Option (Bool):=
 (jJ p_).bind fun x1=>
 (if (!x1) then
  some true
 else
  (jJ q_).bind fun x2=>
  some (!x2)).bind fun x3=>
 if x3 then
  some false
 else
  (bZ q_.X p_.X).bind fun x4=>
  (bZ q_.Y p_.Y).bind fun x5=>
  (bZ q_.Z p_.Z).bind fun x6=>
  (l8 s_ p_ (⟨x4,x5,x6⟩:aJ) 1).bind fun x7=>
  some x7
noncomputable def k97:=mk 97 [.list (.st 22),.st 17,.st 17] [.bool] (fun x=>gM x.1 x.2.1 x.2.2) [Jm,Jp] [] Tryz.f97 (.n) Tryz.func97 Tryz.call97 rfl rfl fun x=>by kernel_rfl
def fH (t_:aq) (w_:View) (s1:Int × Int) (s2:Bool × Int):Option (aN (Bool × Int) (Int)):=
 if (decide (s2.2 < (t_.Built.length:Int))) then
  (au t_.Built s2.2).bind fun x1=>
  (iu x1.af).bind fun x2=>
  (if x2 then
   (lT x1.af).bind fun x3=>
   (au w_.Targets s1.2).bind fun x4=>
   (gM x3 w_.Eye x4).bind fun x5=>
   some (s2.1 && (!x5))
  else
   some s2.1).bind fun s3=>
  (aD s2.2 1).bind fun x6=>
  some (.go (s3,x6))
 else
  some (.ex 2 (s2.1,s2.2))
def iJ (t_:aq) (w_:View) (s1:Int × Int):Option (aN (Int × Int) (Int)):=
 if (decide (s1.2 < (w_.Targets.length:Int))) then
  (ah (fH t_ w_ s1) (t_.Built.length + 1) (true,0)).bind fun f1=>match f1 with
   | .go _=>none
   | .ex _ s2 =>
    (if s2.1 then
     (aD s1.1 1).bind fun x1=>
     some x1
    else
     some s1.1).bind fun s3=>
    (aD s1.2 1).bind fun x2=>
    some (.go (s3,x2))
   | .ret r1=>some (.ret r1)
 else
  some (.ex 0 (s1.1,s1.2))
def lA (t_:aq) (w_:View):Option (Int):=
 (ah (iJ t_ w_) (w_.Targets.length + 1) (0,0)).bind fun f1=>match f1 with
  | .go _=>none
  | .ex _ s1=>
   some s1.1
  | .ret r1=>some r1
noncomputable def k66:=mk 66 [.st 7,.st 16] [.int] (fun x=>lA x.1 x.2) [k94,k96,k97] [] Tryz.f66 (.s .n (.s .n (.s (.s .n (.l [] [(5,.v .int),(6,.v .int)] [(0,[6],[])] (fun e=>(gt e 1 (.st 16):View).Targets.length + 1) (.s .n (.s (.s .n (.s (.s .n (.l [] [(7,.v .bool),(8,.v .int)] [(2,[8],[])] (fun e=>(gt e 0 (.st 7):aq).Built.length + 1) (.s .n (.s (.s .n (.s .n (.j [] [(7,.v .bool)] ([],[]) (.s .n .n)))) .n)))) (.s .n (.j [] [(5,.v .int)] ([],[]) (.s .n .n))))) .n)))) .n))) Tryz.func66 Tryz.call66 rfl rfl fun x=>by kernel_rfl
def lD (a_:af) (b_:af):Option (Bool):=
 (iu a_).bind fun x1=>
 (if x1 then
  (iu b_).bind fun x2=>
  some x2
 else
  some false).bind fun x3=>
 some (((x3 && (decide ((max a_.Box.Base.X0 b_.Box.Base.X0) < (min a_.Box.Base.X1 b_.Box.Base.X1)))) && (decide ((max a_.Box.Base.Y0 b_.Box.Base.Y0) < (min a_.Box.Base.Y1 b_.Box.Base.Y1)))) && (decide ((max a_.Box.Z0 b_.Box.Z0) < (min a_.Box.Z1 b_.Box.Z1))))
noncomputable def k67:=mk 67 [.st 4,.st 4] [.bool] (fun x=>lD x.1 x.2) [k94] [] Tryz.f67 (.n) Tryz.func67 Tryz.call67 rfl rfl fun x=>by kernel_rfl
def jj (t_:aq) (s1:Int × aK):Option (aN (Int × aK) (aK × Bool)):=
 if (decide (s1.1 < (t_.Windows.length:Int))) then
  (au t_.Windows s1.1).bind fun x1=>
  (nC t_ x1).bind fun x2=>
  if (decide (x2 < t_.an.Hours)) then
   some (.ret ((⟨2,(⟨#[]⟩:ByteArray),s1.1⟩:aK),false))
  else
   (aD s1.1 1).bind fun x3=>
   some (.go (x3,s1.2))
 else
  some (.ex 0 (s1.1,s1.2))
def jc (t_:aq) (s1:Int × aK):Option (aN (Int × aK) (aK × Bool)):=
 if (decide (s1.1 < (t_.an.Views.length:Int))) then
  (au t_.an.Views s1.1).bind fun x1=>
  (lA t_ x1).bind fun x2=>
  (au t_.an.Views s1.1).bind fun x3=>
  if (decide (x2 < x3.Least)) then
   (au t_.an.Views s1.1).bind fun x4=>
   some (.ret ((⟨3,x4.Name,0⟩:aK),false))
  else
   (aD s1.1 1).bind fun x5=>
   some (.go (x5,s1.2))
 else
  some (.ex 2 (s1.1,s1.2))
def eM (t_:aq) (s1:Int × aK) (s2:Int × aK):Option (aN (Int × aK) (aK × Bool)):=
 if (decide (s2.1 < s1.1)) then
  (au t_.Built s1.1).bind fun x1=>
  (au t_.Built s2.1).bind fun x2=>
  (lD x1.af x2.af).bind fun x3=>
  if x3 then
   some (.ret ((⟨5,(⟨#[]⟩:ByteArray),s1.1⟩:aK),false))
  else
   (aD s2.1 1).bind fun x4=>
   some (.go (x4,s2.2))
 else
  some (.ex 6 (s2.1,s2.2))
def jh (t_:aq) (s1:Int × aK):Option (aN (Int × aK) (aK × Bool)):=
 if (decide (s1.1 < (t_.Built.length:Int))) then
  (ah (eM t_ s1) (t_.Built.length + 1) (0,s1.2)).bind fun f1=>match f1 with
   | .go _=>none
   | .ex _ s2=>
    (aD s1.1 1).bind fun x1=>
    some (.go (x1,s2.2))
   | .ret r1=>some (.ret r1)
 else
  some (.ex 4 (s1.1,s1.2))
def kF (t_:aq):Option (aK × Bool):=
 (ah (jj t_) (t_.Windows.length + 1) (0,(⟨0,(⟨#[]⟩:ByteArray),0⟩:aK))).bind fun f1=>match f1 with
  | .go _=>none
  | .ex _ s1 =>
   (ah (jc t_) (t_.an.Views.length + 1) (0,s1.2)).bind fun f2=>match f2 with
    | .go _=>none
    | .ex _ s2 =>
     (ah (jh t_) (t_.Built.length + 1) (0,s2.2)).bind fun f3=>match f3 with
      | .go _=>none
      | .ex _ _=>
       some ((⟨0,(⟨#[]⟩:ByteArray),0⟩:aK),true)
      | .ret r1=>some r1
    | .ret r2=>some r2
  | .ret r3=>some r3
noncomputable def k40:=mk 40 [.st 7] [.st 27,.bool] (fun x=>kF x) [k65,k66,k67] [2] Tryz.f40 (.s .n (.s (.s .n (.l [] [(4,.v .int),(2,.b (.st 27))] [(0,[4],[])] (fun e=>(gt e 0 (.st 7):aq).Windows.length + 1) .n)) (.s (.s .n (.l [] [(6,.v .int),(2,.b (.st 27))] [(2,[6],[])] (fun e=>(gt e 0 (.st 7):aq).an.Views.length + 1) .n)) (.s (.s .n (.l [] [(8,.v .int),(2,.b (.st 27))] [(4,[8],[])] (fun e=>(gt e 0 (.st 7):aq).Built.length + 1) (.s .n (.s (.s .n (.l [] [(9,.v .int),(2,.b (.st 27))] [(6,[9],[])] (fun e=>(gt e 0 (.st 7):aq).Built.length + 1) .n)) .n)))) .n)))) Tryz.func40 Tryz.call40 rfl rfl fun x=>by kernel_rfl
def ki (t_:aq) (s1:Int × aK):Option (aN (Int × aK) (aK × Bool)):=
 if (decide (s1.1 < (t_.an.Caps.length:Int))) then
  (au t_.an.Caps s1.1).bind fun x1=>
  (kS t_ x1).bind fun x2=>
  (au t_.an.Caps s1.1).bind fun x3=>
  if (decide (x3.aK < x2)) then
   (au t_.an.Caps s1.1).bind fun x4=>
   some (.ret ((⟨1,x4.Name,0⟩:aK),false))
  else
   (aD s1.1 1).bind fun x5=>
   some (.go (x5,s1.2))
 else
  some (.ex 0 (s1.1,s1.2))
def nH (t_:aq):Option (aK × Bool):=
 (ah (ki t_) (t_.an.Caps.length + 1) (0,(⟨0,(⟨#[]⟩:ByteArray),0⟩:aK))).bind fun f1=>match f1 with
  | .go _=>none
  | .ex _ _=>
   (kF t_).bind fun x1=>
   some (x1.1,x1.2)
  | .ret r1=>some r1
noncomputable def k20:=mk 20 [.st 7] [.st 27,.bool] (fun x=>nH x) [k39,k40] [2] Tryz.f20 (.s .n (.s (.s .n (.l [] [(4,.v .int),(2,.b (.st 27))] [(0,[4],[])] (fun e=>(gt e 0 (.st 7):aq).an.Caps.length + 1) .n)) .n)) Tryz.func20 Tryz.call20 rfl rfl fun x=>by kernel_rfl
def jS (p_:an) (c_:Cap) (ph_:Phase) (s1:Int × Int):Option (aN (Int × Int) (Int)):=
 if (decide (s1.2 < (ph_.Volumes.length:Int))) then
  (au ph_.Volumes s1.2).bind fun x1=>
  (jx p_ c_ x1).bind fun x2=>
  (aD s1.1 x2).bind fun x3=>
  (aD s1.2 1).bind fun x4=>
  some (.go (x3,x4))
 else
  some (.ex 0 (s1.1,s1.2))
def ko (c_:Cap) (ph_:Phase) (s1:Int × Int):Option (aN (Int × Int) (Int)):=
 if (decide (s1.2 < (ph_.bd.length:Int))) then
  (au ph_.bd s1.2).bind fun x1=>
  (if ((x1.Name.toList == c_.Name.toList)) then
   (au ph_.bd s1.2).bind fun x2=>
   (dZ x2.N).bind fun x3=>
   (bZ s1.1 x3).bind fun x4=>
   some x4
  else
   some s1.1).bind fun s2=>
  (aD s1.2 1).bind fun x5=>
  some (.go (s2,x5))
 else
  some (.ex 2 (s1.1,s1.2))
def ns (p_:an) (c_:Cap) (ph_:Phase):Option (Int):=
 (ah (jS p_ c_ ph_) (ph_.Volumes.length + 1) (0,0)).bind fun f1=>match f1 with
  | .go _=>none
  | .ex _ s1 =>
   (ah (ko c_ ph_) (ph_.bd.length + 1) (s1.1,0)).bind fun f2=>match f2 with
    | .go _=>none
    | .ex _ s2=>
     some s2.1
    | .ret r1=>some r1
  | .ret r2=>some r2
noncomputable def k98:=mk 98 [.st 8,.st 15,.st 3] [.int] (fun x=>ns x.1 x.2.1 x.2.2) [k64,k36] [] Tryz.f98 (.s .n (.s .n (.s (.s .n (.l [] [(7,.v .int),(8,.v .int)] [(0,[8],[])] (fun e=>(gt e 2 (.st 3):Phase).Volumes.length + 1) .n)) (.s (.s .n (.l [] [(7,.v .int),(9,.v .int)] [(2,[9],[])] (fun e=>(gt e 2 (.st 3):Phase).bd.length + 1) (.s .n (.s (.s .n (.j [] [(7,.v .int)] ([],[]) (.s .n .n))) .n)))) .n)))) Tryz.func98 Tryz.call98 rfl rfl fun x=>by kernel_rfl
def kp (p_:an) (c_:Cap) (x1:(List Phase)) (s1:(List Int) × Int):Option (aN ((List Int) × Int) ((List Int))):=
 if (decide (s1.2 < (x1.length:Int))) then
  (au x1 s1.2).bind fun x2=>
  (ns p_ c_ x2).bind fun x3=>
  (cg s1.1 ([x3])).bind fun x4=>
  (aD s1.2 1).bind fun x5=>
  some (.go (x4,x5))
 else
  some (.ex 0 (s1.1,s1.2))
def lZ (p_:an) (c_:Cap) (r_:ax):Option ((List Int)):=
 (ju r_).bind fun x1=>
 (ah (kp p_ c_ x1) (x1.length + ([]:List Int).length + 1) (([]:List Int),0)).bind fun f1=>match f1 with
  | .go _=>none
  | .ex _ s1=>
   some s1.1
  | .ret r1=>some r1
noncomputable def k69:=mk 69 [.st 8,.st 15,.st 30] [.list .int] (fun x=>lZ x.1 x.2.1 x.2.2) [k37,k98] [8,18,27] Tryz.f69 (.s .n (.s .n (.s .n (.s (.s .n (.l [] [(8,.o 3 .int),(9,.v .int)] [(0,[9],[])] (fL [7,8]) .n)) (.s (.f [8] .n) .n))))) Tryz.func69 Tryz.call69 rfl rfl fun x=>by kernel_rfl
theorem vi {k0:K} {v0 v1 v2:Value} {x0:an} {x1:Cap} {x2:ax} {r:(List Int)} (i0:(IsV x0) v0 k0) (i1:(IsV x1) v1 k0) (i2:(IsV x2) v2 k0) (hr:lZ x0 x1 x2 = some r):Calls Tryz.prog 69 #[v0,v1,v2] k0.w (Ret k0 (IsV r)):=(k69.ok.ok k0 [v0,v1,v2] (x0,x1,x2) r (GOk.none (fun _=>rfl) fun _ e=>by cases e) ⟨i0,i1,i2⟩ hr)
def lE (l_:(List Int)) (s1:Int × Int × Int):Option (aN (Int × Int × Int) (Int)):=
 if (decide (s1.2.2 < (l_.length:Int))) then
  (au l_ s1.2.2).bind fun x1=>
  (aD s1.2.1 x1).bind fun x2=>
  (aD s1.2.2 1).bind fun x3=>
  some (.go ((max s1.1 x2),x2,x3))
 else
  some (.ex 0 (s1.1,s1.2.1,s1.2.2))
def kP (l_:(List Int)):Option (Int):=
 (ah (lE l_) (l_.length + 1) (0,0,0)).bind fun f1=>match f1 with
  | .go _=>none
  | .ex _ s1=>
   some s1.1
  | .ret r1=>some r1
noncomputable def k68:=mk 68 [.list .int] [.int] (fun x=>kP x) [] [] Tryz.f68 (.s .n (.s .n (.s .n (.s (.s .n (.l [] [(3,.v .int),(4,.v .int),(5,.v .int)] [(0,[4,5],[])] (fL [0]) .n)) .n)))) Tryz.func68 Tryz.call68 rfl rfl fun x=>by kernel_rfl
theorem wc {k0:K} {v0:Value} {x0:(List Int)} {r:Int} (i0:(IsV x0) v0 k0) (hr:kP x0 = some r):Calls Tryz.prog 68 #[v0] k0.w (Ret k0 (IsV r)):=(k68.ok.ok k0 [v0] x0 r (GOk.none (fun _=>rfl) fun _ e=>by cases e) i0 hr)
def iW (t_:aq) (rights_:(List ax)) (c_:Cap) (s1:ct × Int):Option (aN (ct × Int) (ct)):=
 if (decide (s1.2 < (rights_.length:Int))) then
  (au rights_ s1.2).bind fun x1=>
  (lZ t_.an c_ x1).bind fun x2=>
  (kP x2).bind fun x3=>
  (cg s1.1.Tops ([x3])).bind fun x4=>
  (aD s1.2 1).bind fun x5=>
  some (.go ({ s1.1 with Tops:=x4 },x5))
 else
  some (.ex 0 (s1.1,s1.2))
def kX (t_:aq) (rights_:(List ax)) (c_:Cap):Option (ct):=
 (kS t_ c_).bind fun x1=>
 (ah (iW t_ rights_ c_) (rights_.length + 1) ((⟨c_.Name,x1,[]⟩:ct),0)).bind fun f1=>match f1 with
  | .go _=>none
  | .ex _ s1=>
   some s1.1
  | .ret r1=>some r1
theorem wh {k0:K} {v0 v1 v2:Value} {t_:aq} {rights_:(List ax)} {c_:Cap} {r:ct} (i0:(IsV t_) v0 k0) (i1:(IsV rights_) v1 k0) (i2:(IsV c_) v2 k0) (hr:kX t_ rights_ c_ = some r) :
  Calls Tryz.prog 41 #[v0,v1,v2] k0.w (Ret k0 (IsV r)):=by
 unfold kX at hr
 refine Ret.ofC ?_
 refine iN Tryz.func41 rfl Tryz.ntmps41 (show 3 ≤ 36 by decide) fun a k hk0 hs hd ha=>?_
 obtain ⟨e0,e1,e2,_⟩:=ha
 replace i0:(IsV t_) (a.get 0) k:=by rw [e0,hk0]; exact i0
 replace i1:(IsV rights_) (a.get 1) k:=by rw [e1,hk0]; exact i1
 replace i2:(IsV c_) (a.get 2) k:=by rw [e2,hk0]; exact i2
 have hQ:Gb.LetsOut (bodyPost Tryz.prog Tryz.f41 (dw noF k0 (IsV r))):=fc
 have hg:Chg noF k0 k:=by rw [hk0]; exact Chg.refl _ k0
 refine gP (fun c l=>Bs noF k0 36 c l∧IsV rights_ (c.get 1) l∧aL t_ (c.get 3) l∧aL c_ (c.get 5) l∧(∃ b6,c.get 6 = .pointer (some ⟨b6,0,none⟩)∧Lo k0 (Eq b6)∧Gb.Box b6 (⟨(⟨#[]⟩:ByteArray),0,[]⟩:ct) l∧True)) ?_ ?_
 ·intro Q1 W1 w1
  refine gS 3 (⟨some (aL t_),[(0,none)]⟩::⟨some (aL c_),[(2,none)]⟩::⟨some (dR k.w.heap.size (⟨(⟨#[]⟩:ByteArray),0,[]⟩:ct)),[]⟩::[]) hs (by kernel_rfl) ⟨ob1 rfl fun _ _ h n=>js rfl (up i0 h n.1),ob1 rfl fun _ _ h n=>js rfl (up i2 h n.1),ob1 rfl fun _ _ h n=>dQ _ h.size rfl z75,trivial⟩ W1 fun b q p=>?_
  have hgq:=hg.then p.grow
  have hsb:=p.size.trans hs
  have hdb:=p.defers.trans hd
  have j1:=p.ke 1 rfl i1
  have j3:(aL t_) (b.get 3) q:=p.ou 0 3 rfl
  have j5:(aL c_) (b.get 5) q:=p.ou 1 5 rfl
  obtain ⟨b6,j6,x6,z6⟩:(dR k.w.heap.size (⟨(⟨#[]⟩:ByteArray),0,[]⟩:ct)) (b.get 6) q:=p.ou 2 6 rfl
  replace x6:Lo k (Eq b6):=Lo.eq x6
  have y6:Lo k0 (Eq b6):=x6.chg hg
  exact aj (k:=q) (w1 _ _ ⟨⟨hgq,hsb,hdb⟩,j1,j3,j5,b6,j6,y6,z6,trivial⟩)
 rintro a k ⟨⟨hg,hs,hd⟩,i1,i3,i5,b6,i6,n6,c6,_⟩
 refine wp_seq ?_
 obtain ⟨x1,hx1,hr⟩:=bind_some hr
 refine cut (fun a' k'=>Bs noF k0 36 a' k'∧(IsV rights_) (a'.get 1) k'∧(aL t_) (a'.get 3) k'∧(aL c_) (a'.get 5) k'∧a'.get 6 = .pointer (some ⟨b6,0,none⟩)∧Lo k0 (Eq b6)∧Gb.Box b6 (⟨(⟨#[]⟩:ByteArray),0,[]⟩:ct) k'∧(∃ b7 F7,(aU b7 [aY] [aY] (⟨c_.Name,x1,[]⟩:ct)) F7 (a'.get 7) k'∧Lo k0 F7∧ai (Eq b6) F7∧True)) ?_ hQ ?_
 ·intro Q2 W2 w2
  refine region (m:=7) (_::_::_::_::_::⟨some (yN [aY.off] (⟨c_.Name,x1,[]⟩:ct)),[(10,some 1),(13,some 4)]⟩::⟨some (dR k.w.heap.size (⟨(⟨#[]⟩:ByteArray),0,[]⟩:ct)),[]⟩::[]) oH hs (by kernel_rfl) ⟨o1 [(5,none)] rfl fun _ _ h n=>bB rfl FW (Ay _) ((up i5 h n.1)).ptr,o1 [(9,some 0)] rfl fun _ _ h n=>aM rfl ty9 n.1,o1 [(3,none)] rfl fun _ _ h n=>aM rfl pP ((up i3 h n.1)).ptr,o1 [(5,none)] rfl fun _ _ h n=>aM rfl GJ ((up i5 h n.1)).ptr,o1 [(11,some 2),(12,some 3)] rfl fun _ _ h n=>cN rfl Tryz.call39 (wH n.1 n.2.1 hx1),ob1 rfl fun _ _ h n=>xA rfl (uI n.1 n.2.1),ob1 rfl fun _ _ h n=>dQ _ h.size rfl z75,trivial⟩ W2 fun b q p=>?_
  have hgq:=hg.then p.grow
  have hsb:=p.size.trans hs
  have hdb:=p.defers.trans hd
  have j1:=p.ke 1 rfl i1
  have j3:=p.ke 3 rfl i3
  have j5:=p.ke 5 rfl i5
  have j6:=upE i6 (p.old 6 rfl)
  have z6:=Gb.Box.grow c6 p.grow
  have y6:=n6
  obtain ⟨b7,j7,x7,z7⟩:(dR k.w.heap.size (⟨(⟨#[]⟩:ByteArray),0,[]⟩:ct)) (b.get 7) q:=p.ou 6 7 rfl
  replace x7:Lo k (Eq b7):=Lo.eq x7
  have y7:Lo k0 (Eq b7):=x7.chg hg
  have j14:(yN [aY.off] (⟨c_.Name,x1,[]⟩:ct)) (b.get 14) q:=p.ou 5 14 rfl
  have w6_7:ai (Eq b6) (Eq b7):=ai.new c6.ltF x7
  have hns:=z7.kN
  refine tn (i:=7) rfl rfl rfl rfl C3 j7 z7 j14 fun q2 hch hz hnn=>?_
  replace hgq:=hgq.step hch y7.wr
  have hle:=hch.le hns
  replace j1:=aA.pers hle j1
  replace j3:=aA.pers hle j3
  replace j5:=aA.pers hle j5
  replace z6:=z6.keep hch (w6_7 _ rfl) hns
  replace j14:=aA.pers hle j14
  replace z7:=hz
  clear hns hle hch
  obtain ⟨q,hqq⟩ : ∃ q,q = q2:=⟨q2,rfl⟩
  subst hqq
  obtain ⟨F7,jn,hFe⟩ : ∃ F,aU b7 [aY] [] (⟨c_.Name,x1,[]⟩:ct) F (b.get 7) q∧F = Eq b7:=⟨_,Box.open z7 CF j7,rfl⟩
  replace j7:=jn
  replace y7:Lo k0 F7:=by rw [hFe]; exact y7
  replace w6_7:ai (Eq b6) F7:=by rw [hFe]; exact w6_7
  clear jn hFe z7
  replace j7:=aU.Ir (g:=aY) j7 (hnn _ (.head _)) rfl
  exact aj (k:=q) (w2 _ _ ⟨⟨hgq,hsb,hdb⟩,j1,j3,j5,j6,y6,z6,b7,F7,j7,y7,w6_7,trivial⟩)
 rintro a k ⟨⟨hg,hs,hd⟩,i1,i3,i5,i6,n6,c6,b7,F7,i7,n7,d6_7,_⟩
 refine wp_seq ?_
 refine gP (fun c l=>∃ F7,Bs noF k0 36 c l∧IsV rights_ (c.get 1) l∧aL t_ (c.get 3) l∧aL c_ (c.get 5) l∧c.get 6 = .pointer (some ⟨b6,0,none⟩)∧Lo k0 (Eq b6)∧Gb.Box b6 (⟨(⟨#[]⟩:ByteArray),0,[]⟩:ct) l∧(aU b7 [aY] [aY] (⟨c_.Name,x1,[]⟩:ct)) F7 (c.get 7) l∧Lo k0 F7∧IsI 0 (c.get 8) l∧ai (Eq b6) F7∧True) ?_ ?_
 ·intro Q3 W3 w3
  refine gS 1 (⟨some (IsI 0),[]⟩::[]) hs (by kernel_rfl) ⟨aI rfl rfl,trivial⟩ W3 fun b q p=>?_
  exact aj (k:=q) (w3 _ _ ⟨F7,Bs.post ⟨hg,hs,hd⟩ p,p.ke 1 rfl i1,p.ke 3 rfl i3,p.ke 5 rfl i5,upE i6 (p.old 6 rfl),n6,Gb.Box.grow c6 p.grow,p.ke 7 rfl i7,n7,p.ou 0 8 rfl,d6_7,trivial⟩)
 rintro a k ⟨F7,⟨hg,hs,hd⟩,i1,i3,i5,i6,n6,c6,i7,n7,i8,d6_7,_⟩
 refine wp_block ?_
 obtain ⟨f1,hf1,hr⟩:=bind_some hr
 refine nM f1 (fun s' c l=>∃ F7,Bs noF k0 36 c l∧IsV rights_ (c.get 1) l∧aL t_ (c.get 3) l∧aL c_ (c.get 5) l∧c.get 6 = .pointer (some ⟨b6,0,none⟩)∧Lo k0 (Eq b6)∧Gb.Box b6 (⟨(⟨#[]⟩:ByteArray),0,[]⟩:ct) l∧(aU b7 [aY] [aY] s'.1) F7 (c.get 7) l∧Lo k0 F7∧IsV s'.2 (c.get 8) l∧ai (Eq b6) F7∧True) (fun i' s' c l=>(i' = 0∧Bs noF k0 36 c l∧c.get 6 = .pointer (some ⟨b6,0,none⟩)∧Lo k0 (Eq b6)∧Gb.Box b6 (⟨(⟨#[]⟩:ByteArray),0,[]⟩:ct) l∧c.get 7 = .pointer (some ⟨b7,0,none⟩)∧Lo k0 (Eq b7)∧Gb.Box b7 s'.1 l∧ai (Eq b6) (Eq b7)∧True)) (fun r' c l=>bodyPost Tryz.prog Tryz.f41 (dw noF k0 (IsV r')) .ret c l.w) ?_ hQ ?_ ?_ ?_
 ·intro Q4 W4 hgo hex hret
  refine ek ?_ _ _ _ _ _ hf1 ⟨F7,⟨hg,hs,hd⟩,i1,i3,i5,i6,n6,c6,i7,n7,i8,d6_7,trivial⟩ Q4 W4 hgo hex hret
  clear hr hf1 hgo hex hret W4 hQ hg hs hd F7 c6 d6_7 i1 i3 i5 i6 i7 i8 n6 n7
  intro s1 fl_ a k hr hS Q hQ hgo4816 hex4817 hret4818
  obtain ⟨F7,⟨hg,hs,hd⟩,i1,i3,i5,i6,n6,c6,i7,n7,i8,d6_7,_⟩:=hS
  unfold iW at hr
  refine wp_seq ?_
  refine gP (fun c l=>∃ F7,Bs noF k0 36 c l∧IsV rights_ (c.get 1) l∧aL t_ (c.get 3) l∧aL c_ (c.get 5) l∧c.get 6 = .pointer (some ⟨b6,0,none⟩)∧Lo k0 (Eq b6)∧Gb.Box b6 (⟨(⟨#[]⟩:ByteArray),0,[]⟩:ct) l∧(aU b7 [aY] [aY] s1.1) F7 (c.get 7) l∧Lo k0 F7∧IsV s1.2 (c.get 8) l∧(IsV (decide (s1.2 < (rights_.length:Int)))) (c.get 18) l∧ai (Eq b6) F7∧True) ?_ ?_
  ·intro Q5 W5 w4
   refine gS 4 (_::_::_::_::[]) hs (by kernel_rfl) ⟨mu rfl i8,mu rfl i1,o1 [(16,some 1)] rfl fun _ _ h n=>ep rfl rfl Tryz.underlying38 (IsV.rd n.1),o1 [(15,some 0),(17,some 2)] rfl fun _ _ h n=>gU rfl n.1 n.2.1,trivial⟩ W5 fun b q p=>?_
   exact aj (k:=q) (w4 _ _ ⟨F7,Bs.post ⟨hg,hs,hd⟩ p,p.ke 1 rfl i1,p.ke 3 rfl i3,p.ke 5 rfl i5,upE i6 (p.old 6 rfl),n6,Gb.Box.grow c6 p.grow,p.ke 7 rfl i7,n7,p.ke 8 rfl i8,p.ou 3 18 rfl,d6_7,trivial⟩)
  rintro a k ⟨F7,⟨hg,hs,hd⟩,i1,i3,i5,i6,n6,c6,i7,n7,i8,i18,d6_7,_⟩
  refine wp_cond_split (isBool i18) (fun hc4827=>?_) (fun hc4827=>?_)
  ·rw [if_pos hc4827] at hr
   refine wp_skip ?_
   refine wp_seq ?_
   refine wp_block ?_
   obtain ⟨x2,hx2,hr⟩:=bind_some hr
   obtain ⟨x3,hx3,hr⟩:=bind_some hr
   obtain ⟨x4,hx4,hr⟩:=bind_some hr
   obtain ⟨x5,hx5,hr⟩:=bind_some hr
   refine cut (fun a' k'=>∃ F7,Bs noF k0 36 a' k'∧(IsV rights_) (a'.get 1) k'∧(aL t_) (a'.get 3) k'∧(aL c_) (a'.get 5) k'∧a'.get 6 = .pointer (some ⟨b6,0,none⟩)∧Lo k0 (Eq b6)∧Gb.Box b6 (⟨(⟨#[]⟩:ByteArray),0,[]⟩:ct) k'∧(aU b7 [aY] [aY] ({ s1.1 with Tops:=x5 })) F7 (a'.get 7) k'∧Lo k0 F7∧(IsV s1.2) (a'.get 8) k'∧ai (Eq b6) F7∧True) ?_ hQ ?_
   ·intro Q6 W6 w5
    refine region (m:=12) (_::⟨some (pW b7 aY.off),[(21,some 0)]⟩::_::_::_::_::_::_::_::_::_::⟨some (IsV (α:=(List Int)) ([x4])),[(31,some 10)]⟩::[]) oH hs (by kernel_rfl) ⟨o1 [(7,none)] rfl fun _ _ h n=>cM rfl yR (upE (aU.ptr i7) n.1),ob1 rfl fun _ _ h n=>pQ (g:=aY) rfl Tryz.underlying67 Cm n.1 (Rsc.grow i7 h) (.head _),o1 [(3,none)] rfl fun _ _ h n=>bB rfl Fp (xH _) ((up i3 h n.1)).ptr,o1 [(23,some 2)] rfl fun _ _ h n=>aM rfl J3 n.1,o1 [(5,none)] rfl fun _ _ h n=>aM rfl GJ ((up i5 h n.1)).ptr,mu rfl i1,mu rfl i8,o1 [(26,some 5),(27,some 6)] rfl fun _ _ h n=>bs rfl Tryz.underlying38 oN (IsV.rd n.1) n.2.1 hx2,o1 [(28,some 7)] rfl fun _ _ h n=>aM rfl oN n.1,o1 [(24,some 3),(25,some 4),(29,some 8)] rfl fun _ _ h n=>cN rfl Tryz.call69 (vi n.1 n.2.1 n.2.2.1 hx3),o1 [(30,some 9)] rfl fun _ _ h n=>cN rfl Tryz.call68 (wc n.1 hx4),ob1 rfl fun _ _ h n=>cG rfl Tryz.underlying67 eo3 rfl (by decide) (by decide) ⟨rfl,n.1,trivial⟩,trivial⟩ W6 fun b q p=>?_
    have hgq:=hg.then p.grow
    have hsb:=p.size.trans hs
    have hdb:=p.defers.trans hd
    have j1:=p.ke 1 rfl i1
    have j3:=p.ke 3 rfl i3
    have j5:=p.ke 5 rfl i5
    have j6:=upE i6 (p.old 6 rfl)
    have z6:=Gb.Box.grow c6 p.grow
    have y6:=n6
    have j7:(aU b7 [aY] [aY] s1.1) F7 (b.get 7) q:=p.ke 7 rfl i7
    have y7:=n7
    have j8:=p.ke 8 rfl i8
    have j22:(pW b7 aY.off) (b.get 22) q:=p.ou 1 22 rfl
    have j32:(IsV (α:=(List Int)) ([x4])) (b.get 32) q:=p.ou 11 32 rfl
    have w6_7:ai (Eq b6) F7:=by exact d6_7
    obtain ⟨F7,jt,jo,jw,jf,je⟩:=aU.take j7 j22
    have wo6:ai (obF (b.get 22)) (Eq b6):=fun c h=>(w6_7.symm) c (je c h)
    have wn6:ai F7 (Eq b6):=fun c h=>(w6_7.symm) c (jf c h)
    have y22:Lo k0 (obF (b.get 22)):=fun c h=>y7 c (je c h)
    replace y7:Lo k0 F7:=fun c h=>y7 c (jf c h)
    replace j7:=jt
    replace j22:ay 0 3 s1.1.Tops (b.get 22) q:=jo
    have w6_22:ai (Eq b6) (obF (b.get 22)):=(wo6).symm
    have w6_7:ai (Eq b6) F7:=(wn6).symm
    have w7_22:ai F7 (obF (b.get 22)):=(jw).symm
    clear jt jo jw jf je wo6 wn6
    have hns:=j22.kN
    refine cX (i:=12) (d:=33) rfl rfl rfl rfl (by rw [hsb]; decide) (e:=3) Tryz.underlying67 eo3 j22 (IsV.rd j32) hx5 fun b2 q2 hsz hdf hoth hch hown hob=>?_
    have hle:=hch.le hns
    have yn:Lo k0 (obF (b2.get 33)):=y22.app hgq hob
    have v6:ai (Eq b6) (obF (b2.get 33)):=ai.app w6_22 z6.ltF hob
    have v7:ai F7 (obF (b2.get 33)):=ai.app w7_22 (Rsc.lt j7) hob
    replace j1:=aA.pers hle j1
    replace j3:=aA.pers hle j3
    replace j5:=aA.pers hle j5
    replace z6:=z6.keep hch (w6_22 _ rfl) hns
    replace j7:=Rsc.keep j7 hch w7_22 hns
    replace j8:=aA.pers hle j8
    replace j32:=aA.pers hle j32
    replace hgq:=hgq.step hch y22.wr
    rw [← hoth 1 (by decide)] at j1
    rw [← hoth 3 (by decide)] at j3
    rw [← hoth 5 (by decide)] at j5
    rw [← hoth 6 (by decide)] at j6
    rw [← hoth 7 (by decide)] at j7
    rw [← hoth 8 (by decide)] at j8
    rw [← hoth 32 (by decide)] at j32
    have w6_33:=v6
    have w7_33:=v7
    have j33:=hown
    have y33:=yn
    replace hsb:=hsz.trans hsb
    replace hdb:=hdf.trans hdb
    clear hle hch hown hob hns yn hsz hdf hoth
    obtain ⟨b,hbb⟩ : ∃ b,b = b2:=⟨b2,rfl⟩
    subst hbb
    obtain ⟨q,hqq⟩ : ∃ q,q = q2:=⟨q2,rfl⟩
    subst hqq
    refine gI (R:=jG b7 (2)) (i:=13) (d:=34) rfl rfl rfl (by rw [hsb]; decide) W6 (cM rfl yR (aU.ptr j7)) fun b2 q2 hsz hdf hoth hgr hnew=>?_
    replace j1:=aA.pers hgr.le j1
    replace j3:=aA.pers hgr.le j3
    replace j5:=aA.pers hgr.le j5
    replace z6:=z6.grow hgr
    replace j7:=Rsc.grow j7 hgr
    replace j8:=aA.pers hgr.le j8
    replace j32:=aA.pers hgr.le j32
    replace j33:=dX.mono hgr j33
    replace hgq:=hgq.then hgr
    rw [← hoth 1 (by decide)] at j1
    rw [← hoth 3 (by decide)] at j3
    rw [← hoth 5 (by decide)] at j5
    rw [← hoth 6 (by decide)] at j6
    rw [← hoth 7 (by decide)] at j7
    rw [← hoth 8 (by decide)] at j8
    rw [← hoth 32 (by decide)] at j32
    rw [← hoth 33 (by decide)] at j33
    rw [← hoth 33 (by decide)] at y33
    rw [← hoth 33 (by decide)] at w6_33
    rw [← hoth 33 (by decide)] at w7_33
    have j34:=hnew
    replace hsb:=hsz.trans hsb
    replace hdb:=hdf.trans hdb
    clear hgr hsz hdf hoth hnew
    obtain ⟨b,hbb⟩ : ∃ b,b = b2:=⟨b2,rfl⟩
    subst hbb
    obtain ⟨q,hqq⟩ : ∃ q,q = q2:=⟨q2,rfl⟩
    subst hqq
    refine ij (i:=14) (g:=aY) (x':=({ s1.1 with Tops:=x5 }:ct)) rfl rfl rfl rfl Cm j34 j7 (by decide) ⟨_,(.head _),rfl⟩ rfl (fun _ _ _ h=>h) (fun _ h=>nomatch h) j33 (w7_33.symm) fun q2 FF hch hz hF=>?_
    have hns:=Rsc.nsh j7
    have hle:=hch.le hns
    replace hgq:=hgq.step hch y7.wr
    replace j1:=aA.pers hle j1
    replace j3:=aA.pers hle j3
    replace j5:=aA.pers hle j5
    replace z6:=z6.keep hch (w6_7 _ rfl) hns
    replace j8:=aA.pers hle j8
    replace j32:=aA.pers hle j32
    replace j34:=aA.pers hle j34
    have wn6:ai FF (Eq b6):=fun c h=>(hF c h).elim (fun h=>(w6_7.symm) c h) (fun h=>(w6_33.symm) c h)
    have yn:Lo k0 FF:=fun c h=>(hF c h).elim (fun h=>y7 c h) (fun h=>y33 c h)
    clear hns hle hch hF
    obtain ⟨F7,hFe⟩ : ∃ F,F = FF:=⟨FF,rfl⟩
    subst hFe
    replace j7:=hz
    replace y7:=yn
    clear hz yn
    have w6_7:ai (Eq b6) F7:=(wn6).symm
    clear wn6
    obtain ⟨q,hqq⟩ : ∃ q,q = q2:=⟨q2,rfl⟩
    subst hqq
    exact aj (k:=q) (w5 _ _ ⟨F7,⟨hgq,hsb,hdb⟩,j1,j3,j5,j6,y6,z6,j7,y7,j8,w6_7,trivial⟩)
   rintro a k ⟨F7,⟨hg,hs,hd⟩,i1,i3,i5,i6,n6,c6,i7,n7,i8,d6_7,_⟩
   obtain ⟨x8,hx8,hr⟩:=bind_some hr
   refine cut (fun a' k'=>∃ F7,Bs noF k0 36 a' k'∧(IsV rights_) (a'.get 1) k'∧(aL t_) (a'.get 3) k'∧(aL c_) (a'.get 5) k'∧a'.get 6 = .pointer (some ⟨b6,0,none⟩)∧Lo k0 (Eq b6)∧Gb.Box b6 (⟨(⟨#[]⟩:ByteArray),0,[]⟩:ct) k'∧(aU b7 [aY] [aY] ({ s1.1 with Tops:=x5 })) F7 (a'.get 7) k'∧Lo k0 F7∧(IsV x8) (a'.get 8) k'∧ai (Eq b6) F7∧True) ?_ hQ ?_
   ·intro Q7 W7 w6
    refine gS 3 (_::_::_::[]) hs (by kernel_rfl) ⟨mu rfl i8,o1 [(19,some 0)] rfl fun _ _ h n=>gV rfl n.1 (cI rfl) hx8,cp 1 rfl rfl,trivial⟩ W7 fun b q p=>?_
    exact aj (k:=q) (w6 _ _ ⟨F7,Bs.post ⟨hg,hs,hd⟩ p,p.ke 1 rfl i1,p.ke 3 rfl i3,p.ke 5 rfl i5,upE i6 (p.old 6 rfl),n6,Gb.Box.grow c6 p.grow,p.ke 7 rfl i7,n7,p.ou 2 8 rfl,d6_7,trivial⟩)
   rintro a k ⟨F7,⟨hg,hs,hd⟩,i1,i3,i5,i6,n6,c6,i7,n7,i8,d6_7,_⟩
   exact hgo4816 _ _ _ (Option.some.inj hr).symm ⟨F7,⟨hg,hs,hd⟩,i1,i3,i5,i6,n6,c6,i7,n7,i8,d6_7,trivial⟩
  rw [if_neg (by rw [hc4827]; decide)] at hr
  refine wp_exit ?_
  obtain ⟨kk,sh4826,cc7⟩:=aU.close i7 (Ci _) (fun _ h=>h)
  replace c6:=c6.handed sh4826 (d6_7 _ rfl)
  replace hg:=hg.hand sh4826 n7.wr
  rw [← sh4826.w]
  replace d6_7:ai (Eq b6) (Eq b7):=fun c h e=>d6_7 c h (aU.sub i7 c e)
  replace n7:Lo k0 (Eq b7):=fun c e=>n7 c (aU.sub i7 c e)
  replace i7:=aU.ptr i7
  have c7:=cc7
  clear sh4826 cc7
  obtain ⟨k,hkk⟩ : ∃ k,k = kk:=⟨kk,rfl⟩
  subst hkk
  exact hex4817 _ _ _ _ (Option.some.inj hr).symm ⟨rfl,⟨hg,hs,hd⟩,i6,n6,c6,i7,n7,c7,d6_7,trivial⟩
 ·rintro r1 a k rfl hR
  dsimp only at hr
  obtain rfl:=Option.some.inj hr
  exact hR
 ·rintro _ _ _ rfl _
  simp at hr
 clear hf1
 rintro _ s2 a k rfl ⟨rfl,⟨hg,hs,hd⟩,i6,n6,c6,i7,n7,c7,d6_7,_⟩
 dsimp only at hr
 refine gP (fun c l=>Bs noF k0 36 c l∧c.get 6 = .pointer (some ⟨b6,0,none⟩)∧Lo k0 (Eq b6)∧Gb.Box b6 s2.1 l∧True) ?_ ?_
 ·intro Q8 W8 w7
  refine gS 1 (_::[]) hs (by kernel_rfl) ⟨o1 [(7,none)] rfl fun _ _ h n=>aM rfl FX ⟨_,(upE i7 n.1),(c7.grow h).at⟩,trivial⟩ W8 fun b q p=>?_
  have hgq:=hg.then p.grow
  have hsb:=p.size.trans hs
  have hdb:=p.defers.trans hd
  have j6:=upE i6 (p.old 6 rfl)
  have z6:=Gb.Box.grow c6 p.grow
  have y6:=n6
  have j35:(IsV s2.1) (b.get 35) q:=p.ou 0 35 rfl
  have hns:=z6.kN
  refine bC (i:=1) rfl rfl rfl rfl C3 (Upd.self (α:=ct)) j6 z6 j35 fun q2 hch hz=>?_
  replace hgq:=hgq.step hch y6.wr
  have hle:=hch.le hns
  replace j35:=aA.pers hle j35
  replace z6:=hz
  clear hns hle hch
  obtain ⟨q,hqq⟩ : ∃ q,q = q2:=⟨q2,rfl⟩
  subst hqq
  exact aj (k:=q) (w7 _ _ ⟨⟨hgq,hsb,hdb⟩,j6,y6,z6,trivial⟩)
 rintro a k ⟨⟨hg,hs,hd⟩,i6,n6,c6,_⟩
 refine wp_ret ?_
 obtain rfl:=Option.some.inj hr
 exact iT rfl hd hg (tU FX i6 c6)
noncomputable def k41:=mkO 41 [.st 7,.list (.st 30),.st 15] [.st 33] (fun x=>kX x.1 x.2.1 x.2.2) Tryz.call41 fun k0 vs x r hG h hr=>by obtain ⟨v0,vs,rfl,i0,h⟩:=h.cons; obtain ⟨v1,vs,rfl,i1,h⟩:=h.cons; obtain ⟨v2,rfl,i2⟩:=h.one; exact wh i0 i1 i2 hr
def nR (x1:ct) (s1:Int × Int):Option (aN (Int × Int) (aK × Bool)):=
 if (decide (s1.2 < (x1.Tops.length:Int))) then
  (au x1.Tops s1.2).bind fun x2=>
  (aD s1.1 x2).bind fun x3=>
  (aD s1.2 1).bind fun x4=>
  some (.go (x3,x4))
 else
  some (.ex 2 (s1.1,s1.2))
def lB (t_:aq) (rights_:(List ax)) (s1:Int × aK):Option (aN (Int × aK) (aK × Bool)):=
 if (decide (s1.1 < (t_.an.Caps.length:Int))) then
  (au t_.an.Caps s1.1).bind fun x1=>
  (kX t_ rights_ x1).bind fun x2=>
  (ah (nR x2) (rights_.length + 1) (x2.Base,0)).bind fun f1=>match f1 with
   | .go _=>none
   | .ex _ s2 =>
    (au t_.an.Caps s1.1).bind fun x3=>
    if (decide (x3.aK < s2.1)) then
     (au t_.an.Caps s1.1).bind fun x4=>
     some (.ret ((⟨1,x4.Name,0⟩:aK),false))
    else
     (aD s1.1 1).bind fun x5=>
     some (.go (x5,s1.2))
   | .ret r1=>some (.ret r1)
 else
  some (.ex 0 (s1.1,s1.2))
def kQ (t_:aq) (rights_:(List ax)):Option (aK × Bool):=
 (ah (lB t_ rights_) (t_.an.Caps.length + 1) (0,(⟨0,(⟨#[]⟩:ByteArray),0⟩:aK))).bind fun f1=>match f1 with
  | .go _=>none
  | .ex _ _=>
   (mZ t_ rights_).bind fun x1=>
   (kF x1).bind fun x2=>
   some (x2.1,x2.2)
  | .ret r1=>some r1
noncomputable def k22:=mk 22 [.st 7,.list (.st 30)] [.st 27,.bool] (fun x=>kQ x.1 x.2) [k41,k18,k40] [4] Tryz.f22 (.s .n (.s (.s .n (.l [] [(6,.v .int),(4,.b (.st 27))] [(0,[6],[])] (fun e=>(gt e 0 (.st 7):aq).an.Caps.length + 1) (.s .n (.s (.s .n (.s .n (.s (.s .n (.l [] [(8,.v .int),(9,.v .int)] [(2,[9],[])] (fL [1]) .n)) .n))) .n)))) .n)) Tryz.func22 Tryz.call22 rfl rfl fun x=>by kernel_rfl
theorem wu {k0:K} {v0 v1:Value} {x0:aq} {x1:(List ax)} {r:aK × Bool} (i0:(IsV x0) v0 k0) (i1:(IsV x1) v1 k0) (hr:kQ x0 x1 = some r):Calls Tryz.prog 22 #[v0,v1] k0.w (Ret k0 (dv (IsV r.1) (IsV r.2))):=Hj (T:=tb) (k22.ok.ok k0 [v0,v1] (x0,x1) r (GOk.none (fun _=>rfl) fun _ e=>by cases e) ⟨i0,i1⟩ hr)
end Go.Proofs.YtegglcdhfnjhcaaGreat
