/- What the functions compute that the law reaches, part 4 -/
import Derived.Test.YtegglcdhfnjhcaaGreatT3
namespace Go.Proofs.YtegglcdhfnjhcaaGreat
open Go.Gb
set_option linter.unusedVariables false
set_option linter.unusedSimpArgs false
set_option maxRecDepth 100000
def sight_interval_narrow (i_:SightInterval) (at_:Int) (by_:Int) (from_:Int) (to_:Int):Option (SightInterval):=
 (if (decide (0 < by_)) then
  (subI from_ at_).bind fun x1=>
  (sight_interval_above i_ (⟨x1,by_,false⟩:SightBound)).bind fun x2=>
  (subI to_ at_).bind fun x3=>
  (sight_interval_below x2 (⟨x3,by_,true⟩:SightBound)).bind fun x4=>
  some x4
 else
  (if (decide (by_ < 0)) then
   (subI at_ to_).bind fun x5=>
   (subI 0 by_).bind fun x6=>
   (sight_interval_above i_ (⟨x5,x6,true⟩:SightBound)).bind fun x7=>
   (subI at_ from_).bind fun x8=>
   (subI 0 by_).bind fun x9=>
   (sight_interval_below x7 (⟨x8,x9,false⟩:SightBound)).bind fun x10=>
   some x10
  else
   (if ((decide (at_ < from_)) || (decide (to_ ≤ at_))) then
    some { i_ with none_:=true }
   else
    some i_).bind fun s1=>
   some s1).bind fun s2=>
  some s2).bind fun s3=>
 some s3
theorem sight_interval_narrow_ok {k0:K} {v0 v1 v2 v3 v4:Value} {i_:SightInterval} {at_:Int} {by_:Int} {from_:Int} {to_:Int} {r:SightInterval} {b0:Nat} (i0:v0 = .pointer (some ⟨b0,0,none⟩)) (c0:Gb.Box b0 i_ k0) (i1:(IsV at_) v1 k0) (i2:(IsV by_) v2 k0) (i3:(IsV from_) v3 k0) (i4:(IsV to_) v4 k0) (hr:sight_interval_narrow i_ at_ by_ from_ to_ = some r) :
  Calls Tryz.prog 111 #[v0,v1,v2,v3,v4] k0.w (RetC (Eq b0) k0 (IsTurn b0 r)):=by
 unfold sight_interval_narrow at hr
 refine enterK Tryz.func111 rfl Tryz.ntmps111 (show 5 ≤ 58 by decide) fun a k hk0 hs hd ha=>?_
 obtain ⟨e0,e1,e2,e3,e4,_⟩:=ha
 replace i0:a.get 0 = .pointer (some ⟨b0,0,none⟩):=by rw [e0]; exact i0
 replace c0:Gb.Box b0 i_ k:=by rw [hk0]; exact c0
 have n0:Wr (Eq b0) k0 (Eq b0):=fun b h=>.inl h
 replace i1:(IsV at_) (a.get 1) k:=by rw [e1,hk0]; exact i1
 replace i2:(IsV by_) (a.get 2) k:=by rw [e2,hk0]; exact i2
 replace i3:(IsV from_) (a.get 3) k:=by rw [e3,hk0]; exact i3
 replace i4:(IsV to_) (a.get 4) k:=by rw [e4,hk0]; exact i4
 have hQ:Gb.LetsOut (bodyPost Tryz.prog Tryz.f111 (RetC (Eq b0) k0 (IsTurn b0 r))):=letsOutC
 have hg:Chg (Eq b0) k0 k:=by rw [hk0]; exact Chg.refl _ k0
 refine wp_block ?_
 refine cutS (fun c l=>Bs (Eq b0) k0 58 c l∧c.get 0 = .pointer (some ⟨b0,0,none⟩)∧Wr (Eq b0) k0 (Eq b0)∧Gb.Box b0 i_ l∧IsV at_ (c.get 1) l∧IsV by_ (c.get 2) l∧IsV from_ (c.get 3) l∧IsV to_ (c.get 4) l∧IsV (decide (0 < by_)) (c.get 10) l∧True) ?_ ?_
 ·intro Q1 W1 w1
  refine gS 3 (_::_::_::[]) hs (by kernel_rfl) ⟨mu rfl i2,o1 [(11,some 0)] rfl fun _ _ h n=>ok_gtr rfl n.1 (cI rfl),cp 1 rfl rfl,trivial⟩ W1 fun b q p=>?_
  exact tail_done (k:=q) (w1 _ _ ⟨Bs.post ⟨hg,hs,hd⟩ p,upE i0 (p.old 0 rfl),n0,Gb.Box.grow c0 p.grow,p.ke 1 rfl i1,p.ke 2 rfl i2,p.ke 3 rfl i3,p.ke 4 rfl i4,p.ou 2 10 rfl,trivial⟩)
 rintro a k ⟨⟨hg,hs,hd⟩,i0,n0,c0,i1,i2,i3,i4,i10,_⟩
 obtain ⟨s1,hs1,hr⟩:=bind_some hr
 refine cut (fun a' k'=>Bs (Eq b0) k0 58 a' k'∧a'.get 0 = .pointer (some ⟨b0,0,none⟩)∧Wr (Eq b0) k0 (Eq b0)∧Gb.Box b0 s1 k'∧True) ?_ hQ ?_
 ·intro Q2 W2 w2
  replace hr:=hs1
  clear hQ
  have hQ:=W2
  refine wp_cond_split (isBool i10) (fun hc1898=>?_) (fun hc1898=>?_)
  ·rw [if_pos hc1898] at hr
   refine wp_seq ?_
   obtain ⟨x1,hx1,hr⟩:=bind_some hr
   obtain ⟨x2,hx2,hr⟩:=bind_some hr
   refine cut (fun a' k'=>Bs (Eq b0) k0 58 a' k'∧a'.get 0 = .pointer (some ⟨b0,0,none⟩)∧Wr (Eq b0) k0 (Eq b0)∧Gb.Box b0 x2 k'∧(IsV at_) (a'.get 1) k'∧(IsV by_) (a'.get 2) k'∧(IsV to_) (a'.get 4) k'∧True) ?_ hQ ?_
   ·intro Q3 W3 w3
    refine gS 6 (⟨some (IsAdr b0 (0)),[(0,none)]⟩::_::_::_::_::⟨some (IsV (⟨x1,by_,false⟩:SightBound)),[(16,some 3),(17,some 4)]⟩::[]) hs (by kernel_rfl) ⟨ob1 rfl fun _ _ h n=>ok_moveB rfl (upE i0 n.1),mu rfl i3,mu rfl i1,o1 [(14,some 1),(15,some 2)] rfl fun _ _ h n=>ok_sub rfl n.1 n.2.1 hx1,mu rfl i2,ob1 rfl fun _ _ h n=>ok_build rfl (bld145_0_1_2 n.1 n.2.1 (isV_bool.2 rfl)),trivial⟩ W3 fun b q p=>?_
    have hgq:=hg.then p.grow
    have hsb:=p.size.trans hs
    have hdb:=p.defers.trans hd
    have j0:=upE i0 (p.old 0 rfl)
    have z0:=Gb.Box.grow c0 p.grow
    have y0:=n0
    have j1:=p.ke 1 rfl i1
    have j2:=p.ke 2 rfl i2
    have j4:=p.ke 4 rfl i4
    have j13:IsAdr b0 (0) (b.get 13) q:=p.ou 0 13 rfl
    have j18:(IsV (⟨x1,by_,false⟩:SightBound)) (b.get 18) q:=p.ou 5 18 rfl
    have hns:=z0.nshF
    refine tail_call (F:=Eq b0) (i:=6) (d:=19) rfl rfl rfl rfl (by rw [hsb]; decide) Tryz.call137 W3 (sight_interval_above_ok j13 z0 j18 hx2) fun b2 q2 hsz hdf hoth hch hres=>?_
    have hle:=hch.le hns
    replace j1:=Pers.pers hle j1
    replace j2:=Pers.pers hle j2
    replace j4:=Pers.pers hle j4
    replace j13:=Pers.pers hle j13
    replace j18:=Pers.pers hle j18
    replace hgq:=hgq.step hch y0
    replace z0:=hres
    rw [← hoth 0 (by decide)] at j0
    rw [← hoth 1 (by decide)] at j1
    rw [← hoth 2 (by decide)] at j2
    rw [← hoth 4 (by decide)] at j4
    rw [← hoth 13 (by decide)] at j13
    rw [← hoth 18 (by decide)] at j18
    replace hsb:=hsz.trans hsb
    replace hdb:=hdf.trans hdb
    clear hle hch hns hsz hdf hoth hres
    obtain ⟨b,hbb⟩ : ∃ b,b = b2:=⟨b2,rfl⟩
    subst hbb
    obtain ⟨q,hqq⟩ : ∃ q,q = q2:=⟨q2,rfl⟩
    subst hqq
    exact tail_done (k:=q) (w3 _ _ ⟨⟨hgq,hsb,hdb⟩,j0,y0,z0,j1,j2,j4,trivial⟩)
   rintro a k ⟨⟨hg,hs,hd⟩,i0,n0,c0,i1,i2,i4,_⟩
   obtain ⟨x3,hx3,hr⟩:=bind_some hr
   obtain ⟨x4,hx4,hr⟩:=bind_some hr
   refine cut (fun a' k'=>Bs (Eq b0) k0 58 a' k'∧a'.get 0 = .pointer (some ⟨b0,0,none⟩)∧Wr (Eq b0) k0 (Eq b0)∧Gb.Box b0 x4 k'∧True) ?_ hQ ?_
   ·intro Q4 W4 w4
    refine gS 6 (⟨some (IsAdr b0 (0)),[(0,none)]⟩::_::_::_::_::⟨some (IsV (⟨x3,by_,true⟩:SightBound)),[(23,some 3),(24,some 4)]⟩::[]) hs (by kernel_rfl) ⟨ob1 rfl fun _ _ h n=>ok_moveB rfl (upE i0 n.1),mu rfl i4,mu rfl i1,o1 [(21,some 1),(22,some 2)] rfl fun _ _ h n=>ok_sub rfl n.1 n.2.1 hx3,mu rfl i2,ob1 rfl fun _ _ h n=>ok_build rfl (bld145_0_1_2 n.1 n.2.1 (isV_bool.2 rfl)),trivial⟩ W4 fun b q p=>?_
    have hgq:=hg.then p.grow
    have hsb:=p.size.trans hs
    have hdb:=p.defers.trans hd
    have j0:=upE i0 (p.old 0 rfl)
    have z0:=Gb.Box.grow c0 p.grow
    have y0:=n0
    have j20:IsAdr b0 (0) (b.get 20) q:=p.ou 0 20 rfl
    have j25:(IsV (⟨x3,by_,true⟩:SightBound)) (b.get 25) q:=p.ou 5 25 rfl
    have hns:=z0.nshF
    refine tail_call (F:=Eq b0) (i:=6) (d:=26) rfl rfl rfl rfl (by rw [hsb]; decide) Tryz.call138 W4 (sight_interval_below_ok j20 z0 j25 hx4) fun b2 q2 hsz hdf hoth hch hres=>?_
    have hle:=hch.le hns
    replace j20:=Pers.pers hle j20
    replace j25:=Pers.pers hle j25
    replace hgq:=hgq.step hch y0
    replace z0:=hres
    rw [← hoth 0 (by decide)] at j0
    rw [← hoth 20 (by decide)] at j20
    rw [← hoth 25 (by decide)] at j25
    replace hsb:=hsz.trans hsb
    replace hdb:=hdf.trans hdb
    clear hle hch hns hsz hdf hoth hres
    obtain ⟨b,hbb⟩ : ∃ b,b = b2:=⟨b2,rfl⟩
    subst hbb
    obtain ⟨q,hqq⟩ : ∃ q,q = q2:=⟨q2,rfl⟩
    subst hqq
    exact tail_done (k:=q) (w4 _ _ ⟨⟨hgq,hsb,hdb⟩,j0,y0,z0,trivial⟩)
   rintro a k ⟨⟨hg,hs,hd⟩,i0,n0,c0,_⟩
   obtain rfl:=Option.some.inj hr
   exact w2 _ _ ⟨⟨hg,hs,hd⟩,i0,n0,c0,trivial⟩
  rw [if_neg (by rw [hc1898]; decide)] at hr
  refine cutS (fun c l=>Bs (Eq b0) k0 58 c l∧c.get 0 = .pointer (some ⟨b0,0,none⟩)∧Wr (Eq b0) k0 (Eq b0)∧Gb.Box b0 i_ l∧IsV at_ (c.get 1) l∧IsV by_ (c.get 2) l∧IsV from_ (c.get 3) l∧IsV to_ (c.get 4) l∧IsV (decide (by_ < 0)) (c.get 27) l∧True) ?_ ?_
  ·intro Q5 W5 w5
   refine gS 3 (_::_::_::[]) hs (by kernel_rfl) ⟨mu rfl i2,o1 [(28,some 0)] rfl fun _ _ h n=>ok_lss rfl n.1 (cI rfl),cp 1 rfl rfl,trivial⟩ W5 fun b q p=>?_
   exact tail_done (k:=q) (w5 _ _ ⟨Bs.post ⟨hg,hs,hd⟩ p,upE i0 (p.old 0 rfl),n0,Gb.Box.grow c0 p.grow,p.ke 1 rfl i1,p.ke 2 rfl i2,p.ke 3 rfl i3,p.ke 4 rfl i4,p.ou 2 27 rfl,trivial⟩)
  rintro a k ⟨⟨hg,hs,hd⟩,i0,n0,c0,i1,i2,i3,i4,i27,_⟩
  obtain ⟨s2,hs2,hr⟩:=bind_some hr
  refine cut (fun a' k'=>Bs (Eq b0) k0 58 a' k'∧a'.get 0 = .pointer (some ⟨b0,0,none⟩)∧Wr (Eq b0) k0 (Eq b0)∧Gb.Box b0 s2 k'∧True) ?_ hQ ?_
  ·intro Q6 W6 w6
   replace hr:=hs2
   clear hQ
   have hQ:=W6
   refine wp_cond_split (isBool i27) (fun hc1894=>?_) (fun hc1894=>?_)
   ·rw [if_pos hc1894] at hr
    refine wp_seq ?_
    obtain ⟨x5,hx5,hr⟩:=bind_some hr
    obtain ⟨x6,hx6,hr⟩:=bind_some hr
    obtain ⟨x7,hx7,hr⟩:=bind_some hr
    refine cut (fun a' k'=>Bs (Eq b0) k0 58 a' k'∧a'.get 0 = .pointer (some ⟨b0,0,none⟩)∧Wr (Eq b0) k0 (Eq b0)∧Gb.Box b0 x7 k'∧(IsV at_) (a'.get 1) k'∧(IsV by_) (a'.get 2) k'∧(IsV from_) (a'.get 3) k'∧True) ?_ hQ ?_
    ·intro Q7 W7 w7
     refine gS 7 (⟨some (IsAdr b0 (0)),[(0,none)]⟩::_::_::_::_::⟨some (IsV x6),[(34,some 4)]⟩::⟨some (IsV (⟨x5,x6,true⟩:SightBound)),[(33,some 3),(35,some 5)]⟩::[]) hs (by kernel_rfl) ⟨ob1 rfl fun _ _ h n=>ok_moveB rfl (upE i0 n.1),mu rfl i1,mu rfl i4,o1 [(31,some 1),(32,some 2)] rfl fun _ _ h n=>ok_sub rfl n.1 n.2.1 hx5,mu rfl i2,ob1 rfl fun _ _ h n=>ok_neg rfl n.1 hx6,ob1 rfl fun _ _ h n=>ok_build rfl (bld145_0_1_2 n.1 n.2.1 (isV_bool.2 rfl)),trivial⟩ W7 fun b q p=>?_
     have hgq:=hg.then p.grow
     have hsb:=p.size.trans hs
     have hdb:=p.defers.trans hd
     have j0:=upE i0 (p.old 0 rfl)
     have z0:=Gb.Box.grow c0 p.grow
     have y0:=n0
     have j1:=p.ke 1 rfl i1
     have j2:=p.ke 2 rfl i2
     have j3:=p.ke 3 rfl i3
     have j30:IsAdr b0 (0) (b.get 30) q:=p.ou 0 30 rfl
     have j36:(IsV (⟨x5,x6,true⟩:SightBound)) (b.get 36) q:=p.ou 6 36 rfl
     have hns:=z0.nshF
     refine tail_call (F:=Eq b0) (i:=7) (d:=37) rfl rfl rfl rfl (by rw [hsb]; decide) Tryz.call137 W7 (sight_interval_above_ok j30 z0 j36 hx7) fun b2 q2 hsz hdf hoth hch hres=>?_
     have hle:=hch.le hns
     replace j1:=Pers.pers hle j1
     replace j2:=Pers.pers hle j2
     replace j3:=Pers.pers hle j3
     replace j30:=Pers.pers hle j30
     replace j36:=Pers.pers hle j36
     replace hgq:=hgq.step hch y0
     replace z0:=hres
     rw [← hoth 0 (by decide)] at j0
     rw [← hoth 1 (by decide)] at j1
     rw [← hoth 2 (by decide)] at j2
     rw [← hoth 3 (by decide)] at j3
     rw [← hoth 30 (by decide)] at j30
     rw [← hoth 36 (by decide)] at j36
     replace hsb:=hsz.trans hsb
     replace hdb:=hdf.trans hdb
     clear hle hch hns hsz hdf hoth hres
     obtain ⟨b,hbb⟩ : ∃ b,b = b2:=⟨b2,rfl⟩
     subst hbb
     obtain ⟨q,hqq⟩ : ∃ q,q = q2:=⟨q2,rfl⟩
     subst hqq
     exact tail_done (k:=q) (w7 _ _ ⟨⟨hgq,hsb,hdb⟩,j0,y0,z0,j1,j2,j3,trivial⟩)
    rintro a k ⟨⟨hg,hs,hd⟩,i0,n0,c0,i1,i2,i3,_⟩
    obtain ⟨x8,hx8,hr⟩:=bind_some hr
    obtain ⟨x9,hx9,hr⟩:=bind_some hr
    obtain ⟨x10,hx10,hr⟩:=bind_some hr
    refine cut (fun a' k'=>Bs (Eq b0) k0 58 a' k'∧a'.get 0 = .pointer (some ⟨b0,0,none⟩)∧Wr (Eq b0) k0 (Eq b0)∧Gb.Box b0 x10 k'∧True) ?_ hQ ?_
    ·intro Q8 W8 w8
     refine gS 7 (⟨some (IsAdr b0 (0)),[(0,none)]⟩::_::_::_::_::⟨some (IsV x9),[(42,some 4)]⟩::⟨some (IsV (⟨x8,x9,false⟩:SightBound)),[(41,some 3),(43,some 5)]⟩::[]) hs (by kernel_rfl) ⟨ob1 rfl fun _ _ h n=>ok_moveB rfl (upE i0 n.1),mu rfl i1,mu rfl i3,o1 [(39,some 1),(40,some 2)] rfl fun _ _ h n=>ok_sub rfl n.1 n.2.1 hx8,mu rfl i2,ob1 rfl fun _ _ h n=>ok_neg rfl n.1 hx9,ob1 rfl fun _ _ h n=>ok_build rfl (bld145_0_1_2 n.1 n.2.1 (isV_bool.2 rfl)),trivial⟩ W8 fun b q p=>?_
     have hgq:=hg.then p.grow
     have hsb:=p.size.trans hs
     have hdb:=p.defers.trans hd
     have j0:=upE i0 (p.old 0 rfl)
     have z0:=Gb.Box.grow c0 p.grow
     have y0:=n0
     have j38:IsAdr b0 (0) (b.get 38) q:=p.ou 0 38 rfl
     have j44:(IsV (⟨x8,x9,false⟩:SightBound)) (b.get 44) q:=p.ou 6 44 rfl
     have hns:=z0.nshF
     refine tail_call (F:=Eq b0) (i:=7) (d:=45) rfl rfl rfl rfl (by rw [hsb]; decide) Tryz.call138 W8 (sight_interval_below_ok j38 z0 j44 hx10) fun b2 q2 hsz hdf hoth hch hres=>?_
     have hle:=hch.le hns
     replace j38:=Pers.pers hle j38
     replace j44:=Pers.pers hle j44
     replace hgq:=hgq.step hch y0
     replace z0:=hres
     rw [← hoth 0 (by decide)] at j0
     rw [← hoth 38 (by decide)] at j38
     rw [← hoth 44 (by decide)] at j44
     replace hsb:=hsz.trans hsb
     replace hdb:=hdf.trans hdb
     clear hle hch hns hsz hdf hoth hres
     obtain ⟨b,hbb⟩ : ∃ b,b = b2:=⟨b2,rfl⟩
     subst hbb
     obtain ⟨q,hqq⟩ : ∃ q,q = q2:=⟨q2,rfl⟩
     subst hqq
     exact tail_done (k:=q) (w8 _ _ ⟨⟨hgq,hsb,hdb⟩,j0,y0,z0,trivial⟩)
    rintro a k ⟨⟨hg,hs,hd⟩,i0,n0,c0,_⟩
    obtain rfl:=Option.some.inj hr
    exact w6 _ _ ⟨⟨hg,hs,hd⟩,i0,n0,c0,trivial⟩
   rw [if_neg (by rw [hc1894]; decide)] at hr
   refine cutS (fun c l=>Bs (Eq b0) k0 58 c l∧c.get 0 = .pointer (some ⟨b0,0,none⟩)∧Wr (Eq b0) k0 (Eq b0)∧Gb.Box b0 i_ l∧(IsV ((decide (at_ < from_)) || (decide (to_ ≤ at_)))) (c.get 46) l∧True) ?_ ?_
   ·intro Q9 W9 w9
    refine gS 9 (_::_::_::_::_::_::_::_::_::[]) hs (by kernel_rfl) ⟨mu rfl i1,mu rfl i3,o1 [(47,some 0),(48,some 1)] rfl fun _ _ h n=>ok_lss rfl n.1 n.2.1,cm 2 rfl rfl,mF rfl rfl i1,mF rfl rfl i4,gF [(51,some 4),(52,some 5)] rfl rfl fun hp _ _ h n=>ok_geq rfl (Gd.get n.1 hp) (Gd.get n.2.1 hp),o1 [(50,some 3),(53,some 6)] rfl fun _ _ h n=>ok_pickOr rfl n.1 (cB rfl) (Gd.get n.2.1),cp 7 rfl rfl,trivial⟩ W9 fun b q p=>?_
    exact tail_done (k:=q) (w9 _ _ ⟨Bs.post ⟨hg,hs,hd⟩ p,upE i0 (p.old 0 rfl),n0,Gb.Box.grow c0 p.grow,p.ou 8 46 rfl,trivial⟩)
   rintro a k ⟨⟨hg,hs,hd⟩,i0,n0,c0,i46,_⟩
   obtain ⟨s3,hs3,hr⟩:=bind_some hr
   refine cut (fun a' k'=>Bs (Eq b0) k0 58 a' k'∧a'.get 0 = .pointer (some ⟨b0,0,none⟩)∧Wr (Eq b0) k0 (Eq b0)∧Gb.Box b0 s3 k'∧True) ?_ hQ ?_
   ·intro Q10 W10 w10
    replace hr:=hs3
    clear hQ
    have hQ:=W10
    refine wp_cond_split (isBool i46) (fun hc1890=>?_) (fun hc1890=>?_)
    ·rw [if_pos hc1890] at hr
     refine cut (fun a' k'=>Bs (Eq b0) k0 58 a' k'∧a'.get 0 = .pointer (some ⟨b0,0,none⟩)∧Wr (Eq b0) k0 (Eq b0)∧Gb.Box b0 ({ i_ with none_:=true }) k'∧True) ?_ hQ ?_
     ·intro Q11 W11 w11
      refine gS 3 (⟨some (IsAdr b0 (0)),[(0,none)]⟩::⟨some (IsAdr b0 (0)),[(55,some 0)]⟩::_::[]) hs (by kernel_rfl) ⟨ob1 rfl fun _ _ h n=>ok_moveB rfl (upE i0 n.1),ob1 rfl fun _ _ h n=>ok_nilCheckA rfl n.1,o1 [(56,some 1)] rfl fun _ _ h n=>ok_fieldAdr2 rfl fo147_3 n.1,trivial⟩ W11 fun b q p=>?_
      have hgq:=hg.then p.grow
      have hsb:=p.size.trans hs
      have hdb:=p.defers.trans hd
      have j0:=upE i0 (p.old 0 rfl)
      have z0:=Gb.Box.grow c0 p.grow
      have y0:=n0
      have j57:IsAdr b0 (0 + 7) (b.get 57) q:=p.ou 2 57 rfl
      have hns:=z0.nshF
      refine tail_storeB (i:=3) rfl rfl rfl rfl szf4 upd_F147_3 j57 z0 (isV_bool.2 rfl) fun q2 hch hz=>?_
      replace hgq:=hgq.step hch y0
      have hle:=hch.le hns
      replace j57:=Pers.pers hle j57
      replace z0:=hz
      clear hns hle hch
      obtain ⟨q,hqq⟩ : ∃ q,q = q2:=⟨q2,rfl⟩
      subst hqq
      exact tail_done (k:=q) (w11 _ _ ⟨⟨hgq,hsb,hdb⟩,j0,y0,z0,trivial⟩)
     rintro a k ⟨⟨hg,hs,hd⟩,i0,n0,c0,_⟩
     obtain rfl:=Option.some.inj hr
     exact w10 _ _ ⟨⟨hg,hs,hd⟩,i0,n0,c0,trivial⟩
    rw [if_neg (by rw [hc1890]; decide)] at hr
    refine wp_skip ?_
    obtain rfl:=Option.some.inj hr
    exact w10 _ _ ⟨⟨hg,hs,hd⟩,i0,n0,c0,trivial⟩
   clear hs3
   rintro a k ⟨⟨hg,hs,hd⟩,i0,n0,c0,_⟩
   obtain rfl:=Option.some.inj hr
   exact w6 _ _ ⟨⟨hg,hs,hd⟩,i0,n0,c0,trivial⟩
  clear hs2
  rintro a k ⟨⟨hg,hs,hd⟩,i0,n0,c0,_⟩
  obtain rfl:=Option.some.inj hr
  exact w2 _ _ ⟨⟨hg,hs,hd⟩,i0,n0,c0,trivial⟩
 clear hs1
 rintro a k ⟨⟨hg,hs,hd⟩,i0,n0,c0,_⟩
 obtain rfl:=Option.some.inj hr
 exact retT rfl hd hg c0
def sight_interval_empty (i_:SightInterval):Option (Bool):=
 if (i_.none_ || (!i_.top)) then
  some i_.none_
 else
  (sight_bound_compare i_.lo i_.hi).bind fun x1=>
  some ((decide (0 < x1)) || ((x1 == 0) && (i_.lo.open_ || i_.hi.open_)))
theorem sight_interval_empty_ok {k0:K} {v0:Value} {i_:SightInterval} {r:Bool} (i0:(IsRef i_) v0 k0) (hr:sight_interval_empty i_ = some r) :
  Calls Tryz.prog 112 #[v0] k0.w (Ret k0 (IsV r)):=by
 unfold sight_interval_empty at hr
 refine Ret.ofC ?_
 refine enterK Tryz.func112 rfl Tryz.ntmps112 (show 1 ≤ 48 by decide) fun a k hk0 hs hd ha=>?_
 obtain ⟨e0,_⟩:=ha
 replace i0:(IsRef i_) (a.get 0) k:=by rw [e0,hk0]; exact i0
 have hQ:Gb.LetsOut (bodyPost Tryz.prog Tryz.f112 (RetC noF k0 (IsV r))):=letsOutC
 have hg:Chg noF k0 k:=by rw [hk0]; exact Chg.refl _ k0
 refine stepL 1 (⟨some (IsV false),[]⟩::[]) rfl ⟨hg,hs,hd⟩ (by kernel_rfl) ⟨ob1 rfl fun _ _ h n=>ok_assign rfl (isV_bool.2 rfl),trivial⟩ [⟨_,_⟩] (fun b q p=>⟨p.ke 0 rfl i0,trivial⟩) ?_
 rintro a k ⟨⟨hg,hs,hd⟩,i0,_⟩
 refine wp_seq ?_
 refine stepL 11 (_::⟨some (IsRef i_),[(4,some 0)]⟩::_::_::_::_::⟨some (Gd (i_.none_ = false) (IsRef i_)),[(9,some 5)]⟩::_::_::_::_::[]) rfl ⟨hg,hs,hd⟩ (by kernel_rfl) ⟨mu rfl i0,ob1 rfl fun _ _ h n=>ok_nilCheckR rfl n.1,o1 [(5,some 1)] rfl fun _ _ h n=>ok_fieldAddr rfl fo147_3 (at_SightInterval_3 _) (n.1).ptr,o1 [(6,some 2)] rfl fun _ _ h n=>ok_load rfl ty4 n.1,cm 3 rfl rfl,mF rfl rfl i0,gdF rfl rfl fun hp _ _ h n=>ok_nilCheckR rfl (Gd.get n.1 hp),gF [(10,some 6)] rfl rfl fun hp _ _ h n=>ok_fieldAddr rfl fo147_2 (at_SightInterval_2 _) ((Gd.get n.1 hp)).ptr,gF [(11,some 7)] rfl rfl fun hp _ _ h n=>ok_load rfl ty4 (Gd.get n.1 hp),gF [(12,some 8)] rfl rfl fun hp _ _ h n=>ok_not rfl (Gd.get n.1 hp),o1 [(8,some 4),(13,some 9)] rfl fun _ _ h n=>ok_pickOr rfl n.1 (cB rfl) (Gd.get n.2.1),trivial⟩ [⟨_,_⟩,⟨_,_⟩] (fun b q p=>⟨p.ke 0 rfl i0,p.ou 10 14 rfl,trivial⟩) ?_
 rintro a k ⟨⟨hg,hs,hd⟩,i0,i14,_⟩
 refine wp_cond_split (isBool i14) (fun hc1913=>?_) (fun hc1913=>?_)
 ·rw [if_pos hc1913] at hr
  refine stepL 5 (_::⟨some (IsRef i_),[(15,some 0)]⟩::_::_::_::[]) rfl ⟨hg,hs,hd⟩ (by kernel_rfl) ⟨mu rfl i0,ob1 rfl fun _ _ h n=>ok_nilCheckR rfl n.1,o1 [(16,some 1)] rfl fun _ _ h n=>ok_fieldAddr rfl fo147_3 (at_SightInterval_3 _) (n.1).ptr,o1 [(17,some 2)] rfl fun _ _ h n=>ok_load rfl ty4 n.1,cp 3 rfl rfl,trivial⟩ [⟨_,_⟩] (fun b q p=>⟨p.ou 4 2 rfl,trivial⟩) ?_
  rintro a k ⟨⟨hg,hs,hd⟩,i2,_⟩
  refine wp_ret ?_
  obtain rfl:=Option.some.inj hr
  exact retC1 rfl hd hg i2
 rw [if_neg (by rw [hc1913]; decide)] at hr
 refine wp_skip ?_
 refine wp_seq ?_
 obtain ⟨x1,hx1,hr⟩:=bind_some hr
 refine cut (fun a' k'=>Bs noF k0 48 a' k'∧(IsRef i_) (a'.get 0) k'∧(IsV x1) (a'.get 3) k'∧True) ?_ hQ ?_
 ·intro Q1 W1 w1
  refine region (m:=10) (_::⟨some (IsRef i_),[(19,some 0)]⟩::_::_::_::⟨some (IsRef i_),[(23,some 4)]⟩::_::_::_::_::[]) hmix hs (by kernel_rfl) ⟨mu rfl i0,ob1 rfl fun _ _ h n=>ok_nilCheckR rfl n.1,o1 [(20,some 1)] rfl fun _ _ h n=>ok_fieldAddr rfl fo147_0 (at_SightInterval_0 _) (n.1).ptr,o1 [(21,some 2)] rfl fun _ _ h n=>ok_load rfl ty145 n.1,mu rfl i0,ob1 rfl fun _ _ h n=>ok_nilCheckR rfl n.1,o1 [(24,some 5)] rfl fun _ _ h n=>ok_fieldAddr rfl fo147_1 (at_SightInterval_1 _) (n.1).ptr,o1 [(25,some 6)] rfl fun _ _ h n=>ok_load rfl ty145 n.1,o1 [(22,some 3),(26,some 7)] rfl fun _ _ h n=>ok_call rfl Tryz.call139 (sight_bound_compare_ok n.1 n.2.1 hx1),cp 8 rfl rfl,trivial⟩ W1 fun b q p=>?_
  exact tail_done (k:=q) (w1 _ _ ⟨Bs.post ⟨hg,hs,hd⟩ p,p.ke 0 rfl i0,p.ou 9 3 rfl,trivial⟩)
 rintro a k ⟨⟨hg,hs,hd⟩,i0,i3,_⟩
 refine stepL 21 (_::_::_::_::_::⟨some (Gd ((decide (0 < x1)) = false) (IsV (x1 == 0))),[(32,some 4)]⟩::⟨some (Gd (((decide (0 < x1)) = false)∧(x1 == 0) = true) (IsRef i_)),[(0,none)]⟩::⟨some (Gd (((decide (0 < x1)) = false)∧(x1 == 0) = true) (IsRef i_)),[(34,some 6)]⟩::⟨some (Gd (((decide (0 < x1)) = false)∧(x1 == 0) = true) (IsPtr i_.lo)),[(35,some 7)]⟩::⟨some (Gd (((decide (0 < x1)) = false)∧(x1 == 0) = true) (IsPtr i_.lo.open_)),[(36,some 8)]⟩::⟨some (Gd (((decide (0 < x1)) = false)∧(x1 == 0) = true) (IsV i_.lo.open_)),[(37,some 9)]⟩::⟨some (Gd (((decide (0 < x1)) = false)∧(x1 == 0) = true) (IsV i_.lo.open_)),[(38,some 10)]⟩::⟨some (Gd ((((decide (0 < x1)) = false)∧(x1 == 0) = true)∧i_.lo.open_ = false) (IsRef i_)),[(0,none)]⟩::⟨some (Gd ((((decide (0 < x1)) = false)∧(x1 == 0) = true)∧i_.lo.open_ = false) (IsRef i_)),[(40,some 12)]⟩::⟨some (Gd ((((decide (0 < x1)) = false)∧(x1 == 0) = true)∧i_.lo.open_ = false) (IsPtr i_.hi)),[(41,some 13)]⟩::⟨some (Gd ((((decide (0 < x1)) = false)∧(x1 == 0) = true)∧i_.lo.open_ = false) (IsPtr i_.hi.open_)),[(42,some 14)]⟩::⟨some (Gd ((((decide (0 < x1)) = false)∧(x1 == 0) = true)∧i_.lo.open_ = false) (IsV i_.hi.open_)),[(43,some 15)]⟩::⟨some (Gd (((decide (0 < x1)) = false)∧(x1 == 0) = true) (IsV (i_.lo.open_ || i_.hi.open_))),[(39,some 11),(44,some 16)]⟩::_::_::_::[]) rfl ⟨hg,hs,hd⟩ (by kernel_rfl) ⟨mu rfl i3,o1 [(28,some 0)] rfl fun _ _ h n=>ok_gtr rfl n.1 (cI rfl),cm 1 rfl rfl,mF rfl rfl i3,gF [(31,some 3)] rfl rfl fun hp _ _ h n=>ok_eqI rfl (Gd.get n.1 hp) (cI rfl),gdF rfl rfl fun hp _ _ h n=>ok_move rfl (Gd.get n.1 hp),gdTT rfl rfl fun hp b q h n=>ok_move rfl (up i0 h n.1),gdTT rfl rfl fun hp b q h n=>ok_nilCheckR rfl (Gd.get n.1 hp),gdTT rfl rfl fun hp b q h n=>ok_fieldAddr rfl fo147_0 (at_SightInterval_0 _) ((Gd.get n.1 hp)).ptr,gdTT rfl rfl fun hp b q h n=>ok_fieldAddr rfl fo145_2 (at_SightBound_2 _) (Gd.get n.1 hp),gdTT rfl rfl fun hp b q h n=>ok_load rfl ty4 (Gd.get n.1 hp),gdTT rfl rfl fun hp b q h n=>ok_move rfl (Gd.get n.1 hp),gdTF rfl rfl fun hp b q h n=>ok_move rfl (up i0 h n.1),gdTF rfl rfl fun hp b q h n=>ok_nilCheckR rfl (Gd.get n.1 hp),gdTF rfl rfl fun hp b q h n=>ok_fieldAddr rfl fo147_1 (at_SightInterval_1 _) ((Gd.get n.1 hp)).ptr,gdTF rfl rfl fun hp b q h n=>ok_fieldAddr rfl fo145_2 (at_SightBound_2 _) (Gd.get n.1 hp),gdTF rfl rfl fun hp b q h n=>ok_load rfl ty4 (Gd.get n.1 hp),gdTT rfl rfl fun hp b q h n=>ok_pickOr rfl (Gd.get n.1 hp) (cB rfl) (fun hm=>(Gd.get n.2.1 ⟨hp,hm⟩)),gF [(33,some 5),(45,some 17)] rfl rfl fun hp _ _ h n=>ok_pickAnd rfl (Gd.get n.1 hp) (fun hm=>(Gd.get n.2.1 ⟨hp,hm⟩)) (cB rfl),o1 [(30,some 2),(46,some 18)] rfl fun _ _ h n=>ok_pickOr rfl n.1 (cB rfl) (Gd.get n.2.1),cp 19 rfl rfl,trivial⟩ [⟨_,_⟩] (fun b q p=>⟨p.ou 20 2 rfl,trivial⟩) ?_
 rintro a k ⟨⟨hg,hs,hd⟩,i2,_⟩
 refine wp_ret ?_
 obtain rfl:=Option.some.inj hr
 exact retC1 rfl hd hg i2
def sight_meets_L0 (p_:Point3) (v_:Point3) (t_:SightInterval) (x1:(List Box)) (s1:Int):Option (Flow (Int) (Bool)):=
 if (decide (s1 < (x1.length:Int))) then
  (getI x1 s1).bind fun x2=>
  (sight_interval_narrow t_ p_.X v_.X x2.Base.X0 x2.Base.X1).bind fun x3=>
  (sight_interval_narrow x3 p_.Y v_.Y x2.Base.Y0 x2.Base.Y1).bind fun x4=>
  (sight_interval_narrow x4 p_.Z v_.Z x2.Z0 x2.Z1).bind fun x5=>
  (sight_interval_empty x5).bind fun x6=>
  if (!x6) then
   some (.ret true)
  else
   (addI s1 1).bind fun x7=>
   some (.go x7)
 else
  some (.ex 0 s1)
def sight_meets (s_:(List Slab)) (p_:Point3) (v_:Point3) (t_:SightInterval):Option (Bool):=
 (solid_Boxes s_).bind fun x1=>
 (iterL (sight_meets_L0 p_ v_ t_ x1) (x1.length + 1) 0).bind fun f1=>match f1 with
  | .go _=>none
  | .ex _ _=>
   some false
  | .ret r1=>some r1
theorem sight_meets_ok {k0:K} {v0 v1 v2 v3:Value} {s_:(List Slab)} {p_:Point3} {v_:Point3} {t_:SightInterval} {r:Bool} (i0:(IsV s_) v0 k0) (i1:(IsV p_) v1 k0) (i2:(IsV v_) v2 k0) (i3:(IsV t_) v3 k0) (hr:sight_meets s_ p_ v_ t_ = some r) :
  Calls Tryz.prog 87 #[v0,v1,v2,v3] k0.w (Ret k0 (IsV r)):=by
 unfold sight_meets at hr
 refine Ret.ofC ?_
 refine enterK Tryz.func87 rfl Tryz.ntmps87 (show 4 ≤ 59 by decide) fun a k hk0 hs hd ha=>?_
 obtain ⟨e0,e1,e2,e3,_⟩:=ha
 replace i0:(IsV s_) (a.get 0) k:=by rw [e0,hk0]; exact i0
 replace i1:(IsV p_) (a.get 1) k:=by rw [e1,hk0]; exact i1
 replace i2:(IsV v_) (a.get 2) k:=by rw [e2,hk0]; exact i2
 replace i3:(IsV t_) (a.get 3) k:=by rw [e3,hk0]; exact i3
 have hQ:Gb.LetsOut (bodyPost Tryz.prog Tryz.f87 (RetC noF k0 (IsV r))):=letsOutC
 have hg:Chg noF k0 k:=by rw [hk0]; exact Chg.refl _ k0
 refine stepL 4 (⟨some (IsRef p_),[(1,none)]⟩::⟨some (IsRef v_),[(2,none)]⟩::⟨some (IsRef t_),[(3,none)]⟩::⟨some (IsV false),[]⟩::[]) rfl ⟨hg,hs,hd⟩ (by kernel_rfl) ⟨ob1 rfl fun _ _ h n=>ok_boxR rfl (up i1 h n.1),ob1 rfl fun _ _ h n=>ok_boxR rfl (up i2 h n.1),ob1 rfl fun _ _ h n=>ok_boxR rfl (up i3 h n.1),ob1 rfl fun _ _ h n=>ok_assign rfl (isV_bool.2 rfl),trivial⟩ [⟨_,_⟩,⟨_,_⟩,⟨_,_⟩,⟨_,_⟩] (fun b q p=>⟨p.ke 0 rfl i0,p.ou 0 5 rfl,p.ou 1 6 rfl,p.ou 2 7 rfl,trivial⟩) ?_
 rintro a k ⟨⟨hg,hs,hd⟩,i0,i5,i6,i7,_⟩
 refine wp_seq ?_
 refine wp_seq ?_
 obtain ⟨x1,hx1,hr⟩:=bind_some hr
 refine cut (fun a' k'=>Bs noF k0 59 a' k'∧(IsRef p_) (a'.get 5) k'∧(IsRef v_) (a'.get 6) k'∧(IsRef t_) (a'.get 7) k'∧(IsV x1) (a'.get 14) k'∧(IsL x1) (a'.get 15) k'∧(IsI 0) (a'.get 16) k'∧True) ?_ hQ ?_
 ·intro Q1 W1 w1
  refine gS 4 (_::_::_::⟨some (IsI 0),[]⟩::[]) hs (by kernel_rfl) ⟨mu rfl i0,o1 [(13,some 0)] rfl fun _ _ h n=>ok_call rfl Tryz.call110 (solid_Boxes_ok n.1 hx1),o1 [(14,some 1)] rfl fun _ _ h n=>ok_len rfl rfl Tryz.underlying163 (IsV.rd n.1),ob1 rfl fun _ _ h n=>ok_move rfl (cI rfl),trivial⟩ W1 fun b q p=>?_
  exact tail_done (k:=q) (w1 _ _ ⟨Bs.post ⟨hg,hs,hd⟩ p,p.ke 5 rfl i5,p.ke 6 rfl i6,p.ke 7 rfl i7,p.ou 1 14 rfl,p.ou 2 15 rfl,p.ou 3 16 rfl,trivial⟩)
 rintro a k ⟨⟨hg,hs,hd⟩,i5,i6,i7,i14,i15,i16,_⟩
 refine wp_block ?_
 obtain ⟨f1,hf1,hr⟩:=bind_some hr
 refine cutFe f1 (fun s' c l=>Bs noF k0 59 c l∧IsRef p_ (c.get 5) l∧IsRef v_ (c.get 6) l∧IsRef t_ (c.get 7) l∧IsV x1 (c.get 14) l∧IsL x1 (c.get 15) l∧IsV s' (c.get 16) l∧True) (fun i' s' c l=>(i' = 0∧Bs noF k0 59 c l∧True)) (fun r' c l=>bodyPost Tryz.prog Tryz.f87 (RetC noF k0 (IsV r')) .ret c l.w) ?_ hQ ?_ ?_ ?_
 ·intro Q2 W2 hgo hex hret
  refine sim_loop ?_ _ _ _ _ _ hf1 ⟨⟨hg,hs,hd⟩,i5,i6,i7,i14,i15,i16,trivial⟩ Q2 W2 hgo hex hret
  clear hr hf1 hgo hex hret W2 hQ hg hs hd i14 i15 i16 i5 i6 i7
  intro s1 fl_ a k hr hS Q hQ hgo1921 hex1922 hret1923
  obtain ⟨⟨hg,hs,hd⟩,i5,i6,i7,i14,i15,i16,_⟩:=hS
  unfold sight_meets_L0 at hr
  refine stepL 1 (_::[]) rfl ⟨hg,hs,hd⟩ (by kernel_rfl) ⟨o1 [(16,none),(15,none)] rfl fun _ _ h n=>ok_lss rfl (up i16 h n.1) (up i15 h n.2.1),trivial⟩ [⟨_,_⟩,⟨_,_⟩,⟨_,_⟩,⟨_,_⟩,⟨_,_⟩,⟨_,_⟩,⟨_,_⟩] (fun b q p=>⟨p.ke 5 rfl i5,p.ke 6 rfl i6,p.ke 7 rfl i7,p.ke 14 rfl i14,p.ke 15 rfl i15,p.ke 16 rfl i16,p.ou 0 17 rfl,trivial⟩) ?_
  rintro a k ⟨⟨hg,hs,hd⟩,i5,i6,i7,i14,i15,i16,i17,_⟩
  refine wp_seq ?_
  refine wp_cond_split (isBool i17) (fun hc1953=>?_) (fun hc1953=>?_)
  ·rw [if_pos hc1953] at hr
   refine wp_skip ?_
   refine wp_seq ?_
   refine wp_block ?_
   refine wp_seq ?_
   obtain ⟨x2,hx2,hr⟩:=bind_some hr
   refine cut (fun a' k'=>Bs noF k0 59 a' k'∧(IsRef p_) (a'.get 5) k'∧(IsRef v_) (a'.get 6) k'∧(IsRef t_) (a'.get 7) k'∧(IsRef x2) (a'.get 10) k'∧(IsV x1) (a'.get 14) k'∧(IsL x1) (a'.get 15) k'∧(IsV s1) (a'.get 16) k'∧True) ?_ hQ ?_
   ·intro Q3 W3 w2
    refine gS 3 (_::_::⟨some (IsBox k.w.heap.size (⟨(⟨0,0,0,0⟩:Rect),0,0⟩:Box)),[]⟩::[]) hs (by kernel_rfl) ⟨o1 [(14,none),(16,none)] rfl fun _ _ h n=>ok_indexAddr rfl Tryz.underlying163 ty81 (IsV.rd (up i14 h n.1)) (up i16 h n.2.1) hx2,o1 [(18,some 0)] rfl fun _ _ h n=>ok_load rfl ty81 n.1,ob1 rfl fun _ _ h n=>ok_alloc _ h.size rfl z81,trivial⟩ W3 fun b q p=>?_
    have hgq:=hg.then p.grow
    have hsb:=p.size.trans hs
    have hdb:=p.defers.trans hd
    have j5:=p.ke 5 rfl i5
    have j6:=p.ke 6 rfl i6
    have j7:=p.ke 7 rfl i7
    obtain ⟨b10,j10,x10,z10⟩:(IsBox k.w.heap.size (⟨(⟨0,0,0,0⟩:Rect),0,0⟩:Box)) (b.get 10) q:=p.ou 2 10 rfl
    replace x10:Lo k (Eq b10):=Lo.eq x10
    have y10:Lo k0 (Eq b10):=x10.chg hg
    have j14:=p.ke 14 rfl i14
    have j15:=p.ke 15 rfl i15
    have j16:=p.ke 16 rfl i16
    have j19:(IsV x2) (b.get 19) q:=p.ou 1 19 rfl
    have hns:=z10.nshF
    refine tail_storeB (i:=3) rfl rfl rfl rfl szf81 (Upd.self (α:=Box)) j10 z10 j19 fun q2 hch hz=>?_
    replace hgq:=hgq.step hch y10.wr
    have hle:=hch.le hns
    replace j5:=Pers.pers hle j5
    replace j6:=Pers.pers hle j6
    replace j7:=Pers.pers hle j7
    replace j14:=Pers.pers hle j14
    replace j15:=Pers.pers hle j15
    replace j16:=Pers.pers hle j16
    replace j19:=Pers.pers hle j19
    replace z10:=hz
    clear hns hle hch
    obtain ⟨q,hqq⟩ : ∃ q,q = q2:=⟨q2,rfl⟩
    subst hqq
    obtain ⟨q2,hsh,jn⟩:=z10.give
    replace j5:=Pers.pers hsh.le j5
    replace j6:=Pers.pers hsh.le j6
    replace j7:=Pers.pers hsh.le j7
    replace j14:=Pers.pers hsh.le j14
    replace j15:=Pers.pers hsh.le j15
    replace j16:=Pers.pers hsh.le j16
    rw [← j10] at jn
    replace j10:=jn
    replace hgq:=hgq.hand hsh y10.wr
    rw [← hsh.w]
    clear hsh
    obtain ⟨q,hqq⟩ : ∃ q,q = q2:=⟨q2,rfl⟩
    subst hqq
    exact tail_done (k:=q) (w2 _ _ ⟨⟨hgq,hsb,hdb⟩,j5,j6,j7,j10,j14,j15,j16,trivial⟩)
   rintro a k ⟨⟨hg,hs,hd⟩,i5,i6,i7,i10,i14,i15,i16,_⟩
   refine cutS (fun c l=>Bs noF k0 59 c l∧IsRef p_ (c.get 5) l∧IsRef v_ (c.get 6) l∧IsRef t_ (c.get 7) l∧IsRef x2 (c.get 10) l∧IsV x1 (c.get 14) l∧IsL x1 (c.get 15) l∧IsV s1 (c.get 16) l∧(∃ b11,c.get 11 = .pointer (some ⟨b11,0,none⟩)∧Lo k0 (Eq b11)∧Gb.Box b11 t_ l∧True)) ?_ ?_
   ·intro Q4 W4 w3
    refine gS 2 (_::⟨some (IsBox k.w.heap.size (⟨(⟨0,0,false⟩:SightBound),(⟨0,0,false⟩:SightBound),false,false⟩:SightInterval)),[]⟩::[]) hs (by kernel_rfl) ⟨o1 [(7,none)] rfl fun _ _ h n=>ok_load rfl ty147 ((up i7 h n.1)).ptr,ob1 rfl fun _ _ h n=>ok_alloc _ h.size rfl z147,trivial⟩ W4 fun b q p=>?_
    have hgq:=hg.then p.grow
    have hsb:=p.size.trans hs
    have hdb:=p.defers.trans hd
    have j5:=p.ke 5 rfl i5
    have j6:=p.ke 6 rfl i6
    have j7:=p.ke 7 rfl i7
    have j10:=p.ke 10 rfl i10
    obtain ⟨b11,j11,x11,z11⟩:(IsBox k.w.heap.size (⟨(⟨0,0,false⟩:SightBound),(⟨0,0,false⟩:SightBound),false,false⟩:SightInterval)) (b.get 11) q:=p.ou 1 11 rfl
    replace x11:Lo k (Eq b11):=Lo.eq x11
    have y11:Lo k0 (Eq b11):=x11.chg hg
    have j14:=p.ke 14 rfl i14
    have j15:=p.ke 15 rfl i15
    have j16:=p.ke 16 rfl i16
    have j20:(IsV t_) (b.get 20) q:=p.ou 0 20 rfl
    have hns:=z11.nshF
    refine tail_storeB (i:=2) rfl rfl rfl rfl szf147 (Upd.self (α:=SightInterval)) j11 z11 j20 fun q2 hch hz=>?_
    replace hgq:=hgq.step hch y11.wr
    have hle:=hch.le hns
    replace j5:=Pers.pers hle j5
    replace j6:=Pers.pers hle j6
    replace j7:=Pers.pers hle j7
    replace j10:=Pers.pers hle j10
    replace j14:=Pers.pers hle j14
    replace j15:=Pers.pers hle j15
    replace j16:=Pers.pers hle j16
    replace j20:=Pers.pers hle j20
    replace z11:=hz
    clear hns hle hch
    obtain ⟨q,hqq⟩ : ∃ q,q = q2:=⟨q2,rfl⟩
    subst hqq
    exact tail_done (k:=q) (w3 _ _ ⟨⟨hgq,hsb,hdb⟩,j5,j6,j7,j10,j14,j15,j16,b11,j11,y11,z11,trivial⟩)
   rintro a k ⟨⟨hg,hs,hd⟩,i5,i6,i7,i10,i14,i15,i16,b11,i11,n11,c11,_⟩
   refine cutS (fun c l=>Bs noF k0 59 c l∧IsRef p_ (c.get 5) l∧IsRef v_ (c.get 6) l∧IsRef t_ (c.get 7) l∧IsRef x2 (c.get 10) l∧c.get 11 = .pointer (some ⟨b11,0,none⟩)∧Lo k0 (Eq b11)∧Gb.Box b11 t_ l∧IsMV 111 b11 (c.get 12) l∧IsV x1 (c.get 14) l∧IsL x1 (c.get 15) l∧IsV s1 (c.get 16) l∧True) ?_ ?_
   ·intro Q5 W5 w4
    refine gS 2 (⟨some (IsMV 111 b11),[(11,none)]⟩::_::[]) hs (by kernel_rfl) ⟨ob1 rfl fun _ _ h n=>ok_makeMV rfl (upE i11 n.1),cp 0 rfl rfl,trivial⟩ W5 fun b q p=>?_
    exact tail_done (k:=q) (w4 _ _ ⟨Bs.post ⟨hg,hs,hd⟩ p,p.ke 5 rfl i5,p.ke 6 rfl i6,p.ke 7 rfl i7,p.ke 10 rfl i10,upE i11 (p.old 11 rfl),n11,Gb.Box.grow c11 p.grow,p.ou 1 12 rfl,p.ke 14 rfl i14,p.ke 15 rfl i15,p.ke 16 rfl i16,trivial⟩)
   rintro a k ⟨⟨hg,hs,hd⟩,i5,i6,i7,i10,i11,n11,c11,i12,i14,i15,i16,_⟩
   refine wp_seq ?_
   obtain ⟨x3,hx3,hr⟩:=bind_some hr
   refine cut (fun a' k'=>Bs noF k0 59 a' k'∧(IsRef p_) (a'.get 5) k'∧(IsRef v_) (a'.get 6) k'∧(IsRef t_) (a'.get 7) k'∧(IsRef x2) (a'.get 10) k'∧a'.get 11 = .pointer (some ⟨b11,0,none⟩)∧Lo k0 (Eq b11)∧Gb.Box b11 x3 k'∧(IsMV 111 b11) (a'.get 12) k'∧(IsV x1) (a'.get 14) k'∧(IsL x1) (a'.get 15) k'∧(IsV s1) (a'.get 16) k'∧True) ?_ hQ ?_
   ·intro Q6 W6 w5
    refine gS 11 (_::_::_::_::_::_::_::_::_::_::_::[]) hs (by kernel_rfl) ⟨mu rfl i12,o1 [(5,none)] rfl fun _ _ h n=>ok_fieldAddr rfl fo88_0 (at_Point3_0 _) ((up i5 h n.1)).ptr,o1 [(23,some 1)] rfl fun _ _ h n=>ok_load rfl ty3 n.1,o1 [(6,none)] rfl fun _ _ h n=>ok_fieldAddr rfl fo88_0 (at_Point3_0 _) ((up i6 h n.1)).ptr,o1 [(25,some 3)] rfl fun _ _ h n=>ok_load rfl ty3 n.1,o1 [(10,none)] rfl fun _ _ h n=>ok_fieldAddr rfl fo81_0 (at_Box_0 _) ((up i10 h n.1)).ptr,o1 [(27,some 5)] rfl fun _ _ h n=>ok_fieldAddr rfl fo79_0 (at_Rect_0 _) n.1,o1 [(28,some 6)] rfl fun _ _ h n=>ok_load rfl ty3 n.1,o1 [(10,none)] rfl fun _ _ h n=>ok_fieldAddr rfl fo81_0 (at_Box_0 _) ((up i10 h n.1)).ptr,o1 [(30,some 8)] rfl fun _ _ h n=>ok_fieldAddr rfl fo79_2 (at_Rect_2 _) n.1,o1 [(31,some 9)] rfl fun _ _ h n=>ok_load rfl ty3 n.1,trivial⟩ W6 fun b q p=>?_
    have hgq:=hg.then p.grow
    have hsb:=p.size.trans hs
    have hdb:=p.defers.trans hd
    have j5:=p.ke 5 rfl i5
    have j6:=p.ke 6 rfl i6
    have j7:=p.ke 7 rfl i7
    have j10:=p.ke 10 rfl i10
    have j11:=upE i11 (p.old 11 rfl)
    have z11:=Gb.Box.grow c11 p.grow
    have y11:=n11
    have j12:=p.ke 12 rfl i12
    have j14:=p.ke 14 rfl i14
    have j15:=p.ke 15 rfl i15
    have j16:=p.ke 16 rfl i16
    have j22:(IsMV 111 b11) (b.get 22) q:=p.ou 0 22 rfl
    have j24:(IsV p_.X) (b.get 24) q:=p.ou 2 24 rfl
    have j26:(IsV v_.X) (b.get 26) q:=p.ou 4 26 rfl
    have j29:(IsV x2.Base.X0) (b.get 29) q:=p.ou 7 29 rfl
    have j32:(IsV x2.Base.X1) (b.get 32) q:=p.ou 10 32 rfl
    have hns:=z11.nshF
    refine tail_callMV (F:=Eq b11) (i:=11) (d:=33) rfl rfl rfl rfl (by rw [hsb]; decide) j22 Tryz.call111 W6 (sight_interval_narrow_ok rfl z11 j24 j26 j29 j32 hx3) fun b2 q2 hsz hdf hoth hch hres=>?_
    have hle:=hch.le hns
    replace j5:=Pers.pers hle j5
    replace j6:=Pers.pers hle j6
    replace j7:=Pers.pers hle j7
    replace j10:=Pers.pers hle j10
    replace j12:=Pers.pers hle j12
    replace j14:=Pers.pers hle j14
    replace j15:=Pers.pers hle j15
    replace j16:=Pers.pers hle j16
    replace j22:=Pers.pers hle j22
    replace j24:=Pers.pers hle j24
    replace j26:=Pers.pers hle j26
    replace j29:=Pers.pers hle j29
    replace j32:=Pers.pers hle j32
    replace hgq:=hgq.step hch y11.wr
    replace z11:=hres
    rw [← hoth 5 (by decide)] at j5
    rw [← hoth 6 (by decide)] at j6
    rw [← hoth 7 (by decide)] at j7
    rw [← hoth 10 (by decide)] at j10
    rw [← hoth 11 (by decide)] at j11
    rw [← hoth 12 (by decide)] at j12
    rw [← hoth 14 (by decide)] at j14
    rw [← hoth 15 (by decide)] at j15
    rw [← hoth 16 (by decide)] at j16
    rw [← hoth 22 (by decide)] at j22
    rw [← hoth 24 (by decide)] at j24
    rw [← hoth 26 (by decide)] at j26
    rw [← hoth 29 (by decide)] at j29
    rw [← hoth 32 (by decide)] at j32
    replace hsb:=hsz.trans hsb
    replace hdb:=hdf.trans hdb
    clear hle hch hns hsz hdf hoth hres
    obtain ⟨b,hbb⟩ : ∃ b,b = b2:=⟨b2,rfl⟩
    subst hbb
    obtain ⟨q,hqq⟩ : ∃ q,q = q2:=⟨q2,rfl⟩
    subst hqq
    exact tail_done (k:=q) (w5 _ _ ⟨⟨hgq,hsb,hdb⟩,j5,j6,j7,j10,j11,y11,z11,j12,j14,j15,j16,trivial⟩)
   rintro a k ⟨⟨hg,hs,hd⟩,i5,i6,i7,i10,i11,n11,c11,i12,i14,i15,i16,_⟩
   refine wp_seq ?_
   obtain ⟨x4,hx4,hr⟩:=bind_some hr
   refine cut (fun a' k'=>Bs noF k0 59 a' k'∧(IsRef p_) (a'.get 5) k'∧(IsRef v_) (a'.get 6) k'∧(IsRef t_) (a'.get 7) k'∧(IsRef x2) (a'.get 10) k'∧a'.get 11 = .pointer (some ⟨b11,0,none⟩)∧Lo k0 (Eq b11)∧Gb.Box b11 x4 k'∧(IsMV 111 b11) (a'.get 12) k'∧(IsV x1) (a'.get 14) k'∧(IsL x1) (a'.get 15) k'∧(IsV s1) (a'.get 16) k'∧True) ?_ hQ ?_
   ·intro Q7 W7 w6
    refine gS 11 (_::_::_::_::_::_::_::_::_::_::_::[]) hs (by kernel_rfl) ⟨mu rfl i12,o1 [(5,none)] rfl fun _ _ h n=>ok_fieldAddr rfl fo88_1 (at_Point3_1 _) ((up i5 h n.1)).ptr,o1 [(35,some 1)] rfl fun _ _ h n=>ok_load rfl ty3 n.1,o1 [(6,none)] rfl fun _ _ h n=>ok_fieldAddr rfl fo88_1 (at_Point3_1 _) ((up i6 h n.1)).ptr,o1 [(37,some 3)] rfl fun _ _ h n=>ok_load rfl ty3 n.1,o1 [(10,none)] rfl fun _ _ h n=>ok_fieldAddr rfl fo81_0 (at_Box_0 _) ((up i10 h n.1)).ptr,o1 [(39,some 5)] rfl fun _ _ h n=>ok_fieldAddr rfl fo79_1 (at_Rect_1 _) n.1,o1 [(40,some 6)] rfl fun _ _ h n=>ok_load rfl ty3 n.1,o1 [(10,none)] rfl fun _ _ h n=>ok_fieldAddr rfl fo81_0 (at_Box_0 _) ((up i10 h n.1)).ptr,o1 [(42,some 8)] rfl fun _ _ h n=>ok_fieldAddr rfl fo79_3 (at_Rect_3 _) n.1,o1 [(43,some 9)] rfl fun _ _ h n=>ok_load rfl ty3 n.1,trivial⟩ W7 fun b q p=>?_
    have hgq:=hg.then p.grow
    have hsb:=p.size.trans hs
    have hdb:=p.defers.trans hd
    have j5:=p.ke 5 rfl i5
    have j6:=p.ke 6 rfl i6
    have j7:=p.ke 7 rfl i7
    have j10:=p.ke 10 rfl i10
    have j11:=upE i11 (p.old 11 rfl)
    have z11:=Gb.Box.grow c11 p.grow
    have y11:=n11
    have j12:=p.ke 12 rfl i12
    have j14:=p.ke 14 rfl i14
    have j15:=p.ke 15 rfl i15
    have j16:=p.ke 16 rfl i16
    have j34:(IsMV 111 b11) (b.get 34) q:=p.ou 0 34 rfl
    have j36:(IsV p_.Y) (b.get 36) q:=p.ou 2 36 rfl
    have j38:(IsV v_.Y) (b.get 38) q:=p.ou 4 38 rfl
    have j41:(IsV x2.Base.Y0) (b.get 41) q:=p.ou 7 41 rfl
    have j44:(IsV x2.Base.Y1) (b.get 44) q:=p.ou 10 44 rfl
    have hns:=z11.nshF
    refine tail_callMV (F:=Eq b11) (i:=11) (d:=45) rfl rfl rfl rfl (by rw [hsb]; decide) j34 Tryz.call111 W7 (sight_interval_narrow_ok rfl z11 j36 j38 j41 j44 hx4) fun b2 q2 hsz hdf hoth hch hres=>?_
    have hle:=hch.le hns
    replace j5:=Pers.pers hle j5
    replace j6:=Pers.pers hle j6
    replace j7:=Pers.pers hle j7
    replace j10:=Pers.pers hle j10
    replace j12:=Pers.pers hle j12
    replace j14:=Pers.pers hle j14
    replace j15:=Pers.pers hle j15
    replace j16:=Pers.pers hle j16
    replace j34:=Pers.pers hle j34
    replace j36:=Pers.pers hle j36
    replace j38:=Pers.pers hle j38
    replace j41:=Pers.pers hle j41
    replace j44:=Pers.pers hle j44
    replace hgq:=hgq.step hch y11.wr
    replace z11:=hres
    rw [← hoth 5 (by decide)] at j5
    rw [← hoth 6 (by decide)] at j6
    rw [← hoth 7 (by decide)] at j7
    rw [← hoth 10 (by decide)] at j10
    rw [← hoth 11 (by decide)] at j11
    rw [← hoth 12 (by decide)] at j12
    rw [← hoth 14 (by decide)] at j14
    rw [← hoth 15 (by decide)] at j15
    rw [← hoth 16 (by decide)] at j16
    rw [← hoth 34 (by decide)] at j34
    rw [← hoth 36 (by decide)] at j36
    rw [← hoth 38 (by decide)] at j38
    rw [← hoth 41 (by decide)] at j41
    rw [← hoth 44 (by decide)] at j44
    replace hsb:=hsz.trans hsb
    replace hdb:=hdf.trans hdb
    clear hle hch hns hsz hdf hoth hres
    obtain ⟨b,hbb⟩ : ∃ b,b = b2:=⟨b2,rfl⟩
    subst hbb
    obtain ⟨q,hqq⟩ : ∃ q,q = q2:=⟨q2,rfl⟩
    subst hqq
    exact tail_done (k:=q) (w6 _ _ ⟨⟨hgq,hsb,hdb⟩,j5,j6,j7,j10,j11,y11,z11,j12,j14,j15,j16,trivial⟩)
   rintro a k ⟨⟨hg,hs,hd⟩,i5,i6,i7,i10,i11,n11,c11,i12,i14,i15,i16,_⟩
   refine wp_seq ?_
   obtain ⟨x5,hx5,hr⟩:=bind_some hr
   refine cut (fun a' k'=>Bs noF k0 59 a' k'∧(IsRef p_) (a'.get 5) k'∧(IsRef v_) (a'.get 6) k'∧(IsRef t_) (a'.get 7) k'∧a'.get 11 = .pointer (some ⟨b11,0,none⟩)∧Lo k0 (Eq b11)∧Gb.Box b11 x5 k'∧(IsV x1) (a'.get 14) k'∧(IsL x1) (a'.get 15) k'∧(IsV s1) (a'.get 16) k'∧True) ?_ hQ ?_
   ·intro Q8 W8 w7
    refine gS 9 (_::_::_::_::_::_::_::_::_::[]) hs (by kernel_rfl) ⟨mu rfl i12,o1 [(5,none)] rfl fun _ _ h n=>ok_fieldAddr rfl fo88_2 (at_Point3_2 _) ((up i5 h n.1)).ptr,o1 [(47,some 1)] rfl fun _ _ h n=>ok_load rfl ty3 n.1,o1 [(6,none)] rfl fun _ _ h n=>ok_fieldAddr rfl fo88_2 (at_Point3_2 _) ((up i6 h n.1)).ptr,o1 [(49,some 3)] rfl fun _ _ h n=>ok_load rfl ty3 n.1,o1 [(10,none)] rfl fun _ _ h n=>ok_fieldAddr rfl fo81_1 (at_Box_1 _) ((up i10 h n.1)).ptr,o1 [(51,some 5)] rfl fun _ _ h n=>ok_load rfl ty3 n.1,o1 [(10,none)] rfl fun _ _ h n=>ok_fieldAddr rfl fo81_2 (at_Box_2 _) ((up i10 h n.1)).ptr,o1 [(53,some 7)] rfl fun _ _ h n=>ok_load rfl ty3 n.1,trivial⟩ W8 fun b q p=>?_
    have hgq:=hg.then p.grow
    have hsb:=p.size.trans hs
    have hdb:=p.defers.trans hd
    have j5:=p.ke 5 rfl i5
    have j6:=p.ke 6 rfl i6
    have j7:=p.ke 7 rfl i7
    have j11:=upE i11 (p.old 11 rfl)
    have z11:=Gb.Box.grow c11 p.grow
    have y11:=n11
    have j14:=p.ke 14 rfl i14
    have j15:=p.ke 15 rfl i15
    have j16:=p.ke 16 rfl i16
    have j46:(IsMV 111 b11) (b.get 46) q:=p.ou 0 46 rfl
    have j48:(IsV p_.Z) (b.get 48) q:=p.ou 2 48 rfl
    have j50:(IsV v_.Z) (b.get 50) q:=p.ou 4 50 rfl
    have j52:(IsV x2.Z0) (b.get 52) q:=p.ou 6 52 rfl
    have j54:(IsV x2.Z1) (b.get 54) q:=p.ou 8 54 rfl
    have hns:=z11.nshF
    refine tail_callMV (F:=Eq b11) (i:=9) (d:=55) rfl rfl rfl rfl (by rw [hsb]; decide) j46 Tryz.call111 W8 (sight_interval_narrow_ok rfl z11 j48 j50 j52 j54 hx5) fun b2 q2 hsz hdf hoth hch hres=>?_
    have hle:=hch.le hns
    replace j5:=Pers.pers hle j5
    replace j6:=Pers.pers hle j6
    replace j7:=Pers.pers hle j7
    replace j14:=Pers.pers hle j14
    replace j15:=Pers.pers hle j15
    replace j16:=Pers.pers hle j16
    replace j46:=Pers.pers hle j46
    replace j48:=Pers.pers hle j48
    replace j50:=Pers.pers hle j50
    replace j52:=Pers.pers hle j52
    replace j54:=Pers.pers hle j54
    replace hgq:=hgq.step hch y11.wr
    replace z11:=hres
    rw [← hoth 5 (by decide)] at j5
    rw [← hoth 6 (by decide)] at j6
    rw [← hoth 7 (by decide)] at j7
    rw [← hoth 11 (by decide)] at j11
    rw [← hoth 14 (by decide)] at j14
    rw [← hoth 15 (by decide)] at j15
    rw [← hoth 16 (by decide)] at j16
    rw [← hoth 46 (by decide)] at j46
    rw [← hoth 48 (by decide)] at j48
    rw [← hoth 50 (by decide)] at j50
    rw [← hoth 52 (by decide)] at j52
    rw [← hoth 54 (by decide)] at j54
    replace hsb:=hsz.trans hsb
    replace hdb:=hdf.trans hdb
    clear hle hch hns hsz hdf hoth hres
    obtain ⟨b,hbb⟩ : ∃ b,b = b2:=⟨b2,rfl⟩
    subst hbb
    obtain ⟨q,hqq⟩ : ∃ q,q = q2:=⟨q2,rfl⟩
    subst hqq
    exact tail_done (k:=q) (w7 _ _ ⟨⟨hgq,hsb,hdb⟩,j5,j6,j7,j11,y11,z11,j14,j15,j16,trivial⟩)
   rintro a k ⟨⟨hg,hs,hd⟩,i5,i6,i7,i11,n11,c11,i14,i15,i16,_⟩
   refine wp_seq ?_
   obtain ⟨x6,hx6,hr⟩:=bind_some hr
   refine cut (fun a' k'=>Bs noF k0 59 a' k'∧(IsRef p_) (a'.get 5) k'∧(IsRef v_) (a'.get 6) k'∧(IsRef t_) (a'.get 7) k'∧(IsV x1) (a'.get 14) k'∧(IsL x1) (a'.get 15) k'∧(IsV s1) (a'.get 16) k'∧(IsV (!x6)) (a'.get 57) k'∧True) ?_ hQ ?_
   ·intro Q9 W9 w8
    refine regionS (a0:=a) (k0:=k) (n:=59) (m:=0) ([]) hs (by kernel_rfl) trivial W9 fun b q p=>?_
    have hgq:=hg.then p.grow
    have hsb:=p.size.trans hs
    have hdb:=p.defers.trans hd
    have j5:=p.ke 5 rfl i5
    have j6:=p.ke 6 rfl i6
    have j7:=p.ke 7 rfl i7
    have j11:=upE i11 (p.old 11 rfl)
    have z11:=Gb.Box.grow c11 p.grow
    have y11:=n11
    have j14:=p.ke 14 rfl i14
    have j15:=p.ke 15 rfl i15
    have j16:=p.ke 16 rfl i16
    obtain ⟨q2,hsh,jn⟩:=z11.give
    replace j5:=Pers.pers hsh.le j5
    replace j6:=Pers.pers hsh.le j6
    replace j7:=Pers.pers hsh.le j7
    replace j14:=Pers.pers hsh.le j14
    replace j15:=Pers.pers hsh.le j15
    replace j16:=Pers.pers hsh.le j16
    rw [← j11] at jn
    replace j11:=jn
    replace hgq:=hgq.hand hsh y11.wr
    rw [← hsh.w]
    clear hsh
    obtain ⟨q,hqq⟩ : ∃ q,q = q2:=⟨q2,rfl⟩
    subst hqq
    refine tail_call (F:=noF) (i:=0) (d:=56) rfl rfl rfl rfl (by rw [hsb]; decide) Tryz.call112 W9 (Ret.toC (sight_interval_empty_ok j11 hx6)) fun b2 q2 hsz hdf hoth hch hres=>?_
    have hgr:=hch.grow
    replace j5:=Pers.pers hgr.le j5
    replace j6:=Pers.pers hgr.le j6
    replace j7:=Pers.pers hgr.le j7
    replace j11:=Pers.pers hgr.le j11
    replace j14:=Pers.pers hgr.le j14
    replace j15:=Pers.pers hgr.le j15
    replace j16:=Pers.pers hgr.le j16
    replace hgq:=hgq.then hgr
    rw [← hoth 5 (by decide)] at j5
    rw [← hoth 6 (by decide)] at j6
    rw [← hoth 7 (by decide)] at j7
    rw [← hoth 11 (by decide)] at j11
    rw [← hoth 14 (by decide)] at j14
    rw [← hoth 15 (by decide)] at j15
    rw [← hoth 16 (by decide)] at j16
    have j56:(IsV x6) (b2.get 56) q2:=hres
    replace hsb:=hsz.trans hsb
    replace hdb:=hdf.trans hdb
    clear hch hgr hres hsz hdf hoth
    obtain ⟨b,hbb⟩ : ∃ b,b = b2:=⟨b2,rfl⟩
    subst hbb
    obtain ⟨q,hqq⟩ : ∃ q,q = q2:=⟨q2,rfl⟩
    subst hqq
    refine tail_does (R:=(IsV (!x6))) (i:=1) (d:=57) rfl rfl rfl (by rw [hsb]; decide) W9 (ok_not rfl j56) fun b2 q2 hsz hdf hoth hgr hnew=>?_
    replace j5:=Pers.pers hgr.le j5
    replace j6:=Pers.pers hgr.le j6
    replace j7:=Pers.pers hgr.le j7
    replace j11:=Pers.pers hgr.le j11
    replace j14:=Pers.pers hgr.le j14
    replace j15:=Pers.pers hgr.le j15
    replace j16:=Pers.pers hgr.le j16
    replace j56:=Pers.pers hgr.le j56
    replace hgq:=hgq.then hgr
    rw [← hoth 5 (by decide)] at j5
    rw [← hoth 6 (by decide)] at j6
    rw [← hoth 7 (by decide)] at j7
    rw [← hoth 11 (by decide)] at j11
    rw [← hoth 14 (by decide)] at j14
    rw [← hoth 15 (by decide)] at j15
    rw [← hoth 16 (by decide)] at j16
    rw [← hoth 56 (by decide)] at j56
    have j57:=hnew
    replace hsb:=hsz.trans hsb
    replace hdb:=hdf.trans hdb
    clear hgr hsz hdf hoth hnew
    obtain ⟨b,hbb⟩ : ∃ b,b = b2:=⟨b2,rfl⟩
    subst hbb
    obtain ⟨q,hqq⟩ : ∃ q,q = q2:=⟨q2,rfl⟩
    subst hqq
    exact tail_done (k:=q) (w8 _ _ ⟨⟨hgq,hsb,hdb⟩,j5,j6,j7,j14,j15,j16,j57,trivial⟩)
   rintro a k ⟨⟨hg,hs,hd⟩,i5,i6,i7,i14,i15,i16,i57,_⟩
   refine wp_cond_split (isBool i57) (fun hc1938=>?_) (fun hc1938=>?_)
   ·rw [if_pos hc1938] at hr
    refine stepL 1 (⟨some (IsV true),[]⟩::[]) rfl ⟨hg,hs,hd⟩ (by kernel_rfl) ⟨ob1 rfl fun _ _ h n=>ok_assign rfl (isV_bool.2 rfl),trivial⟩ [⟨_,_⟩] (fun b q p=>⟨p.ou 0 8 rfl,trivial⟩) ?_
    rintro a k ⟨⟨hg,hs,hd⟩,i8,_⟩
    refine wp_ret ?_
    exact hret1923 _ _ _ (Option.some.inj hr).symm (retC1 rfl hd hg i8)
   rw [if_neg (by rw [hc1938]; decide)] at hr
   refine wp_skip ?_
   obtain ⟨x7,hx7,hr⟩:=bind_some hr
   refine cut (fun a' k'=>Bs noF k0 59 a' k'∧(IsRef p_) (a'.get 5) k'∧(IsRef v_) (a'.get 6) k'∧(IsRef t_) (a'.get 7) k'∧(IsV x1) (a'.get 14) k'∧(IsL x1) (a'.get 15) k'∧(IsV x7) (a'.get 16) k'∧True) ?_ hQ ?_
   ·intro Q10 W10 w9
    refine gS 2 (_::_::[]) hs (by kernel_rfl) ⟨o1 [(16,none)] rfl fun _ _ h n=>ok_add rfl (up i16 h n.1) (cI rfl) hx7,cm 0 rfl rfl,trivial⟩ W10 fun b q p=>?_
    exact tail_done (k:=q) (w9 _ _ ⟨Bs.post ⟨hg,hs,hd⟩ p,p.ke 5 rfl i5,p.ke 6 rfl i6,p.ke 7 rfl i7,p.ke 14 rfl i14,p.ke 15 rfl i15,p.ou 1 16 rfl,trivial⟩)
   rintro a k ⟨⟨hg,hs,hd⟩,i5,i6,i7,i14,i15,i16,_⟩
   exact hgo1921 _ _ _ (Option.some.inj hr).symm ⟨⟨hg,hs,hd⟩,i5,i6,i7,i14,i15,i16,trivial⟩
  rw [if_neg (by rw [hc1953]; decide)] at hr
  refine wp_exit ?_
  exact hex1922 _ _ _ _ (Option.some.inj hr).symm ⟨rfl,⟨hg,hs,hd⟩,trivial⟩
 ·rintro r1 a k rfl hR
  dsimp only at hr
  obtain rfl:=Option.some.inj hr
  exact hR
 ·rintro _ _ _ rfl _
  simp at hr
 clear hf1
 rintro _ s2 a k rfl ⟨rfl,⟨hg,hs,hd⟩,_⟩
 dsimp only at hr
 refine stepL 1 (⟨some (IsV false),[]⟩::[]) rfl ⟨hg,hs,hd⟩ (by kernel_rfl) ⟨ob1 rfl fun _ _ h n=>ok_assign rfl (isV_bool.2 rfl),trivial⟩ [⟨_,_⟩] (fun b q p=>⟨p.ou 0 8 rfl,trivial⟩) ?_
 rintro a k ⟨⟨hg,hs,hd⟩,i8,_⟩
 refine wp_ret ?_
 obtain rfl:=Option.some.inj hr
 exact retC1 rfl hd hg i8
noncomputable def k87:=mkO 87 [.list (.st 22),.st 17,.st 17,.st 25] [.bool] (fun x=>sight_meets x.1 x.2.1 x.2.2.1 x.2.2.2) Tryz.call87 fun k0 vs x r hG h hr=>by obtain ⟨v0,vs,rfl,i0,h⟩:=h.cons; obtain ⟨v1,vs,rfl,i1,h⟩:=h.cons; obtain ⟨v2,vs,rfl,i2,h⟩:=h.cons; obtain ⟨v3,rfl,i3⟩:=h.one; exact sight_meets_ok i0 i1 i2 i3 hr
def sight_Ray (s_:(List Slab)) (p_:Point3) (d_:Point3):Option (Bool):=
 (sight_on p_).bind fun x1=>
 if ((((!x1) || (decide (d_ = (⟨0,0,0⟩:Point3)))) || (decide ((min (min d_.X d_.Y) d_.Z) < (-1048576)))) || (decide (1048576 < (max (max d_.X d_.Y) d_.Z)))) then
  some false
 else
  (sight_meets s_ p_ d_ (⟨(⟨0,1,true⟩:SightBound),(⟨0,0,false⟩:SightBound),false,false⟩:SightInterval)).bind fun x2=>
  some x2
noncomputable def k57:=mk 57 [.list (.st 22),.st 17,.st 17] [.bool] (fun x=>sight_Ray x.1 x.2.1 x.2.2) [k86,k87] [] Tryz.f57 (.n) Tryz.func57 Tryz.call57 rfl rfl fun x=>by kernel_rfl
theorem sight_Ray_ok {k0:K} {v0 v1 v2:Value} {x0:(List Slab)} {x1:Point3} {x2:Point3} {r:Bool} (i0:IsV x0 v0 k0) (i1:IsV x1 v1 k0) (i2:IsV x2 v2 k0) (hr:sight_Ray x0 x1 x2 = some r):Calls Tryz.prog 57 #[v0,v1,v2] k0.w (Ret k0 (IsV r)):=(k57.ok.ok k0 [v0,v1,v2] (x0,x1,x2) r (GOk.none (fun _=>rfl) fun _ e=>by cases e) ⟨i0,i1,i2⟩ hr)
def slices_IndexFunc_Slab_L0 (s_:(List (List Slab))) (f_:((List Slab) → Option (Bool))) (s1:Int):Option (Flow (Int) (Int)):=
 if (decide (s1 < (s_.length:Int))) then
  (getI s_ s1).bind fun x1=>
  (f_ x1).bind fun x2=>
  if x2 then
   some (.ret s1)
  else
   (addI s1 1).bind fun x3=>
   some (.go x3)
 else
  some (.ex 0 s1)
def slices_IndexFunc_Slab (s_:(List (List Slab))) (f_:((List Slab) → Option (Bool))):Option (Int):=
 (iterL (slices_IndexFunc_Slab_L0 s_ f_) (s_.length + 1) 0).bind fun f1=>match f1 with
  | .go _=>none
  | .ex _ _=>
   some (-1)
  | .ret r1=>some r1
theorem slices_IndexFunc_Slab_ok {k0:K} {v0 v1:Value} {s_:(List (List Slab))} {f_:((List Slab) → Option (Bool))} {r:Int} (i0:(IsV s_) v0 k0) (i1:(IsFn1 Tryz.prog f_) v1 k0) (hr:slices_IndexFunc_Slab s_ f_ = some r) :
  Calls Tryz.prog 109 #[v0,v1] k0.w (Ret k0 (IsV r)):=by
 unfold slices_IndexFunc_Slab at hr
 refine Ret.ofC ?_
 refine enterK Tryz.func109 rfl Tryz.ntmps109 (show 2 ≤ 19 by decide) fun a k hk0 hs hd ha=>?_
 obtain ⟨e0,e1,_⟩:=ha
 replace i0:(IsV s_) (a.get 0) k:=by rw [e0,hk0]; exact i0
 replace i1:(IsFn1 Tryz.prog f_) (a.get 1) k:=by rw [e1,hk0]; exact i1
 have hQ:Gb.LetsOut (bodyPost Tryz.prog Tryz.f109 (RetC noF k0 (IsV r))):=letsOutC
 have hg:Chg noF k0 k:=by rw [hk0]; exact Chg.refl _ k0
 refine stepL 1 (⟨some (IsI 0),[]⟩::[]) rfl ⟨hg,hs,hd⟩ (by kernel_rfl) ⟨aI rfl rfl,trivial⟩ [⟨_,_⟩,⟨_,_⟩] (fun b q p=>⟨p.ke 0 rfl i0,p.ke 1 rfl i1,trivial⟩) ?_
 rintro a k ⟨⟨hg,hs,hd⟩,i0,i1,_⟩
 refine wp_seq ?_
 refine stepL 3 (_::_::⟨some (IsI 0),[]⟩::[]) rfl ⟨hg,hs,hd⟩ (by kernel_rfl) ⟨mu rfl i0,o1 [(6,some 0)] rfl fun _ _ h n=>ok_len rfl rfl Tryz.underlying113 (IsV.rd n.1),ob1 rfl fun _ _ h n=>ok_move rfl (cI rfl),trivial⟩ [⟨_,_⟩,⟨_,_⟩,⟨_,_⟩,⟨_,_⟩] (fun b q p=>⟨p.ke 0 rfl i0,p.ke 1 rfl i1,p.ou 1 7 rfl,p.ou 2 8 rfl,trivial⟩) ?_
 rintro a k ⟨⟨hg,hs,hd⟩,i0,i1,i7,i8,_⟩
 refine wp_block ?_
 obtain ⟨f1,hf1,hr⟩:=bind_some hr
 refine cutFe f1 (fun s' c l=>Bs noF k0 19 c l∧IsV s_ (c.get 0) l∧IsFn1 Tryz.prog f_ (c.get 1) l∧IsL s_ (c.get 7) l∧IsV s' (c.get 8) l∧True) (fun i' s' c l=>(i' = 0∧Bs noF k0 19 c l∧True)) (fun r' c l=>bodyPost Tryz.prog Tryz.f109 (RetC noF k0 (IsV r')) .ret c l.w) ?_ hQ ?_ ?_ ?_
 ·intro Q1 W1 hgo hex hret
  refine sim_loop ?_ _ _ _ _ _ hf1 ⟨⟨hg,hs,hd⟩,i0,i1,i7,i8,trivial⟩ Q1 W1 hgo hex hret
  clear hr hf1 hgo hex hret W1 hQ hg hs hd i0 i1 i7 i8
  intro s1 fl_ a k hr hS Q hQ hgo1983 hex1984 hret1985
  obtain ⟨⟨hg,hs,hd⟩,i0,i1,i7,i8,_⟩:=hS
  unfold slices_IndexFunc_Slab_L0 at hr
  refine stepL 1 (_::[]) rfl ⟨hg,hs,hd⟩ (by kernel_rfl) ⟨o1 [(8,none),(7,none)] rfl fun _ _ h n=>ok_lss rfl (up i8 h n.1) (up i7 h n.2.1),trivial⟩ [⟨_,_⟩,⟨_,_⟩,⟨_,_⟩,⟨_,_⟩,⟨_,_⟩] (fun b q p=>⟨p.ke 0 rfl i0,p.ke 1 rfl i1,p.ke 7 rfl i7,p.ke 8 rfl i8,p.ou 0 9 rfl,trivial⟩) ?_
  rintro a k ⟨⟨hg,hs,hd⟩,i0,i1,i7,i8,i9,_⟩
  refine wp_seq ?_
  refine wp_cond_split (isBool i9) (fun hc2000=>?_) (fun hc2000=>?_)
  ·rw [if_pos hc2000] at hr
   refine wp_skip ?_
   refine wp_seq ?_
   refine wp_block ?_
   refine stepL 2 (_::_::[]) rfl ⟨hg,hs,hd⟩ (by kernel_rfl) ⟨mu rfl i8,cp 0 rfl rfl,trivial⟩ [⟨_,_⟩,⟨_,_⟩,⟨_,_⟩,⟨_,_⟩,⟨_,_⟩] (fun b q p=>⟨p.ke 0 rfl i0,p.ke 1 rfl i1,p.ou 1 5 rfl,p.ke 7 rfl i7,p.ke 8 rfl i8,trivial⟩) ?_
   rintro a k ⟨⟨hg,hs,hd⟩,i0,i1,i5,i7,i8,_⟩
   refine wp_seq ?_
   obtain ⟨x1,hx1,hr⟩:=bind_some hr
   obtain ⟨x2,hx2,hr⟩:=bind_some hr
   refine cut (fun a' k'=>Bs noF k0 19 a' k'∧(IsV s_) (a'.get 0) k'∧(IsFn1 Tryz.prog f_) (a'.get 1) k'∧(IsV s1) (a'.get 5) k'∧(IsL s_) (a'.get 7) k'∧(IsV s1) (a'.get 8) k'∧(IsV x2) (a'.get 16) k'∧True) ?_ hQ ?_
   ·intro Q2 W2 w1
    refine gS 6 (_::_::_::_::_::⟨some (IsV x2),[(11,some 0),(15,some 4)]⟩::[]) hs (by kernel_rfl) ⟨mu rfl i1,mu rfl i0,mu rfl i5,o1 [(12,some 1),(13,some 2)] rfl fun _ _ h n=>ok_indexAddr rfl Tryz.underlying113 ty117 (IsV.rd n.1) n.2.1 hx1,o1 [(14,some 3)] rfl fun _ _ h n=>ok_load rfl ty117 n.1,ob1 rfl fun _ _ h n=>ok_callF1 rfl n.1 n.2.1 hx2,trivial⟩ W2 fun b q p=>?_
    exact tail_done (k:=q) (w1 _ _ ⟨Bs.post ⟨hg,hs,hd⟩ p,p.ke 0 rfl i0,p.ke 1 rfl i1,p.ke 5 rfl i5,p.ke 7 rfl i7,p.ke 8 rfl i8,p.ou 5 16 rfl,trivial⟩)
   rintro a k ⟨⟨hg,hs,hd⟩,i0,i1,i5,i7,i8,i16,_⟩
   refine wp_cond_split (isBool i16) (fun hc1995=>?_) (fun hc1995=>?_)
   ·rw [if_pos hc1995] at hr
    refine stepL 2 (_::_::[]) rfl ⟨hg,hs,hd⟩ (by kernel_rfl) ⟨mu rfl i5,cp 0 rfl rfl,trivial⟩ [⟨_,_⟩] (fun b q p=>⟨p.ou 1 4 rfl,trivial⟩) ?_
    rintro a k ⟨⟨hg,hs,hd⟩,i4,_⟩
    refine wp_ret ?_
    exact hret1985 _ _ _ (Option.some.inj hr).symm (retC1 rfl hd hg i4)
   rw [if_neg (by rw [hc1995]; decide)] at hr
   refine wp_skip ?_
   obtain ⟨x3,hx3,hr⟩:=bind_some hr
   refine cut (fun a' k'=>Bs noF k0 19 a' k'∧(IsV s_) (a'.get 0) k'∧(IsFn1 Tryz.prog f_) (a'.get 1) k'∧(IsL s_) (a'.get 7) k'∧(IsV x3) (a'.get 8) k'∧True) ?_ hQ ?_
   ·intro Q3 W3 w2
    refine gS 2 (_::_::[]) hs (by kernel_rfl) ⟨o1 [(8,none)] rfl fun _ _ h n=>ok_add rfl (up i8 h n.1) (cI rfl) hx3,cm 0 rfl rfl,trivial⟩ W3 fun b q p=>?_
    exact tail_done (k:=q) (w2 _ _ ⟨Bs.post ⟨hg,hs,hd⟩ p,p.ke 0 rfl i0,p.ke 1 rfl i1,p.ke 7 rfl i7,p.ou 1 8 rfl,trivial⟩)
   rintro a k ⟨⟨hg,hs,hd⟩,i0,i1,i7,i8,_⟩
   exact hgo1983 _ _ _ (Option.some.inj hr).symm ⟨⟨hg,hs,hd⟩,i0,i1,i7,i8,trivial⟩
  rw [if_neg (by rw [hc2000]; decide)] at hr
  refine wp_exit ?_
  exact hex1984 _ _ _ _ (Option.some.inj hr).symm ⟨rfl,⟨hg,hs,hd⟩,trivial⟩
 ·rintro r1 a k rfl hR
  dsimp only at hr
  obtain rfl:=Option.some.inj hr
  exact hR
 ·rintro _ _ _ rfl _
  simp at hr
 clear hf1
 rintro _ s2 a k rfl ⟨rfl,⟨hg,hs,hd⟩,_⟩
 dsimp only at hr
 refine stepL 1 (⟨some (IsI (-1)),[]⟩::[]) rfl ⟨hg,hs,hd⟩ (by kernel_rfl) ⟨aI rfl rfl,trivial⟩ [⟨_,_⟩] (fun b q p=>⟨p.ou 0 4 rfl,trivial⟩) ?_
 rintro a k ⟨⟨hg,hs,hd⟩,i4,_⟩
 refine wp_ret ?_
 obtain rfl:=Option.some.inj hr
 exact retC1 rfl hd hg i4
def slices_ContainsFunc_Slab (s_:(List (List Slab))) (f_:((List Slab) → Option (Bool))):Option (Bool):=
 (slices_IndexFunc_Slab s_ f_).bind fun x1=>
 some (decide (0 ≤ x1))
theorem slices_ContainsFunc_Slab_ok {k0:K} {v0 v1:Value} {s_:(List (List Slab))} {f_:((List Slab) → Option (Bool))} {r:Bool} (i0:(IsV s_) v0 k0) (i1:(IsFn1 Tryz.prog f_) v1 k0) (hr:slices_ContainsFunc_Slab s_ f_ = some r) :
  Calls Tryz.prog 84 #[v0,v1] k0.w (Ret k0 (IsV r)):=by
 unfold slices_ContainsFunc_Slab at hr
 refine Ret.ofC ?_
 refine enterK Tryz.func84 rfl Tryz.ntmps84 (show 2 ≤ 9 by decide) fun a k hk0 hs hd ha=>?_
 obtain ⟨e0,e1,_⟩:=ha
 replace i0:(IsV s_) (a.get 0) k:=by rw [e0,hk0]; exact i0
 replace i1:(IsFn1 Tryz.prog f_) (a.get 1) k:=by rw [e1,hk0]; exact i1
 have hQ:Gb.LetsOut (bodyPost Tryz.prog Tryz.f84 (RetC noF k0 (IsV r))):=letsOutC
 have hg:Chg noF k0 k:=by rw [hk0]; exact Chg.refl _ k0
 refine stepL 1 (⟨some (IsV false),[]⟩::[]) rfl ⟨hg,hs,hd⟩ (by kernel_rfl) ⟨ob1 rfl fun _ _ h n=>ok_assign rfl (isV_bool.2 rfl),trivial⟩ [⟨_,_⟩,⟨_,_⟩] (fun b q p=>⟨p.ke 0 rfl i0,p.ke 1 rfl i1,trivial⟩) ?_
 rintro a k ⟨⟨hg,hs,hd⟩,i0,i1,_⟩
 refine wp_seq ?_
 obtain ⟨x1,hx1,hr⟩:=bind_some hr
 refine cut (fun a' k'=>Bs noF k0 9 a' k'∧(IsV (decide (0 ≤ x1))) (a'.get 4) k'∧True) ?_ hQ ?_
 ·intro Q1 W1 w1
  refine gS 5 (_::_::_::_::_::[]) hs (by kernel_rfl) ⟨mu rfl i0,mu rfl i1,o1 [(5,some 0),(6,some 1)] rfl fun _ _ h n=>ok_call rfl Tryz.call109 (slices_IndexFunc_Slab_ok n.1 n.2.1 hx1),o1 [(7,some 2)] rfl fun _ _ h n=>ok_geq rfl n.1 (cI rfl),cp 3 rfl rfl,trivial⟩ W1 fun b q p=>?_
  exact tail_done (k:=q) (w1 _ _ ⟨Bs.post ⟨hg,hs,hd⟩ p,p.ou 4 4 rfl,trivial⟩)
 rintro a k ⟨⟨hg,hs,hd⟩,i4,_⟩
 refine wp_ret ?_
 obtain rfl:=Option.some.inj hr
 exact retC1 rfl hd hg i4
def vested_free_1 (s_:(List Slab)) (p1_:((List Slab) → Point3 → Option (Bool))) (p2_:Point3):Option (Bool):=
 (p1_ s_ p2_).bind fun x1=>
 some x1
theorem vested_free_1_ok {k0:K} {v0 v1 v2:Value} {s_:(List Slab)} {p1_:((List Slab) → Point3 → Option (Bool))} {p2_:Point3} {r:Bool} (i0:(IsV s_) v0 k0) (i1:(IsRefFn (IsFn2 Tryz.prog p1_)) v1 k0) (i2:(IsRef p2_) v2 k0) (hr:vested_free_1 s_ p1_ p2_ = some r) :
  Calls Tryz.prog 85 #[v0,v1,v2] k0.w (Ret k0 (IsV r)):=by
 unfold vested_free_1 at hr
 refine Ret.ofC ?_
 refine enterK Tryz.func85 rfl Tryz.ntmps85 (show 3 ≤ 9 by decide) fun a k hk0 hs hd ha=>?_
 obtain ⟨e0,e1,e2,_⟩:=ha
 replace i0:(IsV s_) (a.get 0) k:=by rw [e0,hk0]; exact i0
 replace i1:(IsRefFn (IsFn2 Tryz.prog p1_)) (a.get 1) k:=by rw [e1,hk0]; exact i1
 replace i2:(IsRef p2_) (a.get 2) k:=by rw [e2,hk0]; exact i2
 have hQ:Gb.LetsOut (bodyPost Tryz.prog Tryz.f85 (RetC noF k0 (IsV r))):=letsOutC
 have hg:Chg noF k0 k:=by rw [hk0]; exact Chg.refl _ k0
 refine stepL 1 (⟨some (IsV false),[]⟩::[]) rfl ⟨hg,hs,hd⟩ (by kernel_rfl) ⟨ob1 rfl fun _ _ h n=>ok_assign rfl (isV_bool.2 rfl),trivial⟩ [⟨_,_⟩,⟨_,_⟩,⟨_,_⟩] (fun b q p=>⟨p.ke 0 rfl i0,p.ke 1 rfl i1,p.ke 2 rfl i2,trivial⟩) ?_
 rintro a k ⟨⟨hg,hs,hd⟩,i0,i1,i2,_⟩
 refine wp_seq ?_
 obtain ⟨x1,hx1,hr⟩:=bind_some hr
 refine cut (fun a' k'=>Bs noF k0 9 a' k'∧(IsV x1) (a'.get 4) k'∧True) ?_ hQ ?_
 ·intro Q1 W1 w1
  refine gS 5 (⟨some (IsFn2 Tryz.prog p1_),[(1,none)]⟩::_::_::⟨some (IsV x1),[(5,some 0),(6,some 1),(7,some 2)]⟩::_::[]) hs (by kernel_rfl) ⟨ob1 rfl fun _ _ h n=>ok_loadFn rfl tyf119 (up i1 h n.1),mu rfl i0,o1 [(2,none)] rfl fun _ _ h n=>ok_load rfl ty88 ((up i2 h n.1)).ptr,ob1 rfl fun _ _ h n=>ok_callF2 rfl n.1 n.2.1 n.2.2.1 hx1,cp 3 rfl rfl,trivial⟩ W1 fun b q p=>?_
  exact tail_done (k:=q) (w1 _ _ ⟨Bs.post ⟨hg,hs,hd⟩ p,p.ou 4 4 rfl,trivial⟩)
 rintro a k ⟨⟨hg,hs,hd⟩,i4,_⟩
 refine wp_ret ?_
 obtain rfl:=Option.some.inj hr
 exact retC1 rfl hd hg i4
def vested_free_L0 (points_:(List Point3)) (solids_:(List (List Slab))) (blocks_:((List Slab) → Point3 → Option (Bool))) (s1:Int × Int):Option (Flow (Int × Int) (Int)):=
 if (decide (s1.2 < (points_.length:Int))) then
  (getI points_ s1.2).bind fun x1=>
  (slices_ContainsFunc_Slab solids_ (fun y0=>vested_free_1 y0 blocks_ x1)).bind fun x2=>
  (if (!x2) then
   (addI s1.1 1).bind fun x3=>
   some x3
  else
   some s1.1).bind fun s2=>
  (addI s1.2 1).bind fun x4=>
  some (.go (s2,x4))
 else
  some (.ex 0 (s1.1,s1.2))
def vested_free (points_:(List Point3)) (solids_:(List (List Slab))) (blocks_:((List Slab) → Point3 → Option (Bool))):Option (Int):=
 (iterL (vested_free_L0 points_ solids_ blocks_) (points_.length + 1) (0,0)).bind fun f1=>match f1 with
  | .go _=>none
  | .ex _ s1=>
   some s1.1
  | .ret r1=>some r1
theorem vested_free_ok {k0:K} {v0 v1 v2:Value} {points_:(List Point3)} {solids_:(List (List Slab))} {blocks_:((List Slab) → Point3 → Option (Bool))} {r:Int} (i0:(IsV points_) v0 k0) (i1:(IsV solids_) v1 k0) (i2:(IsFn2 Tryz.prog blocks_) v2 k0) (hr:vested_free points_ solids_ blocks_ = some r) :
  Calls Tryz.prog 55 #[v0,v1,v2] k0.w (Ret k0 (IsV r)):=by
 unfold vested_free at hr
 refine Ret.ofC ?_
 refine enterK Tryz.func55 rfl Tryz.ntmps55 (show 3 ≤ 24 by decide) fun a k hk0 hs hd ha=>?_
 obtain ⟨e0,e1,e2,_⟩:=ha
 replace i0:(IsV points_) (a.get 0) k:=by rw [e0,hk0]; exact i0
 replace i1:(IsV solids_) (a.get 1) k:=by rw [e1,hk0]; exact i1
 replace i2:(IsFn2 Tryz.prog blocks_) (a.get 2) k:=by rw [e2,hk0]; exact i2
 have hQ:Gb.LetsOut (bodyPost Tryz.prog Tryz.f55 (RetC noF k0 (IsV r))):=letsOutC
 have hg:Chg noF k0 k:=by rw [hk0]; exact Chg.refl _ k0
 refine stepL 2 (⟨some (IsRefFn (IsFn2 Tryz.prog blocks_)),[(2,none)]⟩::⟨some (IsI 0),[]⟩::[]) rfl ⟨hg,hs,hd⟩ (by kernel_rfl) ⟨ob1 rfl fun _ _ h n=>ok_boxFn rfl (IsFn2.one (up i2 h n.1)) (up i2 h n.1),aI rfl rfl,trivial⟩ [⟨_,_⟩,⟨_,_⟩,⟨_,_⟩] (fun b q p=>⟨p.ke 0 rfl i0,p.ke 1 rfl i1,p.ou 0 5 rfl,trivial⟩) ?_
 rintro a k ⟨⟨hg,hs,hd⟩,i0,i1,i5,_⟩
 refine stepL 1 (⟨some (IsI 0),[]⟩::[]) rfl ⟨hg,hs,hd⟩ (by kernel_rfl) ⟨aI rfl rfl,trivial⟩ [⟨_,_⟩,⟨_,_⟩,⟨_,_⟩,⟨_,_⟩] (fun b q p=>⟨p.ke 0 rfl i0,p.ke 1 rfl i1,p.ke 5 rfl i5,p.ou 0 7 rfl,trivial⟩) ?_
 rintro a k ⟨⟨hg,hs,hd⟩,i0,i1,i5,i7,_⟩
 refine wp_seq ?_
 refine stepL 3 (_::_::⟨some (IsI 0),[]⟩::[]) rfl ⟨hg,hs,hd⟩ (by kernel_rfl) ⟨mu rfl i0,o1 [(10,some 0)] rfl fun _ _ h n=>ok_len rfl rfl Tryz.underlying28 (IsV.rd n.1),ob1 rfl fun _ _ h n=>ok_move rfl (cI rfl),trivial⟩ [⟨_,_⟩,⟨_,_⟩,⟨_,_⟩,⟨_,_⟩,⟨_,_⟩,⟨_,_⟩] (fun b q p=>⟨p.ke 1 rfl i1,p.ke 5 rfl i5,p.ke 7 rfl i7,p.ou 0 10 rfl,p.ou 1 11 rfl,p.ou 2 12 rfl,trivial⟩) ?_
 rintro a k ⟨⟨hg,hs,hd⟩,i1,i5,i7,i10,i11,i12,_⟩
 refine wp_block ?_
 obtain ⟨f1,hf1,hr⟩:=bind_some hr
 refine cutFe f1 (fun s' c l=>Bs noF k0 24 c l∧IsV solids_ (c.get 1) l∧IsRefFn (IsFn2 Tryz.prog blocks_) (c.get 5) l∧IsV s'.1 (c.get 7) l∧IsV points_ (c.get 10) l∧IsL points_ (c.get 11) l∧IsV s'.2 (c.get 12) l∧True) (fun i' s' c l=>(i' = 0∧Bs noF k0 24 c l∧IsV s'.1 (c.get 7) l∧True)) (fun r' c l=>bodyPost Tryz.prog Tryz.f55 (RetC noF k0 (IsV r')) .ret c l.w) ?_ hQ ?_ ?_ ?_
 ·intro Q1 W1 hgo hex hret
  refine sim_loop ?_ _ _ _ _ _ hf1 ⟨⟨hg,hs,hd⟩,i1,i5,i7,i10,i11,i12,trivial⟩ Q1 W1 hgo hex hret
  clear hr hf1 hgo hex hret W1 hQ hg hs hd i1 i10 i11 i12 i5 i7
  intro s1 fl_ a k hr hS Q hQ hgo2024 hex2025 hret2026
  obtain ⟨⟨hg,hs,hd⟩,i1,i5,i7,i10,i11,i12,_⟩:=hS
  unfold vested_free_L0 at hr
  refine stepL 1 (_::[]) rfl ⟨hg,hs,hd⟩ (by kernel_rfl) ⟨o1 [(12,none),(11,none)] rfl fun _ _ h n=>ok_lss rfl (up i12 h n.1) (up i11 h n.2.1),trivial⟩ [⟨_,_⟩,⟨_,_⟩,⟨_,_⟩,⟨_,_⟩,⟨_,_⟩,⟨_,_⟩,⟨_,_⟩] (fun b q p=>⟨p.ke 1 rfl i1,p.ke 5 rfl i5,p.ke 7 rfl i7,p.ke 10 rfl i10,p.ke 11 rfl i11,p.ke 12 rfl i12,p.ou 0 13 rfl,trivial⟩) ?_
  rintro a k ⟨⟨hg,hs,hd⟩,i1,i5,i7,i10,i11,i12,i13,_⟩
  refine wp_seq ?_
  refine wp_cond_split (isBool i13) (fun hc2050=>?_) (fun hc2050=>?_)
  ·rw [if_pos hc2050] at hr
   refine wp_skip ?_
   refine wp_seq ?_
   refine wp_block ?_
   refine wp_seq ?_
   obtain ⟨x1,hx1,hr⟩:=bind_some hr
   refine cut (fun a' k'=>Bs noF k0 24 a' k'∧(IsV solids_) (a'.get 1) k'∧(IsRefFn (IsFn2 Tryz.prog blocks_)) (a'.get 5) k'∧(IsV s1.1) (a'.get 7) k'∧(IsRef x1) (a'.get 9) k'∧(IsV points_) (a'.get 10) k'∧(IsL points_) (a'.get 11) k'∧(IsV s1.2) (a'.get 12) k'∧True) ?_ hQ ?_
   ·intro Q2 W2 w1
    refine gS 3 (_::_::⟨some (IsBox k.w.heap.size (⟨0,0,0⟩:Point3)),[]⟩::[]) hs (by kernel_rfl) ⟨o1 [(10,none),(12,none)] rfl fun _ _ h n=>ok_indexAddr rfl Tryz.underlying28 ty88 (IsV.rd (up i10 h n.1)) (up i12 h n.2.1) hx1,o1 [(14,some 0)] rfl fun _ _ h n=>ok_load rfl ty88 n.1,ob1 rfl fun _ _ h n=>ok_alloc _ h.size rfl z88,trivial⟩ W2 fun b q p=>?_
    have hgq:=hg.then p.grow
    have hsb:=p.size.trans hs
    have hdb:=p.defers.trans hd
    have j1:=p.ke 1 rfl i1
    have j5:=p.ke 5 rfl i5
    have j7:=p.ke 7 rfl i7
    obtain ⟨b9,j9,x9,z9⟩:(IsBox k.w.heap.size (⟨0,0,0⟩:Point3)) (b.get 9) q:=p.ou 2 9 rfl
    replace x9:Lo k (Eq b9):=Lo.eq x9
    have y9:Lo k0 (Eq b9):=x9.chg hg
    have j10:=p.ke 10 rfl i10
    have j11:=p.ke 11 rfl i11
    have j12:=p.ke 12 rfl i12
    have j15:(IsV x1) (b.get 15) q:=p.ou 1 15 rfl
    have hns:=z9.nshF
    refine tail_storeB (i:=3) rfl rfl rfl rfl szf88 (Upd.self (α:=Point3)) j9 z9 j15 fun q2 hch hz=>?_
    replace hgq:=hgq.step hch y9.wr
    have hle:=hch.le hns
    replace j1:=Pers.pers hle j1
    replace j5:=Pers.pers hle j5
    replace j7:=Pers.pers hle j7
    replace j10:=Pers.pers hle j10
    replace j11:=Pers.pers hle j11
    replace j12:=Pers.pers hle j12
    replace j15:=Pers.pers hle j15
    replace z9:=hz
    clear hns hle hch
    obtain ⟨q,hqq⟩ : ∃ q,q = q2:=⟨q2,rfl⟩
    subst hqq
    obtain ⟨q2,hsh,jn⟩:=z9.give
    replace j1:=Pers.pers hsh.le j1
    replace j5:=Pers.pers hsh.le j5
    replace j7:=Pers.pers hsh.le j7
    replace j10:=Pers.pers hsh.le j10
    replace j11:=Pers.pers hsh.le j11
    replace j12:=Pers.pers hsh.le j12
    rw [← j9] at jn
    replace j9:=jn
    replace hgq:=hgq.hand hsh y9.wr
    rw [← hsh.w]
    clear hsh
    obtain ⟨q,hqq⟩ : ∃ q,q = q2:=⟨q2,rfl⟩
    subst hqq
    exact tail_done (k:=q) (w1 _ _ ⟨⟨hgq,hsb,hdb⟩,j1,j5,j7,j9,j10,j11,j12,trivial⟩)
   rintro a k ⟨⟨hg,hs,hd⟩,i1,i5,i7,i9,i10,i11,i12,_⟩
   refine wp_seq ?_
   obtain ⟨x2,hx2,hr⟩:=bind_some hr
   refine cut (fun a' k'=>Bs noF k0 24 a' k'∧(IsV solids_) (a'.get 1) k'∧(IsRefFn (IsFn2 Tryz.prog blocks_)) (a'.get 5) k'∧(IsV s1.1) (a'.get 7) k'∧(IsV points_) (a'.get 10) k'∧(IsL points_) (a'.get 11) k'∧(IsV s1.2) (a'.get 12) k'∧(IsV (!x2)) (a'.get 19) k'∧True) ?_ hQ ?_
   ·intro Q3 W3 w2
    refine gS 4 (_::⟨some (IsFn1 Tryz.prog (fun y0=>vested_free_1 y0 blocks_ x1)),[(5,none),(9,none)]⟩::_::_::[]) hs (by kernel_rfl) ⟨mu rfl i1,ob1 rfl fun _ _ h n=>ok_makeFunc (first:=[]) (captured:=[.tmp 5,.tmp 9]) rfl ⟨85,_,_,rfl,Tryz.call85,fun k9 hk9 _ _ _ hx0 hy9=>by simpa [evalT] using vested_free_1_ok hx0 (Pers.pers hk9 (up i5 h n.1)) (Pers.pers hk9 (up i9 h n.2.1)) hy9⟩,o1 [(16,some 0),(17,some 1)] rfl fun _ _ h n=>ok_call rfl Tryz.call84 (slices_ContainsFunc_Slab_ok n.1 n.2.1 hx2),o1 [(18,some 2)] rfl fun _ _ h n=>ok_not rfl n.1,trivial⟩ W3 fun b q p=>?_
    exact tail_done (k:=q) (w2 _ _ ⟨Bs.post ⟨hg,hs,hd⟩ p,p.ke 1 rfl i1,p.ke 5 rfl i5,p.ke 7 rfl i7,p.ke 10 rfl i10,p.ke 11 rfl i11,p.ke 12 rfl i12,p.ou 3 19 rfl,trivial⟩)
   rintro a k ⟨⟨hg,hs,hd⟩,i1,i5,i7,i10,i11,i12,i19,_⟩
   obtain ⟨s2,hs2,hr⟩:=bind_some hr
   refine cut (fun a' k'=>Bs noF k0 24 a' k'∧(IsV solids_) (a'.get 1) k'∧(IsRefFn (IsFn2 Tryz.prog blocks_)) (a'.get 5) k'∧(IsV s2) (a'.get 7) k'∧(IsV points_) (a'.get 10) k'∧(IsL points_) (a'.get 11) k'∧(IsV s1.2) (a'.get 12) k'∧True) ?_ hQ ?_
   ·intro Q4 W4 w3
    replace hr:=hs2
    clear hQ
    have hQ:=W4
    refine wp_cond_split (isBool i19) (fun hc2041=>?_) (fun hc2041=>?_)
    ·rw [if_pos hc2041] at hr
     obtain ⟨x3,hx3,hr⟩:=bind_some hr
     refine cut (fun a' k'=>Bs noF k0 24 a' k'∧(IsV solids_) (a'.get 1) k'∧(IsRefFn (IsFn2 Tryz.prog blocks_)) (a'.get 5) k'∧(IsV x3) (a'.get 7) k'∧(IsV points_) (a'.get 10) k'∧(IsL points_) (a'.get 11) k'∧(IsV s1.2) (a'.get 12) k'∧True) ?_ hQ ?_
     ·intro Q5 W5 w4
      refine gS 3 (_::_::_::[]) hs (by kernel_rfl) ⟨mu rfl i7,o1 [(20,some 0)] rfl fun _ _ h n=>ok_add rfl n.1 (cI rfl) hx3,cp 1 rfl rfl,trivial⟩ W5 fun b q p=>?_
      exact tail_done (k:=q) (w4 _ _ ⟨Bs.post ⟨hg,hs,hd⟩ p,p.ke 1 rfl i1,p.ke 5 rfl i5,p.ou 2 7 rfl,p.ke 10 rfl i10,p.ke 11 rfl i11,p.ke 12 rfl i12,trivial⟩)
     rintro a k ⟨⟨hg,hs,hd⟩,i1,i5,i7,i10,i11,i12,_⟩
     obtain rfl:=Option.some.inj hr
     exact w3 _ _ ⟨⟨hg,hs,hd⟩,i1,i5,i7,i10,i11,i12,trivial⟩
    rw [if_neg (by rw [hc2041]; decide)] at hr
    refine wp_skip ?_
    obtain rfl:=Option.some.inj hr
    exact w3 _ _ ⟨⟨hg,hs,hd⟩,i1,i5,i7,i10,i11,i12,trivial⟩
   clear hs2
   rintro a k ⟨⟨hg,hs,hd⟩,i1,i5,i7,i10,i11,i12,_⟩
   obtain ⟨x4,hx4,hr⟩:=bind_some hr
   refine cut (fun a' k'=>Bs noF k0 24 a' k'∧(IsV solids_) (a'.get 1) k'∧(IsRefFn (IsFn2 Tryz.prog blocks_)) (a'.get 5) k'∧(IsV s2) (a'.get 7) k'∧(IsV points_) (a'.get 10) k'∧(IsL points_) (a'.get 11) k'∧(IsV x4) (a'.get 12) k'∧True) ?_ hQ ?_
   ·intro Q6 W6 w5
    refine gS 2 (_::_::[]) hs (by kernel_rfl) ⟨o1 [(12,none)] rfl fun _ _ h n=>ok_add rfl (up i12 h n.1) (cI rfl) hx4,cm 0 rfl rfl,trivial⟩ W6 fun b q p=>?_
    exact tail_done (k:=q) (w5 _ _ ⟨Bs.post ⟨hg,hs,hd⟩ p,p.ke 1 rfl i1,p.ke 5 rfl i5,p.ke 7 rfl i7,p.ke 10 rfl i10,p.ke 11 rfl i11,p.ou 1 12 rfl,trivial⟩)
   rintro a k ⟨⟨hg,hs,hd⟩,i1,i5,i7,i10,i11,i12,_⟩
   exact hgo2024 _ _ _ (Option.some.inj hr).symm ⟨⟨hg,hs,hd⟩,i1,i5,i7,i10,i11,i12,trivial⟩
  rw [if_neg (by rw [hc2050]; decide)] at hr
  refine wp_exit ?_
  exact hex2025 _ _ _ _ (Option.some.inj hr).symm ⟨rfl,⟨hg,hs,hd⟩,i7,trivial⟩
 ·rintro r1 a k rfl hR
  dsimp only at hr
  obtain rfl:=Option.some.inj hr
  exact hR
 ·rintro _ _ _ rfl _
  simp at hr
 clear hf1
 rintro _ s3 a k rfl ⟨rfl,⟨hg,hs,hd⟩,i7,_⟩
 dsimp only at hr
 refine stepL 2 (_::_::[]) rfl ⟨hg,hs,hd⟩ (by kernel_rfl) ⟨mu rfl i7,cp 0 rfl rfl,trivial⟩ [⟨_,_⟩] (fun b q p=>⟨p.ou 1 6 rfl,trivial⟩) ?_
 rintro a k ⟨⟨hg,hs,hd⟩,i6,_⟩
 refine wp_ret ?_
 obtain rfl:=Option.some.inj hr
 exact retC1 rfl hd hg i6
def vested_light_3 (p0_:Int):Option (Bool):=
 some false
noncomputable def k58:=mk 58 [.int] [.bool] (fun x=>vested_light_3 x) [] [] Tryz.f58 (.n) Tryz.func58 Tryz.call58 rfl rfl fun x=>by kernel_rfl
theorem vested_light_3_ok {k0:K} {v0:Value} {x0:Int} {r:Bool} (i0:IsV x0 v0 k0) (hr:vested_light_3 x0 = some r):Calls Tryz.prog 58 #[v0] k0.w (Ret k0 (IsV r)):=(k58.ok.ok k0 [v0] x0 r (GOk.none (fun _=>rfl) fun _ e=>by cases e) i0 hr)
def sight_Blocked (s_:(List Slab)) (p_:Point3) (q_:Point3):Option (Bool):=
 (sight_on p_).bind fun x1=>
 (if (!x1) then
  some true
 else
  (sight_on q_).bind fun x2=>
  some (!x2)).bind fun x3=>
 if x3 then
  some false
 else
  (subI q_.X p_.X).bind fun x4=>
  (subI q_.Y p_.Y).bind fun x5=>
  (subI q_.Z p_.Z).bind fun x6=>
  (sight_meets s_ p_ (⟨x4,x5,x6⟩:Point3) (⟨(⟨0,1,true⟩:SightBound),(⟨1,1,true⟩:SightBound),true,false⟩:SightInterval)).bind fun x7=>
  some x7
noncomputable def k60:=mk 60 [.list (.st 22),.st 17,.st 17] [.bool] (fun x=>sight_Blocked x.1 x.2.1 x.2.2) [k86,k87] [] Tryz.f60 (.n) Tryz.func60 Tryz.call60 rfl rfl fun x=>by kernel_rfl
theorem sight_Blocked_ok {k0:K} {v0 v1 v2:Value} {x0:(List Slab)} {x1:Point3} {x2:Point3} {r:Bool} (i0:IsV x0 v0 k0) (i1:IsV x1 v1 k0) (i2:IsV x2 v2 k0) (hr:sight_Blocked x0 x1 x2 = some r):Calls Tryz.prog 60 #[v0,v1,v2] k0.w (Ret k0 (IsV r)):=(k60.ok.ok k0 [v0,v1,v2] (x0,x1,x2) r (GOk.none (fun _=>rfl) fun _ e=>by cases e) ⟨i0,i1,i2⟩ hr)
def vested_overlap (a_:Volume) (b_:Volume):Option (Bool):=
 (vested_right a_).bind fun x1=>
 (if (!x1) then
  some true
 else
  (vested_right b_).bind fun x2=>
  some (!x2)).bind fun x3=>
 if x3 then
  some false
 else
  (rect_Intersect a_.Box.Base b_.Box.Base).bind fun x4=>
  some (x4.2 && (decide ((max a_.Box.Z0 b_.Box.Z0) < (min a_.Box.Z1 b_.Box.Z1))))
noncomputable def k63:=mk 63 [.st 4,.st 4] [.bool] (fun x=>vested_overlap x.1 x.2) [k82,k78] [] Tryz.f63 (.n) Tryz.func63 Tryz.call63 rfl rfl fun x=>by kernel_rfl
theorem vested_overlap_ok {k0:K} {v0 v1:Value} {x0:Volume} {x1:Volume} {r:Bool} (i0:IsV x0 v0 k0) (i1:IsV x1 v1 k0) (hr:vested_overlap x0 x1 = some r):Calls Tryz.prog 63 #[v0,v1] k0.w (Ret k0 (IsV r)):=(k63.ok.ok k0 [v0,v1] (x0,x1) r (GOk.none (fun _=>rfl) fun _ e=>by cases e) ⟨i0,i1⟩ hr)
def slices_IndexFunc_Placed_L0 (s_:(List Placed)) (f_:(Placed → Option (Bool))) (s1:Int):Option (Flow (Int) (Int)):=
 if (decide (s1 < (s_.length:Int))) then
  (getI s_ s1).bind fun x1=>
  (f_ x1).bind fun x2=>
  if x2 then
   some (.ret s1)
  else
   (addI s1 1).bind fun x3=>
   some (.go x3)
 else
  some (.ex 0 s1)
def slices_IndexFunc_Placed (s_:(List Placed)) (f_:(Placed → Option (Bool))):Option (Int):=
 (iterL (slices_IndexFunc_Placed_L0 s_ f_) (s_.length + 1) 0).bind fun f1=>match f1 with
  | .go _=>none
  | .ex _ _=>
   some (-1)
  | .ret r1=>some r1
theorem slices_IndexFunc_Placed_ok {k0:K} {v0 v1:Value} {s_:(List Placed)} {f_:(Placed → Option (Bool))} {r:Int} (i0:(IsV s_) v0 k0) (i1:(IsFn1 Tryz.prog f_) v1 k0) (hr:slices_IndexFunc_Placed s_ f_ = some r) :
  Calls Tryz.prog 88 #[v0,v1] k0.w (Ret k0 (IsV r)):=by
 unfold slices_IndexFunc_Placed at hr
 refine Ret.ofC ?_
 refine enterK Tryz.func88 rfl Tryz.ntmps88 (show 2 ≤ 19 by decide) fun a k hk0 hs hd ha=>?_
 obtain ⟨e0,e1,_⟩:=ha
 replace i0:(IsV s_) (a.get 0) k:=by rw [e0,hk0]; exact i0
 replace i1:(IsFn1 Tryz.prog f_) (a.get 1) k:=by rw [e1,hk0]; exact i1
 have hQ:Gb.LetsOut (bodyPost Tryz.prog Tryz.f88 (RetC noF k0 (IsV r))):=letsOutC
 have hg:Chg noF k0 k:=by rw [hk0]; exact Chg.refl _ k0
 refine stepL 1 (⟨some (IsI 0),[]⟩::[]) rfl ⟨hg,hs,hd⟩ (by kernel_rfl) ⟨aI rfl rfl,trivial⟩ [⟨_,_⟩,⟨_,_⟩] (fun b q p=>⟨p.ke 0 rfl i0,p.ke 1 rfl i1,trivial⟩) ?_
 rintro a k ⟨⟨hg,hs,hd⟩,i0,i1,_⟩
 refine wp_seq ?_
 refine stepL 3 (_::_::⟨some (IsI 0),[]⟩::[]) rfl ⟨hg,hs,hd⟩ (by kernel_rfl) ⟨mu rfl i0,o1 [(6,some 0)] rfl fun _ _ h n=>ok_len rfl rfl Tryz.underlying34 (IsV.rd n.1),ob1 rfl fun _ _ h n=>ok_move rfl (cI rfl),trivial⟩ [⟨_,_⟩,⟨_,_⟩,⟨_,_⟩,⟨_,_⟩] (fun b q p=>⟨p.ke 0 rfl i0,p.ke 1 rfl i1,p.ou 1 7 rfl,p.ou 2 8 rfl,trivial⟩) ?_
 rintro a k ⟨⟨hg,hs,hd⟩,i0,i1,i7,i8,_⟩
 refine wp_block ?_
 obtain ⟨f1,hf1,hr⟩:=bind_some hr
 refine cutFe f1 (fun s' c l=>Bs noF k0 19 c l∧IsV s_ (c.get 0) l∧IsFn1 Tryz.prog f_ (c.get 1) l∧IsL s_ (c.get 7) l∧IsV s' (c.get 8) l∧True) (fun i' s' c l=>(i' = 0∧Bs noF k0 19 c l∧True)) (fun r' c l=>bodyPost Tryz.prog Tryz.f88 (RetC noF k0 (IsV r')) .ret c l.w) ?_ hQ ?_ ?_ ?_
 ·intro Q1 W1 hgo hex hret
  refine sim_loop ?_ _ _ _ _ _ hf1 ⟨⟨hg,hs,hd⟩,i0,i1,i7,i8,trivial⟩ Q1 W1 hgo hex hret
  clear hr hf1 hgo hex hret W1 hQ hg hs hd i0 i1 i7 i8
  intro s1 fl_ a k hr hS Q hQ hgo2107 hex2108 hret2109
  obtain ⟨⟨hg,hs,hd⟩,i0,i1,i7,i8,_⟩:=hS
  unfold slices_IndexFunc_Placed_L0 at hr
  refine stepL 1 (_::[]) rfl ⟨hg,hs,hd⟩ (by kernel_rfl) ⟨o1 [(8,none),(7,none)] rfl fun _ _ h n=>ok_lss rfl (up i8 h n.1) (up i7 h n.2.1),trivial⟩ [⟨_,_⟩,⟨_,_⟩,⟨_,_⟩,⟨_,_⟩,⟨_,_⟩] (fun b q p=>⟨p.ke 0 rfl i0,p.ke 1 rfl i1,p.ke 7 rfl i7,p.ke 8 rfl i8,p.ou 0 9 rfl,trivial⟩) ?_
  rintro a k ⟨⟨hg,hs,hd⟩,i0,i1,i7,i8,i9,_⟩
  refine wp_seq ?_
  refine wp_cond_split (isBool i9) (fun hc2124=>?_) (fun hc2124=>?_)
  ·rw [if_pos hc2124] at hr
   refine wp_skip ?_
   refine wp_seq ?_
   refine wp_block ?_
   refine stepL 2 (_::_::[]) rfl ⟨hg,hs,hd⟩ (by kernel_rfl) ⟨mu rfl i8,cp 0 rfl rfl,trivial⟩ [⟨_,_⟩,⟨_,_⟩,⟨_,_⟩,⟨_,_⟩,⟨_,_⟩] (fun b q p=>⟨p.ke 0 rfl i0,p.ke 1 rfl i1,p.ou 1 5 rfl,p.ke 7 rfl i7,p.ke 8 rfl i8,trivial⟩) ?_
   rintro a k ⟨⟨hg,hs,hd⟩,i0,i1,i5,i7,i8,_⟩
   refine wp_seq ?_
   obtain ⟨x1,hx1,hr⟩:=bind_some hr
   obtain ⟨x2,hx2,hr⟩:=bind_some hr
   refine cut (fun a' k'=>Bs noF k0 19 a' k'∧(IsV s_) (a'.get 0) k'∧(IsFn1 Tryz.prog f_) (a'.get 1) k'∧(IsV s1) (a'.get 5) k'∧(IsL s_) (a'.get 7) k'∧(IsV s1) (a'.get 8) k'∧(IsV x2) (a'.get 16) k'∧True) ?_ hQ ?_
   ·intro Q2 W2 w1
    refine gS 6 (_::_::_::_::_::⟨some (IsV x2),[(11,some 0),(15,some 4)]⟩::[]) hs (by kernel_rfl) ⟨mu rfl i1,mu rfl i0,mu rfl i5,o1 [(12,some 1),(13,some 2)] rfl fun _ _ h n=>ok_indexAddr rfl Tryz.underlying34 ty97 (IsV.rd n.1) n.2.1 hx1,o1 [(14,some 3)] rfl fun _ _ h n=>ok_load rfl ty97 n.1,ob1 rfl fun _ _ h n=>ok_callF1 rfl n.1 n.2.1 hx2,trivial⟩ W2 fun b q p=>?_
    exact tail_done (k:=q) (w1 _ _ ⟨Bs.post ⟨hg,hs,hd⟩ p,p.ke 0 rfl i0,p.ke 1 rfl i1,p.ke 5 rfl i5,p.ke 7 rfl i7,p.ke 8 rfl i8,p.ou 5 16 rfl,trivial⟩)
   rintro a k ⟨⟨hg,hs,hd⟩,i0,i1,i5,i7,i8,i16,_⟩
   refine wp_cond_split (isBool i16) (fun hc2119=>?_) (fun hc2119=>?_)
   ·rw [if_pos hc2119] at hr
    refine stepL 2 (_::_::[]) rfl ⟨hg,hs,hd⟩ (by kernel_rfl) ⟨mu rfl i5,cp 0 rfl rfl,trivial⟩ [⟨_,_⟩] (fun b q p=>⟨p.ou 1 4 rfl,trivial⟩) ?_
    rintro a k ⟨⟨hg,hs,hd⟩,i4,_⟩
    refine wp_ret ?_
    exact hret2109 _ _ _ (Option.some.inj hr).symm (retC1 rfl hd hg i4)
   rw [if_neg (by rw [hc2119]; decide)] at hr
   refine wp_skip ?_
   obtain ⟨x3,hx3,hr⟩:=bind_some hr
   refine cut (fun a' k'=>Bs noF k0 19 a' k'∧(IsV s_) (a'.get 0) k'∧(IsFn1 Tryz.prog f_) (a'.get 1) k'∧(IsL s_) (a'.get 7) k'∧(IsV x3) (a'.get 8) k'∧True) ?_ hQ ?_
   ·intro Q3 W3 w2
    refine gS 2 (_::_::[]) hs (by kernel_rfl) ⟨o1 [(8,none)] rfl fun _ _ h n=>ok_add rfl (up i8 h n.1) (cI rfl) hx3,cm 0 rfl rfl,trivial⟩ W3 fun b q p=>?_
    exact tail_done (k:=q) (w2 _ _ ⟨Bs.post ⟨hg,hs,hd⟩ p,p.ke 0 rfl i0,p.ke 1 rfl i1,p.ke 7 rfl i7,p.ou 1 8 rfl,trivial⟩)
   rintro a k ⟨⟨hg,hs,hd⟩,i0,i1,i7,i8,_⟩
   exact hgo2107 _ _ _ (Option.some.inj hr).symm ⟨⟨hg,hs,hd⟩,i0,i1,i7,i8,trivial⟩
  rw [if_neg (by rw [hc2124]; decide)] at hr
  refine wp_exit ?_
  exact hex2108 _ _ _ _ (Option.some.inj hr).symm ⟨rfl,⟨hg,hs,hd⟩,trivial⟩
 ·rintro r1 a k rfl hR
  dsimp only at hr
  obtain rfl:=Option.some.inj hr
  exact hR
 ·rintro _ _ _ rfl _
  simp at hr
 clear hf1
 rintro _ s2 a k rfl ⟨rfl,⟨hg,hs,hd⟩,_⟩
 dsimp only at hr
 refine stepL 1 (⟨some (IsI (-1)),[]⟩::[]) rfl ⟨hg,hs,hd⟩ (by kernel_rfl) ⟨aI rfl rfl,trivial⟩ [⟨_,_⟩] (fun b q p=>⟨p.ou 0 4 rfl,trivial⟩) ?_
 rintro a k ⟨⟨hg,hs,hd⟩,i4,_⟩
 refine wp_ret ?_
 obtain rfl:=Option.some.inj hr
 exact retC1 rfl hd hg i4
def slices_ContainsFunc_Placed (s_:(List Placed)) (f_:(Placed → Option (Bool))):Option (Bool):=
 (slices_IndexFunc_Placed s_ f_).bind fun x1=>
 some (decide (0 ≤ x1))
theorem slices_ContainsFunc_Placed_ok {k0:K} {v0 v1:Value} {s_:(List Placed)} {f_:(Placed → Option (Bool))} {r:Bool} (i0:(IsV s_) v0 k0) (i1:(IsFn1 Tryz.prog f_) v1 k0) (hr:slices_ContainsFunc_Placed s_ f_ = some r) :
  Calls Tryz.prog 61 #[v0,v1] k0.w (Ret k0 (IsV r)):=by
 unfold slices_ContainsFunc_Placed at hr
 refine Ret.ofC ?_
 refine enterK Tryz.func61 rfl Tryz.ntmps61 (show 2 ≤ 9 by decide) fun a k hk0 hs hd ha=>?_
 obtain ⟨e0,e1,_⟩:=ha
 replace i0:(IsV s_) (a.get 0) k:=by rw [e0,hk0]; exact i0
 replace i1:(IsFn1 Tryz.prog f_) (a.get 1) k:=by rw [e1,hk0]; exact i1
 have hQ:Gb.LetsOut (bodyPost Tryz.prog Tryz.f61 (RetC noF k0 (IsV r))):=letsOutC
 have hg:Chg noF k0 k:=by rw [hk0]; exact Chg.refl _ k0
 refine stepL 1 (⟨some (IsV false),[]⟩::[]) rfl ⟨hg,hs,hd⟩ (by kernel_rfl) ⟨ob1 rfl fun _ _ h n=>ok_assign rfl (isV_bool.2 rfl),trivial⟩ [⟨_,_⟩,⟨_,_⟩] (fun b q p=>⟨p.ke 0 rfl i0,p.ke 1 rfl i1,trivial⟩) ?_
 rintro a k ⟨⟨hg,hs,hd⟩,i0,i1,_⟩
 refine wp_seq ?_
 obtain ⟨x1,hx1,hr⟩:=bind_some hr
 refine cut (fun a' k'=>Bs noF k0 9 a' k'∧(IsV (decide (0 ≤ x1))) (a'.get 4) k'∧True) ?_ hQ ?_
 ·intro Q1 W1 w1
  refine gS 5 (_::_::_::_::_::[]) hs (by kernel_rfl) ⟨mu rfl i0,mu rfl i1,o1 [(5,some 0),(6,some 1)] rfl fun _ _ h n=>ok_call rfl Tryz.call88 (slices_IndexFunc_Placed_ok n.1 n.2.1 hx1),o1 [(7,some 2)] rfl fun _ _ h n=>ok_geq rfl n.1 (cI rfl),cp 3 rfl rfl,trivial⟩ W1 fun b q p=>?_
  exact tail_done (k:=q) (w1 _ _ ⟨Bs.post ⟨hg,hs,hd⟩ p,p.ou 4 4 rfl,trivial⟩)
 rintro a k ⟨⟨hg,hs,hd⟩,i4,_⟩
 refine wp_ret ?_
 obtain rfl:=Option.some.inj hr
 exact retC1 rfl hd hg i4
def vested_light_1 (lot_:Int) (p1_:Window):Option (Bool):=
 some (lot_ == p1_.Lot)
theorem vested_light_1_ok {k0:K} {v0 v1:Value} {lot_:Int} {p1_:Window} {r:Bool} (i0:(IsV lot_) v0 k0) (i1:(IsRef p1_) v1 k0) (hr:vested_light_1 lot_ p1_ = some r) :
  Calls Tryz.prog 54 #[v0,v1] k0.w (Ret k0 (IsV r)):=by
 unfold vested_light_1 at hr
 refine Ret.ofC ?_
 refine enterK Tryz.func54 rfl Tryz.ntmps54 (show 2 ≤ 8 by decide) fun a k hk0 hs hd ha=>?_
 obtain ⟨e0,e1,_⟩:=ha
 replace i0:(IsV lot_) (a.get 0) k:=by rw [e0,hk0]; exact i0
 replace i1:(IsRef p1_) (a.get 1) k:=by rw [e1,hk0]; exact i1
 have hQ:Gb.LetsOut (bodyPost Tryz.prog Tryz.f54 (RetC noF k0 (IsV r))):=letsOutC
 have hg:Chg noF k0 k:=by rw [hk0]; exact Chg.refl _ k0
 refine stepL 1 (⟨some (IsV false),[]⟩::[]) rfl ⟨hg,hs,hd⟩ (by kernel_rfl) ⟨ob1 rfl fun _ _ h n=>ok_assign rfl (isV_bool.2 rfl),trivial⟩ [⟨_,_⟩,⟨_,_⟩] (fun b q p=>⟨p.ke 0 rfl i0,p.ke 1 rfl i1,trivial⟩) ?_
 rintro a k ⟨⟨hg,hs,hd⟩,i0,i1,_⟩
 refine stepL 5 (_::_::_::_::_::[]) rfl ⟨hg,hs,hd⟩ (by kernel_rfl) ⟨mu rfl i0,o1 [(1,none)] rfl fun _ _ h n=>ok_fieldAddr rfl fo90_0 (at_Window_0 _) ((up i1 h n.1)).ptr,o1 [(5,some 1)] rfl fun _ _ h n=>ok_load rfl ty3 n.1,o1 [(4,some 0),(6,some 2)] rfl fun _ _ h n=>ok_eqI rfl n.1 n.2.1,cp 3 rfl rfl,trivial⟩ [⟨_,_⟩] (fun b q p=>⟨p.ou 4 3 rfl,trivial⟩) ?_
 rintro a k ⟨⟨hg,hs,hd⟩,i3,_⟩
 refine wp_ret ?_
 obtain rfl:=Option.some.inj hr
 exact retC1 rfl hd hg i3
def vested_light_2 (s_:(List Slab)) (d_:Point3) (p2_:Window):Option (Bool):=
 (sight_Ray s_ p2_.At d_).bind fun x1=>
 some x1
theorem vested_light_2_ok {k0:K} {v0 v1 v2:Value} {s_:(List Slab)} {d_:Point3} {p2_:Window} {r:Bool} (i0:(IsV s_) v0 k0) (i1:(IsV d_) v1 k0) (i2:(IsRef p2_) v2 k0) (hr:vested_light_2 s_ d_ p2_ = some r) :
  Calls Tryz.prog 56 #[v0,v1,v2] k0.w (Ret k0 (IsV r)):=by
 unfold vested_light_2 at hr
 refine Ret.ofC ?_
 refine enterK Tryz.func56 rfl Tryz.ntmps56 (show 3 ≤ 11 by decide) fun a k hk0 hs hd ha=>?_
 obtain ⟨e0,e1,e2,_⟩:=ha
 replace i0:(IsV s_) (a.get 0) k:=by rw [e0,hk0]; exact i0
 replace i1:(IsV d_) (a.get 1) k:=by rw [e1,hk0]; exact i1
 replace i2:(IsRef p2_) (a.get 2) k:=by rw [e2,hk0]; exact i2
 have hQ:Gb.LetsOut (bodyPost Tryz.prog Tryz.f56 (RetC noF k0 (IsV r))):=letsOutC
 have hg:Chg noF k0 k:=by rw [hk0]; exact Chg.refl _ k0
 refine stepL 2 (⟨some (IsRef d_),[(1,none)]⟩::⟨some (IsV false),[]⟩::[]) rfl ⟨hg,hs,hd⟩ (by kernel_rfl) ⟨ob1 rfl fun _ _ h n=>ok_boxR rfl (up i1 h n.1),ob1 rfl fun _ _ h n=>ok_assign rfl (isV_bool.2 rfl),trivial⟩ [⟨_,_⟩,⟨_,_⟩,⟨_,_⟩] (fun b q p=>⟨p.ke 0 rfl i0,p.ke 2 rfl i2,p.ou 0 4 rfl,trivial⟩) ?_
 rintro a k ⟨⟨hg,hs,hd⟩,i0,i2,i4,_⟩
 refine wp_seq ?_
 obtain ⟨x1,hx1,hr⟩:=bind_some hr
 refine cut (fun a' k'=>Bs noF k0 11 a' k'∧(IsV x1) (a'.get 5) k'∧True) ?_ hQ ?_
 ·intro Q1 W1 w1
  refine gS 6 (_::_::_::_::_::_::[]) hs (by kernel_rfl) ⟨mu rfl i0,o1 [(2,none)] rfl fun _ _ h n=>ok_fieldAddr rfl fo90_1 (at_Window_1 _) ((up i2 h n.1)).ptr,o1 [(7,some 1)] rfl fun _ _ h n=>ok_load rfl ty88 n.1,o1 [(4,none)] rfl fun _ _ h n=>ok_load rfl ty88 ((up i4 h n.1)).ptr,o1 [(6,some 0),(8,some 2),(9,some 3)] rfl fun _ _ h n=>ok_call rfl Tryz.call57 (sight_Ray_ok n.1 n.2.1 n.2.2.1 hx1),cp 4 rfl rfl,trivial⟩ W1 fun b q p=>?_
  exact tail_done (k:=q) (w1 _ _ ⟨Bs.post ⟨hg,hs,hd⟩ p,p.ou 5 5 rfl,trivial⟩)
 rintro a k ⟨⟨hg,hs,hd⟩,i5,_⟩
 refine wp_ret ?_
 obtain rfl:=Option.some.inj hr
 exact retC1 rfl hd hg i5
def vested_light_4 (s_:(List Slab)) (q_:Point3) (p2_:View):Option (Bool):=
 (sight_Blocked s_ p2_.Eye q_).bind fun x1=>
 some x1
theorem vested_light_4_ok {k0:K} {v0 v1 v2:Value} {s_:(List Slab)} {q_:Point3} {p2_:View} {r:Bool} (i0:(IsV s_) v0 k0) (i1:(IsV q_) v1 k0) (i2:(IsRef p2_) v2 k0) (hr:vested_light_4 s_ q_ p2_ = some r) :
  Calls Tryz.prog 59 #[v0,v1,v2] k0.w (Ret k0 (IsV r)):=by
 unfold vested_light_4 at hr
 refine Ret.ofC ?_
 refine enterK Tryz.func59 rfl Tryz.ntmps59 (show 3 ≤ 11 by decide) fun a k hk0 hs hd ha=>?_
 obtain ⟨e0,e1,e2,_⟩:=ha
 replace i0:(IsV s_) (a.get 0) k:=by rw [e0,hk0]; exact i0
 replace i1:(IsV q_) (a.get 1) k:=by rw [e1,hk0]; exact i1
 replace i2:(IsRef p2_) (a.get 2) k:=by rw [e2,hk0]; exact i2
 have hQ:Gb.LetsOut (bodyPost Tryz.prog Tryz.f59 (RetC noF k0 (IsV r))):=letsOutC
 have hg:Chg noF k0 k:=by rw [hk0]; exact Chg.refl _ k0
 refine stepL 2 (⟨some (IsRef q_),[(1,none)]⟩::⟨some (IsV false),[]⟩::[]) rfl ⟨hg,hs,hd⟩ (by kernel_rfl) ⟨ob1 rfl fun _ _ h n=>ok_boxR rfl (up i1 h n.1),ob1 rfl fun _ _ h n=>ok_assign rfl (isV_bool.2 rfl),trivial⟩ [⟨_,_⟩,⟨_,_⟩,⟨_,_⟩] (fun b q p=>⟨p.ke 0 rfl i0,p.ke 2 rfl i2,p.ou 0 4 rfl,trivial⟩) ?_
 rintro a k ⟨⟨hg,hs,hd⟩,i0,i2,i4,_⟩
 refine wp_seq ?_
 obtain ⟨x1,hx1,hr⟩:=bind_some hr
 refine cut (fun a' k'=>Bs noF k0 11 a' k'∧(IsV x1) (a'.get 5) k'∧True) ?_ hQ ?_
 ·intro Q1 W1 w1
  refine gS 6 (_::_::_::_::_::_::[]) hs (by kernel_rfl) ⟨mu rfl i0,o1 [(2,none)] rfl fun _ _ h n=>ok_fieldAddr rfl fo93_1 (at_View_1 _) ((up i2 h n.1)).ptr,o1 [(7,some 1)] rfl fun _ _ h n=>ok_load rfl ty88 n.1,o1 [(4,none)] rfl fun _ _ h n=>ok_load rfl ty88 ((up i4 h n.1)).ptr,o1 [(6,some 0),(8,some 2),(9,some 3)] rfl fun _ _ h n=>ok_call rfl Tryz.call60 (sight_Blocked_ok n.1 n.2.1 n.2.2.1 hx1),cp 4 rfl rfl,trivial⟩ W1 fun b q p=>?_
  exact tail_done (k:=q) (w1 _ _ ⟨Bs.post ⟨hg,hs,hd⟩ p,p.ou 5 5 rfl,trivial⟩)
 rintro a k ⟨⟨hg,hs,hd⟩,i5,_⟩
 refine wp_ret ?_
 obtain rfl:=Option.some.inj hr
 exact retC1 rfl hd hg i5
def vested_light_5 (a_:Placed) (p1_:Placed):Option (Bool):=
 (vested_overlap a_.Volume p1_.Volume).bind fun x1=>
 some x1
theorem vested_light_5_ok {k0:K} {v0 v1:Value} {a_:Placed} {p1_:Placed} {r:Bool} (i0:(IsV a_) v0 k0) (i1:(IsRef p1_) v1 k0) (hr:vested_light_5 a_ p1_ = some r) :
  Calls Tryz.prog 62 #[v0,v1] k0.w (Ret k0 (IsV r)):=by
 unfold vested_light_5 at hr
 refine Ret.ofC ?_
 refine enterK Tryz.func62 rfl Tryz.ntmps62 (show 2 ≤ 9 by decide) fun a k hk0 hs hd ha=>?_
 obtain ⟨e0,e1,_⟩:=ha
 replace i0:(IsV a_) (a.get 0) k:=by rw [e0,hk0]; exact i0
 replace i1:(IsRef p1_) (a.get 1) k:=by rw [e1,hk0]; exact i1
 have hQ:Gb.LetsOut (bodyPost Tryz.prog Tryz.f62 (RetC noF k0 (IsV r))):=letsOutC
 have hg:Chg noF k0 k:=by rw [hk0]; exact Chg.refl _ k0
 refine stepL 2 (⟨some (IsRef a_),[(0,none)]⟩::⟨some (IsV false),[]⟩::[]) rfl ⟨hg,hs,hd⟩ (by kernel_rfl) ⟨ob1 rfl fun _ _ h n=>ok_boxR rfl (up i0 h n.1),ob1 rfl fun _ _ h n=>ok_assign rfl (isV_bool.2 rfl),trivial⟩ [⟨_,_⟩,⟨_,_⟩] (fun b q p=>⟨p.ke 1 rfl i1,p.ou 0 2 rfl,trivial⟩) ?_
 rintro a k ⟨⟨hg,hs,hd⟩,i1,i2,_⟩
 refine wp_seq ?_
 obtain ⟨x1,hx1,hr⟩:=bind_some hr
 refine cut (fun a' k'=>Bs noF k0 9 a' k'∧(IsV x1) (a'.get 3) k'∧True) ?_ hQ ?_
 ·intro Q1 W1 w1
  refine gS 6 (_::_::_::_::_::_::[]) hs (by kernel_rfl) ⟨o1 [(2,none)] rfl fun _ _ h n=>ok_fieldAddr rfl fo97_1 (at_Placed_1 _) ((up i2 h n.1)).ptr,o1 [(4,some 0)] rfl fun _ _ h n=>ok_load rfl ty83 n.1,o1 [(1,none)] rfl fun _ _ h n=>ok_fieldAddr rfl fo97_1 (at_Placed_1 _) ((up i1 h n.1)).ptr,o1 [(6,some 2)] rfl fun _ _ h n=>ok_load rfl ty83 n.1,o1 [(5,some 1),(7,some 3)] rfl fun _ _ h n=>ok_call rfl Tryz.call63 (vested_overlap_ok n.1 n.2.1 hx1),cp 4 rfl rfl,trivial⟩ W1 fun b q p=>?_
  exact tail_done (k:=q) (w1 _ _ ⟨Bs.post ⟨hg,hs,hd⟩ p,p.ou 5 3 rfl,trivial⟩)
 rintro a k ⟨⟨hg,hs,hd⟩,i3,_⟩
 refine wp_ret ?_
 obtain rfl:=Option.some.inj hr
 exact retC1 rfl hd hg i3
def vested_light_L0 (t_:Town) (s1:Int × Limit):Option (Flow (Int × Limit) (Limit × Bool)):=
 if (decide (s1.1 < (t_.Windows.length:Int))) then
  (getI t_.Windows s1.1).bind fun x1=>
  (vested_solids t_ (fun y0=>vested_light_1 y0 x1)).bind fun x2=>
  (vested_free t_.Plan.Sun x2 (fun y0 y1=>vested_light_2 y0 y1 x1)).bind fun x3=>
  if (decide (x3 < t_.Plan.Hours)) then
   some (.ret ((⟨2,(⟨#[]⟩:ByteArray),s1.1⟩:Limit),false))
  else
   (addI s1.1 1).bind fun x4=>
   some (.go (x4,s1.2))
 else
  some (.ex 0 (s1.1,s1.2))
def vested_light_L1 (t_:Town) (x1:(List (List Slab))) (s1:Int × Limit):Option (Flow (Int × Limit) (Limit × Bool)):=
 if (decide (s1.1 < (t_.Plan.Views.length:Int))) then
  (getI t_.Plan.Views s1.1).bind fun x2=>
  (vested_free x2.Targets x1 (fun y0 y1=>vested_light_4 y0 y1 x2)).bind fun x3=>
  if (decide (x3 < x2.Least)) then
   some (.ret ((⟨3,x2.Name,0⟩:Limit),false))
  else
   (addI s1.1 1).bind fun x4=>
   some (.go (x4,s1.2))
 else
  some (.ex 2 (s1.1,s1.2))
def vested_light_L2 (t_:Town) (s1:Int × Limit):Option (Flow (Int × Limit) (Limit × Bool)):=
 if (decide (s1.1 < (t_.Built.length:Int))) then
  (getI t_.Built s1.1).bind fun x1=>
  (sliceI t_.Built 0 s1.1).bind fun x2=>
  (slices_ContainsFunc_Placed x2 (fun y0=>vested_light_5 y0 x1)).bind fun x3=>
  if x3 then
   some (.ret ((⟨5,(⟨#[]⟩:ByteArray),s1.1⟩:Limit),false))
  else
   (addI s1.1 1).bind fun x4=>
   some (.go (x4,s1.2))
 else
  some (.ex 4 (s1.1,s1.2))
def vested_light (t_:Town):Option (Limit × Bool):=
 (iterL (vested_light_L0 t_) (t_.Windows.length + 1) (0,(⟨0,(⟨#[]⟩:ByteArray),0⟩:Limit))).bind fun f1=>match f1 with
  | .go _=>none
  | .ex _ s1 =>
   (vested_solids t_ vested_light_3).bind fun x1=>
   (iterL (vested_light_L1 t_ x1) (t_.Plan.Views.length + 1) (0,s1.2)).bind fun f2=>match f2 with
    | .go _=>none
    | .ex _ s2 =>
     (iterL (vested_light_L2 t_) (t_.Built.length + 1) (0,s2.2)).bind fun f3=>match f3 with
      | .go _=>none
      | .ex _ _=>
       some ((⟨0,(⟨#[]⟩:ByteArray),0⟩:Limit),true)
      | .ret r1=>some r1
    | .ret r2=>some r2
  | .ret r3=>some r3
theorem vested_light_ok {k0:K} {v0:Value} {t_:Town} {r:Limit × Bool} (i0:(IsV t_) v0 k0) (hr:vested_light t_ = some r) :
  Calls Tryz.prog 38 #[v0] k0.w (Ret k0 (IsTup2 (IsV r.1) (IsV r.2))):=by
 unfold vested_light at hr
 refine Ret.ofC ?_
 refine enterK Tryz.func38 rfl Tryz.ntmps38 (show 1 ≤ 76 by decide) fun a k hk0 hs hd ha=>?_
 obtain ⟨e0,_⟩:=ha
 replace i0:(IsV t_) (a.get 0) k:=by rw [e0,hk0]; exact i0
 have hQ:Gb.LetsOut (bodyPost Tryz.prog Tryz.f38 (RetC noF k0 (IsTup2 (IsV r.1) (IsV r.2)))):=letsOutC
 have hg:Chg noF k0 k:=by rw [hk0]; exact Chg.refl _ k0
 refine cutS (fun c l=>Bs noF k0 76 c l∧IsRef t_ (c.get 1) l∧(∃ b2,c.get 2 = .pointer (some ⟨b2,0,none⟩)∧Lo k0 (Eq b2)∧Gb.Box b2 (⟨0,(⟨#[]⟩:ByteArray),0⟩:Limit) l∧True)) ?_ ?_
 ·intro Q1 W1 w1
  refine gS 3 (⟨some (IsRef t_),[(0,none)]⟩::⟨some (IsBox k.w.heap.size (⟨0,(⟨#[]⟩:ByteArray),0⟩:Limit)),[]⟩::⟨some (IsV false),[]⟩::[]) hs (by kernel_rfl) ⟨ob1 rfl fun _ _ h n=>ok_boxR rfl (up i0 h n.1),ob1 rfl fun _ _ h n=>ok_alloc _ h.size rfl z55,ob1 rfl fun _ _ h n=>ok_assign rfl (isV_bool.2 rfl),trivial⟩ W1 fun b q p=>?_
  have hgq:=hg.then p.grow
  have hsb:=p.size.trans hs
  have hdb:=p.defers.trans hd
  have j1:(IsRef t_) (b.get 1) q:=p.ou 0 1 rfl
  obtain ⟨b2,j2,x2,z2⟩:(IsBox k.w.heap.size (⟨0,(⟨#[]⟩:ByteArray),0⟩:Limit)) (b.get 2) q:=p.ou 1 2 rfl
  replace x2:Lo k (Eq b2):=Lo.eq x2
  have y2:Lo k0 (Eq b2):=x2.chg hg
  exact tail_done (k:=q) (w1 _ _ ⟨⟨hgq,hsb,hdb⟩,j1,b2,j2,y2,z2,trivial⟩)
 rintro a k ⟨⟨hg,hs,hd⟩,i1,b2,i2,n2,c2,_⟩
 refine wp_seq ?_
 refine cutS (fun c l=>Bs noF k0 76 c l∧IsRef t_ (c.get 1) l∧c.get 2 = .pointer (some ⟨b2,0,none⟩)∧Lo k0 (Eq b2)∧Gb.Box b2 (⟨0,(⟨#[]⟩:ByteArray),0⟩:Limit) l∧IsV t_.Windows (c.get 13) l∧IsI (t_.Windows.length:Int) (c.get 14) l∧IsI 0 (c.get 15) l∧True) ?_ ?_
 ·intro Q2 W2 w2
  refine gS 4 (_::_::_::⟨some (IsI 0),[]⟩::[]) hs (by kernel_rfl) ⟨o1 [(1,none)] rfl fun _ _ h n=>ok_fieldAddr rfl fo37_3 (at_Town_3 _) ((up i1 h n.1)).ptr,o1 [(12,some 0)] rfl fun _ _ h n=>ok_load rfl ty33 n.1,o1 [(13,some 1)] rfl fun _ _ h n=>ok_len rfl rfl Tryz.underlying33 (IsV.rd n.1),ob1 rfl fun _ _ h n=>ok_move rfl (cI rfl),trivial⟩ W2 fun b q p=>?_
  exact tail_done (k:=q) (w2 _ _ ⟨Bs.post ⟨hg,hs,hd⟩ p,p.ke 1 rfl i1,upE i2 (p.old 2 rfl),n2,Gb.Box.grow c2 p.grow,p.ou 1 13 rfl,p.ou 2 14 rfl,p.ou 3 15 rfl,trivial⟩)
 rintro a k ⟨⟨hg,hs,hd⟩,i1,i2,n2,c2,i13,i14,i15,_⟩
 refine wp_block ?_
 obtain ⟨f1,hf1,hr⟩:=bind_some hr
 refine cutFe f1 (fun s' c l=>Bs noF k0 76 c l∧IsRef t_ (c.get 1) l∧c.get 2 = .pointer (some ⟨b2,0,none⟩)∧Lo k0 (Eq b2)∧Gb.Box b2 s'.2 l∧IsV t_.Windows (c.get 13) l∧IsI (t_.Windows.length:Int) (c.get 14) l∧IsV s'.1 (c.get 15) l∧True) (fun i' s' c l=>(i' = 0∧Bs noF k0 76 c l∧IsRef t_ (c.get 1) l∧c.get 2 = .pointer (some ⟨b2,0,none⟩)∧Lo k0 (Eq b2)∧Gb.Box b2 s'.2 l∧True)) (fun r' c l=>bodyPost Tryz.prog Tryz.f38 (RetC noF k0 (IsTup2 (IsV r'.1) (IsV r'.2))) .ret c l.w) ?_ hQ ?_ ?_ ?_
 ·intro Q3 W3 hgo hex hret
  refine sim_loop ?_ _ _ _ _ _ hf1 ⟨⟨hg,hs,hd⟩,i1,i2,n2,c2,i13,i14,i15,trivial⟩ Q3 W3 hgo hex hret
  clear hr hf1 hgo hex hret W3 hQ hg hs hd c2 i1 i13 i14 i15 i2 n2
  intro s1 fl_ a k hr hS Q hQ hgo2147 hex2148 hret2149
  obtain ⟨⟨hg,hs,hd⟩,i1,i2,n2,c2,i13,i14,i15,_⟩:=hS
  unfold vested_light_L0 at hr
  refine cutS (fun c l=>Bs noF k0 76 c l∧IsRef t_ (c.get 1) l∧c.get 2 = .pointer (some ⟨b2,0,none⟩)∧Lo k0 (Eq b2)∧Gb.Box b2 s1.2 l∧IsV t_.Windows (c.get 13) l∧IsI (t_.Windows.length:Int) (c.get 14) l∧IsV s1.1 (c.get 15) l∧(IsV (decide (s1.1 < (t_.Windows.length:Int)))) (c.get 16) l∧True) ?_ ?_
  ·intro Q4 W4 w3
   refine gS 1 (_::[]) hs (by kernel_rfl) ⟨o1 [(15,none),(14,none)] rfl fun _ _ h n=>ok_lss rfl (up i15 h n.1) (up i14 h n.2.1),trivial⟩ W4 fun b q p=>?_
   exact tail_done (k:=q) (w3 _ _ ⟨Bs.post ⟨hg,hs,hd⟩ p,p.ke 1 rfl i1,upE i2 (p.old 2 rfl),n2,Gb.Box.grow c2 p.grow,p.ke 13 rfl i13,p.ke 14 rfl i14,p.ke 15 rfl i15,p.ou 0 16 rfl,trivial⟩)
  rintro a k ⟨⟨hg,hs,hd⟩,i1,i2,n2,c2,i13,i14,i15,i16,_⟩
  refine wp_seq ?_
  refine wp_cond_split (isBool i16) (fun hc2179=>?_) (fun hc2179=>?_)
  ·rw [if_pos hc2179] at hr
   refine wp_skip ?_
   refine wp_seq ?_
   refine wp_block ?_
   refine wp_seq ?_
   obtain ⟨x1,hx1,hr⟩:=bind_some hr
   refine cut (fun a' k'=>Bs noF k0 76 a' k'∧(IsRef t_) (a'.get 1) k'∧a'.get 2 = .pointer (some ⟨b2,0,none⟩)∧Lo k0 (Eq b2)∧Gb.Box b2 s1.2 k'∧(IsV s1.1) (a'.get 4) k'∧(IsRef x1) (a'.get 5) k'∧(IsV t_.Windows) (a'.get 13) k'∧(IsI (t_.Windows.length:Int)) (a'.get 14) k'∧(IsV s1.1) (a'.get 15) k'∧True) ?_ hQ ?_
   ·intro Q5 W5 w4
    refine gS 5 (_::_::_::⟨some (IsBox k.w.heap.size (⟨0,(⟨0,0,0⟩:Point3)⟩:Window)),[]⟩::_::[]) hs (by kernel_rfl) ⟨mu rfl i15,o1 [(13,none),(15,none)] rfl fun _ _ h n=>ok_indexAddr rfl Tryz.underlying33 ty90 (IsV.rd (up i13 h n.1)) (up i15 h n.2.1) hx1,o1 [(18,some 1)] rfl fun _ _ h n=>ok_load rfl ty90 n.1,ob1 rfl fun _ _ h n=>ok_alloc _ h.size rfl z90,cp 0 rfl rfl,trivial⟩ W5 fun b q p=>?_
    have hgq:=hg.then p.grow
    have hsb:=p.size.trans hs
    have hdb:=p.defers.trans hd
    have j1:=p.ke 1 rfl i1
    have j2:=upE i2 (p.old 2 rfl)
    have z2:=Gb.Box.grow c2 p.grow
    have y2:=n2
    have j4:(IsV s1.1) (b.get 4) q:=p.ou 4 4 rfl
    obtain ⟨b5,j5,x5,z5⟩:(IsBox k.w.heap.size (⟨0,(⟨0,0,0⟩:Point3)⟩:Window)) (b.get 5) q:=p.ou 3 5 rfl
    replace x5:Lo k (Eq b5):=Lo.eq x5
    have y5:Lo k0 (Eq b5):=x5.chg hg
    have j13:=p.ke 13 rfl i13
    have j14:=p.ke 14 rfl i14
    have j15:=p.ke 15 rfl i15
    have j19:(IsV x1) (b.get 19) q:=p.ou 2 19 rfl
    have w2_5:Apart (Eq b2) (Eq b5):=Apart.new c2.ltF x5
    have hns:=z5.nshF
    refine tail_storeB (i:=5) rfl rfl rfl rfl szf90 (Upd.self (α:=Window)) j5 z5 j19 fun q2 hch hz=>?_
    replace hgq:=hgq.step hch y5.wr
    have hle:=hch.le hns
    replace j1:=Pers.pers hle j1
    replace z2:=z2.keep hch (w2_5 _ rfl) hns
    replace j4:=Pers.pers hle j4
    replace j13:=Pers.pers hle j13
    replace j14:=Pers.pers hle j14
    replace j15:=Pers.pers hle j15
    replace j19:=Pers.pers hle j19
    replace z5:=hz
    clear hns hle hch
    obtain ⟨q,hqq⟩ : ∃ q,q = q2:=⟨q2,rfl⟩
    subst hqq
    obtain ⟨q2,hsh,jn⟩:=z5.give
    replace j1:=Pers.pers hsh.le j1
    replace z2:=z2.handed hsh (w2_5 _ rfl)
    replace j4:=Pers.pers hsh.le j4
    replace j13:=Pers.pers hsh.le j13
    replace j14:=Pers.pers hsh.le j14
    replace j15:=Pers.pers hsh.le j15
    rw [← j5] at jn
    replace j5:=jn
    replace hgq:=hgq.hand hsh y5.wr
    rw [← hsh.w]
    clear hsh
    obtain ⟨q,hqq⟩ : ∃ q,q = q2:=⟨q2,rfl⟩
    subst hqq
    exact tail_done (k:=q) (w4 _ _ ⟨⟨hgq,hsb,hdb⟩,j1,j2,y2,z2,j4,j5,j13,j14,j15,trivial⟩)
   rintro a k ⟨⟨hg,hs,hd⟩,i1,i2,n2,c2,i4,i5,i13,i14,i15,_⟩
   refine wp_seq ?_
   obtain ⟨x3,hx3,hr⟩:=bind_some hr
   refine cut (fun a' k'=>Bs noF k0 76 a' k'∧(IsRef t_) (a'.get 1) k'∧a'.get 2 = .pointer (some ⟨b2,0,none⟩)∧Lo k0 (Eq b2)∧Gb.Box b2 s1.2 k'∧(IsV s1.1) (a'.get 4) k'∧(IsRef x1) (a'.get 5) k'∧(IsV x3) (a'.get 6) k'∧(IsV t_.Windows) (a'.get 13) k'∧(IsI (t_.Windows.length:Int)) (a'.get 14) k'∧(IsV s1.1) (a'.get 15) k'∧True) ?_ hQ ?_
   ·intro Q6 W6 w5
    refine gS 4 (_::⟨some (IsFn1 Tryz.prog (fun y0=>vested_light_1 y0 x1)),[(5,none)]⟩::_::_::[]) hs (by kernel_rfl) ⟨o1 [(1,none)] rfl fun _ _ h n=>ok_load rfl ty37 ((up i1 h n.1)).ptr,ob1 rfl fun _ _ h n=>ok_makeFunc (first:=[]) (captured:=[.tmp 5]) rfl ⟨54,_,_,rfl,Tryz.call54,fun k9 hk9 _ _ _ hx0 hy9=>by simpa [evalT] using vested_light_1_ok hx0 (Pers.pers hk9 (up i5 h n.1)) hy9⟩,o1 [(20,some 0),(21,some 1)] rfl fun _ _ h n=>ok_call rfl Tryz.call53 (vested_solids_ok n.1 n.2.1 hx3),cp 2 rfl rfl,trivial⟩ W6 fun b q p=>?_
    exact tail_done (k:=q) (w5 _ _ ⟨Bs.post ⟨hg,hs,hd⟩ p,p.ke 1 rfl i1,upE i2 (p.old 2 rfl),n2,Gb.Box.grow c2 p.grow,p.ke 4 rfl i4,p.ke 5 rfl i5,p.ou 3 6 rfl,p.ke 13 rfl i13,p.ke 14 rfl i14,p.ke 15 rfl i15,trivial⟩)
   rintro a k ⟨⟨hg,hs,hd⟩,i1,i2,n2,c2,i4,i5,i6,i13,i14,i15,_⟩
   refine wp_seq ?_
   obtain ⟨x4,hx4,hr⟩:=bind_some hr
   refine cut (fun a' k'=>Bs noF k0 76 a' k'∧(IsRef t_) (a'.get 1) k'∧a'.get 2 = .pointer (some ⟨b2,0,none⟩)∧Lo k0 (Eq b2)∧Gb.Box b2 s1.2 k'∧(IsV s1.1) (a'.get 4) k'∧(IsV t_.Windows) (a'.get 13) k'∧(IsI (t_.Windows.length:Int)) (a'.get 14) k'∧(IsV s1.1) (a'.get 15) k'∧(IsV (decide (x4 < t_.Plan.Hours))) (a'.get 32) k'∧True) ?_ hQ ?_
   ·intro Q7 W7 w6
    refine region (m:=10) (_::_::_::_::⟨some (IsFn2 Tryz.prog (fun y0 y1=>vested_light_2 y0 y1 x1)),[(5,none)]⟩::_::_::_::_::_::[]) hmix hs (by kernel_rfl) ⟨o1 [(1,none)] rfl fun _ _ h n=>ok_fieldAddr rfl fo37_0 (at_Town_0 _) ((up i1 h n.1)).ptr,o1 [(23,some 0)] rfl fun _ _ h n=>ok_fieldAddr rfl fo30_6 (at_Plan_6 _) n.1,o1 [(24,some 1)] rfl fun _ _ h n=>ok_load rfl ty28 n.1,mu rfl i6,ob1 rfl fun _ _ h n=>ok_makeFunc (first:=[]) (captured:=[.tmp 5]) rfl ⟨56,_,_,rfl,Tryz.call56,fun k9 hk9 _ _ _ _ _ hx0 hx1 hy9=>by simpa [evalT] using vested_light_2_ok hx0 hx1 (Pers.pers hk9 (up i5 h n.1)) hy9⟩,o1 [(25,some 2),(26,some 3),(27,some 4)] rfl fun _ _ h n=>ok_call rfl Tryz.call55 (vested_free_ok n.1 n.2.1 n.2.2.1 hx4),o1 [(1,none)] rfl fun _ _ h n=>ok_fieldAddr rfl fo37_0 (at_Town_0 _) ((up i1 h n.1)).ptr,o1 [(29,some 6)] rfl fun _ _ h n=>ok_fieldAddr rfl fo30_7 (at_Plan_7 _) n.1,o1 [(30,some 7)] rfl fun _ _ h n=>ok_load rfl ty3 n.1,o1 [(28,some 5),(31,some 8)] rfl fun _ _ h n=>ok_lss rfl n.1 n.2.1,trivial⟩ W7 fun b q p=>?_
    exact tail_done (k:=q) (w6 _ _ ⟨Bs.post ⟨hg,hs,hd⟩ p,p.ke 1 rfl i1,upE i2 (p.old 2 rfl),n2,Gb.Box.grow c2 p.grow,p.ke 4 rfl i4,p.ke 13 rfl i13,p.ke 14 rfl i14,p.ke 15 rfl i15,p.ou 9 32 rfl,trivial⟩)
   rintro a k ⟨⟨hg,hs,hd⟩,i1,i2,n2,c2,i4,i13,i14,i15,i32,_⟩
   refine wp_cond_split (isBool i32) (fun hc2172=>?_) (fun hc2172=>?_)
   ·rw [if_pos hc2172] at hr
    refine cutS (fun c l=>Bs noF k0 76 c l∧c.get 2 = .pointer (some ⟨b2,0,none⟩)∧Lo k0 (Eq b2)∧Gb.Box b2 (⟨2,(⟨#[]⟩:ByteArray),s1.1⟩:Limit) l∧IsV false (c.get 3) l∧True) ?_ ?_
    ·intro Q8 W8 w7
     refine gS 2 (_::⟨some (IsV (⟨2,(⟨#[]⟩:ByteArray),s1.1⟩:Limit)),[(33,some 0)]⟩::[]) hs (by kernel_rfl) ⟨mu rfl i4,ob1 rfl fun _ _ h n=>ok_build rfl (bld55_0_2 (cI rfl) n.1),trivial⟩ W8 fun b q p=>?_
     have hgq:=hg.then p.grow
     have hsb:=p.size.trans hs
     have hdb:=p.defers.trans hd
     have j2:=upE i2 (p.old 2 rfl)
     have z2:=Gb.Box.grow c2 p.grow
     have y2:=n2
     have j34:(IsV (⟨2,(⟨#[]⟩:ByteArray),s1.1⟩:Limit)) (b.get 34) q:=p.ou 1 34 rfl
     have hns:=z2.nshF
     refine tail_storeB (i:=2) rfl rfl rfl rfl szf55 (Upd.self (α:=Limit)) j2 z2 j34 fun q2 hch hz=>?_
     replace hgq:=hgq.step hch y2.wr
     have hle:=hch.le hns
     replace j34:=Pers.pers hle j34
     replace z2:=hz
     clear hns hle hch
     obtain ⟨q,hqq⟩ : ∃ q,q = q2:=⟨q2,rfl⟩
     subst hqq
     refine tail_assign (i:=3) (d:=3) rfl rfl (.inl rfl) rfl (by rw [hsb]; decide) fun b2 hsz hdf hnew hoth=>?_
     have jn:(IsV false) (b2.get 3) q:=by rw [hnew]; exact (isV_bool.2 rfl)
     rw [← hoth 2 (by decide)] at j2
     rw [← hoth 34 (by decide)] at j34
     have j3:=jn
     replace hsb:=hsz.trans hsb
     replace hdb:=hdf.trans hdb
     clear hsz hdf hoth
     obtain ⟨b,hbb⟩ : ∃ b,b = b2:=⟨b2,rfl⟩
     subst hbb
     exact tail_done (k:=q) (w7 _ _ ⟨⟨hgq,hsb,hdb⟩,j2,y2,z2,j3,trivial⟩)
    rintro a k ⟨⟨hg,hs,hd⟩,i2,n2,c2,i3,_⟩
    refine wp_ret ?_
    exact hret2149 _ _ _ (Option.some.inj hr).symm (retC2 rfl hd hg (resCell ty55 i2 c2) i3)
   rw [if_neg (by rw [hc2172]; decide)] at hr
   refine wp_skip ?_
   obtain ⟨x6,hx6,hr⟩:=bind_some hr
   refine cut (fun a' k'=>Bs noF k0 76 a' k'∧(IsRef t_) (a'.get 1) k'∧a'.get 2 = .pointer (some ⟨b2,0,none⟩)∧Lo k0 (Eq b2)∧Gb.Box b2 s1.2 k'∧(IsV t_.Windows) (a'.get 13) k'∧(IsI (t_.Windows.length:Int)) (a'.get 14) k'∧(IsV x6) (a'.get 15) k'∧True) ?_ hQ ?_
   ·intro Q9 W9 w8
    refine gS 2 (_::_::[]) hs (by kernel_rfl) ⟨o1 [(15,none)] rfl fun _ _ h n=>ok_add rfl (up i15 h n.1) (cI rfl) hx6,cm 0 rfl rfl,trivial⟩ W9 fun b q p=>?_
    exact tail_done (k:=q) (w8 _ _ ⟨Bs.post ⟨hg,hs,hd⟩ p,p.ke 1 rfl i1,upE i2 (p.old 2 rfl),n2,Gb.Box.grow c2 p.grow,p.ke 13 rfl i13,p.ke 14 rfl i14,p.ou 1 15 rfl,trivial⟩)
   rintro a k ⟨⟨hg,hs,hd⟩,i1,i2,n2,c2,i13,i14,i15,_⟩
   exact hgo2147 _ _ _ (Option.some.inj hr).symm ⟨⟨hg,hs,hd⟩,i1,i2,n2,c2,i13,i14,i15,trivial⟩
  rw [if_neg (by rw [hc2179]; decide)] at hr
  refine wp_exit ?_
  exact hex2148 _ _ _ _ (Option.some.inj hr).symm ⟨rfl,⟨hg,hs,hd⟩,i1,i2,n2,c2,trivial⟩
 ·rintro r1 a k rfl hR
  dsimp only at hr
  obtain rfl:=Option.some.inj hr
  exact hR
 ·rintro _ _ _ rfl _
  simp at hr
 clear hf1
 rintro _ s2 a k rfl ⟨rfl,⟨hg,hs,hd⟩,i1,i2,n2,c2,_⟩
 dsimp only at hr
 refine wp_seq ?_
 obtain ⟨x7,hx7,hr⟩:=bind_some hr
 refine cut (fun a' k'=>Bs noF k0 76 a' k'∧(IsRef t_) (a'.get 1) k'∧a'.get 2 = .pointer (some ⟨b2,0,none⟩)∧Lo k0 (Eq b2)∧Gb.Box b2 s2.2 k'∧(IsV x7) (a'.get 7) k'∧True) ?_ hQ ?_
 ·intro Q10 W10 w9
  refine gS 3 (_::_::_::[]) hs (by kernel_rfl) ⟨o1 [(1,none)] rfl fun _ _ h n=>ok_load rfl ty37 ((up i1 h n.1)).ptr,o1 [(36,some 0)] rfl fun _ _ h n=>ok_call rfl Tryz.call53 (vested_solids_ok n.1 ⟨58,_,_,rfl,Tryz.call58,fun k9 hk9 _ _ _ hx0 hy9=>by simpa [evalT] using vested_light_3_ok hx0 hy9⟩ hx7),cp 1 rfl rfl,trivial⟩ W10 fun b q p=>?_
  exact tail_done (k:=q) (w9 _ _ ⟨Bs.post ⟨hg,hs,hd⟩ p,p.ke 1 rfl i1,upE i2 (p.old 2 rfl),n2,Gb.Box.grow c2 p.grow,p.ou 2 7 rfl,trivial⟩)
 rintro a k ⟨⟨hg,hs,hd⟩,i1,i2,n2,c2,i7,_⟩
 refine wp_seq ?_
 refine cutS (fun c l=>Bs noF k0 76 c l∧IsRef t_ (c.get 1) l∧c.get 2 = .pointer (some ⟨b2,0,none⟩)∧Lo k0 (Eq b2)∧Gb.Box b2 s2.2 l∧IsV x7 (c.get 7) l∧IsV t_.Plan.Views (c.get 40) l∧IsI (t_.Plan.Views.length:Int) (c.get 41) l∧IsI 0 (c.get 42) l∧True) ?_ ?_
 ·intro Q11 W11 w10
  refine gS 5 (_::_::_::_::⟨some (IsI 0),[]⟩::[]) hs (by kernel_rfl) ⟨o1 [(1,none)] rfl fun _ _ h n=>ok_fieldAddr rfl fo37_0 (at_Town_0 _) ((up i1 h n.1)).ptr,o1 [(38,some 0)] rfl fun _ _ h n=>ok_fieldAddr rfl fo30_5 (at_Plan_5 _) n.1,o1 [(39,some 1)] rfl fun _ _ h n=>ok_load rfl ty27 n.1,o1 [(40,some 2)] rfl fun _ _ h n=>ok_len rfl rfl Tryz.underlying27 (IsV.rd n.1),ob1 rfl fun _ _ h n=>ok_move rfl (cI rfl),trivial⟩ W11 fun b q p=>?_
  exact tail_done (k:=q) (w10 _ _ ⟨Bs.post ⟨hg,hs,hd⟩ p,p.ke 1 rfl i1,upE i2 (p.old 2 rfl),n2,Gb.Box.grow c2 p.grow,p.ke 7 rfl i7,p.ou 2 40 rfl,p.ou 3 41 rfl,p.ou 4 42 rfl,trivial⟩)
 rintro a k ⟨⟨hg,hs,hd⟩,i1,i2,n2,c2,i7,i40,i41,i42,_⟩
 refine wp_block ?_
 obtain ⟨f2,hf2,hr⟩:=bind_some hr
 refine cutFe f2 (fun s' c l=>Bs noF k0 76 c l∧IsRef t_ (c.get 1) l∧c.get 2 = .pointer (some ⟨b2,0,none⟩)∧Lo k0 (Eq b2)∧Gb.Box b2 s'.2 l∧IsV x7 (c.get 7) l∧IsV t_.Plan.Views (c.get 40) l∧IsI (t_.Plan.Views.length:Int) (c.get 41) l∧IsV s'.1 (c.get 42) l∧True) (fun i' s' c l=>(i' = 2∧Bs noF k0 76 c l∧IsRef t_ (c.get 1) l∧c.get 2 = .pointer (some ⟨b2,0,none⟩)∧Lo k0 (Eq b2)∧Gb.Box b2 s'.2 l∧True)) (fun r' c l=>bodyPost Tryz.prog Tryz.f38 (RetC noF k0 (IsTup2 (IsV r'.1) (IsV r'.2))) .ret c l.w) ?_ hQ ?_ ?_ ?_
 ·intro Q12 W12 hgo hex hret
  refine sim_loop ?_ _ _ _ _ _ hf2 ⟨⟨hg,hs,hd⟩,i1,i2,n2,c2,i7,i40,i41,i42,trivial⟩ Q12 W12 hgo hex hret
  clear hr hf2 hgo hex hret W12 hQ hg hs hd c2 i1 i2 i40 i41 i42 i7 n2
  intro s3 fl_ a k hr hS Q hQ hgo2187 hex2188 hret2189
  obtain ⟨⟨hg,hs,hd⟩,i1,i2,n2,c2,i7,i40,i41,i42,_⟩:=hS
  unfold vested_light_L1 at hr
  refine cutS (fun c l=>Bs noF k0 76 c l∧IsRef t_ (c.get 1) l∧c.get 2 = .pointer (some ⟨b2,0,none⟩)∧Lo k0 (Eq b2)∧Gb.Box b2 s3.2 l∧IsV x7 (c.get 7) l∧IsV t_.Plan.Views (c.get 40) l∧IsI (t_.Plan.Views.length:Int) (c.get 41) l∧IsV s3.1 (c.get 42) l∧(IsV (decide (s3.1 < (t_.Plan.Views.length:Int)))) (c.get 43) l∧True) ?_ ?_
  ·intro Q13 W13 w11
   refine gS 1 (_::[]) hs (by kernel_rfl) ⟨o1 [(42,none),(41,none)] rfl fun _ _ h n=>ok_lss rfl (up i42 h n.1) (up i41 h n.2.1),trivial⟩ W13 fun b q p=>?_
   exact tail_done (k:=q) (w11 _ _ ⟨Bs.post ⟨hg,hs,hd⟩ p,p.ke 1 rfl i1,upE i2 (p.old 2 rfl),n2,Gb.Box.grow c2 p.grow,p.ke 7 rfl i7,p.ke 40 rfl i40,p.ke 41 rfl i41,p.ke 42 rfl i42,p.ou 0 43 rfl,trivial⟩)
  rintro a k ⟨⟨hg,hs,hd⟩,i1,i2,n2,c2,i7,i40,i41,i42,i43,_⟩
  refine wp_seq ?_
  refine wp_cond_split (isBool i43) (fun hc2210=>?_) (fun hc2210=>?_)
  ·rw [if_pos hc2210] at hr
   refine wp_skip ?_
   refine wp_seq ?_
   refine wp_block ?_
   refine wp_seq ?_
   obtain ⟨x8,hx8,hr⟩:=bind_some hr
   refine cut (fun a' k'=>Bs noF k0 76 a' k'∧(IsRef t_) (a'.get 1) k'∧a'.get 2 = .pointer (some ⟨b2,0,none⟩)∧Lo k0 (Eq b2)∧Gb.Box b2 s3.2 k'∧(IsV x7) (a'.get 7) k'∧(IsRef x8) (a'.get 9) k'∧(IsV t_.Plan.Views) (a'.get 40) k'∧(IsI (t_.Plan.Views.length:Int)) (a'.get 41) k'∧(IsV s3.1) (a'.get 42) k'∧True) ?_ hQ ?_
   ·intro Q14 W14 w12
    refine gS 3 (_::_::⟨some (IsBox k.w.heap.size (⟨(⟨#[]⟩:ByteArray),(⟨0,0,0⟩:Point3),0,[]⟩:View)),[]⟩::[]) hs (by kernel_rfl) ⟨o1 [(40,none),(42,none)] rfl fun _ _ h n=>ok_indexAddr rfl Tryz.underlying27 ty93 (IsV.rd (up i40 h n.1)) (up i42 h n.2.1) hx8,o1 [(44,some 0)] rfl fun _ _ h n=>ok_load rfl ty93 n.1,ob1 rfl fun _ _ h n=>ok_alloc _ h.size rfl z93,trivial⟩ W14 fun b q p=>?_
    have hgq:=hg.then p.grow
    have hsb:=p.size.trans hs
    have hdb:=p.defers.trans hd
    have j1:=p.ke 1 rfl i1
    have j2:=upE i2 (p.old 2 rfl)
    have z2:=Gb.Box.grow c2 p.grow
    have y2:=n2
    have j7:=p.ke 7 rfl i7
    obtain ⟨b9,j9,x9,z9⟩:(IsBox k.w.heap.size (⟨(⟨#[]⟩:ByteArray),(⟨0,0,0⟩:Point3),0,[]⟩:View)) (b.get 9) q:=p.ou 2 9 rfl
    replace x9:Lo k (Eq b9):=Lo.eq x9
    have y9:Lo k0 (Eq b9):=x9.chg hg
    have j40:=p.ke 40 rfl i40
    have j41:=p.ke 41 rfl i41
    have j42:=p.ke 42 rfl i42
    have j45:(IsV x8) (b.get 45) q:=p.ou 1 45 rfl
    have w2_9:Apart (Eq b2) (Eq b9):=Apart.new c2.ltF x9
    have hns:=z9.nshF
    refine tail_storeB (i:=3) rfl rfl rfl rfl szf93 (Upd.self (α:=View)) j9 z9 j45 fun q2 hch hz=>?_
    replace hgq:=hgq.step hch y9.wr
    have hle:=hch.le hns
    replace j1:=Pers.pers hle j1
    replace z2:=z2.keep hch (w2_9 _ rfl) hns
    replace j7:=Pers.pers hle j7
    replace j40:=Pers.pers hle j40
    replace j41:=Pers.pers hle j41
    replace j42:=Pers.pers hle j42
    replace j45:=Pers.pers hle j45
    replace z9:=hz
    clear hns hle hch
    obtain ⟨q,hqq⟩ : ∃ q,q = q2:=⟨q2,rfl⟩
    subst hqq
    obtain ⟨q2,hsh,jn⟩:=z9.give
    replace j1:=Pers.pers hsh.le j1
    replace z2:=z2.handed hsh (w2_9 _ rfl)
    replace j7:=Pers.pers hsh.le j7
    replace j40:=Pers.pers hsh.le j40
    replace j41:=Pers.pers hsh.le j41
    replace j42:=Pers.pers hsh.le j42
    rw [← j9] at jn
    replace j9:=jn
    replace hgq:=hgq.hand hsh y9.wr
    rw [← hsh.w]
    clear hsh
    obtain ⟨q,hqq⟩ : ∃ q,q = q2:=⟨q2,rfl⟩
    subst hqq
    exact tail_done (k:=q) (w12 _ _ ⟨⟨hgq,hsb,hdb⟩,j1,j2,y2,z2,j7,j9,j40,j41,j42,trivial⟩)
   rintro a k ⟨⟨hg,hs,hd⟩,i1,i2,n2,c2,i7,i9,i40,i41,i42,_⟩
   refine wp_seq ?_
   obtain ⟨x10,hx10,hr⟩:=bind_some hr
   refine cut (fun a' k'=>Bs noF k0 76 a' k'∧(IsRef t_) (a'.get 1) k'∧a'.get 2 = .pointer (some ⟨b2,0,none⟩)∧Lo k0 (Eq b2)∧Gb.Box b2 s3.2 k'∧(IsV x7) (a'.get 7) k'∧(IsRef x8) (a'.get 9) k'∧(IsV t_.Plan.Views) (a'.get 40) k'∧(IsI (t_.Plan.Views.length:Int)) (a'.get 41) k'∧(IsV s3.1) (a'.get 42) k'∧(IsV (decide (x10 < x8.Least))) (a'.get 53) k'∧True) ?_ hQ ?_
   ·intro Q15 W15 w13
    refine region (m:=8) (_::_::_::⟨some (IsFn2 Tryz.prog (fun y0 y1=>vested_light_4 y0 y1 x8)),[(9,none)]⟩::_::_::_::_::[]) hmix hs (by kernel_rfl) ⟨o1 [(9,none)] rfl fun _ _ h n=>ok_fieldAddr rfl fo93_3 (at_View_3 _) ((up i9 h n.1)).ptr,o1 [(46,some 0)] rfl fun _ _ h n=>ok_load rfl ty28 n.1,mu rfl i7,ob1 rfl fun _ _ h n=>ok_makeFunc (first:=[]) (captured:=[.tmp 9]) rfl ⟨59,_,_,rfl,Tryz.call59,fun k9 hk9 _ _ _ _ _ hx0 hx1 hy9=>by simpa [evalT] using vested_light_4_ok hx0 hx1 (Pers.pers hk9 (up i9 h n.1)) hy9⟩,o1 [(47,some 1),(48,some 2),(49,some 3)] rfl fun _ _ h n=>ok_call rfl Tryz.call55 (vested_free_ok n.1 n.2.1 n.2.2.1 hx10),o1 [(9,none)] rfl fun _ _ h n=>ok_fieldAddr rfl fo93_2 (at_View_2 _) ((up i9 h n.1)).ptr,o1 [(51,some 5)] rfl fun _ _ h n=>ok_load rfl ty3 n.1,o1 [(50,some 4),(52,some 6)] rfl fun _ _ h n=>ok_lss rfl n.1 n.2.1,trivial⟩ W15 fun b q p=>?_
    exact tail_done (k:=q) (w13 _ _ ⟨Bs.post ⟨hg,hs,hd⟩ p,p.ke 1 rfl i1,upE i2 (p.old 2 rfl),n2,Gb.Box.grow c2 p.grow,p.ke 7 rfl i7,p.ke 9 rfl i9,p.ke 40 rfl i40,p.ke 41 rfl i41,p.ke 42 rfl i42,p.ou 7 53 rfl,trivial⟩)
   rintro a k ⟨⟨hg,hs,hd⟩,i1,i2,n2,c2,i7,i9,i40,i41,i42,i53,_⟩
   refine wp_cond_split (isBool i53) (fun hc2205=>?_) (fun hc2205=>?_)
   ·rw [if_pos hc2205] at hr
    refine cutS (fun c l=>Bs noF k0 76 c l∧c.get 2 = .pointer (some ⟨b2,0,none⟩)∧Lo k0 (Eq b2)∧Gb.Box b2 (⟨3,x8.Name,0⟩:Limit) l∧IsV false (c.get 3) l∧True) ?_ ?_
    ·intro Q16 W16 w14
     refine gS 3 (_::_::⟨some (IsV (⟨3,x8.Name,0⟩:Limit)),[(55,some 1)]⟩::[]) hs (by kernel_rfl) ⟨o1 [(9,none)] rfl fun _ _ h n=>ok_fieldAddr rfl fo93_0 (at_View_0 _) ((up i9 h n.1)).ptr,o1 [(54,some 0)] rfl fun _ _ h n=>ok_load rfl ty9 n.1,ob1 rfl fun _ _ h n=>ok_build rfl (bld55_0_1 (cI rfl) n.1),trivial⟩ W16 fun b q p=>?_
     have hgq:=hg.then p.grow
     have hsb:=p.size.trans hs
     have hdb:=p.defers.trans hd
     have j2:=upE i2 (p.old 2 rfl)
     have z2:=Gb.Box.grow c2 p.grow
     have y2:=n2
     have j56:(IsV (⟨3,x8.Name,0⟩:Limit)) (b.get 56) q:=p.ou 2 56 rfl
     have hns:=z2.nshF
     refine tail_storeB (i:=3) rfl rfl rfl rfl szf55 (Upd.self (α:=Limit)) j2 z2 j56 fun q2 hch hz=>?_
     replace hgq:=hgq.step hch y2.wr
     have hle:=hch.le hns
     replace j56:=Pers.pers hle j56
     replace z2:=hz
     clear hns hle hch
     obtain ⟨q,hqq⟩ : ∃ q,q = q2:=⟨q2,rfl⟩
     subst hqq
     refine tail_assign (i:=4) (d:=3) rfl rfl (.inl rfl) rfl (by rw [hsb]; decide) fun b2 hsz hdf hnew hoth=>?_
     have jn:(IsV false) (b2.get 3) q:=by rw [hnew]; exact (isV_bool.2 rfl)
     rw [← hoth 2 (by decide)] at j2
     rw [← hoth 56 (by decide)] at j56
     have j3:=jn
     replace hsb:=hsz.trans hsb
     replace hdb:=hdf.trans hdb
     clear hsz hdf hoth
     obtain ⟨b,hbb⟩ : ∃ b,b = b2:=⟨b2,rfl⟩
     subst hbb
     exact tail_done (k:=q) (w14 _ _ ⟨⟨hgq,hsb,hdb⟩,j2,y2,z2,j3,trivial⟩)
    rintro a k ⟨⟨hg,hs,hd⟩,i2,n2,c2,i3,_⟩
    refine wp_ret ?_
    exact hret2189 _ _ _ (Option.some.inj hr).symm (retC2 rfl hd hg (resCell ty55 i2 c2) i3)
   rw [if_neg (by rw [hc2205]; decide)] at hr
   refine wp_skip ?_
   obtain ⟨x12,hx12,hr⟩:=bind_some hr
   refine cut (fun a' k'=>Bs noF k0 76 a' k'∧(IsRef t_) (a'.get 1) k'∧a'.get 2 = .pointer (some ⟨b2,0,none⟩)∧Lo k0 (Eq b2)∧Gb.Box b2 s3.2 k'∧(IsV x7) (a'.get 7) k'∧(IsV t_.Plan.Views) (a'.get 40) k'∧(IsI (t_.Plan.Views.length:Int)) (a'.get 41) k'∧(IsV x12) (a'.get 42) k'∧True) ?_ hQ ?_
   ·intro Q17 W17 w15
    refine gS 2 (_::_::[]) hs (by kernel_rfl) ⟨o1 [(42,none)] rfl fun _ _ h n=>ok_add rfl (up i42 h n.1) (cI rfl) hx12,cm 0 rfl rfl,trivial⟩ W17 fun b q p=>?_
    exact tail_done (k:=q) (w15 _ _ ⟨Bs.post ⟨hg,hs,hd⟩ p,p.ke 1 rfl i1,upE i2 (p.old 2 rfl),n2,Gb.Box.grow c2 p.grow,p.ke 7 rfl i7,p.ke 40 rfl i40,p.ke 41 rfl i41,p.ou 1 42 rfl,trivial⟩)
   rintro a k ⟨⟨hg,hs,hd⟩,i1,i2,n2,c2,i7,i40,i41,i42,_⟩
   exact hgo2187 _ _ _ (Option.some.inj hr).symm ⟨⟨hg,hs,hd⟩,i1,i2,n2,c2,i7,i40,i41,i42,trivial⟩
  rw [if_neg (by rw [hc2210]; decide)] at hr
  refine wp_exit ?_
  exact hex2188 _ _ _ _ (Option.some.inj hr).symm ⟨rfl,⟨hg,hs,hd⟩,i1,i2,n2,c2,trivial⟩
 ·rintro r2 a k rfl hR
  dsimp only at hr
  obtain rfl:=Option.some.inj hr
  exact hR
 ·rintro _ _ _ rfl _
  simp at hr
 clear hf2
 rintro _ s4 a k rfl ⟨rfl,⟨hg,hs,hd⟩,i1,i2,n2,c2,_⟩
 dsimp only at hr
 refine wp_seq ?_
 refine cutS (fun c l=>Bs noF k0 76 c l∧IsRef t_ (c.get 1) l∧c.get 2 = .pointer (some ⟨b2,0,none⟩)∧Lo k0 (Eq b2)∧Gb.Box b2 s4.2 l∧IsV t_.Built (c.get 59) l∧IsI (t_.Built.length:Int) (c.get 60) l∧IsI 0 (c.get 61) l∧True) ?_ ?_
 ·intro Q18 W18 w16
  refine gS 4 (_::_::_::⟨some (IsI 0),[]⟩::[]) hs (by kernel_rfl) ⟨o1 [(1,none)] rfl fun _ _ h n=>ok_fieldAddr rfl fo37_4 (at_Town_4 _) ((up i1 h n.1)).ptr,o1 [(58,some 0)] rfl fun _ _ h n=>ok_load rfl ty34 n.1,o1 [(59,some 1)] rfl fun _ _ h n=>ok_len rfl rfl Tryz.underlying34 (IsV.rd n.1),ob1 rfl fun _ _ h n=>ok_move rfl (cI rfl),trivial⟩ W18 fun b q p=>?_
  exact tail_done (k:=q) (w16 _ _ ⟨Bs.post ⟨hg,hs,hd⟩ p,p.ke 1 rfl i1,upE i2 (p.old 2 rfl),n2,Gb.Box.grow c2 p.grow,p.ou 1 59 rfl,p.ou 2 60 rfl,p.ou 3 61 rfl,trivial⟩)
 rintro a k ⟨⟨hg,hs,hd⟩,i1,i2,n2,c2,i59,i60,i61,_⟩
 refine wp_block ?_
 obtain ⟨f3,hf3,hr⟩:=bind_some hr
 refine cutFe f3 (fun s' c l=>Bs noF k0 76 c l∧IsRef t_ (c.get 1) l∧c.get 2 = .pointer (some ⟨b2,0,none⟩)∧Lo k0 (Eq b2)∧Gb.Box b2 s'.2 l∧IsV t_.Built (c.get 59) l∧IsI (t_.Built.length:Int) (c.get 60) l∧IsV s'.1 (c.get 61) l∧True) (fun i' s' c l=>(i' = 4∧Bs noF k0 76 c l∧c.get 2 = .pointer (some ⟨b2,0,none⟩)∧Lo k0 (Eq b2)∧Gb.Box b2 s'.2 l∧True)) (fun r' c l=>bodyPost Tryz.prog Tryz.f38 (RetC noF k0 (IsTup2 (IsV r'.1) (IsV r'.2))) .ret c l.w) ?_ hQ ?_ ?_ ?_
 ·intro Q19 W19 hgo hex hret
  refine sim_loop ?_ _ _ _ _ _ hf3 ⟨⟨hg,hs,hd⟩,i1,i2,n2,c2,i59,i60,i61,trivial⟩ Q19 W19 hgo hex hret
  clear hr hf3 hgo hex hret W19 hQ hg hs hd c2 i1 i2 i59 i60 i61 n2
  intro s5 fl_ a k hr hS Q hQ hgo2217 hex2218 hret2219
  obtain ⟨⟨hg,hs,hd⟩,i1,i2,n2,c2,i59,i60,i61,_⟩:=hS
  unfold vested_light_L2 at hr
  refine cutS (fun c l=>Bs noF k0 76 c l∧IsRef t_ (c.get 1) l∧c.get 2 = .pointer (some ⟨b2,0,none⟩)∧Lo k0 (Eq b2)∧Gb.Box b2 s5.2 l∧IsV t_.Built (c.get 59) l∧IsI (t_.Built.length:Int) (c.get 60) l∧IsV s5.1 (c.get 61) l∧(IsV (decide (s5.1 < (t_.Built.length:Int)))) (c.get 62) l∧True) ?_ ?_
  ·intro Q20 W20 w17
   refine gS 1 (_::[]) hs (by kernel_rfl) ⟨o1 [(61,none),(60,none)] rfl fun _ _ h n=>ok_lss rfl (up i61 h n.1) (up i60 h n.2.1),trivial⟩ W20 fun b q p=>?_
   exact tail_done (k:=q) (w17 _ _ ⟨Bs.post ⟨hg,hs,hd⟩ p,p.ke 1 rfl i1,upE i2 (p.old 2 rfl),n2,Gb.Box.grow c2 p.grow,p.ke 59 rfl i59,p.ke 60 rfl i60,p.ke 61 rfl i61,p.ou 0 62 rfl,trivial⟩)
  rintro a k ⟨⟨hg,hs,hd⟩,i1,i2,n2,c2,i59,i60,i61,i62,_⟩
  refine wp_seq ?_
  refine wp_cond_split (isBool i62) (fun hc2240=>?_) (fun hc2240=>?_)
  ·rw [if_pos hc2240] at hr
   refine wp_skip ?_
   refine wp_seq ?_
   refine wp_block ?_
   refine wp_seq ?_
   obtain ⟨x13,hx13,hr⟩:=bind_some hr
   refine cut (fun a' k'=>Bs noF k0 76 a' k'∧(IsRef t_) (a'.get 1) k'∧a'.get 2 = .pointer (some ⟨b2,0,none⟩)∧Lo k0 (Eq b2)∧Gb.Box b2 s5.2 k'∧(IsV s5.1) (a'.get 10) k'∧(IsRef x13) (a'.get 11) k'∧(IsV t_.Built) (a'.get 59) k'∧(IsI (t_.Built.length:Int)) (a'.get 60) k'∧(IsV s5.1) (a'.get 61) k'∧True) ?_ hQ ?_
   ·intro Q21 W21 w18
    refine gS 5 (_::_::_::⟨some (IsBox k.w.heap.size (⟨0,(⟨(⟨(⟨0,0,0,0⟩:Rect),0,0⟩:Box),0,0,false⟩:Volume)⟩:Placed)),[]⟩::_::[]) hs (by kernel_rfl) ⟨mu rfl i61,o1 [(59,none),(61,none)] rfl fun _ _ h n=>ok_indexAddr rfl Tryz.underlying34 ty97 (IsV.rd (up i59 h n.1)) (up i61 h n.2.1) hx13,o1 [(64,some 1)] rfl fun _ _ h n=>ok_load rfl ty97 n.1,ob1 rfl fun _ _ h n=>ok_alloc _ h.size rfl z97,cp 0 rfl rfl,trivial⟩ W21 fun b q p=>?_
    have hgq:=hg.then p.grow
    have hsb:=p.size.trans hs
    have hdb:=p.defers.trans hd
    have j1:=p.ke 1 rfl i1
    have j2:=upE i2 (p.old 2 rfl)
    have z2:=Gb.Box.grow c2 p.grow
    have y2:=n2
    have j10:(IsV s5.1) (b.get 10) q:=p.ou 4 10 rfl
    obtain ⟨b11,j11,x11,z11⟩:(IsBox k.w.heap.size (⟨0,(⟨(⟨(⟨0,0,0,0⟩:Rect),0,0⟩:Box),0,0,false⟩:Volume)⟩:Placed)) (b.get 11) q:=p.ou 3 11 rfl
    replace x11:Lo k (Eq b11):=Lo.eq x11
    have y11:Lo k0 (Eq b11):=x11.chg hg
    have j59:=p.ke 59 rfl i59
    have j60:=p.ke 60 rfl i60
    have j61:=p.ke 61 rfl i61
    have j65:(IsV x13) (b.get 65) q:=p.ou 2 65 rfl
    have w2_11:Apart (Eq b2) (Eq b11):=Apart.new c2.ltF x11
    have hns:=z11.nshF
    refine tail_storeB (i:=5) rfl rfl rfl rfl szf97 (Upd.self (α:=Placed)) j11 z11 j65 fun q2 hch hz=>?_
    replace hgq:=hgq.step hch y11.wr
    have hle:=hch.le hns
    replace j1:=Pers.pers hle j1
    replace z2:=z2.keep hch (w2_11 _ rfl) hns
    replace j10:=Pers.pers hle j10
    replace j59:=Pers.pers hle j59
    replace j60:=Pers.pers hle j60
    replace j61:=Pers.pers hle j61
    replace j65:=Pers.pers hle j65
    replace z11:=hz
    clear hns hle hch
    obtain ⟨q,hqq⟩ : ∃ q,q = q2:=⟨q2,rfl⟩
    subst hqq
    obtain ⟨q2,hsh,jn⟩:=z11.give
    replace j1:=Pers.pers hsh.le j1
    replace z2:=z2.handed hsh (w2_11 _ rfl)
    replace j10:=Pers.pers hsh.le j10
    replace j59:=Pers.pers hsh.le j59
    replace j60:=Pers.pers hsh.le j60
    replace j61:=Pers.pers hsh.le j61
    rw [← j11] at jn
    replace j11:=jn
    replace hgq:=hgq.hand hsh y11.wr
    rw [← hsh.w]
    clear hsh
    obtain ⟨q,hqq⟩ : ∃ q,q = q2:=⟨q2,rfl⟩
    subst hqq
    exact tail_done (k:=q) (w18 _ _ ⟨⟨hgq,hsb,hdb⟩,j1,j2,y2,z2,j10,j11,j59,j60,j61,trivial⟩)
   rintro a k ⟨⟨hg,hs,hd⟩,i1,i2,n2,c2,i10,i11,i59,i60,i61,_⟩
   refine wp_seq ?_
   obtain ⟨x14,hx14,hr⟩:=bind_some hr
   obtain ⟨x15,hx15,hr⟩:=bind_some hr
   refine cut (fun a' k'=>Bs noF k0 76 a' k'∧(IsRef t_) (a'.get 1) k'∧a'.get 2 = .pointer (some ⟨b2,0,none⟩)∧Lo k0 (Eq b2)∧Gb.Box b2 s5.2 k'∧(IsV s5.1) (a'.get 10) k'∧(IsV t_.Built) (a'.get 59) k'∧(IsI (t_.Built.length:Int)) (a'.get 60) k'∧(IsV s5.1) (a'.get 61) k'∧(IsV x15) (a'.get 71) k'∧True) ?_ hQ ?_
   ·intro Q22 W22 w19
    refine gS 6 (_::_::_::⟨some (IsV x14),[(67,some 1),(68,some 2)]⟩::⟨some (IsFn1 Tryz.prog (fun y0=>vested_light_5 y0 x13)),[(11,none)]⟩::_::[]) hs (by kernel_rfl) ⟨o1 [(1,none)] rfl fun _ _ h n=>ok_fieldAddr rfl fo37_4 (at_Town_4 _) ((up i1 h n.1)).ptr,o1 [(66,some 0)] rfl fun _ _ h n=>ok_load rfl ty34 n.1,mu rfl i10,ob1 rfl fun _ _ h n=>ok_slice_hi rfl Tryz.underlying34 szf97 n.1 n.2.1 hx14,ob1 rfl fun _ _ h n=>ok_makeFunc (first:=[]) (captured:=[.tmp 11]) rfl ⟨62,_,_,rfl,Tryz.call62,fun k9 hk9 _ _ _ hx0 hy9=>by simpa [evalT] using vested_light_5_ok hx0 (Pers.pers hk9 (up i11 h n.1)) hy9⟩,o1 [(69,some 3),(70,some 4)] rfl fun _ _ h n=>ok_call rfl Tryz.call61 (slices_ContainsFunc_Placed_ok n.1 n.2.1 hx15),trivial⟩ W22 fun b q p=>?_
    exact tail_done (k:=q) (w19 _ _ ⟨Bs.post ⟨hg,hs,hd⟩ p,p.ke 1 rfl i1,upE i2 (p.old 2 rfl),n2,Gb.Box.grow c2 p.grow,p.ke 10 rfl i10,p.ke 59 rfl i59,p.ke 60 rfl i60,p.ke 61 rfl i61,p.ou 5 71 rfl,trivial⟩)
   rintro a k ⟨⟨hg,hs,hd⟩,i1,i2,n2,c2,i10,i59,i60,i61,i71,_⟩
   refine wp_cond_split (isBool i71) (fun hc2235=>?_) (fun hc2235=>?_)
   ·rw [if_pos hc2235] at hr
    refine cutS (fun c l=>Bs noF k0 76 c l∧c.get 2 = .pointer (some ⟨b2,0,none⟩)∧Lo k0 (Eq b2)∧Gb.Box b2 (⟨5,(⟨#[]⟩:ByteArray),s5.1⟩:Limit) l∧IsV false (c.get 3) l∧True) ?_ ?_
    ·intro Q23 W23 w20
     refine gS 2 (_::⟨some (IsV (⟨5,(⟨#[]⟩:ByteArray),s5.1⟩:Limit)),[(72,some 0)]⟩::[]) hs (by kernel_rfl) ⟨mu rfl i10,ob1 rfl fun _ _ h n=>ok_build rfl (bld55_0_2 (cI rfl) n.1),trivial⟩ W23 fun b q p=>?_
     have hgq:=hg.then p.grow
     have hsb:=p.size.trans hs
     have hdb:=p.defers.trans hd
     have j2:=upE i2 (p.old 2 rfl)
     have z2:=Gb.Box.grow c2 p.grow
     have y2:=n2
     have j73:(IsV (⟨5,(⟨#[]⟩:ByteArray),s5.1⟩:Limit)) (b.get 73) q:=p.ou 1 73 rfl
     have hns:=z2.nshF
     refine tail_storeB (i:=2) rfl rfl rfl rfl szf55 (Upd.self (α:=Limit)) j2 z2 j73 fun q2 hch hz=>?_
     replace hgq:=hgq.step hch y2.wr
     have hle:=hch.le hns
     replace j73:=Pers.pers hle j73
     replace z2:=hz
     clear hns hle hch
     obtain ⟨q,hqq⟩ : ∃ q,q = q2:=⟨q2,rfl⟩
     subst hqq
     refine tail_assign (i:=3) (d:=3) rfl rfl (.inl rfl) rfl (by rw [hsb]; decide) fun b2 hsz hdf hnew hoth=>?_
     have jn:(IsV false) (b2.get 3) q:=by rw [hnew]; exact (isV_bool.2 rfl)
     rw [← hoth 2 (by decide)] at j2
     rw [← hoth 73 (by decide)] at j73
     have j3:=jn
     replace hsb:=hsz.trans hsb
     replace hdb:=hdf.trans hdb
     clear hsz hdf hoth
     obtain ⟨b,hbb⟩ : ∃ b,b = b2:=⟨b2,rfl⟩
     subst hbb
     exact tail_done (k:=q) (w20 _ _ ⟨⟨hgq,hsb,hdb⟩,j2,y2,z2,j3,trivial⟩)
    rintro a k ⟨⟨hg,hs,hd⟩,i2,n2,c2,i3,_⟩
    refine wp_ret ?_
    exact hret2219 _ _ _ (Option.some.inj hr).symm (retC2 rfl hd hg (resCell ty55 i2 c2) i3)
   rw [if_neg (by rw [hc2235]; decide)] at hr
   refine wp_skip ?_
   obtain ⟨x16,hx16,hr⟩:=bind_some hr
   refine cut (fun a' k'=>Bs noF k0 76 a' k'∧(IsRef t_) (a'.get 1) k'∧a'.get 2 = .pointer (some ⟨b2,0,none⟩)∧Lo k0 (Eq b2)∧Gb.Box b2 s5.2 k'∧(IsV t_.Built) (a'.get 59) k'∧(IsI (t_.Built.length:Int)) (a'.get 60) k'∧(IsV x16) (a'.get 61) k'∧True) ?_ hQ ?_
   ·intro Q24 W24 w21
    refine gS 2 (_::_::[]) hs (by kernel_rfl) ⟨o1 [(61,none)] rfl fun _ _ h n=>ok_add rfl (up i61 h n.1) (cI rfl) hx16,cm 0 rfl rfl,trivial⟩ W24 fun b q p=>?_
    exact tail_done (k:=q) (w21 _ _ ⟨Bs.post ⟨hg,hs,hd⟩ p,p.ke 1 rfl i1,upE i2 (p.old 2 rfl),n2,Gb.Box.grow c2 p.grow,p.ke 59 rfl i59,p.ke 60 rfl i60,p.ou 1 61 rfl,trivial⟩)
   rintro a k ⟨⟨hg,hs,hd⟩,i1,i2,n2,c2,i59,i60,i61,_⟩
   exact hgo2217 _ _ _ (Option.some.inj hr).symm ⟨⟨hg,hs,hd⟩,i1,i2,n2,c2,i59,i60,i61,trivial⟩
  rw [if_neg (by rw [hc2240]; decide)] at hr
  refine wp_exit ?_
  exact hex2218 _ _ _ _ (Option.some.inj hr).symm ⟨rfl,⟨hg,hs,hd⟩,i2,n2,c2,trivial⟩
 ·rintro r3 a k rfl hR
  dsimp only at hr
  obtain rfl:=Option.some.inj hr
  exact hR
 ·rintro _ _ _ rfl _
  simp at hr
 clear hf3
 rintro _ s6 a k rfl ⟨rfl,⟨hg,hs,hd⟩,i2,n2,c2,_⟩
 dsimp only at hr
 refine cutS (fun c l=>Bs noF k0 76 c l∧c.get 2 = .pointer (some ⟨b2,0,none⟩)∧Lo k0 (Eq b2)∧Gb.Box b2 (⟨0,(⟨#[]⟩:ByteArray),0⟩:Limit) l∧IsV true (c.get 3) l∧True) ?_ ?_
 ·intro Q25 W25 w22
  refine gS 1 (⟨some (IsV (⟨0,(⟨#[]⟩:ByteArray),0⟩:Limit)),[]⟩::[]) hs (by kernel_rfl) ⟨ob1 rfl fun _ _ h n=>ok_build rfl (bld55_ ),trivial⟩ W25 fun b q p=>?_
  have hgq:=hg.then p.grow
  have hsb:=p.size.trans hs
  have hdb:=p.defers.trans hd
  have j2:=upE i2 (p.old 2 rfl)
  have z2:=Gb.Box.grow c2 p.grow
  have y2:=n2
  have j75:(IsV (⟨0,(⟨#[]⟩:ByteArray),0⟩:Limit)) (b.get 75) q:=p.ou 0 75 rfl
  have hns:=z2.nshF
  refine tail_storeB (i:=1) rfl rfl rfl rfl szf55 (Upd.self (α:=Limit)) j2 z2 j75 fun q2 hch hz=>?_
  replace hgq:=hgq.step hch y2.wr
  have hle:=hch.le hns
  replace j75:=Pers.pers hle j75
  replace z2:=hz
  clear hns hle hch
  obtain ⟨q,hqq⟩ : ∃ q,q = q2:=⟨q2,rfl⟩
  subst hqq
  refine tail_assign (i:=2) (d:=3) rfl rfl (.inl rfl) rfl (by rw [hsb]; decide) fun b2 hsz hdf hnew hoth=>?_
  have jn:(IsV true) (b2.get 3) q:=by rw [hnew]; exact (isV_bool.2 rfl)
  rw [← hoth 2 (by decide)] at j2
  rw [← hoth 75 (by decide)] at j75
  have j3:=jn
  replace hsb:=hsz.trans hsb
  replace hdb:=hdf.trans hdb
  clear hsz hdf hoth
  obtain ⟨b,hbb⟩ : ∃ b,b = b2:=⟨b2,rfl⟩
  subst hbb
  exact tail_done (k:=q) (w22 _ _ ⟨⟨hgq,hsb,hdb⟩,j2,y2,z2,j3,trivial⟩)
 rintro a k ⟨⟨hg,hs,hd⟩,i2,n2,c2,i3,_⟩
 refine wp_ret ?_
 obtain rfl:=Option.some.inj hr
 exact retC2 rfl hd hg (resCell ty55 i2 c2) i3
noncomputable def k38:=mkO 38 [.st 7] [.st 27,.bool] (fun x=>vested_light x) Tryz.call38 fun k0 vs x r hG h hr=>by obtain ⟨v0,rfl,i0⟩:=h.one; exact ret2F (T:=tb) (vested_light_ok i0 hr)
def vested_Safe_L1 (x1:Peak) (s1:Int × Int):Option (Flow (Int × Int) (Limit × Bool)):=
 if (decide (s1.2 < (x1.Tops.length:Int))) then
  (getI x1.Tops s1.2).bind fun x2=>
  (addI s1.1 x2).bind fun x3=>
  (addI s1.2 1).bind fun x4=>
  some (.go (x3,x4))
 else
  some (.ex 2 (s1.1,s1.2))
def vested_Safe_L0 (t_:Town) (rights_:(List Right)) (s1:Int × Limit):Option (Flow (Int × Limit) (Limit × Bool)):=
 if (decide (s1.1 < (t_.Plan.Caps.length:Int))) then
  (getI t_.Plan.Caps s1.1).bind fun x1=>
  (cap_Peak t_ rights_ x1).bind fun x2=>
  (iterL (vested_Safe_L1 x2) (x2.Tops.length + 1) (x2.Base,0)).bind fun f1=>match f1 with
   | .go _=>none
   | .ex _ s2 =>
    if (decide (x1.Limit < s2.1)) then
     some (.ret ((⟨1,x1.Name,0⟩:Limit),false))
    else
     (addI s1.1 1).bind fun x3=>
     some (.go (x3,s1.2))
   | .ret r1=>some (.ret r1)
 else
  some (.ex 0 (s1.1,s1.2))
def vested_Safe (t_:Town) (rights_:(List Right)):Option (Limit × Bool):=
 (iterL (vested_Safe_L0 t_ rights_) (t_.Plan.Caps.length + 1) (0,(⟨0,(⟨#[]⟩:ByteArray),0⟩:Limit))).bind fun f1=>match f1 with
  | .go _=>none
  | .ex _ _=>
   (vested_Last t_ rights_).bind fun x1=>
   (vested_light x1).bind fun x2=>
   some (x2.1,x2.2)
  | .ret r1=>some r1
noncomputable def k21:=mk 21 [.st 7,.list (.st 28)] [.st 27,.bool] (fun x=>vested_Safe x.1 x.2) [k29,k17,k38] [4] Tryz.f21 (.s .n (.s (.s .n (.l [] [(16,.v .int),(4,.b (.st 27))] [(0,[16],[])] (fI 15) (.s .n (.s .n (.s (.s .n (.s .n (.s .n (.s (.s .n (.l [] [(9,.v .int),(29,.v .int)] [(2,[29],[])] (fI 28) .n)) .n)))) .n))))) .n)) Tryz.func21 Tryz.call21 rfl rfl fun x=>by kernel_rfl
theorem vested_Safe_ok {k0:K} {v0 v1:Value} {x0:Town} {x1:(List Right)} {r:Limit × Bool} (i0:IsV x0 v0 k0) (i1:IsV x1 v1 k0) (hr:vested_Safe x0 x1 = some r):Calls Tryz.prog 21 #[v0,v1] k0.w (Ret k0 (IsTup2 (IsV r.1) (IsV r.2))):=ret2T (T:=tb) (k21.ok.ok k0 [v0,v1] (x0,x1) r (GOk.none (fun _=>rfl) fun _ e=>by cases e) ⟨i0,i1⟩ hr)
def vested_Keeps_L0 (t_:Town) (s1:Int × Limit):Option (Flow (Int × Limit) (Limit × Bool)):=
 if (decide (s1.1 < (t_.Plan.Caps.length:Int))) then
  (getI t_.Plan.Caps s1.1).bind fun x1=>
  (cap_Load t_ x1).bind fun x2=>
  if (decide (x1.Limit < x2)) then
   some (.ret ((⟨1,x1.Name,0⟩:Limit),false))
  else
   (addI s1.1 1).bind fun x3=>
   some (.go (x3,s1.2))
 else
  some (.ex 0 (s1.1,s1.2))
def vested_Keeps (t_:Town):Option (Limit × Bool):=
 (iterL (vested_Keeps_L0 t_) (t_.Plan.Caps.length + 1) (0,(⟨0,(⟨#[]⟩:ByteArray),0⟩:Limit))).bind fun f1=>match f1 with
  | .go _=>none
  | .ex _ _=>
   (vested_light t_).bind fun x1=>
   some (x1.1,x1.2)
  | .ret r1=>some r1
noncomputable def k19:=mk 19 [.st 7] [.st 27,.bool] (fun x=>vested_Keeps x) [k30,k38] [2] Tryz.f19 (.s .n (.s (.s .n (.l [] [(10,.v .int),(2,.b (.st 27))] [(0,[10],[])] (fI 9) .n)) .n)) Tryz.func19 Tryz.call19 rfl rfl fun x=>by kernel_rfl
def vested_States_1_L0 (self:Town → (List Right) → (List Town) → Option (List Town)) (rights_:(List Right)) (x1:(List Phase)) (s1:(List Town) × Int × Town):Option (Flow ((List Town) × Int × Town) ((List Town))):=
 if (decide (s1.2.1 < (x1.length:Int))) then
  (getI x1 s1.2.1).bind fun x2=>
  (getI rights_ 0).bind fun x3=>
  (vested_After s1.2.2 x3.Drawing.Lot x2).bind fun x4=>
  (sliceI rights_ 1 (rights_.length:Int)).bind fun x5=>
  (self x4 x5 s1.1).bind fun x6=>
  (addI s1.2.1 1).bind fun x7=>
  some (.go (x6,x7,x4))
 else
  some (.ex 0 (s1.1,s1.2.1,s1.2.2))
def vested_States_1 (self:Town → (List Right) → (List Town) → Option (List Town)) (t_:Town) (rights_:(List Right)) (out_:(List Town)):Option (List Town):=
 if ((rights_.length:Int) == 0) then
  (appI out_ ([t_])).bind fun x1=>
  some x1
 else
  (sliceI rights_ 1 (rights_.length:Int)).bind fun x2=>
  (self t_ x2 out_).bind fun x3=>
  (getI rights_ 0).bind fun x4=>
  (option_Left x4).bind fun x5=>
  (iterL (vested_States_1_L0 self rights_ x5) (x5.length + 1) (x3,0,t_)).bind fun f1=>match f1 with
   | .go _=>none
   | .ex _ s1=>
    some s1.1
   | .ret r1=>some r1
def vested_States_1_n:Nat → Town → (List Right) → (List Town) → Option (List Town)
 | 0=>fun _ _ _=>none
 | n + 1=>vested_States_1 (vested_States_1_n n)
theorem vested_States_1_ok {self:Town → (List Right) → (List Town) → Option (List Town)} (hself:WalkSpec Tryz.prog 42 how_59 self):WalkSpec Tryz.prog 42 how_59 (vested_States_1 self):=by
 intro k0 FB v0 v1 v3 bw t_ rights_ out_ r i0 i1 i2 i3 hr
 unfold vested_States_1 at hr
 refine enterK Tryz.func42 rfl Tryz.ntmps42 (show 4 ≤ 43 by decide) fun a k hk0 hs hd ha=>?_
 obtain ⟨e0,e1,e2,e3,_⟩:=ha
 replace i0:(IsV t_) (a.get 0) k:=by rw [e0,hk0]; exact i0
 replace i1:(IsV rights_) (a.get 1) k:=by rw [e1,hk0]; exact i1
 replace i2:(BoxH bw [how_59] [how_59] out_) FB (a.get 2) k:=by rw [e2,hk0]; exact i2
 replace i3:(IsRef (RawV.mk (WalkV 42 bw v3))) (a.get 3) k:=by rw [e3,hk0]; exact i3
 obtain ⟨F2,iX,n2⟩ : ∃ F,(BoxH bw [how_59] [how_59] out_) F (a.get 2) k∧Wr FB k0 F:=⟨FB,i2,fun b h=>.inl h⟩
 replace i2:=iX
 clear iX
 have q3:=e3
 have hQ:Gb.LetsOut (bodyPost Tryz.prog Tryz.f42 (RetC FB k0 (IsTurnH bw [how_59] [how_59] FB k0 r))):=letsOutC
 have hg:Chg FB k0 k:=by rw [hk0]; exact Chg.refl _ k0
 refine cutS (fun c l=>∃ F2,Bs FB k0 43 c l∧IsV rights_ (c.get 1) l∧(BoxH bw [how_59] [how_59] out_) F2 (c.get 2) l∧Wr FB k0 F2∧c.get 3 = v3∧IsRef (RawV.mk (WalkV 42 bw v3)) (c.get 3) l∧(∃ b4,c.get 4 = .pointer (some ⟨b4,0,none⟩)∧Lo k0 (Eq b4)∧Gb.Box b4 t_ l∧Apart F2 (Eq b4)∧True)) ?_ ?_
 ·intro Q1 W1 w1
  refine gS 1 (⟨some (IsBox k.w.heap.size t_),[(0,none)]⟩::[]) hs (by kernel_rfl) ⟨ob1 rfl fun _ _ h n=>ok_box _ h.size rfl (up i0 h n.1),trivial⟩ W1 fun b q p=>?_
  have hgq:=hg.then p.grow
  have hsb:=p.size.trans hs
  have hdb:=p.defers.trans hd
  have j1:=p.ke 1 rfl i1
  have j2:(BoxH bw [how_59] [how_59] out_) F2 (b.get 2) q:=p.ke 2 rfl i2
  have y2:=n2
  have j3:=p.ke 3 rfl i3
  obtain ⟨b4,j4,x4,z4⟩:(IsBox k.w.heap.size t_) (b.get 4) q:=p.ou 0 4 rfl
  replace x4:Lo k (Eq b4):=Lo.eq x4
  have y4:Lo k0 (Eq b4):=x4.chg hg
  have qb3:=(p.old 3 rfl).trans q3
  have w2_4:Apart F2 (Eq b4):=Apart.new (Rsc.lt i2) x4
  exact tail_done (k:=q) (w1 _ _ ⟨F2,⟨hgq,hsb,hdb⟩,j1,j2,y2,qb3,j3,b4,j4,y4,z4,w2_4,trivial⟩)
 rintro a k ⟨F2,⟨hg,hs,hd⟩,i1,i2,n2,q3,i3,b4,i4,n4,c4,d2_4,_⟩
 refine wp_seq ?_
 refine cutS (fun c l=>∃ F2,Bs FB k0 43 c l∧IsV rights_ (c.get 1) l∧(BoxH bw [how_59] [how_59] out_) F2 (c.get 2) l∧Wr FB k0 F2∧c.get 3 = v3∧IsRef (RawV.mk (WalkV 42 bw v3)) (c.get 3) l∧c.get 4 = .pointer (some ⟨b4,0,none⟩)∧Lo k0 (Eq b4)∧Gb.Box b4 t_ l∧IsV ((rights_.length:Int) == 0) (c.get 10) l∧Apart F2 (Eq b4)∧True) ?_ ?_
 ·intro Q2 W2 w2
  refine gS 3 (_::_::_::[]) hs (by kernel_rfl) ⟨mu rfl i1,o1 [(8,some 0)] rfl fun _ _ h n=>ok_len rfl rfl Tryz.underlying38 (IsV.rd n.1),o1 [(9,some 1)] rfl fun _ _ h n=>ok_eqI rfl n.1 (cI rfl),trivial⟩ W2 fun b q p=>?_
  exact tail_done (k:=q) (w2 _ _ ⟨F2,Bs.post ⟨hg,hs,hd⟩ p,p.ke 1 rfl i1,p.ke 2 rfl i2,n2,(p.old 3 rfl).trans q3,p.ke 3 rfl i3,upE i4 (p.old 4 rfl),n4,Gb.Box.grow c4 p.grow,p.ou 2 10 rfl,d2_4,trivial⟩)
 rintro a k ⟨F2,⟨hg,hs,hd⟩,i1,i2,n2,q3,i3,i4,n4,c4,i10,d2_4,_⟩
 refine wp_cond_split (isBool i10) (fun hc2429=>?_) (fun hc2429=>?_)
 ·rw [if_pos hc2429] at hr
  refine wp_seq ?_
  obtain ⟨x1,hx1,hr⟩:=bind_some hr
  refine cut (fun a' k'=>∃ F2,Bs FB k0 43 a' k'∧(BoxH bw [how_59] [how_59] x1) F2 (a'.get 2) k'∧Wr FB k0 F2∧True) ?_ hQ ?_
  ·intro Q3 W3 w3
   refine gS 3 (⟨some (HdAt bw how_59.off),[(2,none)]⟩::_::⟨some (IsV (α:=(List Town)) ([t_])),[(12,some 1)]⟩::[]) hs (by kernel_rfl) ⟨ob1 rfl fun _ _ h n=>ok_loadH (g:=how_59) rfl Tryz.underlying59 szf59 (upE (BoxH.ptr i2) n.1) (Rsc.grow i2 h) (.head _),o1 [(4,none)] rfl fun _ _ h n=>ok_load rfl ty37 ⟨_,(upE i4 n.1),(c4.grow h).at⟩,ob1 rfl fun _ _ h n=>ok_buildSlice rfl Tryz.underlying59 eo37 rfl (by decide) (by decide) ⟨rfl,n.1,trivial⟩,trivial⟩ W3 fun b q p=>?_
   have hgq:=hg.then p.grow
   have hsb:=p.size.trans hs
   have hdb:=p.defers.trans hd
   have j2:(BoxH bw [how_59] [how_59] out_) F2 (b.get 2) q:=p.ke 2 rfl i2
   have y2:=n2
   have j11:(HdAt bw how_59.off) (b.get 11) q:=p.ou 0 11 rfl
   have j13:(IsV (α:=(List Town)) ([t_])) (b.get 13) q:=p.ou 2 13 rfl
   obtain ⟨F2,jt,jo,jw,jf,je⟩:=BoxH.take j2 j11
   have y11:Wr FB k0 (obF (b.get 11)):=fun c h=>y2 c (je c h)
   replace y2:Wr FB k0 F2:=fun c h=>y2 c (jf c h)
   replace j2:=jt
   replace j11:IsOwn 0 37 out_ (b.get 11) q:=jo
   have w2_11:Apart F2 (obF (b.get 11)):=(jw).symm
   clear jt jo jw jf je
   have hns:=j11.nshF
   refine tail_appendS (i:=3) (d:=14) rfl rfl rfl rfl (by rw [hsb]; decide) (e:=37) Tryz.underlying59 eo37 j11 (IsV.rd j13) hx1 fun b2 q2 hsz hdf hoth hch hown hob=>?_
   have hle:=hch.le hns
   have yn:Wr FB k0 (obF (b2.get 14)):=y11.app hgq hob
   have v2:Apart F2 (obF (b2.get 14)):=Apart.app w2_11 (Rsc.lt j2) hob
   replace j2:=Rsc.keep j2 hch w2_11 hns
   replace j13:=Pers.pers hle j13
   replace hgq:=hgq.step hch y11
   rw [← hoth 2 (by decide)] at j2
   rw [← hoth 13 (by decide)] at j13
   have w2_14:=v2
   have j14:=hown
   have y14:=yn
   replace hsb:=hsz.trans hsb
   replace hdb:=hdf.trans hdb
   clear hle hch hown hob hns yn hsz hdf hoth
   obtain ⟨b,hbb⟩ : ∃ b,b = b2:=⟨b2,rfl⟩
   subst hbb
   obtain ⟨q,hqq⟩ : ∃ q,q = q2:=⟨q2,rfl⟩
   subst hqq
   refine tail_storeH (i:=4) (g:=how_59) (x':=(x1:(List Town))) rfl rfl rfl rfl szf59 (BoxH.ptr j2) j2 (by decide) ⟨_,(.head _),rfl⟩ rfl (fun _ _ _ h=>h) (fun _ h=>nomatch h) j14 (w2_14.symm) fun q2 FF hch hz hF=>?_
   have hns:=Rsc.nsh j2
   have hle:=hch.le hns
   replace hgq:=hgq.step hch y2
   replace j13:=Pers.pers hle j13
   have yn:Wr FB k0 FF:=fun c h=>(hF c h).elim (fun h=>y2 c h) (fun h=>y14 c h)
   clear hns hle hch hF
   obtain ⟨F2,hFe⟩ : ∃ F,F = FF:=⟨FF,rfl⟩
   subst hFe
   replace j2:=hz
   replace y2:=yn
   clear hz yn
   obtain ⟨q,hqq⟩ : ∃ q,q = q2:=⟨q2,rfl⟩
   subst hqq
   exact tail_done (k:=q) (w3 _ _ ⟨F2,⟨hgq,hsb,hdb⟩,j2,y2,trivial⟩)
  rintro a k ⟨F2,⟨hg,hs,hd⟩,i2,n2,_⟩
  refine wp_ret ?_
  obtain rfl:=Option.some.inj hr
  exact retW rfl hd hg i2 n2
 rw [if_neg (by rw [hc2429]; decide)] at hr
 refine wp_skip ?_
 refine wp_seq ?_
 obtain ⟨x2,hx2,hr⟩:=bind_some hr
 obtain ⟨x3,hx3,hr⟩:=bind_some hr
 refine cut (fun a' k'=>∃ F2,Bs FB k0 43 a' k'∧(IsV rights_) (a'.get 1) k'∧(BoxH bw [how_59] [how_59] x3) F2 (a'.get 2) k'∧Wr FB k0 F2∧a'.get 3 = v3∧(IsRef (RawV.mk (WalkV 42 bw v3))) (a'.get 3) k'∧a'.get 4 = .pointer (some ⟨b4,0,none⟩)∧Lo k0 (Eq b4)∧Gb.Box b4 t_ k'∧Apart F2 (Eq b4)∧True) ?_ hQ ?_
 ·intro Q4 W4 w4
  refine region (m:=4) (_::_::_::⟨some (IsV x2),[(17,some 2)]⟩::[]) hmix hs (by kernel_rfl) ⟨o1 [(3,none)] rfl fun _ _ h n=>ok_load rfl tyf103 ((up i3 h n.1)).ptr,o1 [(4,none)] rfl fun _ _ h n=>ok_load rfl ty37 ⟨_,(upE i4 n.1),(c4.grow h).at⟩,mu rfl i1,ob1 rfl fun _ _ h n=>ok_slice_lo rfl Tryz.underlying38 szf43 n.1 (cI rfl) hx2,trivial⟩ W4 fun b q p=>?_
  have hgq:=hg.then p.grow
  have hsb:=p.size.trans hs
  have hdb:=p.defers.trans hd
  have j1:=p.ke 1 rfl i1
  have j2:(BoxH bw [how_59] [how_59] out_) F2 (b.get 2) q:=p.ke 2 rfl i2
  have y2:=n2
  have j3:=p.ke 3 rfl i3
  have j4:=upE i4 (p.old 4 rfl)
  have z4:=Gb.Box.grow c4 p.grow
  have y4:=n4
  have j15:(IsV (RawV.mk (WalkV 42 bw v3))) (b.get 15) q:=p.ou 0 15 rfl
  have j16:(IsV t_) (b.get 16) q:=p.ou 1 16 rfl
  have j18:(IsV x2) (b.get 18) q:=p.ou 3 18 rfl
  have qb3:=(p.old 3 rfl).trans q3
  have w2_4:Apart F2 (Eq b4):=by exact d2_4
  have hns:=Rsc.nsh j2
  have ex:=BoxH.ptr j2
  refine tail_callV (F:=F2) (i:=4) (d:=19) rfl rfl rfl rfl (by rw [hsb]; decide) (raw_val j15) Tryz.call42 W4 (hself _ _ _ _ v3 _ _ _ _ _ j16 j18 (BoxH.at j2) (by have h:=j3; rw [qb3] at h; exact h) hx3) fun b2 q2 hsz hdf hoth hch hR=>?_
  have hle:=hch.le hns
  obtain ⟨FF,jn,yf⟩:=hR
  rw [← ex] at jn
  have yn:Wr FB k0 FF:=fun c h=>(yf c h).elim (fun h=>y2 c h) (fun h=>.inr (Nat.le_trans hgq.size h))
  have wn4:Apart FF (Eq b4):=fun c h hu=>(yf c h).elim (fun h=>w2_4 c h hu) (fun h=>Nat.lt_irrefl _ (Nat.lt_of_lt_of_le (z4.ltF c hu) h))
  replace j1:=Pers.pers hle j1
  replace j3:=Pers.pers hle j3
  replace z4:=z4.keep hch ((w2_4.symm) _ rfl) hns
  replace j15:=Pers.pers hle j15
  replace j16:=Pers.pers hle j16
  replace j18:=Pers.pers hle j18
  replace hgq:=hgq.step hch y2
  obtain ⟨F2,hFe⟩ : ∃ F,F = FF:=⟨FF,rfl⟩
  subst hFe
  replace j2:=jn
  replace y2:=yn
  have w2_4:Apart F2 (Eq b4):=wn4
  clear wn4
  replace qb3:=(hoth 3 (by decide)).trans qb3
  rw [← hoth 1 (by decide)] at j1
  rw [← hoth 2 (by decide)] at j2
  rw [← hoth 3 (by decide)] at j3
  rw [← hoth 4 (by decide)] at j4
  rw [← hoth 15 (by decide)] at j15
  rw [← hoth 16 (by decide)] at j16
  rw [← hoth 18 (by decide)] at j18
  replace hsb:=hsz.trans hsb
  replace hdb:=hdf.trans hdb
  clear hle hch hns hsz hdf hoth ex yf yn jn
  obtain ⟨b,hbb⟩ : ∃ b,b = b2:=⟨b2,rfl⟩
  subst hbb
  obtain ⟨q,hqq⟩ : ∃ q,q = q2:=⟨q2,rfl⟩
  subst hqq
  exact tail_done (k:=q) (w4 _ _ ⟨F2,⟨hgq,hsb,hdb⟩,j1,j2,y2,qb3,j3,j4,y4,z4,w2_4,trivial⟩)
 rintro a k ⟨F2,⟨hg,hs,hd⟩,i1,i2,n2,q3,i3,i4,n4,c4,d2_4,_⟩
 refine wp_seq ?_
 obtain ⟨x5,hx5,hr⟩:=bind_some hr
 obtain ⟨x6,hx6,hr⟩:=bind_some hr
 refine cut (fun a' k'=>∃ F2,Bs FB k0 43 a' k'∧(IsV rights_) (a'.get 1) k'∧(BoxH bw [how_59] [how_59] x3) F2 (a'.get 2) k'∧Wr FB k0 F2∧a'.get 3 = v3∧(IsRef (RawV.mk (WalkV 42 bw v3))) (a'.get 3) k'∧a'.get 4 = .pointer (some ⟨b4,0,none⟩)∧Lo k0 (Eq b4)∧Gb.Box b4 t_ k'∧(IsV x6) (a'.get 23) k'∧(IsL x6) (a'.get 24) k'∧(IsI 0) (a'.get 25) k'∧Apart F2 (Eq b4)∧True) ?_ hQ ?_
 ·intro Q5 W5 w5
  refine gS 6 (_::_::_::_::_::⟨some (IsI 0),[]⟩::[]) hs (by kernel_rfl) ⟨mu rfl i1,o1 [(20,some 0)] rfl fun _ _ h n=>ok_indexAddr rfl Tryz.underlying38 ty43 (IsV.rd n.1) (cI rfl) hx5,o1 [(21,some 1)] rfl fun _ _ h n=>ok_load rfl ty43 n.1,o1 [(22,some 2)] rfl fun _ _ h n=>ok_call rfl Tryz.call27 (option_Left_ok n.1 hx6),o1 [(23,some 3)] rfl fun _ _ h n=>ok_len rfl rfl Tryz.underlying39 (IsV.rd n.1),ob1 rfl fun _ _ h n=>ok_move rfl (cI rfl),trivial⟩ W5 fun b q p=>?_
  exact tail_done (k:=q) (w5 _ _ ⟨F2,Bs.post ⟨hg,hs,hd⟩ p,p.ke 1 rfl i1,p.ke 2 rfl i2,n2,(p.old 3 rfl).trans q3,p.ke 3 rfl i3,upE i4 (p.old 4 rfl),n4,Gb.Box.grow c4 p.grow,p.ou 3 23 rfl,p.ou 4 24 rfl,p.ou 5 25 rfl,d2_4,trivial⟩)
 rintro a k ⟨F2,⟨hg,hs,hd⟩,i1,i2,n2,q3,i3,i4,n4,c4,i23,i24,i25,d2_4,_⟩
 refine wp_block ?_
 obtain ⟨f1,hf1,hr⟩:=bind_some hr
 refine cutFe f1 (fun s' c l=>∃ F2,Bs FB k0 43 c l∧IsV rights_ (c.get 1) l∧(BoxH bw [how_59] [how_59] s'.1) F2 (c.get 2) l∧Wr FB k0 F2∧c.get 3 = v3∧IsRef (RawV.mk (WalkV 42 bw v3)) (c.get 3) l∧c.get 4 = .pointer (some ⟨b4,0,none⟩)∧Lo k0 (Eq b4)∧Gb.Box b4 s'.2.2 l∧IsV x6 (c.get 23) l∧IsL x6 (c.get 24) l∧IsV s'.2.1 (c.get 25) l∧Apart F2 (Eq b4)∧True) (fun i' s' c l=>(i' = 0∧∃ F2,Bs FB k0 43 c l∧(BoxH bw [how_59] [how_59] s'.1) F2 (c.get 2) l∧Wr FB k0 F2∧True)) (fun r' c l=>bodyPost Tryz.prog Tryz.f42 (RetC FB k0 (IsTurnH bw [how_59] [how_59] FB k0 r')) .ret c l.w) ?_ hQ ?_ ?_ ?_
 ·intro Q6 W6 hgo hex hret
  refine sim_loop ?_ _ _ _ _ _ hf1 ⟨F2,⟨hg,hs,hd⟩,i1,i2,n2,q3,i3,i4,n4,c4,i23,i24,i25,d2_4,trivial⟩ Q6 W6 hgo hex hret
  clear hr hf1 hgo hex hret W6 hQ hg hs hd F2 c4 d2_4 i1 i2 i23 i24 i25 i3 i4 n2 n4 q3
  intro s1 fl_ a k hr hS Q hQ hgo2402 hex2403 hret2404
  obtain ⟨F2,⟨hg,hs,hd⟩,i1,i2,n2,q3,i3,i4,n4,c4,i23,i24,i25,d2_4,_⟩:=hS
  unfold vested_States_1_L0 at hr
  refine cutS (fun c l=>∃ F2,Bs FB k0 43 c l∧IsV rights_ (c.get 1) l∧(BoxH bw [how_59] [how_59] s1.1) F2 (c.get 2) l∧Wr FB k0 F2∧c.get 3 = v3∧IsRef (RawV.mk (WalkV 42 bw v3)) (c.get 3) l∧c.get 4 = .pointer (some ⟨b4,0,none⟩)∧Lo k0 (Eq b4)∧Gb.Box b4 s1.2.2 l∧IsV x6 (c.get 23) l∧IsL x6 (c.get 24) l∧IsV s1.2.1 (c.get 25) l∧(IsV (decide (s1.2.1 < (x6.length:Int)))) (c.get 26) l∧Apart F2 (Eq b4)∧True) ?_ ?_
  ·intro Q7 W7 w6
   refine gS 1 (_::[]) hs (by kernel_rfl) ⟨o1 [(25,none),(24,none)] rfl fun _ _ h n=>ok_lss rfl (up i25 h n.1) (up i24 h n.2.1),trivial⟩ W7 fun b q p=>?_
   exact tail_done (k:=q) (w6 _ _ ⟨F2,Bs.post ⟨hg,hs,hd⟩ p,p.ke 1 rfl i1,p.ke 2 rfl i2,n2,(p.old 3 rfl).trans q3,p.ke 3 rfl i3,upE i4 (p.old 4 rfl),n4,Gb.Box.grow c4 p.grow,p.ke 23 rfl i23,p.ke 24 rfl i24,p.ke 25 rfl i25,p.ou 0 26 rfl,d2_4,trivial⟩)
  rintro a k ⟨F2,⟨hg,hs,hd⟩,i1,i2,n2,q3,i3,i4,n4,c4,i23,i24,i25,i26,d2_4,_⟩
  refine wp_seq ?_
  refine wp_cond_split (isBool i26) (fun hc2418=>?_) (fun hc2418=>?_)
  ·rw [if_pos hc2418] at hr
   refine wp_skip ?_
   refine wp_seq ?_
   refine wp_block ?_
   refine wp_seq ?_
   obtain ⟨x8,hx8,hr⟩:=bind_some hr
   refine cut (fun a' k'=>∃ F2,Bs FB k0 43 a' k'∧(IsV rights_) (a'.get 1) k'∧(BoxH bw [how_59] [how_59] s1.1) F2 (a'.get 2) k'∧Wr FB k0 F2∧a'.get 3 = v3∧(IsRef (RawV.mk (WalkV 42 bw v3))) (a'.get 3) k'∧a'.get 4 = .pointer (some ⟨b4,0,none⟩)∧Lo k0 (Eq b4)∧Gb.Box b4 s1.2.2 k'∧(IsRef x8) (a'.get 7) k'∧(IsV x6) (a'.get 23) k'∧(IsL x6) (a'.get 24) k'∧(IsV s1.2.1) (a'.get 25) k'∧Apart F2 (Eq b4)∧True) ?_ hQ ?_
   ·intro Q8 W8 w7
    refine gS 3 (_::_::⟨some (IsBox k.w.heap.size (⟨[],[]⟩:Phase)),[]⟩::[]) hs (by kernel_rfl) ⟨o1 [(23,none),(25,none)] rfl fun _ _ h n=>ok_indexAddr rfl Tryz.underlying39 ty46 (IsV.rd (up i23 h n.1)) (up i25 h n.2.1) hx8,o1 [(27,some 0)] rfl fun _ _ h n=>ok_load rfl ty46 n.1,ob1 rfl fun _ _ h n=>ok_alloc _ h.size rfl z46,trivial⟩ W8 fun b q p=>?_
    have hgq:=hg.then p.grow
    have hsb:=p.size.trans hs
    have hdb:=p.defers.trans hd
    have j1:=p.ke 1 rfl i1
    have j2:(BoxH bw [how_59] [how_59] s1.1) F2 (b.get 2) q:=p.ke 2 rfl i2
    have y2:=n2
    have j3:=p.ke 3 rfl i3
    have j4:=upE i4 (p.old 4 rfl)
    have z4:=Gb.Box.grow c4 p.grow
    have y4:=n4
    obtain ⟨b7,j7,x7,z7⟩:(IsBox k.w.heap.size (⟨[],[]⟩:Phase)) (b.get 7) q:=p.ou 2 7 rfl
    replace x7:Lo k (Eq b7):=Lo.eq x7
    have y7:Lo k0 (Eq b7):=x7.chg hg
    have j23:=p.ke 23 rfl i23
    have j24:=p.ke 24 rfl i24
    have j25:=p.ke 25 rfl i25
    have j28:(IsV x8) (b.get 28) q:=p.ou 1 28 rfl
    have qb3:=(p.old 3 rfl).trans q3
    have w2_4:Apart F2 (Eq b4):=by exact d2_4
    have w2_7:Apart F2 (Eq b7):=Apart.new (Rsc.lt i2) x7
    have w4_7:Apart (Eq b4) (Eq b7):=Apart.new c4.ltF x7
    have hns:=z7.nshF
    refine tail_storeB (i:=3) rfl rfl rfl rfl szf46 (Upd.self (α:=Phase)) j7 z7 j28 fun q2 hch hz=>?_
    replace hgq:=hgq.step hch y7.wr
    have hle:=hch.le hns
    replace j1:=Pers.pers hle j1
    replace j2:=Rsc.keep j2 hch w2_7 hns
    replace j3:=Pers.pers hle j3
    replace z4:=z4.keep hch (w4_7 _ rfl) hns
    replace j23:=Pers.pers hle j23
    replace j24:=Pers.pers hle j24
    replace j25:=Pers.pers hle j25
    replace j28:=Pers.pers hle j28
    replace z7:=hz
    clear hns hle hch
    obtain ⟨q,hqq⟩ : ∃ q,q = q2:=⟨q2,rfl⟩
    subst hqq
    obtain ⟨q2,hsh,jn⟩:=z7.give
    replace j1:=Pers.pers hsh.le j1
    replace j2:=Rsc.handed j2 hsh w2_7
    replace j3:=Pers.pers hsh.le j3
    replace z4:=z4.handed hsh (w4_7 _ rfl)
    replace j23:=Pers.pers hsh.le j23
    replace j24:=Pers.pers hsh.le j24
    replace j25:=Pers.pers hsh.le j25
    rw [← j7] at jn
    replace j7:=jn
    replace hgq:=hgq.hand hsh y7.wr
    rw [← hsh.w]
    clear hsh
    obtain ⟨q,hqq⟩ : ∃ q,q = q2:=⟨q2,rfl⟩
    subst hqq
    exact tail_done (k:=q) (w7 _ _ ⟨F2,⟨hgq,hsb,hdb⟩,j1,j2,y2,qb3,j3,j4,y4,z4,j7,j23,j24,j25,w2_4,trivial⟩)
   rintro a k ⟨F2,⟨hg,hs,hd⟩,i1,i2,n2,q3,i3,i4,n4,c4,i7,i23,i24,i25,d2_4,_⟩
   refine wp_seq ?_
   obtain ⟨x9,hx9,hr⟩:=bind_some hr
   obtain ⟨x10,hx10,hr⟩:=bind_some hr
   refine cut (fun a' k'=>∃ F2,Bs FB k0 43 a' k'∧(IsV rights_) (a'.get 1) k'∧(BoxH bw [how_59] [how_59] s1.1) F2 (a'.get 2) k'∧Wr FB k0 F2∧a'.get 3 = v3∧(IsRef (RawV.mk (WalkV 42 bw v3))) (a'.get 3) k'∧a'.get 4 = .pointer (some ⟨b4,0,none⟩)∧Lo k0 (Eq b4)∧Gb.Box b4 x10 k'∧(IsV x6) (a'.get 23) k'∧(IsL x6) (a'.get 24) k'∧(IsV s1.2.1) (a'.get 25) k'∧Apart F2 (Eq b4)∧True) ?_ hQ ?_
   ·intro Q9 W9 w8
    refine region (m:=8) (_::_::_::_::_::_::_::_::[]) hmix hs (by kernel_rfl) ⟨o1 [(4,none)] rfl fun _ _ h n=>ok_load rfl ty37 ⟨_,(upE i4 n.1),(c4.grow h).at⟩,mu rfl i1,o1 [(30,some 1)] rfl fun _ _ h n=>ok_indexAddr rfl Tryz.underlying38 ty43 (IsV.rd n.1) (cI rfl) hx9,o1 [(31,some 2)] rfl fun _ _ h n=>ok_fieldAddr rfl fo43_2 (at_Right_2 _) n.1,o1 [(32,some 3)] rfl fun _ _ h n=>ok_fieldAddr rfl fo41_0 (at_Drawing_0 _) n.1,o1 [(33,some 4)] rfl fun _ _ h n=>ok_load rfl ty3 n.1,o1 [(7,none)] rfl fun _ _ h n=>ok_load rfl ty46 ((up i7 h n.1)).ptr,o1 [(29,some 0),(34,some 5),(35,some 6)] rfl fun _ _ h n=>ok_call rfl Tryz.call15 (vested_After_ok n.1 n.2.1 n.2.2.1 hx10),trivial⟩ W9 fun b q p=>?_
    have hgq:=hg.then p.grow
    have hsb:=p.size.trans hs
    have hdb:=p.defers.trans hd
    have j1:=p.ke 1 rfl i1
    have j2:(BoxH bw [how_59] [how_59] s1.1) F2 (b.get 2) q:=p.ke 2 rfl i2
    have y2:=n2
    have j3:=p.ke 3 rfl i3
    have j4:=upE i4 (p.old 4 rfl)
    have z4:=Gb.Box.grow c4 p.grow
    have y4:=n4
    have j23:=p.ke 23 rfl i23
    have j24:=p.ke 24 rfl i24
    have j25:=p.ke 25 rfl i25
    have j36:(IsV x10) (b.get 36) q:=p.ou 7 36 rfl
    have qb3:=(p.old 3 rfl).trans q3
    have w2_4:Apart F2 (Eq b4):=by exact d2_4
    have hns:=z4.nshF
    refine tail_storeB (i:=8) rfl rfl rfl rfl szf37 (Upd.self (α:=Town)) j4 z4 j36 fun q2 hch hz=>?_
    replace hgq:=hgq.step hch y4.wr
    have hle:=hch.le hns
    replace j1:=Pers.pers hle j1
    replace j2:=Rsc.keep j2 hch w2_4 hns
    replace j3:=Pers.pers hle j3
    replace j23:=Pers.pers hle j23
    replace j24:=Pers.pers hle j24
    replace j25:=Pers.pers hle j25
    replace j36:=Pers.pers hle j36
    replace z4:=hz
    clear hns hle hch
    obtain ⟨q,hqq⟩ : ∃ q,q = q2:=⟨q2,rfl⟩
    subst hqq
    exact tail_done (k:=q) (w8 _ _ ⟨F2,⟨hgq,hsb,hdb⟩,j1,j2,y2,qb3,j3,j4,y4,z4,j23,j24,j25,w2_4,trivial⟩)
   rintro a k ⟨F2,⟨hg,hs,hd⟩,i1,i2,n2,q3,i3,i4,n4,c4,i23,i24,i25,d2_4,_⟩
   obtain ⟨x11,hx11,hr⟩:=bind_some hr
   obtain ⟨x12,hx12,hr⟩:=bind_some hr
   refine cut (fun a' k'=>∃ F2,Bs FB k0 43 a' k'∧(IsV rights_) (a'.get 1) k'∧(BoxH bw [how_59] [how_59] x12) F2 (a'.get 2) k'∧Wr FB k0 F2∧a'.get 3 = v3∧(IsRef (RawV.mk (WalkV 42 bw v3))) (a'.get 3) k'∧a'.get 4 = .pointer (some ⟨b4,0,none⟩)∧Lo k0 (Eq b4)∧Gb.Box b4 x10 k'∧(IsV x6) (a'.get 23) k'∧(IsL x6) (a'.get 24) k'∧(IsV s1.2.1) (a'.get 25) k'∧Apart F2 (Eq b4)∧True) ?_ hQ ?_
   ·intro Q10 W10 w9
    refine region (m:=4) (_::_::_::⟨some (IsV x11),[(39,some 2)]⟩::[]) hmix hs (by kernel_rfl) ⟨o1 [(3,none)] rfl fun _ _ h n=>ok_load rfl tyf103 ((up i3 h n.1)).ptr,o1 [(4,none)] rfl fun _ _ h n=>ok_load rfl ty37 ⟨_,(upE i4 n.1),(c4.grow h).at⟩,mu rfl i1,ob1 rfl fun _ _ h n=>ok_slice_lo rfl Tryz.underlying38 szf43 n.1 (cI rfl) hx11,trivial⟩ W10 fun b q p=>?_
    have hgq:=hg.then p.grow
    have hsb:=p.size.trans hs
    have hdb:=p.defers.trans hd
    have j1:=p.ke 1 rfl i1
    have j2:(BoxH bw [how_59] [how_59] s1.1) F2 (b.get 2) q:=p.ke 2 rfl i2
    have y2:=n2
    have j3:=p.ke 3 rfl i3
    have j4:=upE i4 (p.old 4 rfl)
    have z4:=Gb.Box.grow c4 p.grow
    have y4:=n4
    have j23:=p.ke 23 rfl i23
    have j24:=p.ke 24 rfl i24
    have j25:=p.ke 25 rfl i25
    have j37:(IsV (RawV.mk (WalkV 42 bw v3))) (b.get 37) q:=p.ou 0 37 rfl
    have j38:(IsV x10) (b.get 38) q:=p.ou 1 38 rfl
    have j40:(IsV x11) (b.get 40) q:=p.ou 3 40 rfl
    have qb3:=(p.old 3 rfl).trans q3
    have w2_4:Apart F2 (Eq b4):=by exact d2_4
    have hns:=Rsc.nsh j2
    have ex:=BoxH.ptr j2
    refine tail_callV (F:=F2) (i:=4) (d:=41) rfl rfl rfl rfl (by rw [hsb]; decide) (raw_val j37) Tryz.call42 W10 (hself _ _ _ _ v3 _ _ _ _ _ j38 j40 (BoxH.at j2) (by have h:=j3; rw [qb3] at h; exact h) hx12) fun b2 q2 hsz hdf hoth hch hR=>?_
    have hle:=hch.le hns
    obtain ⟨FF,jn,yf⟩:=hR
    rw [← ex] at jn
    have yn:Wr FB k0 FF:=fun c h=>(yf c h).elim (fun h=>y2 c h) (fun h=>.inr (Nat.le_trans hgq.size h))
    have wn4:Apart FF (Eq b4):=fun c h hu=>(yf c h).elim (fun h=>w2_4 c h hu) (fun h=>Nat.lt_irrefl _ (Nat.lt_of_lt_of_le (z4.ltF c hu) h))
    replace j1:=Pers.pers hle j1
    replace j3:=Pers.pers hle j3
    replace z4:=z4.keep hch ((w2_4.symm) _ rfl) hns
    replace j23:=Pers.pers hle j23
    replace j24:=Pers.pers hle j24
    replace j25:=Pers.pers hle j25
    replace j37:=Pers.pers hle j37
    replace j38:=Pers.pers hle j38
    replace j40:=Pers.pers hle j40
    replace hgq:=hgq.step hch y2
    obtain ⟨F2,hFe⟩ : ∃ F,F = FF:=⟨FF,rfl⟩
    subst hFe
    replace j2:=jn
    replace y2:=yn
    have w2_4:Apart F2 (Eq b4):=wn4
    clear wn4
    replace qb3:=(hoth 3 (by decide)).trans qb3
    rw [← hoth 1 (by decide)] at j1
    rw [← hoth 2 (by decide)] at j2
    rw [← hoth 3 (by decide)] at j3
    rw [← hoth 4 (by decide)] at j4
    rw [← hoth 23 (by decide)] at j23
    rw [← hoth 24 (by decide)] at j24
    rw [← hoth 25 (by decide)] at j25
    rw [← hoth 37 (by decide)] at j37
    rw [← hoth 38 (by decide)] at j38
    rw [← hoth 40 (by decide)] at j40
    replace hsb:=hsz.trans hsb
    replace hdb:=hdf.trans hdb
    clear hle hch hns hsz hdf hoth ex yf yn jn
    obtain ⟨b,hbb⟩ : ∃ b,b = b2:=⟨b2,rfl⟩
    subst hbb
    obtain ⟨q,hqq⟩ : ∃ q,q = q2:=⟨q2,rfl⟩
    subst hqq
    exact tail_done (k:=q) (w9 _ _ ⟨F2,⟨hgq,hsb,hdb⟩,j1,j2,y2,qb3,j3,j4,y4,z4,j23,j24,j25,w2_4,trivial⟩)
   rintro a k ⟨F2,⟨hg,hs,hd⟩,i1,i2,n2,q3,i3,i4,n4,c4,i23,i24,i25,d2_4,_⟩
   obtain ⟨x13,hx13,hr⟩:=bind_some hr
   refine cut (fun a' k'=>∃ F2,Bs FB k0 43 a' k'∧(IsV rights_) (a'.get 1) k'∧(BoxH bw [how_59] [how_59] x12) F2 (a'.get 2) k'∧Wr FB k0 F2∧a'.get 3 = v3∧(IsRef (RawV.mk (WalkV 42 bw v3))) (a'.get 3) k'∧a'.get 4 = .pointer (some ⟨b4,0,none⟩)∧Lo k0 (Eq b4)∧Gb.Box b4 x10 k'∧(IsV x6) (a'.get 23) k'∧(IsL x6) (a'.get 24) k'∧(IsV x13) (a'.get 25) k'∧Apart F2 (Eq b4)∧True) ?_ hQ ?_
   ·intro Q11 W11 w10
    refine gS 2 (_::_::[]) hs (by kernel_rfl) ⟨o1 [(25,none)] rfl fun _ _ h n=>ok_add rfl (up i25 h n.1) (cI rfl) hx13,cm 0 rfl rfl,trivial⟩ W11 fun b q p=>?_
    exact tail_done (k:=q) (w10 _ _ ⟨F2,Bs.post ⟨hg,hs,hd⟩ p,p.ke 1 rfl i1,p.ke 2 rfl i2,n2,(p.old 3 rfl).trans q3,p.ke 3 rfl i3,upE i4 (p.old 4 rfl),n4,Gb.Box.grow c4 p.grow,p.ke 23 rfl i23,p.ke 24 rfl i24,p.ou 1 25 rfl,d2_4,trivial⟩)
   rintro a k ⟨F2,⟨hg,hs,hd⟩,i1,i2,n2,q3,i3,i4,n4,c4,i23,i24,i25,d2_4,_⟩
   exact hgo2402 _ _ _ (Option.some.inj hr).symm ⟨F2,⟨hg,hs,hd⟩,i1,i2,n2,q3,i3,i4,n4,c4,i23,i24,i25,d2_4,trivial⟩
  rw [if_neg (by rw [hc2418]; decide)] at hr
  refine wp_exit ?_
  exact hex2403 _ _ _ _ (Option.some.inj hr).symm ⟨rfl,F2,⟨hg,hs,hd⟩,i2,n2,trivial⟩
 ·rintro r1 a k rfl hR
  dsimp only at hr
  obtain rfl:=Option.some.inj hr
  exact hR
 ·rintro _ _ _ rfl _
  simp at hr
 clear hf1
 rintro _ s2 a k rfl ⟨rfl,F2,⟨hg,hs,hd⟩,i2,n2,_⟩
 dsimp only at hr
 obtain rfl:=Option.some.inj hr
 exact retW rfl hd hg i2 n2
theorem vested_States_1_n_ok : ∀ n,WalkSpec Tryz.prog 42 how_59 (vested_States_1_n n)
 | 0=>by intro _ _ _ _ _ _ _ _ _ _ _ _ _ _ hr; exact nomatch hr
 | n + 1=>vested_States_1_ok (vested_States_1_n_ok n)
def vested_States_L0 (rights_:(List Right)) (s1:Int × Int):Option (Flow (Int × Int) ((List Town) × Int)):=
 if (decide (s1.2 < (rights_.length:Int))) then
  (getI rights_ s1.2).bind fun x1=>
  (option_Left x1).bind fun x2=>
  (addI (x2.length:Int) 1).bind fun x3=>
  (mulI s1.1 x3).bind fun x4=>
  if (decide (1024 < x4)) then
   some (.ret (([]:List Town),6))
  else
   (addI s1.2 1).bind fun x5=>
   some (.go (x4,x5))
 else
  some (.ex 0 (s1.1,s1.2))
def vested_States (t_:Town) (rights_:(List Right)):Option ((List Town) × Int):=
 (iterL (vested_States_L0 rights_) (rights_.length + 1) (1,0)).bind fun f1=>match f1 with
  | .go _=>none
  | .ex _ _=>
   (slices_Clone_Placed t_.Built).bind fun x1=>
   (slices_Clone_Entry t_.Base).bind fun x2=>
   (vested_States_1_n (rights_.length + 1) ({ { t_ with Built:=x1 } with Base:=x2 }) rights_ ([]:(List Town))).bind fun x3=>
   some (x3,0)
  | .ret r1=>some r1
theorem vested_States_ok {k0:K} {v0 v1:Value} {t_:Town} {rights_:(List Right)} {r:(List Town) × Int} (i0:(IsV t_) v0 k0) (i1:(IsV rights_) v1 k0) (hr:vested_States t_ rights_ = some r) :
  Calls Tryz.prog 23 #[v0,v1] k0.w (Ret k0 (IsTup2 (IsV r.1) (IsV r.2))):=by
 unfold vested_States at hr
 refine Ret.ofC ?_
 refine enterK Tryz.func23 rfl Tryz.ntmps23 (show 2 ≤ 40 by decide) fun a k hk0 hs hd ha=>?_
 obtain ⟨e0,e1,_⟩:=ha
 replace i0:(IsV t_) (a.get 0) k:=by rw [e0,hk0]; exact i0
 replace i1:(IsV rights_) (a.get 1) k:=by rw [e1,hk0]; exact i1
 have hQ:Gb.LetsOut (bodyPost Tryz.prog Tryz.f23 (RetC noF k0 (IsTup2 (IsV r.1) (IsV r.2)))):=letsOutC
 have hg:Chg noF k0 k:=by rw [hk0]; exact Chg.refl _ k0
 refine cutS (fun c l=>Bs noF k0 40 c l∧IsV rights_ (c.get 1) l∧(∃ b2,c.get 2 = .pointer (some ⟨b2,0,none⟩)∧Lo k0 (Eq b2)∧Gb.Box b2 t_ l∧True)) ?_ ?_
 ·intro Q1 W1 w1
  refine gS 3 (⟨some (IsBox k.w.heap.size t_),[(0,none)]⟩::⟨some IsE0,[]⟩::⟨some (IsI 0),[]⟩::[]) hs (by kernel_rfl) ⟨ob1 rfl fun _ _ h n=>ok_box _ h.size rfl (up i0 h n.1),ob1 rfl fun b q h n=>ok_assign rfl isE0_nil,aI rfl rfl,trivial⟩ W1 fun b q p=>?_
  have hgq:=hg.then p.grow
  have hsb:=p.size.trans hs
  have hdb:=p.defers.trans hd
  have j1:=p.ke 1 rfl i1
  obtain ⟨b2,j2,x2,z2⟩:(IsBox k.w.heap.size t_) (b.get 2) q:=p.ou 0 2 rfl
  replace x2:Lo k (Eq b2):=Lo.eq x2
  have y2:Lo k0 (Eq b2):=x2.chg hg
  exact tail_done (k:=q) (w1 _ _ ⟨⟨hgq,hsb,hdb⟩,j1,b2,j2,y2,z2,trivial⟩)
 rintro a k ⟨⟨hg,hs,hd⟩,i1,b2,i2,n2,c2,_⟩
 refine cutS (fun c l=>Bs noF k0 40 c l∧IsV rights_ (c.get 1) l∧c.get 2 = .pointer (some ⟨b2,0,none⟩)∧Lo k0 (Eq b2)∧Gb.Box b2 t_ l∧IsI 1 (c.get 6) l∧True) ?_ ?_
 ·intro Q2 W2 w2
  refine gS 1 (⟨some (IsI 1),[]⟩::[]) hs (by kernel_rfl) ⟨aI rfl rfl,trivial⟩ W2 fun b q p=>?_
  exact tail_done (k:=q) (w2 _ _ ⟨Bs.post ⟨hg,hs,hd⟩ p,p.ke 1 rfl i1,upE i2 (p.old 2 rfl),n2,Gb.Box.grow c2 p.grow,p.ou 0 6 rfl,trivial⟩)
 rintro a k ⟨⟨hg,hs,hd⟩,i1,i2,n2,c2,i6,_⟩
 refine wp_seq ?_
 refine cutS (fun c l=>Bs noF k0 40 c l∧IsV rights_ (c.get 1) l∧c.get 2 = .pointer (some ⟨b2,0,none⟩)∧Lo k0 (Eq b2)∧Gb.Box b2 t_ l∧IsI 1 (c.get 6) l∧IsV rights_ (c.get 11) l∧IsL rights_ (c.get 12) l∧IsI 0 (c.get 13) l∧True) ?_ ?_
 ·intro Q3 W3 w3
  refine gS 3 (_::_::⟨some (IsI 0),[]⟩::[]) hs (by kernel_rfl) ⟨mu rfl i1,o1 [(11,some 0)] rfl fun _ _ h n=>ok_len rfl rfl Tryz.underlying38 (IsV.rd n.1),ob1 rfl fun _ _ h n=>ok_move rfl (cI rfl),trivial⟩ W3 fun b q p=>?_
  exact tail_done (k:=q) (w3 _ _ ⟨Bs.post ⟨hg,hs,hd⟩ p,p.ke 1 rfl i1,upE i2 (p.old 2 rfl),n2,Gb.Box.grow c2 p.grow,p.ke 6 rfl i6,p.ou 0 11 rfl,p.ou 1 12 rfl,p.ou 2 13 rfl,trivial⟩)
 rintro a k ⟨⟨hg,hs,hd⟩,i1,i2,n2,c2,i6,i11,i12,i13,_⟩
 refine wp_block ?_
 obtain ⟨f1,hf1,hr⟩:=bind_some hr
 refine cutFe f1 (fun s' c l=>Bs noF k0 40 c l∧IsV rights_ (c.get 1) l∧c.get 2 = .pointer (some ⟨b2,0,none⟩)∧Lo k0 (Eq b2)∧Gb.Box b2 t_ l∧IsV s'.1 (c.get 6) l∧IsV rights_ (c.get 11) l∧IsL rights_ (c.get 12) l∧IsV s'.2 (c.get 13) l∧True) (fun i' s' c l=>(i' = 0∧Bs noF k0 40 c l∧IsV rights_ (c.get 1) l∧c.get 2 = .pointer (some ⟨b2,0,none⟩)∧Lo k0 (Eq b2)∧Gb.Box b2 t_ l∧True)) (fun r' c l=>bodyPost Tryz.prog Tryz.f23 (RetC noF k0 (IsTup2 (IsV r'.1) (IsV r'.2))) .ret c l.w) ?_ hQ ?_ ?_ ?_
 ·intro Q4 W4 hgo hex hret
  refine sim_loop ?_ _ _ _ _ _ hf1 ⟨⟨hg,hs,hd⟩,i1,i2,n2,c2,i6,i11,i12,i13,trivial⟩ Q4 W4 hgo hex hret
  clear hr hf1 hgo hex hret W4 hQ hg hs hd c2 i1 i11 i12 i13 i2 i6 n2
  intro s1 fl_ a k hr hS Q hQ hgo2366 hex2367 hret2368
  obtain ⟨⟨hg,hs,hd⟩,i1,i2,n2,c2,i6,i11,i12,i13,_⟩:=hS
  unfold vested_States_L0 at hr
  refine cutS (fun c l=>Bs noF k0 40 c l∧IsV rights_ (c.get 1) l∧c.get 2 = .pointer (some ⟨b2,0,none⟩)∧Lo k0 (Eq b2)∧Gb.Box b2 t_ l∧IsV s1.1 (c.get 6) l∧IsV rights_ (c.get 11) l∧IsL rights_ (c.get 12) l∧IsV s1.2 (c.get 13) l∧(IsV (decide (s1.2 < (rights_.length:Int)))) (c.get 14) l∧True) ?_ ?_
  ·intro Q5 W5 w4
   refine gS 1 (_::[]) hs (by kernel_rfl) ⟨o1 [(13,none),(12,none)] rfl fun _ _ h n=>ok_lss rfl (up i13 h n.1) (up i12 h n.2.1),trivial⟩ W5 fun b q p=>?_
   exact tail_done (k:=q) (w4 _ _ ⟨Bs.post ⟨hg,hs,hd⟩ p,p.ke 1 rfl i1,upE i2 (p.old 2 rfl),n2,Gb.Box.grow c2 p.grow,p.ke 6 rfl i6,p.ke 11 rfl i11,p.ke 12 rfl i12,p.ke 13 rfl i13,p.ou 0 14 rfl,trivial⟩)
  rintro a k ⟨⟨hg,hs,hd⟩,i1,i2,n2,c2,i6,i11,i12,i13,i14,_⟩
  refine wp_seq ?_
  refine wp_cond_split (isBool i14) (fun hc2386=>?_) (fun hc2386=>?_)
  ·rw [if_pos hc2386] at hr
   refine wp_skip ?_
   refine wp_seq ?_
   refine wp_block ?_
   refine wp_seq ?_
   obtain ⟨x1,hx1,hr⟩:=bind_some hr
   refine cut (fun a' k'=>Bs noF k0 40 a' k'∧(IsV rights_) (a'.get 1) k'∧a'.get 2 = .pointer (some ⟨b2,0,none⟩)∧Lo k0 (Eq b2)∧Gb.Box b2 t_ k'∧(IsV s1.1) (a'.get 6) k'∧(IsRef x1) (a'.get 8) k'∧(IsV rights_) (a'.get 11) k'∧(IsL rights_) (a'.get 12) k'∧(IsV s1.2) (a'.get 13) k'∧True) ?_ hQ ?_
   ·intro Q6 W6 w5
    refine gS 3 (_::_::⟨some (IsBox k.w.heap.size (⟨0,0,(⟨0,[]⟩:Drawing),0,0,false⟩:Right)),[]⟩::[]) hs (by kernel_rfl) ⟨o1 [(11,none),(13,none)] rfl fun _ _ h n=>ok_indexAddr rfl Tryz.underlying38 ty43 (IsV.rd (up i11 h n.1)) (up i13 h n.2.1) hx1,o1 [(15,some 0)] rfl fun _ _ h n=>ok_load rfl ty43 n.1,ob1 rfl fun _ _ h n=>ok_alloc _ h.size rfl z43,trivial⟩ W6 fun b q p=>?_
    have hgq:=hg.then p.grow
    have hsb:=p.size.trans hs
    have hdb:=p.defers.trans hd
    have j1:=p.ke 1 rfl i1
    have j2:=upE i2 (p.old 2 rfl)
    have z2:=Gb.Box.grow c2 p.grow
    have y2:=n2
    have j6:=p.ke 6 rfl i6
    obtain ⟨b8,j8,x8,z8⟩:(IsBox k.w.heap.size (⟨0,0,(⟨0,[]⟩:Drawing),0,0,false⟩:Right)) (b.get 8) q:=p.ou 2 8 rfl
    replace x8:Lo k (Eq b8):=Lo.eq x8
    have y8:Lo k0 (Eq b8):=x8.chg hg
    have j11:=p.ke 11 rfl i11
    have j12:=p.ke 12 rfl i12
    have j13:=p.ke 13 rfl i13
    have j16:(IsV x1) (b.get 16) q:=p.ou 1 16 rfl
    have w2_8:Apart (Eq b2) (Eq b8):=Apart.new c2.ltF x8
    have hns:=z8.nshF
    refine tail_storeB (i:=3) rfl rfl rfl rfl szf43 (Upd.self (α:=Right)) j8 z8 j16 fun q2 hch hz=>?_
    replace hgq:=hgq.step hch y8.wr
    have hle:=hch.le hns
    replace j1:=Pers.pers hle j1
    replace z2:=z2.keep hch (w2_8 _ rfl) hns
    replace j6:=Pers.pers hle j6
    replace j11:=Pers.pers hle j11
    replace j12:=Pers.pers hle j12
    replace j13:=Pers.pers hle j13
    replace j16:=Pers.pers hle j16
    replace z8:=hz
    clear hns hle hch
    obtain ⟨q,hqq⟩ : ∃ q,q = q2:=⟨q2,rfl⟩
    subst hqq
    obtain ⟨q2,hsh,jn⟩:=z8.give
    replace j1:=Pers.pers hsh.le j1
    replace z2:=z2.handed hsh (w2_8 _ rfl)
    replace j6:=Pers.pers hsh.le j6
    replace j11:=Pers.pers hsh.le j11
    replace j12:=Pers.pers hsh.le j12
    replace j13:=Pers.pers hsh.le j13
    rw [← j8] at jn
    replace j8:=jn
    replace hgq:=hgq.hand hsh y8.wr
    rw [← hsh.w]
    clear hsh
    obtain ⟨q,hqq⟩ : ∃ q,q = q2:=⟨q2,rfl⟩
    subst hqq
    exact tail_done (k:=q) (w5 _ _ ⟨⟨hgq,hsb,hdb⟩,j1,j2,y2,z2,j6,j8,j11,j12,j13,trivial⟩)
   rintro a k ⟨⟨hg,hs,hd⟩,i1,i2,n2,c2,i6,i8,i11,i12,i13,_⟩
   refine wp_seq ?_
   obtain ⟨x3,hx3,hr⟩:=bind_some hr
   obtain ⟨x4,hx4,hr⟩:=bind_some hr
   obtain ⟨x5,hx5,hr⟩:=bind_some hr
   refine cut (fun a' k'=>Bs noF k0 40 a' k'∧(IsV rights_) (a'.get 1) k'∧a'.get 2 = .pointer (some ⟨b2,0,none⟩)∧Lo k0 (Eq b2)∧Gb.Box b2 t_ k'∧(IsV x5) (a'.get 6) k'∧(IsV rights_) (a'.get 11) k'∧(IsL rights_) (a'.get 12) k'∧(IsV s1.2) (a'.get 13) k'∧True) ?_ hQ ?_
   ·intro Q7 W7 w6
    refine gS 7 (_::_::_::_::_::_::_::[]) hs (by kernel_rfl) ⟨mu rfl i6,o1 [(8,none)] rfl fun _ _ h n=>ok_load rfl ty43 ((up i8 h n.1)).ptr,o1 [(18,some 1)] rfl fun _ _ h n=>ok_call rfl Tryz.call27 (option_Left_ok n.1 hx3),o1 [(19,some 2)] rfl fun _ _ h n=>ok_len rfl rfl Tryz.underlying39 (IsV.rd n.1),o1 [(20,some 3)] rfl fun _ _ h n=>ok_add rfl n.1 (cI rfl) hx4,o1 [(17,some 0),(21,some 4)] rfl fun _ _ h n=>ok_mul rfl n.1 n.2.1 hx5,cp 5 rfl rfl,trivial⟩ W7 fun b q p=>?_
    exact tail_done (k:=q) (w6 _ _ ⟨Bs.post ⟨hg,hs,hd⟩ p,p.ke 1 rfl i1,upE i2 (p.old 2 rfl),n2,Gb.Box.grow c2 p.grow,p.ou 6 6 rfl,p.ke 11 rfl i11,p.ke 12 rfl i12,p.ke 13 rfl i13,trivial⟩)
   rintro a k ⟨⟨hg,hs,hd⟩,i1,i2,n2,c2,i6,i11,i12,i13,_⟩
   refine cutS (fun c l=>Bs noF k0 40 c l∧IsV rights_ (c.get 1) l∧c.get 2 = .pointer (some ⟨b2,0,none⟩)∧Lo k0 (Eq b2)∧Gb.Box b2 t_ l∧IsV x5 (c.get 6) l∧IsV rights_ (c.get 11) l∧IsL rights_ (c.get 12) l∧IsV s1.2 (c.get 13) l∧IsV (decide (1024 < x5)) (c.get 24) l∧True) ?_ ?_
   ·intro Q8 W8 w7
    refine gS 2 (_::_::[]) hs (by kernel_rfl) ⟨mu rfl i6,o1 [(23,some 0)] rfl fun _ _ h n=>ok_gtr rfl n.1 (cI rfl),trivial⟩ W8 fun b q p=>?_
    exact tail_done (k:=q) (w7 _ _ ⟨Bs.post ⟨hg,hs,hd⟩ p,p.ke 1 rfl i1,upE i2 (p.old 2 rfl),n2,Gb.Box.grow c2 p.grow,p.ke 6 rfl i6,p.ke 11 rfl i11,p.ke 12 rfl i12,p.ke 13 rfl i13,p.ou 1 24 rfl,trivial⟩)
   rintro a k ⟨⟨hg,hs,hd⟩,i1,i2,n2,c2,i6,i11,i12,i13,i24,_⟩
   refine wp_cond_split (isBool i24) (fun hc2379=>?_) (fun hc2379=>?_)
   ·rw [if_pos hc2379] at hr
    refine cutL noF k0 40 [⟨4,IsV ([]:List Town)⟩,⟨5,IsI 6⟩] ?_ ?_
    ·intro Q9 W9 w8
     refine gS 2 (⟨some IsE0,[]⟩::⟨some (IsI 6),[]⟩::[]) hs (by kernel_rfl) ⟨ob1 rfl fun b q h n=>ok_assign rfl isE0_nil,aI rfl rfl,trivial⟩ W9 fun b q p=>?_
     have hgq:=hg.then p.grow
     have hsb:=p.size.trans hs
     have hdb:=p.defers.trans hd
     have j4:IsE0 (b.get 4) q:=p.ou 0 4 rfl
     have j5:(IsI 6) (b.get 5) q:=p.ou 1 5 rfl
     replace j4:IsV ([]:List Town) (b.get 4) q:=j4.isV
     exact tail_done (k:=q) (w8 _ _ ⟨⟨hgq,hsb,hdb⟩,j4,j5,trivial⟩)
    rintro a k ⟨⟨hg,hs,hd⟩,i4,i5,_⟩
    refine wp_ret ?_
    exact hret2368 _ _ _ (Option.some.inj hr).symm (retC2 rfl hd hg i4 i5)
   rw [if_neg (by rw [hc2379]; decide)] at hr
   refine wp_skip ?_
   obtain ⟨x6,hx6,hr⟩:=bind_some hr
   refine cut (fun a' k'=>Bs noF k0 40 a' k'∧(IsV rights_) (a'.get 1) k'∧a'.get 2 = .pointer (some ⟨b2,0,none⟩)∧Lo k0 (Eq b2)∧Gb.Box b2 t_ k'∧(IsV x5) (a'.get 6) k'∧(IsV rights_) (a'.get 11) k'∧(IsL rights_) (a'.get 12) k'∧(IsV x6) (a'.get 13) k'∧True) ?_ hQ ?_
   ·intro Q10 W10 w9
    refine gS 2 (_::_::[]) hs (by kernel_rfl) ⟨o1 [(13,none)] rfl fun _ _ h n=>ok_add rfl (up i13 h n.1) (cI rfl) hx6,cm 0 rfl rfl,trivial⟩ W10 fun b q p=>?_
    exact tail_done (k:=q) (w9 _ _ ⟨Bs.post ⟨hg,hs,hd⟩ p,p.ke 1 rfl i1,upE i2 (p.old 2 rfl),n2,Gb.Box.grow c2 p.grow,p.ke 6 rfl i6,p.ke 11 rfl i11,p.ke 12 rfl i12,p.ou 1 13 rfl,trivial⟩)
   rintro a k ⟨⟨hg,hs,hd⟩,i1,i2,n2,c2,i6,i11,i12,i13,_⟩
   exact hgo2366 _ _ _ (Option.some.inj hr).symm ⟨⟨hg,hs,hd⟩,i1,i2,n2,c2,i6,i11,i12,i13,trivial⟩
  rw [if_neg (by rw [hc2386]; decide)] at hr
  refine wp_exit ?_
  exact hex2367 _ _ _ _ (Option.some.inj hr).symm ⟨rfl,⟨hg,hs,hd⟩,i1,i2,n2,c2,trivial⟩
 ·rintro r1 a k rfl hR
  dsimp only at hr
  obtain rfl:=Option.some.inj hr
  exact hR
 ·rintro _ _ _ rfl _
  simp at hr
 clear hf1
 rintro _ s2 a k rfl ⟨rfl,⟨hg,hs,hd⟩,i1,i2,n2,c2,_⟩
 dsimp only at hr
 refine cutS (fun c l=>Bs noF k0 40 c l∧IsV rights_ (c.get 1) l∧c.get 2 = .pointer (some ⟨b2,0,none⟩)∧Lo k0 (Eq b2)∧Gb.Box b2 t_ l∧(∃ b9 F9,(BoxH b9 [how_59] [how_59] ([]:(List Town))) F9 (c.get 9) l∧Lo k0 F9∧Apart (Eq b2) F9∧True)) ?_ ?_
 ·intro Q11 W11 w10
  refine gS 1 (⟨some (IsBoxNil Town k.w.heap.size),[]⟩::[]) hs (by kernel_rfl) ⟨ob1 rfl fun _ _ h n=>ok_allocNil _ h.size rfl Tryz.zeroValue59,trivial⟩ W11 fun b q p=>?_
  have hgq:=hg.then p.grow
  have hsb:=p.size.trans hs
  have hdb:=p.defers.trans hd
  have j1:=p.ke 1 rfl i1
  have j2:=upE i2 (p.old 2 rfl)
  have z2:=Gb.Box.grow c2 p.grow
  have y2:=n2
  obtain ⟨b9,j9,x9,z9,hnil⟩:(IsBoxNil Town k.w.heap.size) (b.get 9) q:=p.ou 0 9 rfl
  replace x9:Lo k (Eq b9):=Lo.eq x9
  have y9:Lo k0 (Eq b9):=x9.chg hg
  have w2_9:Apart (Eq b2) (Eq b9):=Apart.new c2.ltF x9
  obtain ⟨F9,jn,hFe⟩ : ∃ F,BoxH b9 [how_59] [] ([]:(List Town)) F (b.get 9) q∧F = Eq b9:=⟨_,Box.open z9 hu__59 j9,rfl⟩
  replace j9:=jn
  replace y9:Lo k0 F9:=by rw [hFe]; exact y9
  replace w2_9:Apart (Eq b2) F9:=by rw [hFe]; exact w2_9
  clear jn hFe z9
  replace j9:=BoxH.wake (g:=how_59) j9 hnil rfl
  clear hnil
  exact tail_done (k:=q) (w10 _ _ ⟨⟨hgq,hsb,hdb⟩,j1,j2,y2,z2,b9,F9,j9,y9,w2_9,trivial⟩)
 rintro a k ⟨⟨hg,hs,hd⟩,i1,i2,n2,c2,b9,F9,i9,n9,d2_9,_⟩
 refine cutS (fun c l=>∃ F9,Bs noF k0 40 c l∧IsV rights_ (c.get 1) l∧c.get 2 = .pointer (some ⟨b2,0,none⟩)∧Lo k0 (Eq b2)∧Gb.Box b2 t_ l∧(BoxH b9 [how_59] [how_59] ([]:(List Town))) F9 (c.get 9) l∧Lo k0 F9∧Apart (Eq b2) F9∧(∃ b10,c.get 10 = .pointer (some ⟨b10,0,none⟩)∧Lo k0 (Eq b10)∧Gb.Box b10 (RawV.mk .nilFunc) l∧Apart (Eq b2) (Eq b10)∧Apart F9 (Eq b10)∧True)) ?_ ?_
 ·intro Q12 W12 w11
  refine gS 1 (⟨some (IsBox k.w.heap.size (RawV.mk .nilFunc)),[]⟩::[]) hs (by kernel_rfl) ⟨ob1 rfl fun _ _ h n=>ok_alloc _ h.size rfl ⟨_,Tryz.zeroValue103,fun _=>raw_self rfl⟩,trivial⟩ W12 fun b q p=>?_
  have hgq:=hg.then p.grow
  have hsb:=p.size.trans hs
  have hdb:=p.defers.trans hd
  have j1:=p.ke 1 rfl i1
  have j2:=upE i2 (p.old 2 rfl)
  have z2:=Gb.Box.grow c2 p.grow
  have y2:=n2
  have j9:(BoxH b9 [how_59] [how_59] ([]:(List Town))) F9 (b.get 9) q:=p.ke 9 rfl i9
  have y9:=n9
  obtain ⟨b10,j10,x10,z10⟩:(IsBox k.w.heap.size (RawV.mk .nilFunc)) (b.get 10) q:=p.ou 0 10 rfl
  replace x10:Lo k (Eq b10):=Lo.eq x10
  have y10:Lo k0 (Eq b10):=x10.chg hg
  have w2_9:Apart (Eq b2) F9:=by exact d2_9
  have w2_10:Apart (Eq b2) (Eq b10):=Apart.new c2.ltF x10
  have w9_10:Apart F9 (Eq b10):=Apart.new (Rsc.lt i9) x10
  exact tail_done (k:=q) (w11 _ _ ⟨F9,⟨hgq,hsb,hdb⟩,j1,j2,y2,z2,j9,y9,w2_9,b10,j10,y10,z10,w2_10,w9_10,trivial⟩)
 rintro a k ⟨F9,⟨hg,hs,hd⟩,i1,i2,n2,c2,i9,n9,d2_9,b10,i10,n10,c10,d2_10,d9_10,_⟩
 refine cutS (fun c l=>∃ F9,Bs noF k0 40 c l∧IsV rights_ (c.get 1) l∧c.get 2 = .pointer (some ⟨b2,0,none⟩)∧Lo k0 (Eq b2)∧Gb.Box b2 t_ l∧(BoxH b9 [how_59] [how_59] ([]:(List Town))) F9 (c.get 9) l∧Lo k0 F9∧c.get 10 = .pointer (some ⟨b10,0,none⟩)∧Lo k0 (Eq b10)∧Gb.Box b10 (RawV.mk (WalkV 42 b9 (.pointer (some ⟨b10,0,none⟩)))) l∧Apart (Eq b2) F9∧Apart (Eq b2) (Eq b10)∧Apart F9 (Eq b10)∧True) ?_ ?_
 ·intro Q13 W13 w12
  refine gS 1 (⟨some (IsV (RawV.mk (WalkV 42 b9 (.pointer (some ⟨b10,0,none⟩))))),[(9,none),(10,none)]⟩::[]) hs (by kernel_rfl) ⟨ob1 rfl fun _ _ h n=>ok_makeWalk rfl (upE (BoxH.ptr i9) n.1) (upE i10 n.2.1),trivial⟩ W13 fun b q p=>?_
  have hgq:=hg.then p.grow
  have hsb:=p.size.trans hs
  have hdb:=p.defers.trans hd
  have j1:=p.ke 1 rfl i1
  have j2:=upE i2 (p.old 2 rfl)
  have z2:=Gb.Box.grow c2 p.grow
  have y2:=n2
  have j9:(BoxH b9 [how_59] [how_59] ([]:(List Town))) F9 (b.get 9) q:=p.ke 9 rfl i9
  have y9:=n9
  have j10:=upE i10 (p.old 10 rfl)
  have z10:=Gb.Box.grow c10 p.grow
  have y10:=n10
  have j26:(IsV (RawV.mk (WalkV 42 b9 (.pointer (some ⟨b10,0,none⟩))))) (b.get 26) q:=p.ou 0 26 rfl
  have w2_9:Apart (Eq b2) F9:=by exact d2_9
  have w2_10:Apart (Eq b2) (Eq b10):=by exact d2_10
  have w9_10:Apart F9 (Eq b10):=by exact d9_10
  have hns:=z10.nshF
  refine tail_storeB (i:=1) rfl rfl rfl rfl szr103 (Upd.self (α:=RawV)) j10 z10 j26 fun q2 hch hz=>?_
  replace hgq:=hgq.step hch y10.wr
  have hle:=hch.le hns
  replace j1:=Pers.pers hle j1
  replace z2:=z2.keep hch (w2_10 _ rfl) hns
  replace j9:=Rsc.keep j9 hch w9_10 hns
  replace j26:=Pers.pers hle j26
  replace z10:=hz
  clear hns hle hch
  obtain ⟨q,hqq⟩ : ∃ q,q = q2:=⟨q2,rfl⟩
  subst hqq
  exact tail_done (k:=q) (w12 _ _ ⟨F9,⟨hgq,hsb,hdb⟩,j1,j2,y2,z2,j9,y9,j10,y10,z10,w2_9,w2_10,w9_10,trivial⟩)
 rintro a k ⟨F9,⟨hg,hs,hd⟩,i1,i2,n2,c2,i9,n9,i10,n10,c10,d2_9,d2_10,d9_10,_⟩
 refine wp_seq ?_
 obtain ⟨x7,hx7,hr⟩:=bind_some hr
 obtain ⟨x11,hx11,hr⟩:=bind_some hr
 refine cut (fun a' k'=>∃ F9,Bs noF k0 40 a' k'∧(IsV rights_) (a'.get 1) k'∧a'.get 2 = .pointer (some ⟨b2,0,none⟩)∧Lo k0 (Eq b2)∧Gb.Box b2 ({ { t_ with Built:=x7 } with Base:=x11 }) k'∧(BoxH b9 [how_59] [how_59] ([]:(List Town))) F9 (a'.get 9) k'∧Lo k0 F9∧a'.get 10 = .pointer (some ⟨b10,0,none⟩)∧Lo k0 (Eq b10)∧Gb.Box b10 (RawV.mk (WalkV 42 b9 (.pointer (some ⟨b10,0,none⟩)))) k'∧Apart (Eq b2) F9∧Apart (Eq b2) (Eq b10)∧Apart F9 (Eq b10)∧True) ?_ hQ ?_
 ·intro Q14 W14 w13
  refine region (m:=7) (_::_::_::_::_::_::_::[]) hmix hs (by kernel_rfl) ⟨o1 [(2,none)] rfl fun _ _ h n=>ok_fieldAddr rfl fo37_4 (at_Town_4 _) ⟨_,(upE i2 n.1),(c2.grow h).at⟩,o1 [(27,some 0)] rfl fun _ _ h n=>ok_load rfl ty34 n.1,o1 [(28,some 1)] rfl fun _ _ h n=>ok_call rfl Tryz.call33 (slices_Clone_Placed_ok n.1 hx7),o1 [(2,none)] rfl fun _ _ h n=>ok_fieldAddr rfl fo37_5 (at_Town_5 _) ⟨_,(upE i2 n.1),(c2.grow h).at⟩,o1 [(30,some 3)] rfl fun _ _ h n=>ok_load rfl ty35 n.1,o1 [(31,some 4)] rfl fun _ _ h n=>ok_call rfl Tryz.call34 (slices_Clone_Entry_ok n.1 hx11),o1 [(2,none)] rfl fun _ _ h n=>ok_fieldAdr rfl fo37_4 (upE i2 n.1),trivial⟩ W14 fun b q p=>?_
  have hgq:=hg.then p.grow
  have hsb:=p.size.trans hs
  have hdb:=p.defers.trans hd
  have j1:=p.ke 1 rfl i1
  have j2:=upE i2 (p.old 2 rfl)
  have z2:=Gb.Box.grow c2 p.grow
  have y2:=n2
  have j9:(BoxH b9 [how_59] [how_59] ([]:(List Town))) F9 (b.get 9) q:=p.ke 9 rfl i9
  have y9:=n9
  have j10:=upE i10 (p.old 10 rfl)
  have z10:=Gb.Box.grow c10 p.grow
  have y10:=n10
  have j29:(IsV x7) (b.get 29) q:=p.ou 2 29 rfl
  have j32:(IsV x11) (b.get 32) q:=p.ou 5 32 rfl
  have j33:IsAdr b2 (11) (b.get 33) q:=p.ou 6 33 rfl
  have w2_9:Apart (Eq b2) F9:=by exact d2_9
  have w2_10:Apart (Eq b2) (Eq b10):=by exact d2_10
  have w9_10:Apart F9 (Eq b10):=by exact d9_10
  have hns:=z2.nshF
  refine tail_storeB (i:=7) rfl rfl rfl rfl szf34 upd_F37_4 j33 z2 j29 fun q2 hch hz=>?_
  replace hgq:=hgq.step hch y2.wr
  have hle:=hch.le hns
  replace j1:=Pers.pers hle j1
  replace j9:=Rsc.keep j9 hch (w2_9.symm) hns
  replace z10:=z10.keep hch ((w2_10.symm) _ rfl) hns
  replace j29:=Pers.pers hle j29
  replace j32:=Pers.pers hle j32
  replace j33:=Pers.pers hle j33
  replace z2:=hz
  clear hns hle hch
  obtain ⟨q,hqq⟩ : ∃ q,q = q2:=⟨q2,rfl⟩
  subst hqq
  refine tail_does (R:=IsAdr b2 (12)) (i:=8) (d:=34) rfl rfl rfl (by rw [hsb]; decide) W14 (ok_fieldAdr rfl fo37_5 j2) fun b2 q2 hsz hdf hoth hgr hnew=>?_
  replace j1:=Pers.pers hgr.le j1
  replace z2:=z2.grow hgr
  replace j9:=Rsc.grow j9 hgr
  replace z10:=z10.grow hgr
  replace j29:=Pers.pers hgr.le j29
  replace j32:=Pers.pers hgr.le j32
  replace j33:=Pers.pers hgr.le j33
  replace hgq:=hgq.then hgr
  rw [← hoth 1 (by decide)] at j1
  rw [← hoth 2 (by decide)] at j2
  rw [← hoth 9 (by decide)] at j9
  rw [← hoth 10 (by decide)] at j10
  rw [← hoth 29 (by decide)] at j29
  rw [← hoth 32 (by decide)] at j32
  rw [← hoth 33 (by decide)] at j33
  have j34:=hnew
  replace hsb:=hsz.trans hsb
  replace hdb:=hdf.trans hdb
  clear hgr hsz hdf hoth hnew
  obtain ⟨b,hbb⟩ : ∃ b,b = b2:=⟨b2,rfl⟩
  subst hbb
  obtain ⟨q,hqq⟩ : ∃ q,q = q2:=⟨q2,rfl⟩
  subst hqq
  have hns:=z2.nshF
  refine tail_storeB (i:=9) rfl rfl rfl rfl szf35 upd_F37_5 j34 z2 j32 fun q2 hch hz=>?_
  replace hgq:=hgq.step hch y2.wr
  have hle:=hch.le hns
  replace j1:=Pers.pers hle j1
  replace j9:=Rsc.keep j9 hch (w2_9.symm) hns
  replace z10:=z10.keep hch ((w2_10.symm) _ rfl) hns
  replace j29:=Pers.pers hle j29
  replace j32:=Pers.pers hle j32
  replace j33:=Pers.pers hle j33
  replace j34:=Pers.pers hle j34
  replace z2:=hz
  clear hns hle hch
  obtain ⟨q,hqq⟩ : ∃ q,q = q2:=⟨q2,rfl⟩
  subst hqq
  exact tail_done (k:=q) (w13 _ _ ⟨F9,⟨hgq,hsb,hdb⟩,j1,j2,y2,z2,j9,y9,j10,y10,z10,w2_9,w2_10,w9_10,trivial⟩)
 rintro a k ⟨F9,⟨hg,hs,hd⟩,i1,i2,n2,c2,i9,n9,i10,n10,c10,d2_9,d2_10,d9_10,_⟩
 refine wp_seq ?_
 obtain ⟨x12,hx12,hr⟩:=bind_some hr
 refine cut (fun a' k'=>∃ F9,Bs noF k0 40 a' k'∧(BoxH b9 [how_59] [how_59] x12) F9 (a'.get 9) k'∧Lo k0 F9∧True) ?_ hQ ?_
 ·intro Q15 W15 w14
  refine gS 3 (_::_::_::[]) hs (by kernel_rfl) ⟨o1 [(10,none)] rfl fun _ _ h n=>ok_load rfl tyf103 ⟨_,(upE i10 n.1),(c10.grow h).at⟩,o1 [(2,none)] rfl fun _ _ h n=>ok_load rfl ty37 ⟨_,(upE i2 n.1),(c2.grow h).at⟩,mu rfl i1,trivial⟩ W15 fun b q p=>?_
  have hgq:=hg.then p.grow
  have hsb:=p.size.trans hs
  have hdb:=p.defers.trans hd
  have j9:(BoxH b9 [how_59] [how_59] ([]:(List Town))) F9 (b.get 9) q:=p.ke 9 rfl i9
  have y9:=n9
  have j10:=upE i10 (p.old 10 rfl)
  have z10:=Gb.Box.grow c10 p.grow
  have y10:=n10
  have j35:(IsV (RawV.mk (WalkV 42 b9 (.pointer (some ⟨b10,0,none⟩))))) (b.get 35) q:=p.ou 0 35 rfl
  have j36:(IsV ({ { t_ with Built:=x7 } with Base:=x11 })) (b.get 36) q:=p.ou 1 36 rfl
  have j37:(IsV rights_) (b.get 37) q:=p.ou 2 37 rfl
  have w9_10:Apart F9 (Eq b10):=by exact d9_10
  have er:=j10
  obtain ⟨q2,hsh,jn⟩:=z10.give
  replace j9:=Rsc.handed j9 hsh w9_10
  replace j35:=Pers.pers hsh.le j35
  replace j36:=Pers.pers hsh.le j36
  replace j37:=Pers.pers hsh.le j37
  rw [← j10] at jn
  replace j10:=jn
  replace hgq:=hgq.hand hsh y10.wr
  rw [← hsh.w]
  clear hsh
  obtain ⟨q,hqq⟩ : ∃ q,q = q2:=⟨q2,rfl⟩
  subst hqq
  have hns:=Rsc.nsh j9
  have ex:=BoxH.ptr j9
  refine tail_callV (F:=F9) (i:=3) (d:=38) rfl rfl rfl rfl (by rw [hsb]; decide) (raw_val j35) Tryz.call42 W15 (vested_States_1_n_ok (rights_.length + 1) _ _ _ _ (.pointer (some ⟨b10,0,none⟩)) _ _ _ _ _ j36 j37 (BoxH.at j9) (by have h:=j10; rw [er] at h; exact h) hx12) fun b2 q2 hsz hdf hoth hch hR=>?_
  have hle:=hch.le hns
  obtain ⟨FF,jn,yf⟩:=hR
  rw [← ex] at jn
  have yn:Lo k0 FF:=fun c h=>(yf c h).elim (fun h=>y9 c h) (fun h=>Nat.le_trans hgq.size h)
  replace j10:=Pers.pers hle j10
  replace j35:=Pers.pers hle j35
  replace j36:=Pers.pers hle j36
  replace j37:=Pers.pers hle j37
  replace hgq:=hgq.step hch y9.wr
  obtain ⟨F9,hFe⟩ : ∃ F,F = FF:=⟨FF,rfl⟩
  subst hFe
  replace j9:=jn
  replace y9:=yn
  rw [← hoth 9 (by decide)] at j9
  rw [← hoth 10 (by decide)] at j10
  rw [← hoth 35 (by decide)] at j35
  rw [← hoth 36 (by decide)] at j36
  rw [← hoth 37 (by decide)] at j37
  replace hsb:=hsz.trans hsb
  replace hdb:=hdf.trans hdb
  clear hle hch hns hsz hdf hoth ex yf yn jn er
  obtain ⟨b,hbb⟩ : ∃ b,b = b2:=⟨b2,rfl⟩
  subst hbb
  obtain ⟨q,hqq⟩ : ∃ q,q = q2:=⟨q2,rfl⟩
  subst hqq
  exact tail_done (k:=q) (w14 _ _ ⟨F9,⟨hgq,hsb,hdb⟩,j9,y9,trivial⟩)
 rintro a k ⟨F9,⟨hg,hs,hd⟩,i9,n9,_⟩
 refine wp_seq ?_
 obtain ⟨kk,sh2436,cc9⟩:=BoxH.close i9 (hc__59 _) (fun _ h=>h)
 replace hg:=hg.hand sh2436 n9.wr
 rw [← sh2436.w]
 replace n9:Lo k0 (Eq b9):=fun c e=>n9 c (BoxH.sub i9 c e)
 replace i9:=BoxH.ptr i9
 have c9:=cc9
 clear sh2436 cc9
 obtain ⟨k,hkk⟩ : ∃ k,k = kk:=⟨kk,rfl⟩
 subst hkk
 refine cut (fun a' k'=>Bs noF k0 40 a' k'∧(IsV x12) (a'.get 4) k'∧(IsI 0) (a'.get 5) k'∧True) ?_ hQ ?_
 ·intro Q16 W16 w15
  refine gS 3 (_::_::⟨some (IsI 0),[]⟩::[]) hs (by kernel_rfl) ⟨o1 [(9,none)] rfl fun _ _ h n=>ok_load rfl ty59 ⟨_,(upE i9 n.1),(c9.grow h).at⟩,cp 0 rfl rfl,aI rfl rfl,trivial⟩ W16 fun b q p=>?_
  exact tail_done (k:=q) (w15 _ _ ⟨Bs.post ⟨hg,hs,hd⟩ p,p.ou 1 4 rfl,p.ou 2 5 rfl,trivial⟩)
 rintro a k ⟨⟨hg,hs,hd⟩,i4,i5,_⟩
 refine wp_ret ?_
 obtain rfl:=Option.some.inj hr
 exact retC2 rfl hd hg i4 i5
noncomputable def k23:=mkO 23 [.st 7,.list (.st 28)] [.list (.st 7),.int] (fun x=>vested_States x.1 x.2) Tryz.call23 fun k0 vs x r hG h hr=>by obtain ⟨v0,vs,rfl,i0,h⟩:=h.cons; obtain ⟨v1,rfl,i1⟩:=h.one; exact ret2F (T:=tb) (vested_States_ok i0 i1 hr)
def slices_IndexFunc_Right_L0 (s_:(List Right)) (f_:(Right → Option (Bool))) (s1:Int):Option (Flow (Int) (Int)):=
 if (decide (s1 < (s_.length:Int))) then
  (getI s_ s1).bind fun x1=>
  (f_ x1).bind fun x2=>
  if x2 then
   some (.ret s1)
  else
   (addI s1 1).bind fun x3=>
   some (.go x3)
 else
  some (.ex 0 s1)
def slices_IndexFunc_Right (s_:(List Right)) (f_:(Right → Option (Bool))):Option (Int):=
 (iterL (slices_IndexFunc_Right_L0 s_ f_) (s_.length + 1) 0).bind fun f1=>match f1 with
  | .go _=>none
  | .ex _ _=>
   some (-1)
  | .ret r1=>some r1
theorem slices_IndexFunc_Right_ok {k0:K} {v0 v1:Value} {s_:(List Right)} {f_:(Right → Option (Bool))} {r:Int} (i0:(IsV s_) v0 k0) (i1:(IsFn1 Tryz.prog f_) v1 k0) (hr:slices_IndexFunc_Right s_ f_ = some r) :
  Calls Tryz.prog 70 #[v0,v1] k0.w (Ret k0 (IsV r)):=by
 unfold slices_IndexFunc_Right at hr
 refine Ret.ofC ?_
 refine enterK Tryz.func70 rfl Tryz.ntmps70 (show 2 ≤ 19 by decide) fun a k hk0 hs hd ha=>?_
 obtain ⟨e0,e1,_⟩:=ha
 replace i0:(IsV s_) (a.get 0) k:=by rw [e0,hk0]; exact i0
 replace i1:(IsFn1 Tryz.prog f_) (a.get 1) k:=by rw [e1,hk0]; exact i1
 have hQ:Gb.LetsOut (bodyPost Tryz.prog Tryz.f70 (RetC noF k0 (IsV r))):=letsOutC
 have hg:Chg noF k0 k:=by rw [hk0]; exact Chg.refl _ k0
 refine stepL 1 (⟨some (IsI 0),[]⟩::[]) rfl ⟨hg,hs,hd⟩ (by kernel_rfl) ⟨aI rfl rfl,trivial⟩ [⟨_,_⟩,⟨_,_⟩] (fun b q p=>⟨p.ke 0 rfl i0,p.ke 1 rfl i1,trivial⟩) ?_
 rintro a k ⟨⟨hg,hs,hd⟩,i0,i1,_⟩
 refine wp_seq ?_
 refine stepL 3 (_::_::⟨some (IsI 0),[]⟩::[]) rfl ⟨hg,hs,hd⟩ (by kernel_rfl) ⟨mu rfl i0,o1 [(6,some 0)] rfl fun _ _ h n=>ok_len rfl rfl Tryz.underlying38 (IsV.rd n.1),ob1 rfl fun _ _ h n=>ok_move rfl (cI rfl),trivial⟩ [⟨_,_⟩,⟨_,_⟩,⟨_,_⟩,⟨_,_⟩] (fun b q p=>⟨p.ke 0 rfl i0,p.ke 1 rfl i1,p.ou 1 7 rfl,p.ou 2 8 rfl,trivial⟩) ?_
 rintro a k ⟨⟨hg,hs,hd⟩,i0,i1,i7,i8,_⟩
 refine wp_block ?_
 obtain ⟨f1,hf1,hr⟩:=bind_some hr
 refine cutFe f1 (fun s' c l=>Bs noF k0 19 c l∧IsV s_ (c.get 0) l∧IsFn1 Tryz.prog f_ (c.get 1) l∧IsL s_ (c.get 7) l∧IsV s' (c.get 8) l∧True) (fun i' s' c l=>(i' = 0∧Bs noF k0 19 c l∧True)) (fun r' c l=>bodyPost Tryz.prog Tryz.f70 (RetC noF k0 (IsV r')) .ret c l.w) ?_ hQ ?_ ?_ ?_
 ·intro Q1 W1 hgo hex hret
  refine sim_loop ?_ _ _ _ _ _ hf1 ⟨⟨hg,hs,hd⟩,i0,i1,i7,i8,trivial⟩ Q1 W1 hgo hex hret
  clear hr hf1 hgo hex hret W1 hQ hg hs hd i0 i1 i7 i8
  intro s1 fl_ a k hr hS Q hQ hgo2461 hex2462 hret2463
  obtain ⟨⟨hg,hs,hd⟩,i0,i1,i7,i8,_⟩:=hS
  unfold slices_IndexFunc_Right_L0 at hr
  refine stepL 1 (_::[]) rfl ⟨hg,hs,hd⟩ (by kernel_rfl) ⟨o1 [(8,none),(7,none)] rfl fun _ _ h n=>ok_lss rfl (up i8 h n.1) (up i7 h n.2.1),trivial⟩ [⟨_,_⟩,⟨_,_⟩,⟨_,_⟩,⟨_,_⟩,⟨_,_⟩] (fun b q p=>⟨p.ke 0 rfl i0,p.ke 1 rfl i1,p.ke 7 rfl i7,p.ke 8 rfl i8,p.ou 0 9 rfl,trivial⟩) ?_
  rintro a k ⟨⟨hg,hs,hd⟩,i0,i1,i7,i8,i9,_⟩
  refine wp_seq ?_
  refine wp_cond_split (isBool i9) (fun hc2478=>?_) (fun hc2478=>?_)
  ·rw [if_pos hc2478] at hr
   refine wp_skip ?_
   refine wp_seq ?_
   refine wp_block ?_
   refine stepL 2 (_::_::[]) rfl ⟨hg,hs,hd⟩ (by kernel_rfl) ⟨mu rfl i8,cp 0 rfl rfl,trivial⟩ [⟨_,_⟩,⟨_,_⟩,⟨_,_⟩,⟨_,_⟩,⟨_,_⟩] (fun b q p=>⟨p.ke 0 rfl i0,p.ke 1 rfl i1,p.ou 1 5 rfl,p.ke 7 rfl i7,p.ke 8 rfl i8,trivial⟩) ?_
   rintro a k ⟨⟨hg,hs,hd⟩,i0,i1,i5,i7,i8,_⟩
   refine wp_seq ?_
   obtain ⟨x1,hx1,hr⟩:=bind_some hr
   obtain ⟨x2,hx2,hr⟩:=bind_some hr
   refine cut (fun a' k'=>Bs noF k0 19 a' k'∧(IsV s_) (a'.get 0) k'∧(IsFn1 Tryz.prog f_) (a'.get 1) k'∧(IsV s1) (a'.get 5) k'∧(IsL s_) (a'.get 7) k'∧(IsV s1) (a'.get 8) k'∧(IsV x2) (a'.get 16) k'∧True) ?_ hQ ?_
   ·intro Q2 W2 w1
    refine gS 6 (_::_::_::_::_::⟨some (IsV x2),[(11,some 0),(15,some 4)]⟩::[]) hs (by kernel_rfl) ⟨mu rfl i1,mu rfl i0,mu rfl i5,o1 [(12,some 1),(13,some 2)] rfl fun _ _ h n=>ok_indexAddr rfl Tryz.underlying38 ty43 (IsV.rd n.1) n.2.1 hx1,o1 [(14,some 3)] rfl fun _ _ h n=>ok_load rfl ty43 n.1,ob1 rfl fun _ _ h n=>ok_callF1 rfl n.1 n.2.1 hx2,trivial⟩ W2 fun b q p=>?_
    exact tail_done (k:=q) (w1 _ _ ⟨Bs.post ⟨hg,hs,hd⟩ p,p.ke 0 rfl i0,p.ke 1 rfl i1,p.ke 5 rfl i5,p.ke 7 rfl i7,p.ke 8 rfl i8,p.ou 5 16 rfl,trivial⟩)
   rintro a k ⟨⟨hg,hs,hd⟩,i0,i1,i5,i7,i8,i16,_⟩
   refine wp_cond_split (isBool i16) (fun hc2473=>?_) (fun hc2473=>?_)
   ·rw [if_pos hc2473] at hr
    refine stepL 2 (_::_::[]) rfl ⟨hg,hs,hd⟩ (by kernel_rfl) ⟨mu rfl i5,cp 0 rfl rfl,trivial⟩ [⟨_,_⟩] (fun b q p=>⟨p.ou 1 4 rfl,trivial⟩) ?_
    rintro a k ⟨⟨hg,hs,hd⟩,i4,_⟩
    refine wp_ret ?_
    exact hret2463 _ _ _ (Option.some.inj hr).symm (retC1 rfl hd hg i4)
   rw [if_neg (by rw [hc2473]; decide)] at hr
   refine wp_skip ?_
   obtain ⟨x3,hx3,hr⟩:=bind_some hr
   refine cut (fun a' k'=>Bs noF k0 19 a' k'∧(IsV s_) (a'.get 0) k'∧(IsFn1 Tryz.prog f_) (a'.get 1) k'∧(IsL s_) (a'.get 7) k'∧(IsV x3) (a'.get 8) k'∧True) ?_ hQ ?_
   ·intro Q3 W3 w2
    refine gS 2 (_::_::[]) hs (by kernel_rfl) ⟨o1 [(8,none)] rfl fun _ _ h n=>ok_add rfl (up i8 h n.1) (cI rfl) hx3,cm 0 rfl rfl,trivial⟩ W3 fun b q p=>?_
    exact tail_done (k:=q) (w2 _ _ ⟨Bs.post ⟨hg,hs,hd⟩ p,p.ke 0 rfl i0,p.ke 1 rfl i1,p.ke 7 rfl i7,p.ou 1 8 rfl,trivial⟩)
   rintro a k ⟨⟨hg,hs,hd⟩,i0,i1,i7,i8,_⟩
   exact hgo2461 _ _ _ (Option.some.inj hr).symm ⟨⟨hg,hs,hd⟩,i0,i1,i7,i8,trivial⟩
  rw [if_neg (by rw [hc2478]; decide)] at hr
  refine wp_exit ?_
  exact hex2462 _ _ _ _ (Option.some.inj hr).symm ⟨rfl,⟨hg,hs,hd⟩,trivial⟩
 ·rintro r1 a k rfl hR
  dsimp only at hr
  obtain rfl:=Option.some.inj hr
  exact hR
 ·rintro _ _ _ rfl _
  simp at hr
 clear hf1
 rintro _ s2 a k rfl ⟨rfl,⟨hg,hs,hd⟩,_⟩
 dsimp only at hr
 refine stepL 1 (⟨some (IsI (-1)),[]⟩::[]) rfl ⟨hg,hs,hd⟩ (by kernel_rfl) ⟨aI rfl rfl,trivial⟩ [⟨_,_⟩] (fun b q p=>⟨p.ou 0 4 rfl,trivial⟩) ?_
 rintro a k ⟨⟨hg,hs,hd⟩,i4,_⟩
 refine wp_ret ?_
 obtain rfl:=Option.some.inj hr
 exact retC1 rfl hd hg i4
end Go.Proofs.YtegglcdhfnjhcaaGreat
