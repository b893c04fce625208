/- What the functions compute that the law reaches, part 5 -/
import Derived.Test.YtegglcdhfnjhcaaGreatT4
namespace Go.Proofs.YtegglcdhfnjhcaaGreat
open Go.Gb
set_option linter.unusedVariables false
set_option linter.unusedSimpArgs false
set_option maxRecDepth 100000
def slices_ContainsFunc_Right (s_:(List Right)) (f_:(Right → Option (Bool))):Option (Bool):=
 (slices_IndexFunc_Right s_ f_).bind fun x1=>
 some (decide (0 ≤ x1))
theorem slices_ContainsFunc_Right_ok {k0:K} {v0 v1:Value} {s_:(List Right)} {f_:(Right → Option (Bool))} {r:Bool} (i0:(IsV s_) v0 k0) (i1:(IsFn1 Tryz.prog f_) v1 k0) (hr:slices_ContainsFunc_Right s_ f_ = some r) :
  Calls Tryz.prog 43 #[v0,v1] k0.w (Ret k0 (IsV r)):=by
 unfold slices_ContainsFunc_Right at hr
 refine Ret.ofC ?_
 refine enterK Tryz.func43 rfl Tryz.ntmps43 (show 2 ≤ 9 by decide) fun a k hk0 hs hd ha=>?_
 obtain ⟨e0,e1,_⟩:=ha
 replace i0:(IsV s_) (a.get 0) k:=by rw [e0,hk0]; exact i0
 replace i1:(IsFn1 Tryz.prog f_) (a.get 1) k:=by rw [e1,hk0]; exact i1
 have hQ:Gb.LetsOut (bodyPost Tryz.prog Tryz.f43 (RetC noF k0 (IsV r))):=letsOutC
 have hg:Chg noF k0 k:=by rw [hk0]; exact Chg.refl _ k0
 refine stepL 1 (⟨some (IsV false),[]⟩::[]) rfl ⟨hg,hs,hd⟩ (by kernel_rfl) ⟨ob1 rfl fun _ _ h n=>ok_assign rfl (isV_bool.2 rfl),trivial⟩ [⟨_,_⟩,⟨_,_⟩] (fun b q p=>⟨p.ke 0 rfl i0,p.ke 1 rfl i1,trivial⟩) ?_
 rintro a k ⟨⟨hg,hs,hd⟩,i0,i1,_⟩
 refine wp_seq ?_
 obtain ⟨x1,hx1,hr⟩:=bind_some hr
 refine cut (fun a' k'=>Bs noF k0 9 a' k'∧(IsV (decide (0 ≤ x1))) (a'.get 4) k'∧True) ?_ hQ ?_
 ·intro Q1 W1 w1
  refine gS 5 (_::_::_::_::_::[]) hs (by kernel_rfl) ⟨mu rfl i0,mu rfl i1,o1 [(5,some 0),(6,some 1)] rfl fun _ _ h n=>ok_call rfl Tryz.call70 (slices_IndexFunc_Right_ok n.1 n.2.1 hx1),o1 [(7,some 2)] rfl fun _ _ h n=>ok_geq rfl n.1 (cI rfl),cp 3 rfl rfl,trivial⟩ W1 fun b q p=>?_
  exact tail_done (k:=q) (w1 _ _ ⟨Bs.post ⟨hg,hs,hd⟩ p,p.ou 4 4 rfl,trivial⟩)
 rintro a k ⟨⟨hg,hs,hd⟩,i4,_⟩
 refine wp_ret ?_
 obtain rfl:=Option.some.inj hr
 exact retC1 rfl hd hg i4
def slices_Clone_Right (s_:(List Right)):Option ((List Right)):=
 (appI [] s_).bind fun x1=>
 some x1
theorem slices_Clone_Right_okO {k0:K} {v0:Value} {s_:(List Right)} {r:(List Right)} (i0:(IsV s_) v0 k0) (hr:slices_Clone_Right s_ = some r) :
  Calls Tryz.prog 45 #[v0] k0.w (Ret k0 (IsOwn k0.w.heap.size 43 r)):=by
 unfold slices_Clone_Right at hr
 refine Ret.ofC ?_
 refine enterK Tryz.func45 rfl Tryz.ntmps45 (show 1 ≤ 8 by decide) fun a k hk0 hs hd ha=>?_
 obtain ⟨e0,_⟩:=ha
 replace i0:(IsV s_) (a.get 0) k:=by rw [e0,hk0]; exact i0
 have hQ:Gb.LetsOut (bodyPost Tryz.prog Tryz.f45 (RetC noF k0 (IsOwn k0.w.heap.size 43 r))):=letsOutC
 have hg:Chg noF k0 k:=by rw [hk0]; exact Chg.refl _ k0
 refine stepL 1 (⟨some IsE0,[]⟩::[]) rfl ⟨hg,hs,hd⟩ (by kernel_rfl) ⟨ob1 rfl fun b q h n=>ok_assign rfl isE0_nil,trivial⟩ [⟨_,_⟩] (fun b q p=>⟨p.ke 0 rfl i0,trivial⟩) ?_
 rintro a k ⟨⟨hg,hs,hd⟩,i0,_⟩
 refine wp_seq ?_
 refine stepL 2 (_::⟨some (IsNT s_),[(3,some 0)]⟩::[]) rfl ⟨hg,hs,hd⟩ (by kernel_rfl) ⟨mu rfl i0,ob1 rfl fun _ _ h n=>ok_eqNil rfl Tryz.underlying38 (IsV.rd n.1),trivial⟩ [⟨_,_⟩,⟨_,_⟩] (fun b q p=>⟨p.ke 0 rfl i0,p.ou 1 4 rfl,trivial⟩) ?_
 rintro a k ⟨⟨hg,hs,hd⟩,i0,i4,_⟩
 obtain ⟨bb,hbb,hnil⟩:=i4
 refine wp_cond_split hbb (fun hc2506=>?_) (fun hc2506=>?_)
 ·replace hr:some ([]:List Right) = some r:=by rw [hnil hc2506] at hr; simpa [appI] using hr
  refine cutS (fun c l=>Bs noF k0 8 c l∧IsOwn 0 43 ([]:List Right) (c.get 2) l∧Lo k0 (obF (c.get 2))∧True) ?_ ?_
  ·intro Q1 W1 w1
   refine gS 1 (⟨some IsE0,[]⟩::[]) hs (by kernel_rfl) ⟨ob1 rfl fun b q h n=>ok_assign rfl isE0_nil,trivial⟩ W1 fun b q p=>?_
   have hgq:=hg.then p.grow
   have hsb:=p.size.trans hs
   have hdb:=p.defers.trans hd
   have j2:IsE0 (b.get 2) q:=p.ou 0 2 rfl
   have y2:Lo k0 (obF (b.get 2)):=j2.lo
   replace j2:IsOwn 0 43 ([]:List Right) (b.get 2) q:=j2.own0
   exact tail_done (k:=q) (w1 _ _ ⟨⟨hgq,hsb,hdb⟩,j2,y2,trivial⟩)
  rintro a k ⟨⟨hg,hs,hd⟩,i2,n2,_⟩
  refine wp_ret ?_
  obtain rfl:=Option.some.inj hr
  exact retC1 rfl hd hg (show ResOk _ _ _ (.tmp 2) _ from IsOwn.raise (k0:=k0) i2 n2)
 ·skip
  refine wp_skip ?_
  refine wp_seq ?_
  obtain ⟨x1,hx1,hr⟩:=bind_some hr
  refine cut (fun a' k'=>Bs noF k0 8 a' k'∧IsOwn 0 43 x1 (a'.get 2) k'∧Lo k0 (obF (a'.get 2))∧True) ?_ hQ ?_
  ·intro Q2 W2 w2
   refine gS 4 (⟨some IsE0,[]⟩::_::⟨some (IsOwn k.w.heap.size 43 x1),[(5,some 0),(6,some 1)]⟩::_::[]) hs (by kernel_rfl) ⟨ob1 rfl fun b q h n=>ok_buildSlice0 rfl Tryz.underlying38 eo43,mu rfl i0,ob1 rfl fun _ _ h n=>ok_append0 rfl Tryz.underlying38 eo43 h.size n.1 (IsV.rd n.2.1) hx1,cp 2 rfl rfl,trivial⟩ W2 fun b q p=>?_
   have hgq:=hg.then p.grow
   have hsb:=p.size.trans hs
   have hdb:=p.defers.trans hd
   have j2:(IsOwn k.w.heap.size 43 x1) (b.get 2) q:=p.ou 3 2 rfl
   have x2:Lo k (obF (b.get 2)):=j2.loF
   have y2:=x2.chg hg
   replace j2:=j2.weaken (Nat.zero_le _)
   exact tail_done (k:=q) (w2 _ _ ⟨⟨hgq,hsb,hdb⟩,j2,y2,trivial⟩)
  rintro a k ⟨⟨hg,hs,hd⟩,i2,n2,_⟩
  refine wp_ret ?_
  obtain rfl:=Option.some.inj hr
  exact retC1 rfl hd hg (show ResOk _ _ _ (.tmp 2) _ from IsOwn.raise (k0:=k0) i2 n2)
theorem slices_Clone_Right_ok {k0:K} {v0:Value} {s_:(List Right)} {r:(List Right)} (i0:(IsV s_) v0 k0) (hr:slices_Clone_Right s_ = some r) :
  Calls Tryz.prog 45 #[v0] k0.w (Ret k0 (IsV r)):=
 ret_give (slices_Clone_Right_okO i0 hr)
def vested_Grant_1 (x_:Right) (p1_:Right):Option (Bool):=
 some (x_.Id == p1_.Id)
theorem vested_Grant_1_ok {k0:K} {v0 v1:Value} {x_:Right} {p1_:Right} {r:Bool} (i0:(IsV x_) v0 k0) (i1:(IsRef p1_) v1 k0) (hr:vested_Grant_1 x_ p1_ = some r) :
  Calls Tryz.prog 44 #[v0,v1] k0.w (Ret k0 (IsV r)):=by
 unfold vested_Grant_1 at hr
 refine Ret.ofC ?_
 refine enterK Tryz.func44 rfl Tryz.ntmps44 (show 2 ≤ 9 by decide) fun a k hk0 hs hd ha=>?_
 obtain ⟨e0,e1,_⟩:=ha
 replace i0:(IsV x_) (a.get 0) k:=by rw [e0,hk0]; exact i0
 replace i1:(IsRef p1_) (a.get 1) k:=by rw [e1,hk0]; exact i1
 have hQ:Gb.LetsOut (bodyPost Tryz.prog Tryz.f44 (RetC noF k0 (IsV r))):=letsOutC
 have hg:Chg noF k0 k:=by rw [hk0]; exact Chg.refl _ k0
 refine stepL 2 (⟨some (IsRef x_),[(0,none)]⟩::⟨some (IsV false),[]⟩::[]) rfl ⟨hg,hs,hd⟩ (by kernel_rfl) ⟨ob1 rfl fun _ _ h n=>ok_boxR rfl (up i0 h n.1),ob1 rfl fun _ _ h n=>ok_assign rfl (isV_bool.2 rfl),trivial⟩ [⟨_,_⟩,⟨_,_⟩] (fun b q p=>⟨p.ke 1 rfl i1,p.ou 0 2 rfl,trivial⟩) ?_
 rintro a k ⟨⟨hg,hs,hd⟩,i1,i2,_⟩
 refine stepL 6 (_::_::_::_::_::_::[]) rfl ⟨hg,hs,hd⟩ (by kernel_rfl) ⟨o1 [(2,none)] rfl fun _ _ h n=>ok_fieldAddr rfl fo43_0 (at_Right_0 _) ((up i2 h n.1)).ptr,o1 [(4,some 0)] rfl fun _ _ h n=>ok_load rfl ty3 n.1,o1 [(1,none)] rfl fun _ _ h n=>ok_fieldAddr rfl fo43_0 (at_Right_0 _) ((up i1 h n.1)).ptr,o1 [(6,some 2)] rfl fun _ _ h n=>ok_load rfl ty3 n.1,o1 [(5,some 1),(7,some 3)] rfl fun _ _ h n=>ok_eqI rfl n.1 n.2.1,cp 4 rfl rfl,trivial⟩ [⟨_,_⟩] (fun b q p=>⟨p.ou 5 3 rfl,trivial⟩) ?_
 rintro a k ⟨⟨hg,hs,hd⟩,i3,_⟩
 refine wp_ret ?_
 obtain rfl:=Option.some.inj hr
 exact retC1 rfl hd hg i3
def vested_Grant (t_:Town) (rights_:(List Right)) (r_:Right):Option (Int):=
 (option_Living r_).bind fun x1=>
 if (!x1) then
  some 1
 else
  (slices_ContainsFunc_Right rights_ (fun y0=>vested_Grant_1 y0 r_)).bind fun x2=>
  if x2 then
   some 5
  else
   (slices_Clone_Right rights_).bind fun x3=>
   (appI x3 ([r_])).bind fun x4=>
   (vested_Safe t_ x4).bind fun x5=>
   if (!x5.2) then
    some 21
   else
    some 0
theorem vested_Grant_ok {k0:K} {v0 v1 v2:Value} {t_:Town} {rights_:(List Right)} {r_:Right} {r:Int} (i0:(IsV t_) v0 k0) (i1:(IsV rights_) v1 k0) (i2:(IsV r_) v2 k0) (hr:vested_Grant t_ rights_ r_ = some r) :
  Calls Tryz.prog 25 #[v0,v1,v2] k0.w (Ret k0 (IsV r)):=by
 unfold vested_Grant at hr
 refine Ret.ofC ?_
 refine enterK Tryz.func25 rfl Tryz.ntmps25 (show 3 ≤ 27 by decide) fun a k hk0 hs hd ha=>?_
 obtain ⟨e0,e1,e2,_⟩:=ha
 replace i0:(IsV t_) (a.get 0) k:=by rw [e0,hk0]; exact i0
 replace i1:(IsV rights_) (a.get 1) k:=by rw [e1,hk0]; exact i1
 replace i2:(IsV r_) (a.get 2) k:=by rw [e2,hk0]; exact i2
 have hQ:Gb.LetsOut (bodyPost Tryz.prog Tryz.f25 (RetC noF k0 (IsV r))):=letsOutC
 have hg:Chg noF k0 k:=by rw [hk0]; exact Chg.refl _ k0
 refine stepL 3 (⟨some (IsRef t_),[(0,none)]⟩::⟨some (IsRef r_),[(2,none)]⟩::⟨some (IsI 0),[]⟩::[]) rfl ⟨hg,hs,hd⟩ (by kernel_rfl) ⟨ob1 rfl fun _ _ h n=>ok_boxR rfl (up i0 h n.1),ob1 rfl fun _ _ h n=>ok_boxR rfl (up i2 h n.1),aI rfl rfl,trivial⟩ [⟨_,_⟩,⟨_,_⟩,⟨_,_⟩] (fun b q p=>⟨p.ke 1 rfl i1,p.ou 0 3 rfl,p.ou 1 5 rfl,trivial⟩) ?_
 rintro a k ⟨⟨hg,hs,hd⟩,i1,i3,i5,_⟩
 refine wp_seq ?_
 refine wp_seq ?_
 obtain ⟨x1,hx1,hr⟩:=bind_some hr
 refine cut (fun a' k'=>Bs noF k0 27 a' k'∧(IsV rights_) (a'.get 1) k'∧(IsRef t_) (a'.get 3) k'∧(IsRef r_) (a'.get 5) k'∧(IsV (!x1)) (a'.get 11) k'∧True) ?_ hQ ?_
 ·intro Q1 W1 w1
  refine gS 3 (_::_::_::[]) hs (by kernel_rfl) ⟨o1 [(5,none)] rfl fun _ _ h n=>ok_load rfl ty43 ((up i5 h n.1)).ptr,o1 [(9,some 0)] rfl fun _ _ h n=>ok_call rfl Tryz.call28 (option_Living_ok n.1 hx1),o1 [(10,some 1)] rfl fun _ _ h n=>ok_not rfl n.1,trivial⟩ W1 fun b q p=>?_
  exact tail_done (k:=q) (w1 _ _ ⟨Bs.post ⟨hg,hs,hd⟩ p,p.ke 1 rfl i1,p.ke 3 rfl i3,p.ke 5 rfl i5,p.ou 2 11 rfl,trivial⟩)
 rintro a k ⟨⟨hg,hs,hd⟩,i1,i3,i5,i11,_⟩
 refine wp_cond_split (isBool i11) (fun hc2542=>?_) (fun hc2542=>?_)
 ·rw [if_pos hc2542] at hr
  refine stepL 1 (⟨some (IsI 1),[]⟩::[]) rfl ⟨hg,hs,hd⟩ (by kernel_rfl) ⟨aI rfl rfl,trivial⟩ [⟨_,_⟩] (fun b q p=>⟨p.ou 0 6 rfl,trivial⟩) ?_
  rintro a k ⟨⟨hg,hs,hd⟩,i6,_⟩
  refine wp_ret ?_
  obtain rfl:=Option.some.inj hr
  exact retC1 rfl hd hg i6
 rw [if_neg (by rw [hc2542]; decide)] at hr
 refine wp_skip ?_
 refine wp_seq ?_
 refine wp_seq ?_
 obtain ⟨x2,hx2,hr⟩:=bind_some hr
 refine cut (fun a' k'=>Bs noF k0 27 a' k'∧(IsV rights_) (a'.get 1) k'∧(IsRef t_) (a'.get 3) k'∧(IsRef r_) (a'.get 5) k'∧(IsV x2) (a'.get 14) k'∧True) ?_ hQ ?_
 ·intro Q2 W2 w2
  refine gS 3 (_::⟨some (IsFn1 Tryz.prog (fun y0=>vested_Grant_1 y0 r_)),[(5,none)]⟩::_::[]) hs (by kernel_rfl) ⟨mu rfl i1,ob1 rfl fun _ _ h n=>ok_makeFunc (first:=[]) (captured:=[.tmp 5]) rfl ⟨44,_,_,rfl,Tryz.call44,fun k9 hk9 _ _ _ hx0 hy9=>by simpa [evalT] using vested_Grant_1_ok hx0 (Pers.pers hk9 (up i5 h n.1)) hy9⟩,o1 [(12,some 0),(13,some 1)] rfl fun _ _ h n=>ok_call rfl Tryz.call43 (slices_ContainsFunc_Right_ok n.1 n.2.1 hx2),trivial⟩ W2 fun b q p=>?_
  exact tail_done (k:=q) (w2 _ _ ⟨Bs.post ⟨hg,hs,hd⟩ p,p.ke 1 rfl i1,p.ke 3 rfl i3,p.ke 5 rfl i5,p.ou 2 14 rfl,trivial⟩)
 rintro a k ⟨⟨hg,hs,hd⟩,i1,i3,i5,i14,_⟩
 refine wp_cond_split (isBool i14) (fun hc2539=>?_) (fun hc2539=>?_)
 ·rw [if_pos hc2539] at hr
  refine stepL 1 (⟨some (IsI 5),[]⟩::[]) rfl ⟨hg,hs,hd⟩ (by kernel_rfl) ⟨aI rfl rfl,trivial⟩ [⟨_,_⟩] (fun b q p=>⟨p.ou 0 6 rfl,trivial⟩) ?_
  rintro a k ⟨⟨hg,hs,hd⟩,i6,_⟩
  refine wp_ret ?_
  obtain rfl:=Option.some.inj hr
  exact retC1 rfl hd hg i6
 rw [if_neg (by rw [hc2539]; decide)] at hr
 refine wp_skip ?_
 refine wp_seq ?_
 refine wp_seq ?_
 obtain ⟨x3,hx3,hr⟩:=bind_some hr
 obtain ⟨x4,hx4,hr⟩:=bind_some hr
 obtain ⟨x5,hx5,hr⟩:=bind_some hr
 refine cut (fun a' k'=>Bs noF k0 27 a' k'∧(IsV x5.2) (a'.get 8) k'∧True) ?_ hQ ?_
 ·intro Q3 W3 w3
  refine region_L (a0:=a) (k0:=k) (n:=27) (⟨(PlainR (IsV t_)),16,[(3,none)],[]⟩::⟨(PlainR (IsV rights_)),17,[(1,none)],[]⟩::⟨(OwnR 43 x3),18,[(17,some 1)],[]⟩::⟨(PlainR (IsV r_)),19,[(5,none)],[]⟩::⟨(PlainR (IsV (α:=(List Right)) ([r_]))),20,[(19,some 3)],[]⟩::⟨(PlainR (IsV x4)),21,[(20,some 4)],[2]⟩::⟨(PlainR (IsTup2 (IsV x5.1) (IsV x5.2))),22,[(16,some 0),(21,some 5)],[]⟩::⟨(PlainR (IsTup2 (IsV x5.1) (IsV x5.2))),15,[(22,some 6)],[]⟩::⟨(PlainR (IsV x5.1)),23,[(15,some 7)],[]⟩::⟨(PlainR (IsV x5.2)),24,[(15,some 7)],[]⟩::⟨(BoxR (⟨0,(⟨#[]⟩:ByteArray),0⟩:Limit)),7,[],[]⟩::⟨(BoxR x5.1),7,[(23,some 8)],[10]⟩::⟨(PlainR (IsV x5.2)),8,[(24,some 9)],[]⟩::[]) hmix hs (by kernel_rfl) ⟨⟨inferInstanceAs (RscB _ (PlainR (IsV t_))),fun b q G hz hk hn ht=>by obtain ⟨m0,_⟩:=hn; obtain rfl:=taken0 ht; exact doesL_plain rfl (by rw [hz,hs]; show 16 < 27; decide) (ok_load rfl ty37 ((up i3 hk m0)).ptr)⟩,⟨inferInstanceAs (RscB _ (PlainR (IsV rights_))),fun b q G hz hk hn ht=>by obtain ⟨m0,_⟩:=hn; obtain rfl:=taken0 ht; exact doesL_plain rfl (by rw [hz,hs]; show 17 < 27; decide) (ok_move rfl (up i1 hk m0))⟩,⟨inferInstanceAs (RscB _ (OwnR 43 x3)),fun b q G hz hk hn ht=>by obtain ⟨⟨_,_,m0⟩,_⟩:=hn; obtain rfl:=taken0 ht; exact doesL_own rfl (by rw [hz,hs]; show 18 < 27; decide) (ok_call rfl Tryz.call45 (ret_weaken (Nat.le_refl _) (slices_Clone_Right_okO m0 hx3)))⟩,⟨inferInstanceAs (RscB _ (PlainR (IsV r_))),fun b q G hz hk hn ht=>by obtain ⟨m0,_⟩:=hn; obtain rfl:=taken0 ht; exact doesL_plain rfl (by rw [hz,hs]; show 19 < 27; decide) (ok_load rfl ty43 ((up i5 hk m0)).ptr)⟩,⟨inferInstanceAs (RscB _ (PlainR (IsV (α:=(List Right)) ([r_])))),fun b q G hz hk hn ht=>by obtain ⟨⟨_,_,m0⟩,_⟩:=hn; obtain rfl:=taken0 ht; exact doesL_plain rfl (by rw [hz,hs]; show 20 < 27; decide) (ok_buildSlice rfl Tryz.underlying38 eo43 rfl (by decide) (by decide) ⟨rfl,m0,trivial⟩)⟩,⟨inferInstanceAs (RscB _ (PlainR (IsV x4))),fun b q G hz hk hn ht=>by obtain ⟨⟨_,_,m0⟩,_⟩:=hn; exact doesL_app rfl (by rw [hz,hs]; show 21 < 27; decide) rfl rfl Tryz.underlying38 eo43 (taken1 ht rfl) (IsV.rd m0) hx4⟩,⟨inferInstanceAs (RscB _ (PlainR (IsTup2 (IsV x5.1) (IsV x5.2)))),fun b q G hz hk hn ht=>by obtain ⟨⟨_,_,m0⟩,⟨_,_,m1⟩,_⟩:=hn; obtain rfl:=taken0 ht; exact doesL_plain rfl (by rw [hz,hs]; show 22 < 27; decide) (ok_call rfl Tryz.call21 (vested_Safe_ok m0 m1 hx5))⟩,⟨inferInstanceAs (RscB _ (PlainR (IsTup2 (IsV x5.1) (IsV x5.2)))),fun b q G hz hk hn ht=>by obtain ⟨⟨_,_,m0⟩,_⟩:=hn; obtain rfl:=taken0 ht; exact doesL_plain rfl (by rw [hz,hs]; show 15 < 27; decide) (ok_move rfl m0)⟩,⟨inferInstanceAs (RscB _ (PlainR (IsV x5.1))),fun b q G hz hk hn ht=>by obtain ⟨⟨_,_,m0⟩,_⟩:=hn; obtain rfl:=taken0 ht; exact doesL_plain rfl (by rw [hz,hs]; show 23 < 27; decide) (ok_ext2_0 rfl m0)⟩,⟨inferInstanceAs (RscB _ (PlainR (IsV x5.2))),fun b q G hz hk hn ht=>by obtain ⟨⟨_,_,m0⟩,_⟩:=hn; obtain rfl:=taken0 ht; exact doesL_plain rfl (by rw [hz,hs]; show 24 < 27; decide) (ok_ext2_1 rfl m0)⟩,⟨inferInstanceAs (RscB _ (BoxR (⟨0,(⟨#[]⟩:ByteArray),0⟩:Limit))),fun b q G hz hk hn ht=>by obtain rfl:=taken0 ht; exact doesL_box rfl (by rw [hz,hs]; show 7 < 27; decide) (ok_alloc _ (Nat.le_refl _) rfl z55)⟩,⟨inferInstanceAs (RscB _ (BoxR x5.1)),fun b q G hz hk hn ht=>by obtain ⟨⟨_,_,m0⟩,_⟩:=hn; exact doesL_store rfl rfl rfl szf55 (taken1 ht rfl) m0⟩,⟨inferInstanceAs (RscB _ (PlainR (IsV x5.2))),fun b q G hz hk hn ht=>by obtain ⟨⟨_,_,m0⟩,_⟩:=hn; obtain rfl:=taken0 ht; exact doesL_plain rfl (by rw [hz,hs]; show 8 < 27; decide) (ok_assign rfl m0)⟩,trivial⟩ W3 fun FL b q p=>?_
  have hgq:=hg.then p.grow
  have hsb:=p.size.trans hs
  have hdb:=p.defers.trans hd
  have j8:(IsV x5.2) (b.get 8) q:=p.plain 12 rfl rfl
  exact w3 _ _ ⟨⟨hgq,hsb,hdb⟩,j8,trivial⟩
 rintro a k ⟨⟨hg,hs,hd⟩,i8,_⟩
 refine stepL 2 (_::_::[]) rfl ⟨hg,hs,hd⟩ (by kernel_rfl) ⟨mu rfl i8,o1 [(25,some 0)] rfl fun _ _ h n=>ok_not rfl n.1,trivial⟩ [⟨_,_⟩] (fun b q p=>⟨p.ou 1 26 rfl,trivial⟩) ?_
 rintro a k ⟨⟨hg,hs,hd⟩,i26,_⟩
 refine wp_cond_split (isBool i26) (fun hc2534=>?_) (fun hc2534=>?_)
 ·rw [if_pos hc2534] at hr
  refine stepL 1 (⟨some (IsI 21),[]⟩::[]) rfl ⟨hg,hs,hd⟩ (by kernel_rfl) ⟨aI rfl rfl,trivial⟩ [⟨_,_⟩] (fun b q p=>⟨p.ou 0 6 rfl,trivial⟩) ?_
  rintro a k ⟨⟨hg,hs,hd⟩,i6,_⟩
  refine wp_ret ?_
  obtain rfl:=Option.some.inj hr
  exact retC1 rfl hd hg i6
 rw [if_neg (by rw [hc2534]; decide)] at hr
 refine wp_skip ?_
 refine stepL 1 (⟨some (IsI 0),[]⟩::[]) rfl ⟨hg,hs,hd⟩ (by kernel_rfl) ⟨aI rfl rfl,trivial⟩ [⟨_,_⟩] (fun b q p=>⟨p.ou 0 6 rfl,trivial⟩) ?_
 rintro a k ⟨⟨hg,hs,hd⟩,i6,_⟩
 refine wp_ret ?_
 obtain rfl:=Option.some.inj hr
 exact retC1 rfl hd hg i6
noncomputable def k25:=mkO 25 [.st 7,.list (.st 28),.st 28] [.int] (fun x=>vested_Grant x.1 x.2.1 x.2.2) Tryz.call25 fun k0 vs x r hG h hr=>by obtain ⟨v0,vs,rfl,i0,h⟩:=h.cons; obtain ⟨v1,vs,rfl,i1,h⟩:=h.cons; obtain ⟨v2,rfl,i2⟩:=h.one; exact vested_Grant_ok i0 i1 i2 hr
def law33_small  : Option (Bool):=
 (law33_example 40).bind fun x1=>
 (law33_example 41).bind fun x2=>
 (vested_Safe x1.1 x1.2).bind fun x3=>
 (vested_Safe x2.1 x2.2).bind fun x4=>
 (law33_homes 9 0).bind fun x5=>
 (vested_Safe (⟨(⟨[],[],[],[],[],[],[(⟨1,0,1⟩:Point3)],1⟩:Plan),[],[],[(⟨7,(⟨0,0,0⟩:Point3)⟩:Window)],[],[]⟩:Town) ([(⟨3,0,(⟨1,[(⟨[x5],[]⟩:Phase),(⟨[(⟨(⟨(⟨2,0,3,1⟩:Rect),0,9⟩:Box),0,0,false⟩:Volume)],[]⟩:Phase)]⟩:Drawing),0,0,false⟩:Right)])).bind fun x6=>
 (vested_Keeps (⟨(⟨[],[],[],[],[],[],[(⟨1,0,1⟩:Point3)],1⟩:Plan),[],[],[(⟨7,(⟨0,0,0⟩:Point3)⟩:Window)],[],[]⟩:Town)).bind fun x7=>
 (vested_States x1.1 x1.2).bind fun x8=>
 (if (((((((x3.2 && (!x4.2)) && (decide (x4.1 = (⟨1,(⟨#[99]⟩:ByteArray),0⟩:Limit)))) && (!x6.2)) && (decide (x6.1 = (⟨2,(⟨#[]⟩:ByteArray),0⟩:Limit)))) && x7.2) && (x8.2 == 0)) && ((x8.1.length:Int) == 6)) then
  (sliceI x1.2 0 1).bind fun x9=>
  (subI (x1.2.length:Int) 1).bind fun x10=>
  (getI x1.2 x10).bind fun x11=>
  (vested_Grant x1.1 x9 x11).bind fun x12=>
  some (x12 == 0)
 else
  some false).bind fun x13=>
 some x13
noncomputable def k10:=mk 10 [] [.bool] (fun x=>law33_small) [k31,k21,k32,k19,k23,k25] [] Tryz.f10 (.n) Tryz.func10 Tryz.call10 rfl rfl fun x=>by kernel_rfl
def law33_phase (ph_:Phase):Option (Bool):=
 some ((decide ((ph_.Volumes.length:Int) ≤ 2)) && (decide ((ph_.Gives.length:Int) ≤ 3)))
noncomputable def k13:=mk 13 [.st 3] [.bool] (fun x=>law33_phase x) [] [] Tryz.f13 (.n) Tryz.func13 Tryz.call13 rfl rfl fun x=>by kernel_rfl
def law33_one_L0 (r_:Right) (s1:Int):Option (Flow (Int) (Bool)):=
 if ((decide (s1 < (r_.Drawing.Phases.length:Int))) && (decide (s1 < 5))) then
  (getI r_.Drawing.Phases s1).bind fun x1=>
  (law33_phase x1).bind fun x2=>
  if (!x2) then
   some (.ret false)
  else
   (addI s1 1).bind fun x3=>
   some (.go x3)
 else
  some (.ex 0 s1)
def law33_one (r_:Right):Option (Bool):=
 (iterL (law33_one_L0 r_) (6) 0).bind fun f1=>match f1 with
  | .go _=>none
  | .ex _ _=>
   some (decide ((r_.Drawing.Phases.length:Int) ≤ 4))
  | .ret r1=>some r1
noncomputable def k12:=mk 12 [.st 28] [.bool] (fun x=>law33_one x) [k13] [] Tryz.f12 (.s .n (.s (.s .n (.l [] [(3,.v .int)] [(0,[3],[])] (fun _=>6) .n)) .n)) Tryz.func12 Tryz.call12 rfl rfl fun x=>by kernel_rfl
def law33_few_L0 (t_:Town) (s1:Int):Option (Flow (Int) (Bool)):=
 if ((decide (s1 < (t_.Plan.Caps.length:Int))) && (decide (s1 < 4))) then
  (getI t_.Plan.Caps s1).bind fun x1=>
  if (decide (12 < (x1.Corners.length:Int))) then
   some (.ret false)
  else
   (addI s1 1).bind fun x2=>
   some (.go x2)
 else
  some (.ex 0 s1)
def law33_few_L1 (t_:Town) (s1:Int):Option (Flow (Int) (Bool)):=
 if ((decide (s1 < (t_.Plan.Views.length:Int))) && (decide (s1 < 4))) then
  (getI t_.Plan.Views s1).bind fun x1=>
  if (decide (5 < (x1.Targets.length:Int))) then
   some (.ret false)
  else
   (addI s1 1).bind fun x2=>
   some (.go x2)
 else
  some (.ex 2 s1)
def law33_few_L2 (t_:Town) (s1:Int):Option (Flow (Int) (Bool)):=
 if ((decide (s1 < (t_.Plan.Tables.length:Int))) && (decide (s1 < 5))) then
  (getI t_.Plan.Tables s1).bind fun x1=>
  if (decide (8 < (x1.Rows.length:Int))) then
   some (.ret false)
  else
   (addI s1 1).bind fun x2=>
   some (.go x2)
 else
  some (.ex 4 s1)
def law33_few_L3 (rights_:(List Right)) (n_:Int) (s1:Int):Option (Flow (Int) (Bool)):=
 if ((decide (s1 < (rights_.length:Int))) && (decide (s1 ≤ n_))) then
  (getI rights_ s1).bind fun x1=>
  (law33_one x1).bind fun x2=>
  if (!x2) then
   some (.ret false)
  else
   (addI s1 1).bind fun x3=>
   some (.go x3)
 else
  some (.ex 6 s1)
def law33_few (t_:Town) (rights_:(List Right)) (n_:Int):Option (Bool):=
 (iterL (law33_few_L0 t_) (5) 0).bind fun f1=>match f1 with
  | .go _=>none
  | .ex _ _ =>
   (iterL (law33_few_L1 t_) (5) 0).bind fun f2=>match f2 with
    | .go _=>none
    | .ex _ _ =>
     (iterL (law33_few_L2 t_) (6) 0).bind fun f3=>match f3 with
      | .go _=>none
      | .ex _ _ =>
       (iterL (law33_few_L3 rights_ n_) (rights_.length + 1) 0).bind fun f4=>match f4 with
        | .go _=>none
        | .ex _ _=>
         some ((((((((decide ((t_.Plan.Caps.length:Int) ≤ 3)) && (decide ((t_.Plan.Sun.length:Int) ≤ 5))) && (decide ((t_.Windows.length:Int) ≤ 4))) && (decide ((t_.Plan.Views.length:Int) ≤ 3))) && (decide ((t_.Built.length:Int) ≤ 8))) && (decide ((t_.Base.length:Int) ≤ 6))) && (decide ((t_.Plan.Tables.length:Int) ≤ 4))) && (decide ((rights_.length:Int) ≤ n_)))
        | .ret r1=>some r1
      | .ret r2=>some r2
    | .ret r3=>some r3
  | .ret r4=>some r4
noncomputable def k11:=mk 11 [.st 7,.list (.st 28),.int] [.bool] (fun x=>law33_few x.1 x.2.1 x.2.2) [k12] [] Tryz.f11 (.s .n (.s .n (.s (.s .n (.l [] [(8,.v .int)] [(0,[8],[])] (fun _=>5) .n)) (.s (.s .n (.l [] [(9,.v .int)] [(2,[9],[])] (fun _=>5) .n)) (.s (.s .n (.l [] [(10,.v .int)] [(4,[10],[])] (fun _=>6) .n)) (.s (.s .n (.l [] [(11,.v .int)] [(6,[11],[])] (fL [1]) .n)) .n)))))) Tryz.func11 Tryz.call11 rfl rfl fun x=>by kernel_rfl
def law33_VestedDarkens (t_:Town) (lot_:Int) (v_:Volume):Option (Bool):=
 (law33_small).bind fun x1=>
 (law33_few t_ ([]:List Right) 0).bind fun x2=>
 if (!x2) then
  some x1
 else
  (vested_Keeps t_).bind fun x3=>
  (vested_After t_ lot_ (⟨[v_],[]⟩:Phase)).bind fun x4=>
  (vested_Keeps x4).bind fun x5=>
  some ((x1 && (x3.2 || (x3.1.Kind != 0))) && ((x3.2 || (x3.1.Kind == 1)) || (!x5.2)))
noncomputable def k9:=mk 9 [.st 7,.int,.st 4] [.bool] (fun x=>law33_VestedDarkens x.1 x.2.1 x.2.2) [k10,k11,k19,k15] [] Tryz.f9 (.n) Tryz.func9 Tryz.call9 rfl rfl fun x=>by kernel_rfl
theorem law33_VestedDarkens_ok {k0:K} {v0 v1 v2:Value} {x0:Town} {x1:Int} {x2:Volume} {r:Bool} (i0:IsV x0 v0 k0) (i1:IsV x1 v1 k0) (i2:IsV x2 v2 k0) (hr:law33_VestedDarkens x0 x1 x2 = some r):Calls Tryz.prog 9 #[v0,v1,v2] k0.w (Ret k0 (IsV r)):=(k9.ok.ok k0 [v0,v1,v2] (x0,x1,x2) r (GOk.none (fun _=>rfl) fun _ e=>by cases e) ⟨i0,i1,i2⟩ hr)
end Go.Proofs.YtegglcdhfnjhcaaGreat
