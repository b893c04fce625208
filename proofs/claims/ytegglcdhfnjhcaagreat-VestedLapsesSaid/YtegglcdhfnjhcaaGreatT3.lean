/- What the functions compute that the law reaches, part 3 -/
import Derived.Test.YtegglcdhfnjhcaaGreatT2
namespace Go.Proofs.YtegglcdhfnjhcaaGreat
open Go.Gb
set_option linter.unusedVariables false
set_option linter.unusedSimpArgs false
set_option maxRecDepth 100000
def slices_Concat_Rect_L0 (slices_:(List (List Rect))) (s1:Int × Int):Option (Flow (Int × Int) ((List Rect))):=
 if (decide (s1.2 < (slices_.length:Int))) then
  (getI slices_ s1.2).bind fun x1=>
  (addI s1.1 (x1.length:Int)).bind fun x2=>
  if (decide (x2 < 0)) then
   none
  else
   (addI s1.2 1).bind fun x3=>
   some (.go (x2,x3))
 else
  some (.ex 0 (s1.1,s1.2))
def slices_Concat_Rect_L1 (slices_:(List (List Rect))) (s1:(List Rect) × Int):Option (Flow ((List Rect) × Int) ((List Rect))):=
 if (decide (s1.2 < (slices_.length:Int))) then
  (getI slices_ s1.2).bind fun x1=>
  (appI s1.1 x1).bind fun x2=>
  (addI s1.2 1).bind fun x3=>
  some (.go (x2,x3))
 else
  some (.ex 2 (s1.1,s1.2))
def slices_Concat_Rect (slices_:(List (List Rect))):Option ((List Rect)):=
 (iterL (slices_Concat_Rect_L0 slices_) (slices_.length + 1) (0,0)).bind fun f1=>match f1 with
  | .go _=>none
  | .ex _ s1 =>
   (growI Rect s1.1).bind fun x1=>
   (iterL (slices_Concat_Rect_L1 slices_) (slices_.length + 1) (x1,0)).bind fun f2=>match f2 with
    | .go _=>none
    | .ex _ s2=>
     some s2.1
    | .ret r1=>some r1
  | .ret r2=>some r2
theorem slices_Concat_Rect_okO {k0:K} {v0:Value} {slices_:(List (List Rect))} {r:(List Rect)} (i0:(IsV slices_) v0 k0) (hr:slices_Concat_Rect slices_ = some r) :
  Calls Tryz.prog 183 #[v0] k0.w (Ret k0 (IsOwn k0.w.heap.size 79 r)):=by
 unfold slices_Concat_Rect at hr
 refine Ret.ofC ?_
 refine enterK Tryz.func183 rfl Tryz.ntmps183 (show 1 ≤ 36 by decide) fun a k hk0 hs hd ha=>?_
 obtain ⟨e0,_⟩:=ha
 replace i0:(IsV slices_) (a.get 0) k:=by rw [e0,hk0]; exact i0
 have hQ:Gb.LetsOut (bodyPost Tryz.prog Tryz.f183 (RetC noF k0 (IsOwn k0.w.heap.size 79 r))):=letsOutC
 have hg:Chg noF k0 k:=by rw [hk0]; exact Chg.refl _ k0
 refine stepL 1 (⟨some IsE0,[]⟩::[]) rfl ⟨hg,hs,hd⟩ (by kernel_rfl) ⟨ob1 rfl fun b q h n=>ok_assign rfl isE0_nil,trivial⟩ [⟨_,_⟩] (fun b q p=>⟨p.ke 0 rfl i0,trivial⟩) ?_
 rintro a k ⟨⟨hg,hs,hd⟩,i0,_⟩
 refine stepL 1 (⟨some (IsI 0),[]⟩::[]) rfl ⟨hg,hs,hd⟩ (by kernel_rfl) ⟨aI rfl rfl,trivial⟩ [⟨_,_⟩,⟨_,_⟩] (fun b q p=>⟨p.ke 0 rfl i0,p.ou 0 3 rfl,trivial⟩) ?_
 rintro a k ⟨⟨hg,hs,hd⟩,i0,i3,_⟩
 refine wp_seq ?_
 refine stepL 3 (_::_::⟨some (IsI 0),[]⟩::[]) rfl ⟨hg,hs,hd⟩ (by kernel_rfl) ⟨mu rfl i0,o1 [(9,some 0)] rfl fun _ _ h n=>ok_len rfl rfl Tryz.underlying233 (IsV.rd n.1),ob1 rfl fun _ _ h n=>ok_move rfl (cI rfl),trivial⟩ [⟨_,_⟩,⟨_,_⟩,⟨_,_⟩,⟨_,_⟩,⟨_,_⟩] (fun b q p=>⟨p.ke 0 rfl i0,p.ke 3 rfl i3,p.ou 0 9 rfl,p.ou 1 10 rfl,p.ou 2 11 rfl,trivial⟩) ?_
 rintro a k ⟨⟨hg,hs,hd⟩,i0,i3,i9,i10,i11,_⟩
 refine wp_block ?_
 obtain ⟨f1,hf1,hr⟩:=bind_some hr
 refine cutFe f1 (fun s' c l=>Bs noF k0 36 c l∧IsV slices_ (c.get 0) l∧IsV s'.1 (c.get 3) l∧IsV slices_ (c.get 9) l∧IsL slices_ (c.get 10) l∧IsV s'.2 (c.get 11) l∧True) (fun i' s' c l=>(i' = 0∧Bs noF k0 36 c l∧IsV slices_ (c.get 0) l∧IsV s'.1 (c.get 3) l∧True)) (fun r' c l=>bodyPost Tryz.prog Tryz.f183 (RetC noF k0 (IsOwn k0.w.heap.size 79 r')) .ret c l.w) ?_ hQ ?_ ?_ ?_
 ·intro Q1 W1 hgo hex hret
  refine sim_loop ?_ _ _ _ _ _ hf1 ⟨⟨hg,hs,hd⟩,i0,i3,i9,i10,i11,trivial⟩ Q1 W1 hgo hex hret
  clear hr hf1 hgo hex hret W1 hQ hg hs hd i0 i10 i11 i3 i9
  intro s1 fl_ a k hr hS Q hQ hgo1233 hex1234 hret1235
  obtain ⟨⟨hg,hs,hd⟩,i0,i3,i9,i10,i11,_⟩:=hS
  unfold slices_Concat_Rect_L0 at hr
  refine stepL 1 (_::[]) rfl ⟨hg,hs,hd⟩ (by kernel_rfl) ⟨o1 [(11,none),(10,none)] rfl fun _ _ h n=>ok_lss rfl (up i11 h n.1) (up i10 h n.2.1),trivial⟩ [⟨_,_⟩,⟨_,_⟩,⟨_,_⟩,⟨_,_⟩,⟨_,_⟩,⟨_,_⟩] (fun b q p=>⟨p.ke 0 rfl i0,p.ke 3 rfl i3,p.ke 9 rfl i9,p.ke 10 rfl i10,p.ke 11 rfl i11,p.ou 0 12 rfl,trivial⟩) ?_
  rintro a k ⟨⟨hg,hs,hd⟩,i0,i3,i9,i10,i11,i12,_⟩
  refine wp_seq ?_
  refine wp_cond_split (isBool i12) (fun hc1250=>?_) (fun hc1250=>?_)
  ·rw [if_pos hc1250] at hr
   refine wp_skip ?_
   refine wp_seq ?_
   refine wp_block ?_
   refine wp_seq ?_
   obtain ⟨x1,hx1,hr⟩:=bind_some hr
   refine cut (fun a' k'=>Bs noF k0 36 a' k'∧(IsV slices_) (a'.get 0) k'∧(IsV s1.1) (a'.get 3) k'∧(IsV x1) (a'.get 5) k'∧(IsV slices_) (a'.get 9) k'∧(IsL slices_) (a'.get 10) k'∧(IsV s1.2) (a'.get 11) k'∧True) ?_ hQ ?_
   ·intro Q2 W2 w1
    refine gS 3 (_::_::_::[]) hs (by kernel_rfl) ⟨o1 [(9,none),(11,none)] rfl fun _ _ h n=>ok_indexAddr rfl Tryz.underlying233 ty130 (IsV.rd (up i9 h n.1)) (up i11 h n.2.1) hx1,o1 [(13,some 0)] rfl fun _ _ h n=>ok_load rfl ty130 n.1,cp 1 rfl rfl,trivial⟩ W2 fun b q p=>?_
    exact tail_done (k:=q) (w1 _ _ ⟨Bs.post ⟨hg,hs,hd⟩ p,p.ke 0 rfl i0,p.ke 3 rfl i3,p.ou 2 5 rfl,p.ke 9 rfl i9,p.ke 10 rfl i10,p.ke 11 rfl i11,trivial⟩)
   rintro a k ⟨⟨hg,hs,hd⟩,i0,i3,i5,i9,i10,i11,_⟩
   refine wp_seq ?_
   obtain ⟨x2,hx2,hr⟩:=bind_some hr
   refine cut (fun a' k'=>Bs noF k0 36 a' k'∧(IsV slices_) (a'.get 0) k'∧(IsV x2) (a'.get 3) k'∧(IsV slices_) (a'.get 9) k'∧(IsL slices_) (a'.get 10) k'∧(IsV s1.2) (a'.get 11) k'∧True) ?_ hQ ?_
   ·intro Q3 W3 w2
    refine gS 5 (_::_::_::_::_::[]) hs (by kernel_rfl) ⟨mu rfl i3,mu rfl i5,o1 [(16,some 1)] rfl fun _ _ h n=>ok_len rfl rfl Tryz.underlying130 (IsV.rd n.1),o1 [(15,some 0),(17,some 2)] rfl fun _ _ h n=>ok_add rfl n.1 n.2.1 hx2,cp 3 rfl rfl,trivial⟩ W3 fun b q p=>?_
    exact tail_done (k:=q) (w2 _ _ ⟨Bs.post ⟨hg,hs,hd⟩ p,p.ke 0 rfl i0,p.ou 4 3 rfl,p.ke 9 rfl i9,p.ke 10 rfl i10,p.ke 11 rfl i11,trivial⟩)
   rintro a k ⟨⟨hg,hs,hd⟩,i0,i3,i9,i10,i11,_⟩
   refine stepL 2 (_::_::[]) rfl ⟨hg,hs,hd⟩ (by kernel_rfl) ⟨mu rfl i3,o1 [(19,some 0)] rfl fun _ _ h n=>ok_lss rfl n.1 (cI rfl),trivial⟩ [⟨_,_⟩,⟨_,_⟩,⟨_,_⟩,⟨_,_⟩,⟨_,_⟩,⟨_,_⟩] (fun b q p=>⟨p.ke 0 rfl i0,p.ke 3 rfl i3,p.ke 9 rfl i9,p.ke 10 rfl i10,p.ke 11 rfl i11,p.ou 1 20 rfl,trivial⟩) ?_
   rintro a k ⟨⟨hg,hs,hd⟩,i0,i3,i9,i10,i11,i20,_⟩
   refine wp_cond_split (isBool i20) (fun hc1243=>?_) (fun hc1243=>?_)
   ·rw [if_pos hc1243] at hr
    simp at hr
   rw [if_neg (by rw [hc1243]; decide)] at hr
   refine wp_skip ?_
   obtain ⟨x3,hx3,hr⟩:=bind_some hr
   refine cut (fun a' k'=>Bs noF k0 36 a' k'∧(IsV slices_) (a'.get 0) k'∧(IsV x2) (a'.get 3) k'∧(IsV slices_) (a'.get 9) k'∧(IsL slices_) (a'.get 10) k'∧(IsV x3) (a'.get 11) k'∧True) ?_ hQ ?_
   ·intro Q4 W4 w3
    refine gS 2 (_::_::[]) hs (by kernel_rfl) ⟨o1 [(11,none)] rfl fun _ _ h n=>ok_add rfl (up i11 h n.1) (cI rfl) hx3,cm 0 rfl rfl,trivial⟩ W4 fun b q p=>?_
    exact tail_done (k:=q) (w3 _ _ ⟨Bs.post ⟨hg,hs,hd⟩ p,p.ke 0 rfl i0,p.ke 3 rfl i3,p.ke 9 rfl i9,p.ke 10 rfl i10,p.ou 1 11 rfl,trivial⟩)
   rintro a k ⟨⟨hg,hs,hd⟩,i0,i3,i9,i10,i11,_⟩
   exact hgo1233 _ _ _ (Option.some.inj hr).symm ⟨⟨hg,hs,hd⟩,i0,i3,i9,i10,i11,trivial⟩
  rw [if_neg (by rw [hc1250]; decide)] at hr
  refine wp_exit ?_
  exact hex1234 _ _ _ _ (Option.some.inj hr).symm ⟨rfl,⟨hg,hs,hd⟩,i0,i3,trivial⟩
 ·rintro r1 a k rfl hR
  dsimp only at hr
  obtain rfl:=Option.some.inj hr
  exact hR
 ·rintro _ _ _ rfl _
  simp at hr
 clear hf1
 rintro _ s2 a k rfl ⟨rfl,⟨hg,hs,hd⟩,i0,i3,_⟩
 dsimp only at hr
 refine wp_seq ?_
 obtain ⟨x4,hx4,hr⟩:=bind_some hr
 refine cut (fun a' k'=>Bs noF k0 36 a' k'∧(IsV slices_) (a'.get 0) k'∧IsOwn 0 79 x4 (a'.get 6) k'∧Lo k0 (obF (a'.get 6))∧True) ?_ hQ ?_
 ·intro Q5 W5 w4
  refine gS 3 (_::_::_::[]) hs (by kernel_rfl) ⟨mu rfl i3,o1 [(23,some 0)] rfl fun _ _ h n=>ok_call rfl Tryz.call185 (ret_weaken h.size (slices_Grow_Rect_okO rfl n.1 hx4)),cp 1 rfl rfl,trivial⟩ W5 fun b q p=>?_
  have hgq:=hg.then p.grow
  have hsb:=p.size.trans hs
  have hdb:=p.defers.trans hd
  have j0:=p.ke 0 rfl i0
  have j6:(IsOwn k.w.heap.size 79 x4) (b.get 6) q:=p.ou 2 6 rfl
  have x6:Lo k (obF (b.get 6)):=j6.loF
  have y6:=x6.chg hg
  replace j6:=j6.weaken (Nat.zero_le _)
  exact tail_done (k:=q) (w4 _ _ ⟨⟨hgq,hsb,hdb⟩,j0,j6,y6,trivial⟩)
 rintro a k ⟨⟨hg,hs,hd⟩,i0,i6,n6,_⟩
 refine wp_seq ?_
 refine cutS (fun c l=>Bs noF k0 36 c l∧IsOwn 0 79 x4 (c.get 6) l∧Lo k0 (obF (c.get 6))∧IsV slices_ (c.get 25) l∧IsL slices_ (c.get 26) l∧IsI 0 (c.get 27) l∧True) ?_ ?_
 ·intro Q6 W6 w5
  refine gS 3 (_::_::⟨some (IsI 0),[]⟩::[]) hs (by kernel_rfl) ⟨mu rfl i0,o1 [(25,some 0)] rfl fun _ _ h n=>ok_len rfl rfl Tryz.underlying233 (IsV.rd n.1),ob1 rfl fun _ _ h n=>ok_move rfl (cI rfl),trivial⟩ W6 fun b q p=>?_
  exact tail_done (k:=q) (w5 _ _ ⟨Bs.post ⟨hg,hs,hd⟩ p,p.ke 6 rfl i6,(by rw [p.old 6 rfl]; exact n6),p.ou 0 25 rfl,p.ou 1 26 rfl,p.ou 2 27 rfl,trivial⟩)
 rintro a k ⟨⟨hg,hs,hd⟩,i6,n6,i25,i26,i27,_⟩
 refine wp_block ?_
 obtain ⟨f2,hf2,hr⟩:=bind_some hr
 refine cutFe f2 (fun s' c l=>Bs noF k0 36 c l∧IsOwn 0 79 s'.1 (c.get 6) l∧Lo k0 (obF (c.get 6))∧IsV slices_ (c.get 25) l∧IsL slices_ (c.get 26) l∧IsV s'.2 (c.get 27) l∧True) (fun i' s' c l=>(i' = 2∧Bs noF k0 36 c l∧IsOwn 0 79 s'.1 (c.get 6) l∧Lo k0 (obF (c.get 6))∧True)) (fun r' c l=>bodyPost Tryz.prog Tryz.f183 (RetC noF k0 (IsOwn k0.w.heap.size 79 r')) .ret c l.w) ?_ hQ ?_ ?_ ?_
 ·intro Q7 W7 hgo hex hret
  refine sim_loop ?_ _ _ _ _ _ hf2 ⟨⟨hg,hs,hd⟩,i6,n6,i25,i26,i27,trivial⟩ Q7 W7 hgo hex hret
  clear hr hf2 hgo hex hret W7 hQ hg hs hd i25 i26 i27 i6 n6
  intro s3 fl_ a k hr hS Q hQ hgo1258 hex1259 hret1260
  obtain ⟨⟨hg,hs,hd⟩,i6,n6,i25,i26,i27,_⟩:=hS
  unfold slices_Concat_Rect_L1 at hr
  refine cutS (fun c l=>Bs noF k0 36 c l∧IsOwn 0 79 s3.1 (c.get 6) l∧Lo k0 (obF (c.get 6))∧IsV slices_ (c.get 25) l∧IsL slices_ (c.get 26) l∧IsV s3.2 (c.get 27) l∧(IsV (decide (s3.2 < (slices_.length:Int)))) (c.get 28) l∧True) ?_ ?_
  ·intro Q8 W8 w6
   refine gS 1 (_::[]) hs (by kernel_rfl) ⟨o1 [(27,none),(26,none)] rfl fun _ _ h n=>ok_lss rfl (up i27 h n.1) (up i26 h n.2.1),trivial⟩ W8 fun b q p=>?_
   exact tail_done (k:=q) (w6 _ _ ⟨Bs.post ⟨hg,hs,hd⟩ p,p.ke 6 rfl i6,(by rw [p.old 6 rfl]; exact n6),p.ke 25 rfl i25,p.ke 26 rfl i26,p.ke 27 rfl i27,p.ou 0 28 rfl,trivial⟩)
  rintro a k ⟨⟨hg,hs,hd⟩,i6,n6,i25,i26,i27,i28,_⟩
  refine wp_seq ?_
  refine wp_cond_split (isBool i28) (fun hc1271=>?_) (fun hc1271=>?_)
  ·rw [if_pos hc1271] at hr
   refine wp_skip ?_
   refine wp_seq ?_
   refine wp_block ?_
   refine wp_seq ?_
   obtain ⟨x5,hx5,hr⟩:=bind_some hr
   refine cut (fun a' k'=>Bs noF k0 36 a' k'∧IsOwn 0 79 s3.1 (a'.get 6) k'∧Lo k0 (obF (a'.get 6))∧(IsV x5) (a'.get 8) k'∧(IsV slices_) (a'.get 25) k'∧(IsL slices_) (a'.get 26) k'∧(IsV s3.2) (a'.get 27) k'∧True) ?_ hQ ?_
   ·intro Q9 W9 w7
    refine gS 3 (_::_::_::[]) hs (by kernel_rfl) ⟨o1 [(25,none),(27,none)] rfl fun _ _ h n=>ok_indexAddr rfl Tryz.underlying233 ty130 (IsV.rd (up i25 h n.1)) (up i27 h n.2.1) hx5,o1 [(29,some 0)] rfl fun _ _ h n=>ok_load rfl ty130 n.1,cp 1 rfl rfl,trivial⟩ W9 fun b q p=>?_
    exact tail_done (k:=q) (w7 _ _ ⟨Bs.post ⟨hg,hs,hd⟩ p,p.ke 6 rfl i6,(by rw [p.old 6 rfl]; exact n6),p.ou 2 8 rfl,p.ke 25 rfl i25,p.ke 26 rfl i26,p.ke 27 rfl i27,trivial⟩)
   rintro a k ⟨⟨hg,hs,hd⟩,i6,n6,i8,i25,i26,i27,_⟩
   obtain ⟨x7,hx7,hr⟩:=bind_some hr
   refine cut (fun a' k'=>Bs noF k0 36 a' k'∧IsOwn 0 79 x7 (a'.get 6) k'∧Lo k0 (obF (a'.get 6))∧(IsV slices_) (a'.get 25) k'∧(IsL slices_) (a'.get 26) k'∧(IsV s3.2) (a'.get 27) k'∧True) ?_ hQ ?_
   ·intro Q10 W10 w8
    refine gS 2 (⟨some (OwnAt (a.get 6) 0 79 s3.1),[(6,none)]⟩::_::[]) hs (by kernel_rfl) ⟨ob1 rfl fun _ _ h n=>ok_moveOA (.inl rfl) (ownAt n.1 (up i6 h n.1)),mu rfl i8,trivial⟩ W10 fun b q p=>?_
    have hgq:=hg.then p.grow
    have hsb:=p.size.trans hs
    have hdb:=p.defers.trans hd
    have j25:=p.ke 25 rfl i25
    have j26:=p.ke 26 rfl i26
    have j27:=p.ke 27 rfl i27
    have e31:b.get 31 = a.get 6:=(p.ou 0 31 rfl).1
    have j31:IsOwn 0 79 s3.1 (b.get 31) q:=(p.ou 0 31 rfl).2
    have y31:Lo k0 (obF (b.get 31)):=by rw [e31]; exact n6
    have j32:(IsV x5) (b.get 32) q:=p.ou 1 32 rfl
    have hns:=j31.nshF
    refine tail_appendS (i:=2) (d:=33) rfl rfl rfl rfl (by rw [hsb]; decide) (e:=79) Tryz.underlying130 eo79 j31 (IsV.rd j32) hx7 fun b2 q2 hsz hdf hoth hch hown hob=>?_
    have hle:=hch.le hns
    have yn:Lo k0 (obF (b2.get 33)):=y31.app hgq hob
    replace j25:=Pers.pers hle j25
    replace j26:=Pers.pers hle j26
    replace j27:=Pers.pers hle j27
    replace j32:=Pers.pers hle j32
    replace hgq:=hgq.step hch y31.wr
    rw [← hoth 25 (by decide)] at j25
    rw [← hoth 26 (by decide)] at j26
    rw [← hoth 27 (by decide)] at j27
    rw [← hoth 32 (by decide)] at j32
    have j33:=hown
    have y33:=yn
    replace hsb:=hsz.trans hsb
    replace hdb:=hdf.trans hdb
    clear hle hch hown hob hns yn hsz hdf hoth
    obtain ⟨b,hbb⟩ : ∃ b,b = b2:=⟨b2,rfl⟩
    subst hbb
    obtain ⟨q,hqq⟩ : ∃ q,q = q2:=⟨q2,rfl⟩
    subst hqq
    refine tail_assign (i:=3) (d:=6) rfl rfl (.inl rfl) rfl (by rw [hsb]; decide) fun b2 hsz hdf hnew hoth=>?_
    have jn:(IsOwn 0 79 x7) (b2.get 6) q:=by rw [hnew]; exact j33
    have yn:Lo k0 (obF (b2.get 6)):=by rw [hnew]; exact y33
    rw [← hoth 25 (by decide)] at j25
    rw [← hoth 26 (by decide)] at j26
    rw [← hoth 27 (by decide)] at j27
    rw [← hoth 32 (by decide)] at j32
    have j6:=jn
    have y6:=yn
    replace hsb:=hsz.trans hsb
    replace hdb:=hdf.trans hdb
    clear hsz hdf hoth
    obtain ⟨b,hbb⟩ : ∃ b,b = b2:=⟨b2,rfl⟩
    subst hbb
    exact tail_done (k:=q) (w8 _ _ ⟨⟨hgq,hsb,hdb⟩,j6,y6,j25,j26,j27,trivial⟩)
   rintro a k ⟨⟨hg,hs,hd⟩,i6,n6,i25,i26,i27,_⟩
   obtain ⟨x8,hx8,hr⟩:=bind_some hr
   refine cut (fun a' k'=>Bs noF k0 36 a' k'∧IsOwn 0 79 x7 (a'.get 6) k'∧Lo k0 (obF (a'.get 6))∧(IsV slices_) (a'.get 25) k'∧(IsL slices_) (a'.get 26) k'∧(IsV x8) (a'.get 27) k'∧True) ?_ hQ ?_
   ·intro Q11 W11 w9
    refine gS 2 (_::_::[]) hs (by kernel_rfl) ⟨o1 [(27,none)] rfl fun _ _ h n=>ok_add rfl (up i27 h n.1) (cI rfl) hx8,cm 0 rfl rfl,trivial⟩ W11 fun b q p=>?_
    exact tail_done (k:=q) (w9 _ _ ⟨Bs.post ⟨hg,hs,hd⟩ p,p.ke 6 rfl i6,(by rw [p.old 6 rfl]; exact n6),p.ke 25 rfl i25,p.ke 26 rfl i26,p.ou 1 27 rfl,trivial⟩)
   rintro a k ⟨⟨hg,hs,hd⟩,i6,n6,i25,i26,i27,_⟩
   exact hgo1258 _ _ _ (Option.some.inj hr).symm ⟨⟨hg,hs,hd⟩,i6,n6,i25,i26,i27,trivial⟩
  rw [if_neg (by rw [hc1271]; decide)] at hr
  refine wp_exit ?_
  exact hex1259 _ _ _ _ (Option.some.inj hr).symm ⟨rfl,⟨hg,hs,hd⟩,i6,n6,trivial⟩
 ·rintro r2 a k rfl hR
  dsimp only at hr
  obtain rfl:=Option.some.inj hr
  exact hR
 ·rintro _ _ _ rfl _
  simp at hr
 clear hf2
 rintro _ s4 a k rfl ⟨rfl,⟨hg,hs,hd⟩,i6,n6,_⟩
 dsimp only at hr
 refine cutS (fun c l=>Bs noF k0 36 c l∧IsOwn 0 79 s4.1 (c.get 2) l∧Lo k0 (obF (c.get 2))∧True) ?_ ?_
 ·intro Q12 W12 w10
  refine gS 2 (⟨some (OwnAt (a.get 6) 0 79 s4.1),[(6,none)]⟩::⟨some (OwnAt (a.get 6) 0 79 s4.1),[(35,some 0)]⟩::[]) hs (by kernel_rfl) ⟨ob1 rfl fun _ _ h n=>ok_moveOA (.inl rfl) (ownAt n.1 (up i6 h n.1)),ob1 rfl fun _ _ h n=>ok_moveOA (.inr rfl) n.1,trivial⟩ W12 fun b q p=>?_
  have hgq:=hg.then p.grow
  have hsb:=p.size.trans hs
  have hdb:=p.defers.trans hd
  have e2:b.get 2 = a.get 6:=(p.ou 1 2 rfl).1
  have j2:IsOwn 0 79 s4.1 (b.get 2) q:=(p.ou 1 2 rfl).2
  have y2:Lo k0 (obF (b.get 2)):=by rw [e2]; exact n6
  exact tail_done (k:=q) (w10 _ _ ⟨⟨hgq,hsb,hdb⟩,j2,y2,trivial⟩)
 rintro a k ⟨⟨hg,hs,hd⟩,i2,n2,_⟩
 refine wp_ret ?_
 obtain rfl:=Option.some.inj hr
 exact retC1 rfl hd hg (show ResOk _ _ _ (.tmp 2) _ from IsOwn.raise (k0:=k0) i2 n2)
theorem slices_Concat_Rect_ok {k0:K} {v0:Value} {slices_:(List (List Rect))} {r:(List Rect)} (i0:(IsV slices_) v0 k0) (hr:slices_Concat_Rect slices_ = some r) :
  Calls Tryz.prog 183 #[v0] k0.w (Ret k0 (IsV r)):=
 ret_give (slices_Concat_Rect_okO i0 hr)
def region_column_1 (a_:RegionSpan) (b_:RegionSpan):Option (Int):=
 (cmp_Compare_int a_.from_ b_.from_).bind fun x1=>
 some x1
noncomputable def k187:=mk 187 [.st 23,.st 23] [.int] (fun x=>region_column_1 x.1 x.2) [k150] [] Tryz.f187 (.n) Tryz.func187 Tryz.call187 rfl rfl fun x=>by kernel_rfl
theorem region_column_1_ok {k0:K} {v0 v1:Value} {x0:RegionSpan} {x1:RegionSpan} {r:Int} (i0:(IsV x0) v0 k0) (i1:(IsV x1) v1 k0) (hr:region_column_1 x0 x1 = some r):Calls Tryz.prog 187 #[v0,v1] k0.w (Ret k0 (IsV r)):=(k187.ok.ok k0 [v0,v1] (x0,x1) r (GOk.none (fun _=>rfl) fun _ e=>by cases e) ⟨i0,i1⟩ hr)
section
open Go.Proofs Go.RowKit Go.Lib Go.Sort Go.Shelf
def Tryz.sortSpansL_ren:Go.Shelf.Ren:=⟨fun | 6=>186 | 15=>132 | 14=>188 | 28=>160 | 29=>161 | 20=>189 | 21=>190 | 22=>191 | 23=>192 | 24=>193 | 25=>194 | 26=>195 | 27=>196 | 46=>197 | 47=>169 | 48=>170 | 49=>198 | 50=>199 | 57=>200 | n=>n,fun | 22=>228 | 24=>230 | 25=>238 | 3=>3 | 39=>179 | 0=>0 | 53=>207 | 55=>209 | 4=>4 | 46=>199 | 45=>198 | 50=>204 | 5=>5 | 9=>9 | 66=>214 | 70=>218 | 76=>221 | 77=>222 | n=>n,fun | n=>n⟩
theorem Tryz.sortSpansL:Go.Proofs.SlLaysF0.n6 Tryz.prog Tryz.sortSpansL_ren:={
 mixed:=by kernel_rfl,
 f6:=⟨Tryz.f186.name,by decide,Tryz.func186.trans (congrArg some (by kernel_rfl))⟩,
 f14:=⟨Tryz.f188.name,by decide,Tryz.func188.trans (congrArg some (by kernel_rfl))⟩,
 f15:=Tryz.func132.trans (congrArg some (by kernel_rfl)),
 f20:=⟨Tryz.f189.name,by decide,Tryz.func189.trans (congrArg some (by kernel_rfl))⟩,
 f21:=⟨Tryz.f190.name,by decide,Tryz.func190.trans (congrArg some (by kernel_rfl))⟩,
 f22:=⟨Tryz.f191.name,by decide,Tryz.func191.trans (congrArg some (by kernel_rfl))⟩,
 f23:=⟨Tryz.f192.name,by decide,Tryz.func192.trans (congrArg some (by kernel_rfl))⟩,
 f24:=⟨Tryz.f193.name,by decide,Tryz.func193.trans (congrArg some (by kernel_rfl))⟩,
 f25:=⟨Tryz.f194.name,by decide,Tryz.func194.trans (congrArg some (by kernel_rfl))⟩,
 f26:=⟨Tryz.f195.name,by decide,Tryz.func195.trans (congrArg some (by kernel_rfl))⟩,
 f27:=⟨Tryz.f196.name,by decide,Tryz.func196.trans (congrArg some (by kernel_rfl))⟩,
 f28:=Tryz.func160.trans (congrArg some (by kernel_rfl)),
 f29:=Tryz.func161.trans (congrArg some (by kernel_rfl)),
 f46:=⟨Tryz.f197.name,by decide,Tryz.func197.trans (congrArg some (by kernel_rfl))⟩,
 f47:=Tryz.func169.trans (congrArg some (by kernel_rfl)),
 f48:=Tryz.func170.trans (congrArg some (by kernel_rfl)),
 f49:=⟨Tryz.f198.name,by decide,Tryz.func198.trans (congrArg some (by kernel_rfl))⟩,
 f50:=⟨Tryz.f199.name,by decide,Tryz.func199.trans (congrArg some (by kernel_rfl))⟩,
 f57:=⟨Tryz.f200.name,by decide,Tryz.func200.trans (congrArg some (by kernel_rfl))⟩,
 t0:=Tryz.underlying0,
 a0:=Tryz.isAgg0,
 z0:=Tryz.sizeOf0,
 v0:=Tryz.zeroValue0,
 t3:=Tryz.underlying3,
 a3:=Tryz.isAgg3,
 z3:=Tryz.sizeOf3,
 v3:=Tryz.zeroValue3,
 t4:=Tryz.underlying4,
 a4:=Tryz.isAgg4,
 z4:=Tryz.sizeOf4,
 v4:=Tryz.zeroValue4,
 t5:=Tryz.underlying5,
 a5:=Tryz.isAgg5,
 z5:=Tryz.sizeOf5,
 v5:=Tryz.zeroValue5,
 t9:=Tryz.underlying9,
 a9:=Tryz.isAgg9,
 z9:=Tryz.sizeOf9,
 v9:=Tryz.zeroValue9,
 t22:=Tryz.underlying228,
 a22:=Tryz.isAgg228,
 z22:=Tryz.sizeOf228,
 v22:=Tryz.zeroValue228,
 t25:=Tryz.underlying238,
 a25:=Tryz.isAgg238,
 z25:=Tryz.sizeOf238,
 v25:=Tryz.zeroValue238,
 t39:=Tryz.underlying179,
 a39:=Tryz.isAgg179,
 z39:=Tryz.sizeOf179,
 v39:=Tryz.zeroValue179,
 t45:=Tryz.underlying198,
 a45:=Tryz.isAgg198,
 z45:=Tryz.sizeOf198,
 v45:=Tryz.zeroValue198,
 t46:=Tryz.underlying199,
 a46:=Tryz.isAgg199,
 z46:=Tryz.sizeOf199,
 v46:=Tryz.zeroValue199,
 t50:=Tryz.underlying204,
 a50:=Tryz.isAgg204,
 z50:=Tryz.sizeOf204,
 v50:=Tryz.zeroValue204,
 t53:=Tryz.underlying207,
 a53:=Tryz.isAgg207,
 z53:=Tryz.sizeOf207,
 v53:=Tryz.zeroValue207,
 t55:=Tryz.underlying209,
 a55:=Tryz.isAgg209,
 z55:=Tryz.sizeOf209,
 v55:=Tryz.zeroValue209,
 t66:=Tryz.underlying214,
 a66:=Tryz.isAgg214,
 z66:=Tryz.sizeOf214,
 v66:=Tryz.zeroValue214,
 t70:=Tryz.underlying218,
 a70:=Tryz.isAgg218,
 z70:=Tryz.sizeOf218,
 v70:=Tryz.zeroValue218,
 t76:=Tryz.underlying221,
 a76:=Tryz.isAgg221,
 z76:=Tryz.sizeOf221,
 v76:=Tryz.zeroValue221,
 t77:=Tryz.underlying222,
 a77:=Tryz.isAgg222,
 z77:=Tryz.sizeOf222,
 v77:=Tryz.zeroValue222 }
instance:FlatE RegionSpan:=FlatE.ofMap fun x:RegionSpan=>(x.from_,x.to_)
/-- What the comparison of two spans hands back. -/
def spanCmp (x y:RegionSpan):Int:=if x.from_ < y.from_ then -1 else if y.from_ < x.from_ then 1 else 0
theorem column_1_val (x y:RegionSpan):region_column_1 x y = some (spanCmp x y):=by
 unfold region_column_1 cmp_Compare_int cmp_isNaN_int spanCmp
 by_cases h:x.from_ < y.from_
 ·simp [h]
 ·by_cases h2:y.from_ < x.from_ <;> simp [h,h2]
theorem ltOf_span (x y:RegionSpan):ltOf spanCmp x y = decide (x.from_ < y.from_):=by
 unfold ltOf spanCmp
 congr 1
 rw [eq_iff_iff]
 split
 ·simp [*]
 ·split <;> simp [*]
theorem spanCmp_swo:SWO (ltOf spanCmp):=by
 constructor <;> simp only [ltOf_span,decide_eq_true_eq,decide_eq_false_iff_not] <;> intros <;> omega
def sortSpans (l:List RegionSpan):Option (List RegionSpan):=if l.length ≤ 1073741824 then some (pdq (ltOf spanCmp) l.toArray 0 l.toArray.size (Lib.bitLen l.toArray.size) true true).toList else none
theorem sortSpans_spec {l:List RegionSpan} (h:l.length ≤ 1000000) : ∃ r,sortSpans l = some r∧r.Perm l∧r.Pairwise fun a b=>a.from_ ≤ b.from_:=by
 obtain ⟨⟨h1,_,h2⟩,h3⟩:=pdq_sorts (ltOf spanCmp) spanCmp_swo l.toArray 0 l.toArray.size (Lib.bitLen l.toArray.size) true true (Nat.zero_le _) (Nat.le_refl _) (Or.inl rfl)
 refine ⟨_,if_pos (by omega),?_,?_⟩
 ·generalize pdq (ltOf spanCmp) l.toArray 0 l.toArray.size (Lib.bitLen l.toArray.size) true true = r at h1 h2
  have e:r.extract 0 l.toArray.size = r:=by rw [← h1]; simp
  rw [e] at h2
  simpa using h2
 ·rw [List.pairwise_iff_getElem]
  intro i j hi hj hij
  have:=h3 i j (Nat.zero_le _) hij (by rw [← h1]; simpa using hj)
  rw [getElem!_pos _ j (by simpa using hj),getElem!_pos _ i (by simpa using hi)] at this
  rw [ltOf_span,decide_eq_false_iff_not] at this
  simp only [Array.getElem_toList]
  omega
theorem pdq_size (d:Array RegionSpan):(pdq (ltOf spanCmp) d 0 d.size (Lib.bitLen d.size) true true).size = d.size:=
 (pdq_sorts (ltOf spanCmp) spanCmp_swo d 0 d.size (Lib.bitLen d.size) true true (Nat.zero_le _) (Nat.le_refl _) (Or.inl rfl)).1.1
set_option maxHeartbeats 2000000 in
theorem sortSpans_ok {k0:K} {v0:Value} {l r:List RegionSpan} (i0:IsOwn 0 230 l v0 k0) (hr:sortSpans l = some r) :
  Calls Tryz.prog 186 #[v0,.func (.func 187) #[] #[]] k0.w (RetC (obF v0) k0 fun _ k'=>IsOwn 0 230 r v0 k'):=by
 unfold sortSpans at hr
 split at hr
 ·rename_i h12
  obtain rfl:=Option.some.inj hr
  refine sort_own (S:=fun d=>pdq (ltOf spanCmp) d 0 d.size (Lib.bitLen d.size) true true) pdq_size (fun p cap w=>?_) (fun blk off cap w hH hblk=>?_) i0
  ·have hcon:=AnyF.slices_SortFunc_none { Tryz.sortSpansL with } p cap (.func (.func 187) #[] #[]) w
   change Calls Tryz.prog 186 _ _ _ at hcon
   exact hcon
  ·have hcon:=AnyQ.slices_SortFunc_eq Tryz.sortSpansL 2 Tryz.isAgg230 Tryz.sizeOf230 (FlatE.enc (α:=RegionSpan)) (fun _=>rfl) (fun x v hv=>flat_one k0 x v hv) spanCmp spanCmp_swo 187 #[] blk off cap l.toArray w (enters_of Tryz.func187 (by kernel_rfl) rfl)
    (fun _ _ _ _ x y=>ret_cmp (k:=kFree _) (region_column_1_ok (isV_flat rfl x _) (isV_flat rfl y _) (column_1_val x y))) hH hblk (by simp; omega)
   change Calls Tryz.prog 186 _ _ _ at hcon
   exact hcon
 ·simp at hr
end
def region_column_L0 (l_:(List Rect)) (x_:Int) (s1:(List RegionSpan) × Int):Option (Flow ((List RegionSpan) × Int) ((List RegionSpan))):=
 if (decide (s1.2 < (l_.length:Int))) then
  (getI l_ s1.2).bind fun x1=>
  (if ((decide (x1.X0 ≤ x_)) && (decide (x_ < x1.X1))) then
   (appI s1.1 ([(⟨x1.Y0,x1.Y1⟩:RegionSpan)])).bind fun x2=>
   some x2
  else
   some s1.1).bind fun s2=>
  (addI s1.2 1).bind fun x3=>
  some (.go (s2,x3))
 else
  some (.ex 0 (s1.1,s1.2))
def region_column_L1 (x1:(List RegionSpan)) (s1:(List RegionSpan) × Int):Option (Flow ((List RegionSpan) × Int) ((List RegionSpan))):=
 if (decide (s1.2 < (x1.length:Int))) then
  (getI x1 s1.2).bind fun x2=>
  (if (decide (0 < (s1.1.length:Int))) then
   (subI (s1.1.length:Int) 1).bind fun x3=>
   (getI s1.1 x3).bind fun x4=>
   some (decide (x2.from_ ≤ x4.to_))
  else
   some false).bind fun x5=>
  (if x5 then
   (subI (s1.1.length:Int) 1).bind fun x6=>
   (subI (s1.1.length:Int) 1).bind fun x7=>
   (getI s1.1 x7).bind fun x8=>
   (getI s1.1 x6).bind fun x9=>
   (some (s1.1.set (x6).toNat ({ x9 with to_:=(max x8.to_ x2.to_) }))).bind fun x10=>
   some x10
  else
   (appI s1.1 ([x2])).bind fun x11=>
   some x11).bind fun s2=>
  (addI s1.2 1).bind fun x12=>
  some (.go (s2,x12))
 else
  some (.ex 2 (s1.1,s1.2))
def region_column (l_:(List Rect)) (x_:Int):Option ((List RegionSpan)):=
 (iterL (region_column_L0 l_ x_) (l_.length + 1) (([]:List RegionSpan),0)).bind fun f1=>match f1 with
  | .go _=>none
  | .ex _ s1 =>
   (sortSpans s1.1).bind fun x1=>
   (iterL (region_column_L1 x1) (x1.length + 1) (([]:List RegionSpan),0)).bind fun f2=>match f2 with
    | .go _=>none
    | .ex _ s2=>
     some s2.1
    | .ret r1=>some r1
  | .ret r2=>some r2
theorem region_column_ok {k0:K} {v0 v1:Value} {l_:(List Rect)} {x_:Int} {r:(List RegionSpan)} (i0:(IsV l_) v0 k0) (i1:(IsV x_) v1 k0) (hr:region_column l_ x_ = some r) :
  Calls Tryz.prog 184 #[v0,v1] k0.w (Ret k0 (IsV r)):=by
 unfold region_column at hr
 refine Ret.ofC ?_
 refine enterK Tryz.func184 rfl Tryz.ntmps184 (show 2 ≤ 80 by decide) fun a k hk0 hs hd ha=>?_
 obtain ⟨e0,e1,_⟩:=ha
 replace i0:(IsV l_) (a.get 0) k:=by rw [e0,hk0]; exact i0
 replace i1:(IsV x_) (a.get 1) k:=by rw [e1,hk0]; exact i1
 have hQ:Gb.LetsOut (bodyPost Tryz.prog Tryz.f184 (RetC noF k0 (IsV r))):=letsOutC
 have hg:Chg noF k0 k:=by rw [hk0]; exact Chg.refl _ k0
 refine stepL 1 (⟨some IsE0,[]⟩::[]) rfl ⟨hg,hs,hd⟩ (by kernel_rfl) ⟨ob1 rfl fun b q h n=>ok_assign rfl isE0_nil,trivial⟩ [⟨_,_⟩,⟨_,_⟩] (fun b q p=>⟨p.ke 0 rfl i0,p.ke 1 rfl i1,trivial⟩) ?_
 rintro a k ⟨⟨hg,hs,hd⟩,i0,i1,_⟩
 refine cutS (fun c l=>Bs noF k0 80 c l∧IsV l_ (c.get 0) l∧IsV x_ (c.get 1) l∧IsOwn 0 230 ([]:List RegionSpan) (c.get 5) l∧Lo k0 (obF (c.get 5))∧True) ?_ ?_
 ·intro Q1 W1 w1
  refine gS 1 (⟨some IsE0,[]⟩::[]) hs (by kernel_rfl) ⟨ob1 rfl fun b q h n=>ok_assign rfl isE0_nil,trivial⟩ W1 fun b q p=>?_
  have hgq:=hg.then p.grow
  have hsb:=p.size.trans hs
  have hdb:=p.defers.trans hd
  have j0:=p.ke 0 rfl i0
  have j1:=p.ke 1 rfl i1
  have j5:IsE0 (b.get 5) q:=p.ou 0 5 rfl
  have y5:Lo k0 (obF (b.get 5)):=j5.lo
  replace j5:IsOwn 0 230 ([]:List RegionSpan) (b.get 5) q:=j5.own0
  exact tail_done (k:=q) (w1 _ _ ⟨⟨hgq,hsb,hdb⟩,j0,j1,j5,y5,trivial⟩)
 rintro a k ⟨⟨hg,hs,hd⟩,i0,i1,i5,n5,_⟩
 refine wp_seq ?_
 refine cutS (fun c l=>Bs noF k0 80 c l∧IsV x_ (c.get 1) l∧IsOwn 0 230 ([]:List RegionSpan) (c.get 5) l∧Lo k0 (obF (c.get 5))∧IsV l_ (c.get 12) l∧IsL l_ (c.get 13) l∧IsI 0 (c.get 14) l∧True) ?_ ?_
 ·intro Q2 W2 w2
  refine gS 3 (_::_::⟨some (IsI 0),[]⟩::[]) hs (by kernel_rfl) ⟨mu rfl i0,o1 [(12,some 0)] rfl fun _ _ h n=>ok_len rfl rfl Tryz.underlying130 (IsV.rd n.1),ob1 rfl fun _ _ h n=>ok_move rfl (cI rfl),trivial⟩ W2 fun b q p=>?_
  exact tail_done (k:=q) (w2 _ _ ⟨Bs.post ⟨hg,hs,hd⟩ p,p.ke 1 rfl i1,p.ke 5 rfl i5,(by rw [p.old 5 rfl]; exact n5),p.ou 0 12 rfl,p.ou 1 13 rfl,p.ou 2 14 rfl,trivial⟩)
 rintro a k ⟨⟨hg,hs,hd⟩,i1,i5,n5,i12,i13,i14,_⟩
 refine wp_block ?_
 obtain ⟨f1,hf1,hr⟩:=bind_some hr
 refine cutFe f1 (fun s' c l=>Bs noF k0 80 c l∧IsV x_ (c.get 1) l∧IsOwn 0 230 s'.1 (c.get 5) l∧Lo k0 (obF (c.get 5))∧IsV l_ (c.get 12) l∧IsL l_ (c.get 13) l∧IsV s'.2 (c.get 14) l∧True) (fun i' s' c l=>(i' = 0∧Bs noF k0 80 c l∧IsOwn 0 230 s'.1 (c.get 5) l∧Lo k0 (obF (c.get 5))∧True)) (fun r' c l=>bodyPost Tryz.prog Tryz.f184 (RetC noF k0 (IsV r')) .ret c l.w) ?_ hQ ?_ ?_ ?_
 ·intro Q3 W3 hgo hex hret
  refine sim_loop ?_ _ _ _ _ _ hf1 ⟨⟨hg,hs,hd⟩,i1,i5,n5,i12,i13,i14,trivial⟩ Q3 W3 hgo hex hret
  clear hr hf1 hgo hex hret W3 hQ hg hs hd i1 i12 i13 i14 i5 n5
  intro s1 fl_ a k hr hS Q hQ hgo1303 hex1304 hret1305
  obtain ⟨⟨hg,hs,hd⟩,i1,i5,n5,i12,i13,i14,_⟩:=hS
  unfold region_column_L0 at hr
  refine cutS (fun c l=>Bs noF k0 80 c l∧IsV x_ (c.get 1) l∧IsOwn 0 230 s1.1 (c.get 5) l∧Lo k0 (obF (c.get 5))∧IsV l_ (c.get 12) l∧IsL l_ (c.get 13) l∧IsV s1.2 (c.get 14) l∧(IsV (decide (s1.2 < (l_.length:Int)))) (c.get 15) l∧True) ?_ ?_
  ·intro Q4 W4 w3
   refine gS 1 (_::[]) hs (by kernel_rfl) ⟨o1 [(14,none),(13,none)] rfl fun _ _ h n=>ok_lss rfl (up i14 h n.1) (up i13 h n.2.1),trivial⟩ W4 fun b q p=>?_
   exact tail_done (k:=q) (w3 _ _ ⟨Bs.post ⟨hg,hs,hd⟩ p,p.ke 1 rfl i1,p.ke 5 rfl i5,(by rw [p.old 5 rfl]; exact n5),p.ke 12 rfl i12,p.ke 13 rfl i13,p.ke 14 rfl i14,p.ou 0 15 rfl,trivial⟩)
  rintro a k ⟨⟨hg,hs,hd⟩,i1,i5,n5,i12,i13,i14,i15,_⟩
  refine wp_seq ?_
  refine wp_cond_split (isBool i15) (fun hc1323=>?_) (fun hc1323=>?_)
  ·rw [if_pos hc1323] at hr
   refine wp_skip ?_
   refine wp_seq ?_
   refine wp_block ?_
   refine wp_seq ?_
   obtain ⟨x1,hx1,hr⟩:=bind_some hr
   refine cut (fun a' k'=>Bs noF k0 80 a' k'∧(IsV x_) (a'.get 1) k'∧IsOwn 0 230 s1.1 (a'.get 5) k'∧Lo k0 (obF (a'.get 5))∧(IsRef x1) (a'.get 7) k'∧(IsV l_) (a'.get 12) k'∧(IsL l_) (a'.get 13) k'∧(IsV s1.2) (a'.get 14) k'∧True) ?_ hQ ?_
   ·intro Q5 W5 w4
    refine gS 3 (_::_::⟨some (IsBox k.w.heap.size (⟨0,0,0,0⟩:Rect)),[]⟩::[]) hs (by kernel_rfl) ⟨o1 [(12,none),(14,none)] rfl fun _ _ h n=>ok_indexAddr rfl Tryz.underlying130 ty79 (IsV.rd (up i12 h n.1)) (up i14 h n.2.1) hx1,o1 [(16,some 0)] rfl fun _ _ h n=>ok_load rfl ty79 n.1,ob1 rfl fun _ _ h n=>ok_alloc _ h.size rfl z79,trivial⟩ W5 fun b q p=>?_
    have hgq:=hg.then p.grow
    have hsb:=p.size.trans hs
    have hdb:=p.defers.trans hd
    have j1:=p.ke 1 rfl i1
    have j5:=p.ke 5 rfl i5
    have y5:Lo k0 (obF (b.get 5)):=by rw [p.old 5 rfl]; exact n5
    obtain ⟨b7,j7,x7,z7⟩:(IsBox k.w.heap.size (⟨0,0,0,0⟩:Rect)) (b.get 7) q:=p.ou 2 7 rfl
    replace x7:Lo k (Eq b7):=Lo.eq x7
    have y7:Lo k0 (Eq b7):=x7.chg hg
    have j12:=p.ke 12 rfl i12
    have j13:=p.ke 13 rfl i13
    have j14:=p.ke 14 rfl i14
    have j17:(IsV x1) (b.get 17) q:=p.ou 1 17 rfl
    have w5_7:Apart (obF (b.get 5)) (Eq b7):=Apart.new (by rw [p.old 5 rfl]; exact i5.ltF) x7
    have hns:=z7.nshF
    refine tail_storeB (i:=3) rfl rfl rfl rfl szf79 (Upd.self (α:=Rect)) j7 z7 j17 fun q2 hch hz=>?_
    replace hgq:=hgq.step hch y7.wr
    have hle:=hch.le hns
    replace j1:=Pers.pers hle j1
    replace j5:=j5.keep hch w5_7 hns
    replace j12:=Pers.pers hle j12
    replace j13:=Pers.pers hle j13
    replace j14:=Pers.pers hle j14
    replace j17:=Pers.pers hle j17
    replace z7:=hz
    clear hns hle hch
    obtain ⟨q,hqq⟩ : ∃ q,q = q2:=⟨q2,rfl⟩
    subst hqq
    obtain ⟨q2,hsh,jn⟩:=z7.give
    replace j1:=Pers.pers hsh.le j1
    replace j5:=j5.handed hsh w5_7
    replace j12:=Pers.pers hsh.le j12
    replace j13:=Pers.pers hsh.le j13
    replace j14:=Pers.pers hsh.le j14
    rw [← j7] at jn
    replace j7:=jn
    replace hgq:=hgq.hand hsh y7.wr
    rw [← hsh.w]
    clear hsh
    obtain ⟨q,hqq⟩ : ∃ q,q = q2:=⟨q2,rfl⟩
    subst hqq
    exact tail_done (k:=q) (w4 _ _ ⟨⟨hgq,hsb,hdb⟩,j1,j5,y5,j7,j12,j13,j14,trivial⟩)
   rintro a k ⟨⟨hg,hs,hd⟩,i1,i5,n5,i7,i12,i13,i14,_⟩
   refine cutS (fun c l=>Bs noF k0 80 c l∧IsV x_ (c.get 1) l∧IsOwn 0 230 s1.1 (c.get 5) l∧Lo k0 (obF (c.get 5))∧IsRef x1 (c.get 7) l∧IsV l_ (c.get 12) l∧IsL l_ (c.get 13) l∧IsV s1.2 (c.get 14) l∧(IsV ((decide (x1.X0 ≤ x_)) && (decide (x_ < x1.X1)))) (c.get 27) l∧True) ?_ ?_
   ·intro Q6 W6 w5
    refine gS 10 (_::_::_::_::_::_::_::_::_::_::[]) hs (by kernel_rfl) ⟨o1 [(7,none)] rfl fun _ _ h n=>ok_fieldAddr rfl fo79_0 (at_Rect_0 _) ((up i7 h n.1)).ptr,o1 [(18,some 0)] rfl fun _ _ h n=>ok_load rfl ty3 n.1,mu rfl i1,o1 [(19,some 1),(20,some 2)] rfl fun _ _ h n=>ok_leq rfl n.1 n.2.1,cm 3 rfl rfl,mT rfl rfl i1,gT [(7,none)] rfl rfl fun hp _ _ h n=>ok_fieldAddr rfl fo79_2 (at_Rect_2 _) ((up i7 h n.1)).ptr,gT [(24,some 6)] rfl rfl fun hp _ _ h n=>ok_load rfl ty3 (Gd.get n.1 hp),gT [(23,some 5),(25,some 7)] rfl rfl fun hp _ _ h n=>ok_lss rfl (Gd.get n.1 hp) (Gd.get n.2.1 hp),o1 [(22,some 4),(26,some 8)] rfl fun _ _ h n=>ok_pickAnd rfl n.1 (Gd.get n.2.1) (cB rfl),trivial⟩ W6 fun b q p=>?_
    exact tail_done (k:=q) (w5 _ _ ⟨Bs.post ⟨hg,hs,hd⟩ p,p.ke 1 rfl i1,p.ke 5 rfl i5,(by rw [p.old 5 rfl]; exact n5),p.ke 7 rfl i7,p.ke 12 rfl i12,p.ke 13 rfl i13,p.ke 14 rfl i14,p.ou 9 27 rfl,trivial⟩)
   rintro a k ⟨⟨hg,hs,hd⟩,i1,i5,n5,i7,i12,i13,i14,i27,_⟩
   obtain ⟨s2,hs2,hr⟩:=bind_some hr
   refine cut (fun a' k'=>Bs noF k0 80 a' k'∧(IsV x_) (a'.get 1) k'∧IsOwn 0 230 s2 (a'.get 5) k'∧Lo k0 (obF (a'.get 5))∧(IsV l_) (a'.get 12) k'∧(IsL l_) (a'.get 13) k'∧(IsV s1.2) (a'.get 14) k'∧True) ?_ hQ ?_
   ·intro Q7 W7 w6
    replace hr:=hs2
    clear hQ
    have hQ:=W7
    refine wp_cond_split (isBool i27) (fun hc1314=>?_) (fun hc1314=>?_)
    ·rw [if_pos hc1314] at hr
     obtain ⟨x2,hx2,hr⟩:=bind_some hr
     refine cut (fun a' k'=>Bs noF k0 80 a' k'∧(IsV x_) (a'.get 1) k'∧IsOwn 0 230 x2 (a'.get 5) k'∧Lo k0 (obF (a'.get 5))∧(IsV l_) (a'.get 12) k'∧(IsL l_) (a'.get 13) k'∧(IsV s1.2) (a'.get 14) k'∧True) ?_ hQ ?_
     ·intro Q8 W8 w7
      refine gS 7 (⟨some (OwnAt (a.get 5) 0 230 s1.1),[(5,none)]⟩::_::_::_::_::⟨some (IsV (⟨x1.Y0,x1.Y1⟩:RegionSpan)),[(30,some 2),(32,some 4)]⟩::⟨some (IsV (α:=(List RegionSpan)) ([(⟨x1.Y0,x1.Y1⟩:RegionSpan)])),[(33,some 5)]⟩::[]) hs (by kernel_rfl) ⟨ob1 rfl fun _ _ h n=>ok_moveOA (.inl rfl) (ownAt n.1 (up i5 h n.1)),o1 [(7,none)] rfl fun _ _ h n=>ok_fieldAddr rfl fo79_1 (at_Rect_1 _) ((up i7 h n.1)).ptr,o1 [(29,some 1)] rfl fun _ _ h n=>ok_load rfl ty3 n.1,o1 [(7,none)] rfl fun _ _ h n=>ok_fieldAddr rfl fo79_3 (at_Rect_3 _) ((up i7 h n.1)).ptr,o1 [(31,some 3)] rfl fun _ _ h n=>ok_load rfl ty3 n.1,ob1 rfl fun _ _ h n=>ok_build rfl (bld230_0_1 n.1 n.2.1),ob1 rfl fun _ _ h n=>ok_buildSlice rfl Tryz.underlying228 eo230 rfl (by decide) (by decide) ⟨rfl,n.1,trivial⟩,trivial⟩ W8 fun b q p=>?_
      have hgq:=hg.then p.grow
      have hsb:=p.size.trans hs
      have hdb:=p.defers.trans hd
      have j1:=p.ke 1 rfl i1
      have j12:=p.ke 12 rfl i12
      have j13:=p.ke 13 rfl i13
      have j14:=p.ke 14 rfl i14
      have e28:b.get 28 = a.get 5:=(p.ou 0 28 rfl).1
      have j28:IsOwn 0 230 s1.1 (b.get 28) q:=(p.ou 0 28 rfl).2
      have y28:Lo k0 (obF (b.get 28)):=by rw [e28]; exact n5
      have j34:(IsV (α:=(List RegionSpan)) ([(⟨x1.Y0,x1.Y1⟩:RegionSpan)])) (b.get 34) q:=p.ou 6 34 rfl
      have hns:=j28.nshF
      refine tail_appendS (i:=7) (d:=35) rfl rfl rfl rfl (by rw [hsb]; decide) (e:=230) Tryz.underlying228 eo230 j28 (IsV.rd j34) hx2 fun b2 q2 hsz hdf hoth hch hown hob=>?_
      have hle:=hch.le hns
      have yn:Lo k0 (obF (b2.get 35)):=y28.app hgq hob
      replace j1:=Pers.pers hle j1
      replace j12:=Pers.pers hle j12
      replace j13:=Pers.pers hle j13
      replace j14:=Pers.pers hle j14
      replace j34:=Pers.pers hle j34
      replace hgq:=hgq.step hch y28.wr
      rw [← hoth 1 (by decide)] at j1
      rw [← hoth 12 (by decide)] at j12
      rw [← hoth 13 (by decide)] at j13
      rw [← hoth 14 (by decide)] at j14
      rw [← hoth 34 (by decide)] at j34
      have j35:=hown
      have y35:=yn
      replace hsb:=hsz.trans hsb
      replace hdb:=hdf.trans hdb
      clear hle hch hown hob hns yn hsz hdf hoth
      obtain ⟨b,hbb⟩ : ∃ b,b = b2:=⟨b2,rfl⟩
      subst hbb
      obtain ⟨q,hqq⟩ : ∃ q,q = q2:=⟨q2,rfl⟩
      subst hqq
      refine tail_assign (i:=8) (d:=5) rfl rfl (.inl rfl) rfl (by rw [hsb]; decide) fun b2 hsz hdf hnew hoth=>?_
      have jn:(IsOwn 0 230 x2) (b2.get 5) q:=by rw [hnew]; exact j35
      have yn:Lo k0 (obF (b2.get 5)):=by rw [hnew]; exact y35
      rw [← hoth 1 (by decide)] at j1
      rw [← hoth 12 (by decide)] at j12
      rw [← hoth 13 (by decide)] at j13
      rw [← hoth 14 (by decide)] at j14
      rw [← hoth 34 (by decide)] at j34
      have j5:=jn
      have y5:=yn
      replace hsb:=hsz.trans hsb
      replace hdb:=hdf.trans hdb
      clear hsz hdf hoth
      obtain ⟨b,hbb⟩ : ∃ b,b = b2:=⟨b2,rfl⟩
      subst hbb
      exact tail_done (k:=q) (w7 _ _ ⟨⟨hgq,hsb,hdb⟩,j1,j5,y5,j12,j13,j14,trivial⟩)
     rintro a k ⟨⟨hg,hs,hd⟩,i1,i5,n5,i12,i13,i14,_⟩
     obtain rfl:=Option.some.inj hr
     exact w6 _ _ ⟨⟨hg,hs,hd⟩,i1,i5,n5,i12,i13,i14,trivial⟩
    rw [if_neg (by rw [hc1314]; decide)] at hr
    refine wp_skip ?_
    obtain rfl:=Option.some.inj hr
    exact w6 _ _ ⟨⟨hg,hs,hd⟩,i1,i5,n5,i12,i13,i14,trivial⟩
   clear hs2
   rintro a k ⟨⟨hg,hs,hd⟩,i1,i5,n5,i12,i13,i14,_⟩
   obtain ⟨x3,hx3,hr⟩:=bind_some hr
   refine cut (fun a' k'=>Bs noF k0 80 a' k'∧(IsV x_) (a'.get 1) k'∧IsOwn 0 230 s2 (a'.get 5) k'∧Lo k0 (obF (a'.get 5))∧(IsV l_) (a'.get 12) k'∧(IsL l_) (a'.get 13) k'∧(IsV x3) (a'.get 14) k'∧True) ?_ hQ ?_
   ·intro Q9 W9 w8
    refine gS 2 (_::_::[]) hs (by kernel_rfl) ⟨o1 [(14,none)] rfl fun _ _ h n=>ok_add rfl (up i14 h n.1) (cI rfl) hx3,cm 0 rfl rfl,trivial⟩ W9 fun b q p=>?_
    exact tail_done (k:=q) (w8 _ _ ⟨Bs.post ⟨hg,hs,hd⟩ p,p.ke 1 rfl i1,p.ke 5 rfl i5,(by rw [p.old 5 rfl]; exact n5),p.ke 12 rfl i12,p.ke 13 rfl i13,p.ou 1 14 rfl,trivial⟩)
   rintro a k ⟨⟨hg,hs,hd⟩,i1,i5,n5,i12,i13,i14,_⟩
   exact hgo1303 _ _ _ (Option.some.inj hr).symm ⟨⟨hg,hs,hd⟩,i1,i5,n5,i12,i13,i14,trivial⟩
  rw [if_neg (by rw [hc1323]; decide)] at hr
  refine wp_exit ?_
  exact hex1304 _ _ _ _ (Option.some.inj hr).symm ⟨rfl,⟨hg,hs,hd⟩,i5,n5,trivial⟩
 ·rintro r1 a k rfl hR
  dsimp only at hr
  obtain rfl:=Option.some.inj hr
  exact hR
 ·rintro _ _ _ rfl _
  simp at hr
 clear hf1
 rintro _ s3 a k rfl ⟨rfl,⟨hg,hs,hd⟩,i5,n5,_⟩
 dsimp only at hr
 refine wp_seq ?_
 obtain ⟨x4,hx4,hr⟩:=bind_some hr
 refine cut (fun a' k'=>Bs noF k0 80 a' k'∧IsOwn 0 230 x4 (a'.get 5) k'∧Lo k0 (obF (a'.get 5))∧True) ?_ hQ ?_
 ·intro Q10 W10 w9
  refine gS 1 (⟨some (OwnAt (a.get 5) 0 230 s3.1),[(5,none)]⟩::[]) hs (by kernel_rfl) ⟨ob1 rfl fun _ _ h n=>ok_moveOA (.inl rfl) (ownAt n.1 (up i5 h n.1)),trivial⟩ W10 fun b q p=>?_
  have hgq:=hg.then p.grow
  have hsb:=p.size.trans hs
  have hdb:=p.defers.trans hd
  have j5:=p.ke 5 rfl i5
  have y5:Lo k0 (obF (b.get 5)):=by rw [p.old 5 rfl]; exact n5
  have e37:b.get 37 = a.get 5:=(p.ou 0 37 rfl).1
  have j37:IsOwn 0 230 s3.1 (b.get 37) q:=(p.ou 0 37 rfl).2
  have y37:Lo k0 (obF (b.get 37)):=by rw [e37]; exact n5
  have hns:=j37.nshF
  have eS:b.get 5 = b.get 37:=(p.old 5 rfl).trans e37.symm
  refine tail_call (F:=obF (b.get 37)) (i:=1) (d:=38) rfl rfl rfl rfl (by rw [hsb]; decide) Tryz.call186 W10 (sortSpans_ok j37 hx4) fun b2 q2 hsz hdf hoth hch hres=>?_
  have hle:=hch.le hns
  replace hgq:=hgq.step hch y37.wr
  replace j5:IsOwn 0 230 x4 (b.get 5) q2:=by rw [eS]; exact hres
  clear hres eS
  rw [← hoth 5 (by decide)] at j5
  rw [← hoth 5 (by decide)] at y5
  replace hsb:=hsz.trans hsb
  replace hdb:=hdf.trans hdb
  clear hle hch hns hsz hdf hoth
  obtain ⟨b,hbb⟩ : ∃ b,b = b2:=⟨b2,rfl⟩
  subst hbb
  obtain ⟨q,hqq⟩ : ∃ q,q = q2:=⟨q2,rfl⟩
  subst hqq
  exact tail_done (k:=q) (w9 _ _ ⟨⟨hgq,hsb,hdb⟩,j5,y5,trivial⟩)
 rintro a k ⟨⟨hg,hs,hd⟩,i5,n5,_⟩
 refine wp_seq ?_
 obtain ⟨kk,sh1329,ii5⟩:=i5.give
 replace i5:=ii5
 replace hg:=hg.hand sh1329 n5.wr
 rw [← sh1329.w]
 clear sh1329
 obtain ⟨k,hkk⟩ : ∃ k,k = kk:=⟨kk,rfl⟩
 subst hkk
 refine cut (fun a' k'=>Bs noF k0 80 a' k'∧(IsV x4) (a'.get 5) k'∧IsOwn 0 230 ([]:List RegionSpan) (a'.get 8) k'∧Lo k0 (obF (a'.get 8))∧True) ?_ hQ ?_
 ·intro Q11 W11 w10
  refine gS 1 (⟨some IsE0,[]⟩::[]) hs (by kernel_rfl) ⟨ob1 rfl fun b q h n=>ok_assign rfl isE0_nil,trivial⟩ W11 fun b q p=>?_
  have hgq:=hg.then p.grow
  have hsb:=p.size.trans hs
  have hdb:=p.defers.trans hd
  have j5:=p.ke 5 rfl i5
  have j8:IsE0 (b.get 8) q:=p.ou 0 8 rfl
  have y8:Lo k0 (obF (b.get 8)):=j8.lo
  replace j8:IsOwn 0 230 ([]:List RegionSpan) (b.get 8) q:=j8.own0
  exact tail_done (k:=q) (w10 _ _ ⟨⟨hgq,hsb,hdb⟩,j5,j8,y8,trivial⟩)
 rintro a k ⟨⟨hg,hs,hd⟩,i5,i8,n8,_⟩
 refine wp_seq ?_
 refine cutS (fun c l=>Bs noF k0 80 c l∧IsOwn 0 230 ([]:List RegionSpan) (c.get 8) l∧Lo k0 (obF (c.get 8))∧IsV x4 (c.get 39) l∧IsL x4 (c.get 40) l∧IsI 0 (c.get 41) l∧True) ?_ ?_
 ·intro Q12 W12 w11
  refine gS 3 (_::_::⟨some (IsI 0),[]⟩::[]) hs (by kernel_rfl) ⟨mu rfl i5,o1 [(39,some 0)] rfl fun _ _ h n=>ok_len rfl rfl Tryz.underlying228 (IsV.rd n.1),ob1 rfl fun _ _ h n=>ok_move rfl (cI rfl),trivial⟩ W12 fun b q p=>?_
  exact tail_done (k:=q) (w11 _ _ ⟨Bs.post ⟨hg,hs,hd⟩ p,p.ke 8 rfl i8,(by rw [p.old 8 rfl]; exact n8),p.ou 0 39 rfl,p.ou 1 40 rfl,p.ou 2 41 rfl,trivial⟩)
 rintro a k ⟨⟨hg,hs,hd⟩,i8,n8,i39,i40,i41,_⟩
 refine wp_block ?_
 obtain ⟨f2,hf2,hr⟩:=bind_some hr
 refine cutFe f2 (fun s' c l=>Bs noF k0 80 c l∧IsOwn 0 230 s'.1 (c.get 8) l∧Lo k0 (obF (c.get 8))∧IsV x4 (c.get 39) l∧IsL x4 (c.get 40) l∧IsV s'.2 (c.get 41) l∧True) (fun i' s' c l=>(i' = 2∧Bs noF k0 80 c l∧IsV s'.1 (c.get 8) l∧True)) (fun r' c l=>bodyPost Tryz.prog Tryz.f184 (RetC noF k0 (IsV r')) .ret c l.w) ?_ hQ ?_ ?_ ?_
 ·intro Q13 W13 hgo hex hret
  refine sim_loop ?_ _ _ _ _ _ hf2 ⟨⟨hg,hs,hd⟩,i8,n8,i39,i40,i41,trivial⟩ Q13 W13 hgo hex hret
  clear hr hf2 hgo hex hret W13 hQ hg hs hd i39 i40 i41 i8 n8
  intro s4 fl_ a k hr hS Q hQ hgo1333 hex1334 hret1335
  obtain ⟨⟨hg,hs,hd⟩,i8,n8,i39,i40,i41,_⟩:=hS
  unfold region_column_L1 at hr
  refine cutS (fun c l=>Bs noF k0 80 c l∧IsOwn 0 230 s4.1 (c.get 8) l∧Lo k0 (obF (c.get 8))∧IsV x4 (c.get 39) l∧IsL x4 (c.get 40) l∧IsV s4.2 (c.get 41) l∧(IsV (decide (s4.2 < (x4.length:Int)))) (c.get 42) l∧True) ?_ ?_
  ·intro Q14 W14 w12
   refine gS 1 (_::[]) hs (by kernel_rfl) ⟨o1 [(41,none),(40,none)] rfl fun _ _ h n=>ok_lss rfl (up i41 h n.1) (up i40 h n.2.1),trivial⟩ W14 fun b q p=>?_
   exact tail_done (k:=q) (w12 _ _ ⟨Bs.post ⟨hg,hs,hd⟩ p,p.ke 8 rfl i8,(by rw [p.old 8 rfl]; exact n8),p.ke 39 rfl i39,p.ke 40 rfl i40,p.ke 41 rfl i41,p.ou 0 42 rfl,trivial⟩)
  rintro a k ⟨⟨hg,hs,hd⟩,i8,n8,i39,i40,i41,i42,_⟩
  refine wp_seq ?_
  refine wp_cond_split (isBool i42) (fun hc1360=>?_) (fun hc1360=>?_)
  ·rw [if_pos hc1360] at hr
   refine wp_skip ?_
   refine wp_seq ?_
   refine wp_block ?_
   refine wp_seq ?_
   obtain ⟨x5,hx5,hr⟩:=bind_some hr
   refine cut (fun a' k'=>Bs noF k0 80 a' k'∧IsOwn 0 230 s4.1 (a'.get 8) k'∧Lo k0 (obF (a'.get 8))∧(IsRef x5) (a'.get 10) k'∧(IsV x4) (a'.get 39) k'∧(IsL x4) (a'.get 40) k'∧(IsV s4.2) (a'.get 41) k'∧True) ?_ hQ ?_
   ·intro Q15 W15 w13
    refine gS 3 (_::_::⟨some (IsBox k.w.heap.size (⟨0,0⟩:RegionSpan)),[]⟩::[]) hs (by kernel_rfl) ⟨o1 [(39,none),(41,none)] rfl fun _ _ h n=>ok_indexAddr rfl Tryz.underlying228 ty230 (IsV.rd (up i39 h n.1)) (up i41 h n.2.1) hx5,o1 [(43,some 0)] rfl fun _ _ h n=>ok_load rfl ty230 n.1,ob1 rfl fun _ _ h n=>ok_alloc _ h.size rfl z230,trivial⟩ W15 fun b q p=>?_
    have hgq:=hg.then p.grow
    have hsb:=p.size.trans hs
    have hdb:=p.defers.trans hd
    have j8:=p.ke 8 rfl i8
    have y8:Lo k0 (obF (b.get 8)):=by rw [p.old 8 rfl]; exact n8
    obtain ⟨b10,j10,x10,z10⟩:(IsBox k.w.heap.size (⟨0,0⟩:RegionSpan)) (b.get 10) q:=p.ou 2 10 rfl
    replace x10:Lo k (Eq b10):=Lo.eq x10
    have y10:Lo k0 (Eq b10):=x10.chg hg
    have j39:=p.ke 39 rfl i39
    have j40:=p.ke 40 rfl i40
    have j41:=p.ke 41 rfl i41
    have j44:(IsV x5) (b.get 44) q:=p.ou 1 44 rfl
    have w8_10:Apart (obF (b.get 8)) (Eq b10):=Apart.new (by rw [p.old 8 rfl]; exact i8.ltF) x10
    have hns:=z10.nshF
    refine tail_storeB (i:=3) rfl rfl rfl rfl szf230 (Upd.self (α:=RegionSpan)) j10 z10 j44 fun q2 hch hz=>?_
    replace hgq:=hgq.step hch y10.wr
    have hle:=hch.le hns
    replace j8:=j8.keep hch w8_10 hns
    replace j39:=Pers.pers hle j39
    replace j40:=Pers.pers hle j40
    replace j41:=Pers.pers hle j41
    replace j44:=Pers.pers hle j44
    replace z10:=hz
    clear hns hle hch
    obtain ⟨q,hqq⟩ : ∃ q,q = q2:=⟨q2,rfl⟩
    subst hqq
    obtain ⟨q2,hsh,jn⟩:=z10.give
    replace j8:=j8.handed hsh w8_10
    replace j39:=Pers.pers hsh.le j39
    replace j40:=Pers.pers hsh.le j40
    replace j41:=Pers.pers hsh.le j41
    rw [← j10] at jn
    replace j10:=jn
    replace hgq:=hgq.hand hsh y10.wr
    rw [← hsh.w]
    clear hsh
    obtain ⟨q,hqq⟩ : ∃ q,q = q2:=⟨q2,rfl⟩
    subst hqq
    exact tail_done (k:=q) (w13 _ _ ⟨⟨hgq,hsb,hdb⟩,j8,y8,j10,j39,j40,j41,trivial⟩)
   rintro a k ⟨⟨hg,hs,hd⟩,i8,n8,i10,i39,i40,i41,_⟩
   refine cutS (fun c l=>Bs noF k0 80 c l∧IsOwn 0 230 s4.1 (c.get 8) l∧Lo k0 (obF (c.get 8))∧IsRef x5 (c.get 10) l∧IsI (s4.1.length:Int) (c.get 11) l∧IsV x4 (c.get 39) l∧IsL x4 (c.get 40) l∧IsV s4.2 (c.get 41) l∧True) ?_ ?_
   ·intro Q16 W16 w14
    refine gS 3 (⟨some (OwnAt (a.get 8) 0 230 s4.1),[(8,none)]⟩::_::_::[]) hs (by kernel_rfl) ⟨ob1 rfl fun _ _ h n=>ok_moveOA (.inl rfl) (ownAt n.1 (up i8 h n.1)),o1 [(45,some 0)] rfl fun _ _ h n=>ok_len rfl rfl Tryz.underlying228 (IsOwn.rd (n.1).2),cp 1 rfl rfl,trivial⟩ W16 fun b q p=>?_
    exact tail_done (k:=q) (w14 _ _ ⟨Bs.post ⟨hg,hs,hd⟩ p,p.ke 8 rfl i8,(by rw [p.old 8 rfl]; exact n8),p.ke 10 rfl i10,p.ou 2 11 rfl,p.ke 39 rfl i39,p.ke 40 rfl i40,p.ke 41 rfl i41,trivial⟩)
   rintro a k ⟨⟨hg,hs,hd⟩,i8,n8,i10,i11,i39,i40,i41,_⟩
   refine wp_seq ?_
   obtain ⟨x6,hx6,hr⟩:=bind_some hr
   obtain ⟨x8,hx8,hx6⟩:=ite_bind hx6
   obtain ⟨x9,hx9,hx6⟩:=ite_bind hx6
   refine cut (fun a' k'=>Bs noF k0 80 a' k'∧IsOwn 0 230 s4.1 (a'.get 8) k'∧Lo k0 (obF (a'.get 8))∧(IsRef x5) (a'.get 10) k'∧(IsI (s4.1.length:Int)) (a'.get 11) k'∧(IsV x4) (a'.get 39) k'∧(IsL x4) (a'.get 40) k'∧(IsV s4.2) (a'.get 41) k'∧(IsV x6) (a'.get 59) k'∧True) ?_ hQ ?_
   ·intro Q17 W17 w15
    refine region (m:=13) (_::_::_::_::_::⟨some (Gd ((decide (0 < (s4.1.length:Int))) = true) (OwnAt (a.get 8) 0 230 s4.1)),[(8,none)]⟩::_::_::_::_::_::_::_::[]) hmix hs (by kernel_rfl) ⟨mu rfl i11,o1 [(47,some 0)] rfl fun _ _ h n=>ok_gtr rfl n.1 (cI rfl),cm 1 rfl rfl,gT [(10,none)] rfl rfl fun hp _ _ h n=>ok_fieldAddr rfl fo230_0 (at_RegionSpan_0 _) ((up i10 h n.1)).ptr,gT [(50,some 3)] rfl rfl fun hp _ _ h n=>ok_load rfl ty3 (Gd.get n.1 hp),gdT rfl rfl fun hp _ _ h n=>ok_moveOA (.inl rfl) (ownAt n.1 (up i8 h n.1)),mT rfl rfl i11,gT [(53,some 6)] rfl rfl fun hp _ _ h n=>ok_sub rfl (Gd.get n.1 hp) (cI rfl) (hx8 hp),gT [(52,some 5),(54,some 7)] rfl rfl fun hp _ _ h n=>ok_indexAddr rfl Tryz.underlying228 ty230 (IsOwn.rd ((Gd.get n.1 hp)).2) (Gd.get n.2.1 hp) (hx9 hp),gT [(55,some 8)] rfl rfl fun hp _ _ h n=>ok_fieldAddr rfl fo230_1 (at_RegionSpan_1 _) (Gd.get n.1 hp),gT [(56,some 9)] rfl rfl fun hp _ _ h n=>ok_load rfl ty3 (Gd.get n.1 hp),gT [(51,some 4),(57,some 10)] rfl rfl fun hp _ _ h n=>ok_leq rfl (Gd.get n.1 hp) (Gd.get n.2.1 hp),o1 [(49,some 2),(58,some 11)] rfl fun _ _ h n=>ok_pickM rfl n.1 hx6 (Gd.get n.2.1) (cB rfl),trivial⟩ W17 fun b q p=>?_
    exact tail_done (k:=q) (w15 _ _ ⟨Bs.post ⟨hg,hs,hd⟩ p,p.ke 8 rfl i8,(by rw [p.old 8 rfl]; exact n8),p.ke 10 rfl i10,p.ke 11 rfl i11,p.ke 39 rfl i39,p.ke 40 rfl i40,p.ke 41 rfl i41,p.ou 12 59 rfl,trivial⟩)
   rintro a k ⟨⟨hg,hs,hd⟩,i8,n8,i10,i11,i39,i40,i41,i59,_⟩
   obtain ⟨s5,hs5,hr⟩:=bind_some hr
   refine cut (fun a' k'=>Bs noF k0 80 a' k'∧IsOwn 0 230 s5 (a'.get 8) k'∧Lo k0 (obF (a'.get 8))∧(IsV x4) (a'.get 39) k'∧(IsL x4) (a'.get 40) k'∧(IsV s4.2) (a'.get 41) k'∧True) ?_ hQ ?_
   ·intro Q18 W18 w16
    replace hr:=hs5
    clear hQ
    have hQ:=W18
    refine wp_cond_split (isBool i59) (fun hc1348=>?_) (fun hc1348=>?_)
    ·rw [if_pos hc1348] at hr
     obtain ⟨x11,hx11,hr⟩:=bind_some hr
     obtain ⟨x12,hx12,hr⟩:=bind_some hr
     obtain ⟨x13,hx13,hr⟩:=bind_some hr
     obtain ⟨x14,hx14,hr⟩:=bind_some hr
     obtain ⟨x15,hx15,hr⟩:=bind_some hr
     refine cut (fun a' k'=>Bs noF k0 80 a' k'∧IsOwn 0 230 x15 (a'.get 8) k'∧Lo k0 (obF (a'.get 8))∧(IsV x4) (a'.get 39) k'∧(IsL x4) (a'.get 40) k'∧(IsV s4.2) (a'.get 41) k'∧True) ?_ hQ ?_
     ·intro Q19 W19 w17
      refine region (m:=14) (⟨some (OwnAt (a.get 8) 0 230 s4.1),[(8,none)]⟩::_::_::⟨some (OwnAt (a.get 8) 0 230 s4.1),[(8,none)]⟩::_::_::_::_::_::_::_::_::⟨some (IsAdrO (a.get 8) ((x11).toNat * Enc.sz RegionSpan)),[(60,some 0),(62,some 2)]⟩::_::[]) hmix hs (by kernel_rfl) ⟨ob1 rfl fun _ _ h n=>ok_moveOA (.inl rfl) (ownAt n.1 (up i8 h n.1)),mu rfl i11,o1 [(61,some 1)] rfl fun _ _ h n=>ok_sub rfl n.1 (cI rfl) hx11,ob1 rfl fun _ _ h n=>ok_moveOA (.inl rfl) (ownAt n.1 (up i8 h n.1)),mu rfl i11,o1 [(64,some 4)] rfl fun _ _ h n=>ok_sub rfl n.1 (cI rfl) hx12,o1 [(63,some 3),(65,some 5)] rfl fun _ _ h n=>ok_indexAddr rfl Tryz.underlying228 ty230 (IsOwn.rd (n.1).2) n.2.1 hx13,o1 [(66,some 6)] rfl fun _ _ h n=>ok_fieldAddr rfl fo230_1 (at_RegionSpan_1 _) n.1,o1 [(67,some 7)] rfl fun _ _ h n=>ok_load rfl ty3 n.1,o1 [(10,none)] rfl fun _ _ h n=>ok_fieldAddr rfl fo230_1 (at_RegionSpan_1 _) ((up i10 h n.1)).ptr,o1 [(69,some 9)] rfl fun _ _ h n=>ok_load rfl ty3 n.1,o1 [(68,some 8),(70,some 10)] rfl fun _ _ h n=>ok_max2 rfl n.1 n.2.1,ob1 rfl fun _ _ h n=>ok_indexO rfl Tryz.underlying228 ty230 n.1 n.2.1 hx14,o1 [(72,some 12)] rfl fun _ _ h n=>ok_fieldAdrO rfl fo230_1 n.1,trivial⟩ W19 fun b q p=>?_
      have hgq:=hg.then p.grow
      have hsb:=p.size.trans hs
      have hdb:=p.defers.trans hd
      have j8:=p.ke 8 rfl i8
      have y8:Lo k0 (obF (b.get 8)):=by rw [p.old 8 rfl]; exact n8
      have j39:=p.ke 39 rfl i39
      have j40:=p.ke 40 rfl i40
      have j41:=p.ke 41 rfl i41
      have j71:(IsI (max x13.to_ x5.to_)) (b.get 71) q:=p.ou 11 71 rfl
      have j73:IsAdrO (a.get 8) ((x11).toNat * Enc.sz RegionSpan + 1) (b.get 73) q:=p.ou 13 73 rfl
      have eo:b.get 8 = a.get 8:=p.old 8 rfl
      have hns:=j8.nshF
      refine tail_storeS (i:=14) (u:=b.get 8) (m:=(x11).toNat) (off:=0 + 1) rfl rfl rfl rfl szf3 upd_F230_1 (by rw [eo]; exact j73) j8 (getI_spec hx14).2.1 j71 fun q2 hch hz=>?_
      replace hgq:=hgq.step hch y8.wr
      have hle:=hch.le hns
      replace j39:=Pers.pers hle j39
      replace j40:=Pers.pers hle j40
      replace j41:=Pers.pers hle j41
      replace j71:=Pers.pers hle j71
      replace j73:=Pers.pers hle j73
      replace j8:=hz
      rw [Option.some.inj hx15] at j8
      clear hns hle hch eo hz
      obtain ⟨q,hqq⟩ : ∃ q,q = q2:=⟨q2,rfl⟩
      subst hqq
      exact tail_done (k:=q) (w17 _ _ ⟨⟨hgq,hsb,hdb⟩,j8,y8,j39,j40,j41,trivial⟩)
     rintro a k ⟨⟨hg,hs,hd⟩,i8,n8,i39,i40,i41,_⟩
     obtain rfl:=Option.some.inj hr
     exact w16 _ _ ⟨⟨hg,hs,hd⟩,i8,n8,i39,i40,i41,trivial⟩
    rw [if_neg (by rw [hc1348]; decide)] at hr
    obtain ⟨x16,hx16,hr⟩:=bind_some hr
    refine cut (fun a' k'=>Bs noF k0 80 a' k'∧IsOwn 0 230 x16 (a'.get 8) k'∧Lo k0 (obF (a'.get 8))∧(IsV x4) (a'.get 39) k'∧(IsL x4) (a'.get 40) k'∧(IsV s4.2) (a'.get 41) k'∧True) ?_ hQ ?_
    ·intro Q20 W20 w18
     refine gS 3 (⟨some (OwnAt (a.get 8) 0 230 s4.1),[(8,none)]⟩::_::⟨some (IsV (α:=(List RegionSpan)) ([x5])),[(75,some 1)]⟩::[]) hs (by kernel_rfl) ⟨ob1 rfl fun _ _ h n=>ok_moveOA (.inl rfl) (ownAt n.1 (up i8 h n.1)),o1 [(10,none)] rfl fun _ _ h n=>ok_load rfl ty230 ((up i10 h n.1)).ptr,ob1 rfl fun _ _ h n=>ok_buildSlice rfl Tryz.underlying228 eo230 rfl (by decide) (by decide) ⟨rfl,n.1,trivial⟩,trivial⟩ W20 fun b q p=>?_
     have hgq:=hg.then p.grow
     have hsb:=p.size.trans hs
     have hdb:=p.defers.trans hd
     have j39:=p.ke 39 rfl i39
     have j40:=p.ke 40 rfl i40
     have j41:=p.ke 41 rfl i41
     have e74:b.get 74 = a.get 8:=(p.ou 0 74 rfl).1
     have j74:IsOwn 0 230 s4.1 (b.get 74) q:=(p.ou 0 74 rfl).2
     have y74:Lo k0 (obF (b.get 74)):=by rw [e74]; exact n8
     have j76:(IsV (α:=(List RegionSpan)) ([x5])) (b.get 76) q:=p.ou 2 76 rfl
     have hns:=j74.nshF
     refine tail_appendS (i:=3) (d:=77) rfl rfl rfl rfl (by rw [hsb]; decide) (e:=230) Tryz.underlying228 eo230 j74 (IsV.rd j76) hx16 fun b2 q2 hsz hdf hoth hch hown hob=>?_
     have hle:=hch.le hns
     have yn:Lo k0 (obF (b2.get 77)):=y74.app hgq hob
     replace j39:=Pers.pers hle j39
     replace j40:=Pers.pers hle j40
     replace j41:=Pers.pers hle j41
     replace j76:=Pers.pers hle j76
     replace hgq:=hgq.step hch y74.wr
     rw [← hoth 39 (by decide)] at j39
     rw [← hoth 40 (by decide)] at j40
     rw [← hoth 41 (by decide)] at j41
     rw [← hoth 76 (by decide)] at j76
     have j77:=hown
     have y77:=yn
     replace hsb:=hsz.trans hsb
     replace hdb:=hdf.trans hdb
     clear hle hch hown hob hns yn hsz hdf hoth
     obtain ⟨b,hbb⟩ : ∃ b,b = b2:=⟨b2,rfl⟩
     subst hbb
     obtain ⟨q,hqq⟩ : ∃ q,q = q2:=⟨q2,rfl⟩
     subst hqq
     refine tail_assign (i:=4) (d:=8) rfl rfl (.inl rfl) rfl (by rw [hsb]; decide) fun b2 hsz hdf hnew hoth=>?_
     have jn:(IsOwn 0 230 x16) (b2.get 8) q:=by rw [hnew]; exact j77
     have yn:Lo k0 (obF (b2.get 8)):=by rw [hnew]; exact y77
     rw [← hoth 39 (by decide)] at j39
     rw [← hoth 40 (by decide)] at j40
     rw [← hoth 41 (by decide)] at j41
     rw [← hoth 76 (by decide)] at j76
     have j8:=jn
     have y8:=yn
     replace hsb:=hsz.trans hsb
     replace hdb:=hdf.trans hdb
     clear hsz hdf hoth
     obtain ⟨b,hbb⟩ : ∃ b,b = b2:=⟨b2,rfl⟩
     subst hbb
     exact tail_done (k:=q) (w18 _ _ ⟨⟨hgq,hsb,hdb⟩,j8,y8,j39,j40,j41,trivial⟩)
    rintro a k ⟨⟨hg,hs,hd⟩,i8,n8,i39,i40,i41,_⟩
    obtain rfl:=Option.some.inj hr
    exact w16 _ _ ⟨⟨hg,hs,hd⟩,i8,n8,i39,i40,i41,trivial⟩
   clear hs5
   rintro a k ⟨⟨hg,hs,hd⟩,i8,n8,i39,i40,i41,_⟩
   obtain ⟨x17,hx17,hr⟩:=bind_some hr
   refine cut (fun a' k'=>Bs noF k0 80 a' k'∧IsOwn 0 230 s5 (a'.get 8) k'∧Lo k0 (obF (a'.get 8))∧(IsV x4) (a'.get 39) k'∧(IsL x4) (a'.get 40) k'∧(IsV x17) (a'.get 41) k'∧True) ?_ hQ ?_
   ·intro Q21 W21 w19
    refine gS 2 (_::_::[]) hs (by kernel_rfl) ⟨o1 [(41,none)] rfl fun _ _ h n=>ok_add rfl (up i41 h n.1) (cI rfl) hx17,cm 0 rfl rfl,trivial⟩ W21 fun b q p=>?_
    exact tail_done (k:=q) (w19 _ _ ⟨Bs.post ⟨hg,hs,hd⟩ p,p.ke 8 rfl i8,(by rw [p.old 8 rfl]; exact n8),p.ke 39 rfl i39,p.ke 40 rfl i40,p.ou 1 41 rfl,trivial⟩)
   rintro a k ⟨⟨hg,hs,hd⟩,i8,n8,i39,i40,i41,_⟩
   exact hgo1333 _ _ _ (Option.some.inj hr).symm ⟨⟨hg,hs,hd⟩,i8,n8,i39,i40,i41,trivial⟩
  rw [if_neg (by rw [hc1360]; decide)] at hr
  refine wp_exit ?_
  obtain ⟨kk,sh1359,ii8⟩:=i8.give
  replace i8:=ii8
  replace hg:=hg.hand sh1359 n8.wr
  rw [← sh1359.w]
  clear sh1359
  obtain ⟨k,hkk⟩ : ∃ k,k = kk:=⟨kk,rfl⟩
  subst hkk
  exact hex1334 _ _ _ _ (Option.some.inj hr).symm ⟨rfl,⟨hg,hs,hd⟩,i8,trivial⟩
 ·rintro r2 a k rfl hR
  dsimp only at hr
  obtain rfl:=Option.some.inj hr
  exact hR
 ·rintro _ _ _ rfl _
  simp at hr
 clear hf2
 rintro _ s6 a k rfl ⟨rfl,⟨hg,hs,hd⟩,i8,_⟩
 dsimp only at hr
 refine stepL 2 (_::_::[]) rfl ⟨hg,hs,hd⟩ (by kernel_rfl) ⟨mu rfl i8,cp 0 rfl rfl,trivial⟩ [⟨_,_⟩] (fun b q p=>⟨p.ou 1 4 rfl,trivial⟩) ?_
 rintro a k ⟨⟨hg,hs,hd⟩,i4,_⟩
 refine wp_ret ?_
 obtain rfl:=Option.some.inj hr
 exact retC1 rfl hd hg i4
def region_strips_L0 (x1:(List Rect)) (s1:(List Int) × Int):Option (Flow ((List Int) × Int) ((List RegionStrip))):=
 if (decide (s1.2 < (x1.length:Int))) then
  (getI x1 s1.2).bind fun x2=>
  (appI s1.1 ([x2.X0,x2.X1])).bind fun x3=>
  (addI s1.2 1).bind fun x4=>
  some (.go (x3,x4))
 else
  some (.ex 0 (s1.1,s1.2))
def region_strips_L1 (x1:(List Rect)) (x2:(List Int)) (s1:(List RegionStrip) × Int):Option (Flow ((List RegionStrip) × Int) ((List RegionStrip))):=
 if (decide (s1.2 < (x2.length:Int))) then
  (subI s1.2 1).bind fun x3=>
  (getI x2 x3).bind fun x4=>
  (getI x2 s1.2).bind fun x5=>
  (subI s1.2 1).bind fun x6=>
  (getI x2 x6).bind fun x7=>
  (region_column x1 x7).bind fun x8=>
  (appI s1.1 ([(⟨x4,x5,x8⟩:RegionStrip)])).bind fun x9=>
  (addI s1.2 1).bind fun x10=>
  some (.go (x9,x10))
 else
  some (.ex 2 (s1.1,s1.2))
def region_strips (lists_:(List (List Rect))):Option ((List RegionStrip)):=
 (slices_Concat_Rect lists_).bind fun x1=>
 (iterL (region_strips_L0 x1) (x1.length + 1) (([]:List Int),0)).bind fun f1=>match f1 with
  | .go _=>none
  | .ex _ s1 =>
   (sortInts s1.1).bind fun x2=>
   (compactInts x2).bind fun x3=>
   (iterL (region_strips_L1 x1 x3) (x1.length + x3.length + ([]:List RegionStrip).length + 1) (([]:List RegionStrip),1)).bind fun f2=>match f2 with
    | .go _=>none
    | .ex _ s2=>
     some s2.1
    | .ret r1=>some r1
  | .ret r2=>some r2
theorem region_strips_okO {k0:K} {v0:Value} {lists_:(List (List Rect))} {r:(List RegionStrip)} (i0:(IsV lists_) v0 k0) (hr:region_strips lists_ = some r) :
  Calls Tryz.prog 180 #[v0] k0.w (Ret k0 (IsOwn k0.w.heap.size 232 r)):=by
 unfold region_strips at hr
 refine Ret.ofC ?_
 refine enterK Tryz.func180 rfl Tryz.ntmps180 (show 1 ≤ 56 by decide) fun a k hk0 hs hd ha=>?_
 obtain ⟨e0,_⟩:=ha
 replace i0:(IsV lists_) (a.get 0) k:=by rw [e0,hk0]; exact i0
 have hQ:Gb.LetsOut (bodyPost Tryz.prog Tryz.f180 (RetC noF k0 (IsOwn k0.w.heap.size 232 r))):=letsOutC
 have hg:Chg noF k0 k:=by rw [hk0]; exact Chg.refl _ k0
 refine stepL 1 (⟨some IsE0,[]⟩::[]) rfl ⟨hg,hs,hd⟩ (by kernel_rfl) ⟨ob1 rfl fun b q h n=>ok_assign rfl isE0_nil,trivial⟩ [⟨_,_⟩] (fun b q p=>⟨p.ke 0 rfl i0,trivial⟩) ?_
 rintro a k ⟨⟨hg,hs,hd⟩,i0,_⟩
 refine wp_seq ?_
 obtain ⟨x1,hx1,hr⟩:=bind_some hr
 refine cut (fun a' k'=>Bs noF k0 56 a' k'∧(IsV x1) (a'.get 3) k'∧True) ?_ hQ ?_
 ·intro Q1 W1 w1
  refine gS 3 (_::_::_::[]) hs (by kernel_rfl) ⟨mu rfl i0,o1 [(9,some 0)] rfl fun _ _ h n=>ok_call rfl Tryz.call183 (slices_Concat_Rect_ok n.1 hx1),cp 1 rfl rfl,trivial⟩ W1 fun b q p=>?_
  exact tail_done (k:=q) (w1 _ _ ⟨Bs.post ⟨hg,hs,hd⟩ p,p.ou 2 3 rfl,trivial⟩)
 rintro a k ⟨⟨hg,hs,hd⟩,i3,_⟩
 refine cutS (fun c l=>Bs noF k0 56 c l∧IsV x1 (c.get 3) l∧IsOwn 0 3 ([]:List Int) (c.get 4) l∧Lo k0 (obF (c.get 4))∧True) ?_ ?_
 ·intro Q2 W2 w2
  refine gS 1 (⟨some IsE0,[]⟩::[]) hs (by kernel_rfl) ⟨ob1 rfl fun b q h n=>ok_assign rfl isE0_nil,trivial⟩ W2 fun b q p=>?_
  have hgq:=hg.then p.grow
  have hsb:=p.size.trans hs
  have hdb:=p.defers.trans hd
  have j3:=p.ke 3 rfl i3
  have j4:IsE0 (b.get 4) q:=p.ou 0 4 rfl
  have y4:Lo k0 (obF (b.get 4)):=j4.lo
  replace j4:IsOwn 0 3 ([]:List Int) (b.get 4) q:=j4.own0
  exact tail_done (k:=q) (w2 _ _ ⟨⟨hgq,hsb,hdb⟩,j3,j4,y4,trivial⟩)
 rintro a k ⟨⟨hg,hs,hd⟩,i3,i4,n4,_⟩
 refine wp_seq ?_
 refine cutS (fun c l=>Bs noF k0 56 c l∧IsV x1 (c.get 3) l∧IsOwn 0 3 ([]:List Int) (c.get 4) l∧Lo k0 (obF (c.get 4))∧IsV x1 (c.get 11) l∧IsL x1 (c.get 12) l∧IsI 0 (c.get 13) l∧True) ?_ ?_
 ·intro Q3 W3 w3
  refine gS 3 (_::_::⟨some (IsI 0),[]⟩::[]) hs (by kernel_rfl) ⟨mu rfl i3,o1 [(11,some 0)] rfl fun _ _ h n=>ok_len rfl rfl Tryz.underlying130 (IsV.rd n.1),ob1 rfl fun _ _ h n=>ok_move rfl (cI rfl),trivial⟩ W3 fun b q p=>?_
  exact tail_done (k:=q) (w3 _ _ ⟨Bs.post ⟨hg,hs,hd⟩ p,p.ke 3 rfl i3,p.ke 4 rfl i4,(by rw [p.old 4 rfl]; exact n4),p.ou 0 11 rfl,p.ou 1 12 rfl,p.ou 2 13 rfl,trivial⟩)
 rintro a k ⟨⟨hg,hs,hd⟩,i3,i4,n4,i11,i12,i13,_⟩
 refine wp_block ?_
 obtain ⟨f1,hf1,hr⟩:=bind_some hr
 refine cutFe f1 (fun s' c l=>Bs noF k0 56 c l∧IsV x1 (c.get 3) l∧IsOwn 0 3 s'.1 (c.get 4) l∧Lo k0 (obF (c.get 4))∧IsV x1 (c.get 11) l∧IsL x1 (c.get 12) l∧IsV s'.2 (c.get 13) l∧True) (fun i' s' c l=>(i' = 0∧Bs noF k0 56 c l∧IsV x1 (c.get 3) l∧IsOwn 0 3 s'.1 (c.get 4) l∧Lo k0 (obF (c.get 4))∧True)) (fun r' c l=>bodyPost Tryz.prog Tryz.f180 (RetC noF k0 (IsOwn k0.w.heap.size 232 r')) .ret c l.w) ?_ hQ ?_ ?_ ?_
 ·intro Q4 W4 hgo hex hret
  refine sim_loop ?_ _ _ _ _ _ hf1 ⟨⟨hg,hs,hd⟩,i3,i4,n4,i11,i12,i13,trivial⟩ Q4 W4 hgo hex hret
  clear hr hf1 hgo hex hret W4 hQ hg hs hd i11 i12 i13 i3 i4 n4
  intro s1 fl_ a k hr hS Q hQ hgo1389 hex1390 hret1391
  obtain ⟨⟨hg,hs,hd⟩,i3,i4,n4,i11,i12,i13,_⟩:=hS
  unfold region_strips_L0 at hr
  refine cutS (fun c l=>Bs noF k0 56 c l∧IsV x1 (c.get 3) l∧IsOwn 0 3 s1.1 (c.get 4) l∧Lo k0 (obF (c.get 4))∧IsV x1 (c.get 11) l∧IsL x1 (c.get 12) l∧IsV s1.2 (c.get 13) l∧(IsV (decide (s1.2 < (x1.length:Int)))) (c.get 14) l∧True) ?_ ?_
  ·intro Q5 W5 w4
   refine gS 1 (_::[]) hs (by kernel_rfl) ⟨o1 [(13,none),(12,none)] rfl fun _ _ h n=>ok_lss rfl (up i13 h n.1) (up i12 h n.2.1),trivial⟩ W5 fun b q p=>?_
   exact tail_done (k:=q) (w4 _ _ ⟨Bs.post ⟨hg,hs,hd⟩ p,p.ke 3 rfl i3,p.ke 4 rfl i4,(by rw [p.old 4 rfl]; exact n4),p.ke 11 rfl i11,p.ke 12 rfl i12,p.ke 13 rfl i13,p.ou 0 14 rfl,trivial⟩)
  rintro a k ⟨⟨hg,hs,hd⟩,i3,i4,n4,i11,i12,i13,i14,_⟩
  refine wp_seq ?_
  refine wp_cond_split (isBool i14) (fun hc1402=>?_) (fun hc1402=>?_)
  ·rw [if_pos hc1402] at hr
   refine wp_skip ?_
   refine wp_seq ?_
   refine wp_block ?_
   refine wp_seq ?_
   obtain ⟨x2,hx2,hr⟩:=bind_some hr
   refine cut (fun a' k'=>Bs noF k0 56 a' k'∧(IsV x1) (a'.get 3) k'∧IsOwn 0 3 s1.1 (a'.get 4) k'∧Lo k0 (obF (a'.get 4))∧(IsRef x2) (a'.get 6) k'∧(IsV x1) (a'.get 11) k'∧(IsL x1) (a'.get 12) k'∧(IsV s1.2) (a'.get 13) k'∧True) ?_ hQ ?_
   ·intro Q6 W6 w5
    refine gS 3 (_::_::⟨some (IsBox k.w.heap.size (⟨0,0,0,0⟩:Rect)),[]⟩::[]) hs (by kernel_rfl) ⟨o1 [(11,none),(13,none)] rfl fun _ _ h n=>ok_indexAddr rfl Tryz.underlying130 ty79 (IsV.rd (up i11 h n.1)) (up i13 h n.2.1) hx2,o1 [(15,some 0)] rfl fun _ _ h n=>ok_load rfl ty79 n.1,ob1 rfl fun _ _ h n=>ok_alloc _ h.size rfl z79,trivial⟩ W6 fun b q p=>?_
    have hgq:=hg.then p.grow
    have hsb:=p.size.trans hs
    have hdb:=p.defers.trans hd
    have j3:=p.ke 3 rfl i3
    have j4:=p.ke 4 rfl i4
    have y4:Lo k0 (obF (b.get 4)):=by rw [p.old 4 rfl]; exact n4
    obtain ⟨b6,j6,x6,z6⟩:(IsBox k.w.heap.size (⟨0,0,0,0⟩:Rect)) (b.get 6) q:=p.ou 2 6 rfl
    replace x6:Lo k (Eq b6):=Lo.eq x6
    have y6:Lo k0 (Eq b6):=x6.chg hg
    have j11:=p.ke 11 rfl i11
    have j12:=p.ke 12 rfl i12
    have j13:=p.ke 13 rfl i13
    have j16:(IsV x2) (b.get 16) q:=p.ou 1 16 rfl
    have w4_6:Apart (obF (b.get 4)) (Eq b6):=Apart.new (by rw [p.old 4 rfl]; exact i4.ltF) x6
    have hns:=z6.nshF
    refine tail_storeB (i:=3) rfl rfl rfl rfl szf79 (Upd.self (α:=Rect)) j6 z6 j16 fun q2 hch hz=>?_
    replace hgq:=hgq.step hch y6.wr
    have hle:=hch.le hns
    replace j3:=Pers.pers hle j3
    replace j4:=j4.keep hch w4_6 hns
    replace j11:=Pers.pers hle j11
    replace j12:=Pers.pers hle j12
    replace j13:=Pers.pers hle j13
    replace j16:=Pers.pers hle j16
    replace z6:=hz
    clear hns hle hch
    obtain ⟨q,hqq⟩ : ∃ q,q = q2:=⟨q2,rfl⟩
    subst hqq
    obtain ⟨q2,hsh,jn⟩:=z6.give
    replace j3:=Pers.pers hsh.le j3
    replace j4:=j4.handed hsh w4_6
    replace j11:=Pers.pers hsh.le j11
    replace j12:=Pers.pers hsh.le j12
    replace j13:=Pers.pers hsh.le j13
    rw [← j6] at jn
    replace j6:=jn
    replace hgq:=hgq.hand hsh y6.wr
    rw [← hsh.w]
    clear hsh
    obtain ⟨q,hqq⟩ : ∃ q,q = q2:=⟨q2,rfl⟩
    subst hqq
    exact tail_done (k:=q) (w5 _ _ ⟨⟨hgq,hsb,hdb⟩,j3,j4,y4,j6,j11,j12,j13,trivial⟩)
   rintro a k ⟨⟨hg,hs,hd⟩,i3,i4,n4,i6,i11,i12,i13,_⟩
   obtain ⟨x3,hx3,hr⟩:=bind_some hr
   refine cut (fun a' k'=>Bs noF k0 56 a' k'∧(IsV x1) (a'.get 3) k'∧IsOwn 0 3 x3 (a'.get 4) k'∧Lo k0 (obF (a'.get 4))∧(IsV x1) (a'.get 11) k'∧(IsL x1) (a'.get 12) k'∧(IsV s1.2) (a'.get 13) k'∧True) ?_ hQ ?_
   ·intro Q7 W7 w6
    refine gS 6 (⟨some (OwnAt (a.get 4) 0 3 s1.1),[(4,none)]⟩::_::_::_::_::⟨some (IsV (α:=(List Int)) ([x2.X0,x2.X1])),[(19,some 2),(21,some 4)]⟩::[]) hs (by kernel_rfl) ⟨ob1 rfl fun _ _ h n=>ok_moveOA (.inl rfl) (ownAt n.1 (up i4 h n.1)),o1 [(6,none)] rfl fun _ _ h n=>ok_fieldAddr rfl fo79_0 (at_Rect_0 _) ((up i6 h n.1)).ptr,o1 [(18,some 1)] rfl fun _ _ h n=>ok_load rfl ty3 n.1,o1 [(6,none)] rfl fun _ _ h n=>ok_fieldAddr rfl fo79_2 (at_Rect_2 _) ((up i6 h n.1)).ptr,o1 [(20,some 3)] rfl fun _ _ h n=>ok_load rfl ty3 n.1,ob1 rfl fun _ _ h n=>ok_buildSlice rfl Tryz.underlying67 eo3 rfl (by decide) (by decide) ⟨rfl,n.1,rfl,n.2.1,trivial⟩,trivial⟩ W7 fun b q p=>?_
    have hgq:=hg.then p.grow
    have hsb:=p.size.trans hs
    have hdb:=p.defers.trans hd
    have j3:=p.ke 3 rfl i3
    have j11:=p.ke 11 rfl i11
    have j12:=p.ke 12 rfl i12
    have j13:=p.ke 13 rfl i13
    have e17:b.get 17 = a.get 4:=(p.ou 0 17 rfl).1
    have j17:IsOwn 0 3 s1.1 (b.get 17) q:=(p.ou 0 17 rfl).2
    have y17:Lo k0 (obF (b.get 17)):=by rw [e17]; exact n4
    have j22:(IsV (α:=(List Int)) ([x2.X0,x2.X1])) (b.get 22) q:=p.ou 5 22 rfl
    have hns:=j17.nshF
    refine tail_appendS (i:=6) (d:=23) rfl rfl rfl rfl (by rw [hsb]; decide) (e:=3) Tryz.underlying67 eo3 j17 (IsV.rd j22) hx3 fun b2 q2 hsz hdf hoth hch hown hob=>?_
    have hle:=hch.le hns
    have yn:Lo k0 (obF (b2.get 23)):=y17.app hgq hob
    replace j3:=Pers.pers hle j3
    replace j11:=Pers.pers hle j11
    replace j12:=Pers.pers hle j12
    replace j13:=Pers.pers hle j13
    replace j22:=Pers.pers hle j22
    replace hgq:=hgq.step hch y17.wr
    rw [← hoth 3 (by decide)] at j3
    rw [← hoth 11 (by decide)] at j11
    rw [← hoth 12 (by decide)] at j12
    rw [← hoth 13 (by decide)] at j13
    rw [← hoth 22 (by decide)] at j22
    have j23:=hown
    have y23:=yn
    replace hsb:=hsz.trans hsb
    replace hdb:=hdf.trans hdb
    clear hle hch hown hob hns yn hsz hdf hoth
    obtain ⟨b,hbb⟩ : ∃ b,b = b2:=⟨b2,rfl⟩
    subst hbb
    obtain ⟨q,hqq⟩ : ∃ q,q = q2:=⟨q2,rfl⟩
    subst hqq
    refine tail_assign (i:=7) (d:=4) rfl rfl (.inl rfl) rfl (by rw [hsb]; decide) fun b2 hsz hdf hnew hoth=>?_
    have jn:(IsOwn 0 3 x3) (b2.get 4) q:=by rw [hnew]; exact j23
    have yn:Lo k0 (obF (b2.get 4)):=by rw [hnew]; exact y23
    rw [← hoth 3 (by decide)] at j3
    rw [← hoth 11 (by decide)] at j11
    rw [← hoth 12 (by decide)] at j12
    rw [← hoth 13 (by decide)] at j13
    rw [← hoth 22 (by decide)] at j22
    have j4:=jn
    have y4:=yn
    replace hsb:=hsz.trans hsb
    replace hdb:=hdf.trans hdb
    clear hsz hdf hoth
    obtain ⟨b,hbb⟩ : ∃ b,b = b2:=⟨b2,rfl⟩
    subst hbb
    exact tail_done (k:=q) (w6 _ _ ⟨⟨hgq,hsb,hdb⟩,j3,j4,y4,j11,j12,j13,trivial⟩)
   rintro a k ⟨⟨hg,hs,hd⟩,i3,i4,n4,i11,i12,i13,_⟩
   obtain ⟨x4,hx4,hr⟩:=bind_some hr
   refine cut (fun a' k'=>Bs noF k0 56 a' k'∧(IsV x1) (a'.get 3) k'∧IsOwn 0 3 x3 (a'.get 4) k'∧Lo k0 (obF (a'.get 4))∧(IsV x1) (a'.get 11) k'∧(IsL x1) (a'.get 12) k'∧(IsV x4) (a'.get 13) k'∧True) ?_ hQ ?_
   ·intro Q8 W8 w7
    refine gS 2 (_::_::[]) hs (by kernel_rfl) ⟨o1 [(13,none)] rfl fun _ _ h n=>ok_add rfl (up i13 h n.1) (cI rfl) hx4,cm 0 rfl rfl,trivial⟩ W8 fun b q p=>?_
    exact tail_done (k:=q) (w7 _ _ ⟨Bs.post ⟨hg,hs,hd⟩ p,p.ke 3 rfl i3,p.ke 4 rfl i4,(by rw [p.old 4 rfl]; exact n4),p.ke 11 rfl i11,p.ke 12 rfl i12,p.ou 1 13 rfl,trivial⟩)
   rintro a k ⟨⟨hg,hs,hd⟩,i3,i4,n4,i11,i12,i13,_⟩
   exact hgo1389 _ _ _ (Option.some.inj hr).symm ⟨⟨hg,hs,hd⟩,i3,i4,n4,i11,i12,i13,trivial⟩
  rw [if_neg (by rw [hc1402]; decide)] at hr
  refine wp_exit ?_
  exact hex1390 _ _ _ _ (Option.some.inj hr).symm ⟨rfl,⟨hg,hs,hd⟩,i3,i4,n4,trivial⟩
 ·rintro r1 a k rfl hR
  dsimp only at hr
  obtain rfl:=Option.some.inj hr
  exact hR
 ·rintro _ _ _ rfl _
  simp at hr
 clear hf1
 rintro _ s2 a k rfl ⟨rfl,⟨hg,hs,hd⟩,i3,i4,n4,_⟩
 dsimp only at hr
 refine wp_seq ?_
 obtain ⟨x5,hx5,hr⟩:=bind_some hr
 refine cut (fun a' k'=>Bs noF k0 56 a' k'∧(IsV x1) (a'.get 3) k'∧IsOwn 0 3 x5 (a'.get 4) k'∧Lo k0 (obF (a'.get 4))∧True) ?_ hQ ?_
 ·intro Q9 W9 w8
  refine gS 1 (⟨some (OwnAt (a.get 4) 0 3 s2.1),[(4,none)]⟩::[]) hs (by kernel_rfl) ⟨ob1 rfl fun _ _ h n=>ok_moveOA (.inl rfl) (ownAt n.1 (up i4 h n.1)),trivial⟩ W9 fun b q p=>?_
  have hgq:=hg.then p.grow
  have hsb:=p.size.trans hs
  have hdb:=p.defers.trans hd
  have j3:=p.ke 3 rfl i3
  have j4:=p.ke 4 rfl i4
  have y4:Lo k0 (obF (b.get 4)):=by rw [p.old 4 rfl]; exact n4
  have e25:b.get 25 = a.get 4:=(p.ou 0 25 rfl).1
  have j25:IsOwn 0 3 s2.1 (b.get 25) q:=(p.ou 0 25 rfl).2
  have y25:Lo k0 (obF (b.get 25)):=by rw [e25]; exact n4
  have hns:=j25.nshF
  have eS:b.get 4 = b.get 25:=(p.old 4 rfl).trans e25.symm
  refine tail_call (F:=obF (b.get 25)) (i:=1) (d:=26) rfl rfl rfl rfl (by rw [hsb]; decide) Tryz.call101 W9 (sortInts_ok j25 hx5) fun b2 q2 hsz hdf hoth hch hres=>?_
  have hle:=hch.le hns
  replace j3:=Pers.pers hle j3
  replace hgq:=hgq.step hch y25.wr
  replace j4:IsOwn 0 3 x5 (b.get 4) q2:=by rw [eS]; exact hres
  clear hres eS
  rw [← hoth 3 (by decide)] at j3
  rw [← hoth 4 (by decide)] at j4
  rw [← hoth 4 (by decide)] at y4
  replace hsb:=hsz.trans hsb
  replace hdb:=hdf.trans hdb
  clear hle hch hns hsz hdf hoth
  obtain ⟨b,hbb⟩ : ∃ b,b = b2:=⟨b2,rfl⟩
  subst hbb
  obtain ⟨q,hqq⟩ : ∃ q,q = q2:=⟨q2,rfl⟩
  subst hqq
  exact tail_done (k:=q) (w8 _ _ ⟨⟨hgq,hsb,hdb⟩,j3,j4,y4,trivial⟩)
 rintro a k ⟨⟨hg,hs,hd⟩,i3,i4,n4,_⟩
 refine wp_seq ?_
 obtain ⟨x7,hx7,hr⟩:=bind_some hr
 refine cut (fun a' k'=>Bs noF k0 56 a' k'∧(IsV x1) (a'.get 3) k'∧IsOwn 0 3 x7 (a'.get 4) k'∧Lo k0 (obF (a'.get 4))∧True) ?_ hQ ?_
 ·intro Q10 W10 w9
  refine gS 1 (⟨some (OwnAt (a.get 4) 0 3 x5),[(4,none)]⟩::[]) hs (by kernel_rfl) ⟨ob1 rfl fun _ _ h n=>ok_moveOA (.inl rfl) (ownAt n.1 (up i4 h n.1)),trivial⟩ W10 fun b q p=>?_
  have hgq:=hg.then p.grow
  have hsb:=p.size.trans hs
  have hdb:=p.defers.trans hd
  have j3:=p.ke 3 rfl i3
  have e27:b.get 27 = a.get 4:=(p.ou 0 27 rfl).1
  have j27:IsOwn 0 3 x5 (b.get 27) q:=(p.ou 0 27 rfl).2
  have y27:Lo k0 (obF (b.get 27)):=by rw [e27]; exact n4
  have hns:=j27.nshF
  refine tail_call (F:=obF (b.get 27)) (i:=1) (d:=28) rfl rfl rfl rfl (by rw [hsb]; decide) Tryz.call102 W10 (compactInts_ok j27 hx7) fun b2 q2 hsz hdf hoth hch hres=>?_
  have hle:=hch.le hns
  obtain ⟨hown,hob⟩:=hres
  have yn:Lo k0 (obF (b2.get 28)):=y27.app hgq hob
  replace j3:=Pers.pers hle j3
  replace hgq:=hgq.step hch y27.wr
  rw [← hoth 3 (by decide)] at j3
  have j28:=hown
  have y28:=yn
  have hres:=True.intro
  clear hown hob yn
  replace hsb:=hsz.trans hsb
  replace hdb:=hdf.trans hdb
  clear hle hch hres hns hsz hdf hoth
  obtain ⟨b,hbb⟩ : ∃ b,b = b2:=⟨b2,rfl⟩
  subst hbb
  obtain ⟨q,hqq⟩ : ∃ q,q = q2:=⟨q2,rfl⟩
  subst hqq
  refine tail_assign (i:=2) (d:=4) rfl rfl (.inl rfl) rfl (by rw [hsb]; decide) fun b2 hsz hdf hnew hoth=>?_
  have jn:(IsOwn 0 3 x7) (b2.get 4) q:=by rw [hnew]; exact j28
  have yn:Lo k0 (obF (b2.get 4)):=by rw [hnew]; exact y28
  rw [← hoth 3 (by decide)] at j3
  have j4:=jn
  have y4:=yn
  replace hsb:=hsz.trans hsb
  replace hdb:=hdf.trans hdb
  clear hsz hdf hoth
  obtain ⟨b,hbb⟩ : ∃ b,b = b2:=⟨b2,rfl⟩
  subst hbb
  exact tail_done (k:=q) (w9 _ _ ⟨⟨hgq,hsb,hdb⟩,j3,j4,y4,trivial⟩)
 rintro a k ⟨⟨hg,hs,hd⟩,i3,i4,n4,_⟩
 refine wp_seq ?_
 obtain ⟨kk,sh1409,ii4⟩:=i4.give
 replace i3:=Pers.pers sh1409.le i3
 replace i4:=ii4
 replace hg:=hg.hand sh1409 n4.wr
 rw [← sh1409.w]
 clear sh1409
 obtain ⟨k,hkk⟩ : ∃ k,k = kk:=⟨kk,rfl⟩
 subst hkk
 refine cut (fun a' k'=>Bs noF k0 56 a' k'∧(IsV x1) (a'.get 3) k'∧(IsV x7) (a'.get 4) k'∧IsOwn 0 232 ([]:List RegionStrip) (a'.get 7) k'∧Lo k0 (obF (a'.get 7))∧True) ?_ hQ ?_
 ·intro Q11 W11 w10
  refine gS 1 (⟨some IsE0,[]⟩::[]) hs (by kernel_rfl) ⟨ob1 rfl fun b q h n=>ok_assign rfl isE0_nil,trivial⟩ W11 fun b q p=>?_
  have hgq:=hg.then p.grow
  have hsb:=p.size.trans hs
  have hdb:=p.defers.trans hd
  have j3:=p.ke 3 rfl i3
  have j4:=p.ke 4 rfl i4
  have j7:IsE0 (b.get 7) q:=p.ou 0 7 rfl
  have y7:Lo k0 (obF (b.get 7)):=j7.lo
  replace j7:IsOwn 0 232 ([]:List RegionStrip) (b.get 7) q:=j7.own0
  exact tail_done (k:=q) (w10 _ _ ⟨⟨hgq,hsb,hdb⟩,j3,j4,j7,y7,trivial⟩)
 rintro a k ⟨⟨hg,hs,hd⟩,i3,i4,i7,n7,_⟩
 refine wp_seq ?_
 refine cutS (fun c l=>Bs noF k0 56 c l∧IsV x1 (c.get 3) l∧IsV x7 (c.get 4) l∧IsOwn 0 232 ([]:List RegionStrip) (c.get 7) l∧Lo k0 (obF (c.get 7))∧IsI 1 (c.get 8) l∧True) ?_ ?_
 ·intro Q12 W12 w11
  refine gS 1 (⟨some (IsI 1),[]⟩::[]) hs (by kernel_rfl) ⟨aI rfl rfl,trivial⟩ W12 fun b q p=>?_
  exact tail_done (k:=q) (w11 _ _ ⟨Bs.post ⟨hg,hs,hd⟩ p,p.ke 3 rfl i3,p.ke 4 rfl i4,p.ke 7 rfl i7,(by rw [p.old 7 rfl]; exact n7),p.ou 0 8 rfl,trivial⟩)
 rintro a k ⟨⟨hg,hs,hd⟩,i3,i4,i7,n7,i8,_⟩
 refine wp_block ?_
 obtain ⟨f2,hf2,hr⟩:=bind_some hr
 refine cutFe f2 (fun s' c l=>Bs noF k0 56 c l∧IsV x1 (c.get 3) l∧IsV x7 (c.get 4) l∧IsOwn 0 232 s'.1 (c.get 7) l∧Lo k0 (obF (c.get 7))∧IsV s'.2 (c.get 8) l∧True) (fun i' s' c l=>(i' = 2∧Bs noF k0 56 c l∧IsOwn 0 232 s'.1 (c.get 7) l∧Lo k0 (obF (c.get 7))∧True)) (fun r' c l=>bodyPost Tryz.prog Tryz.f180 (RetC noF k0 (IsOwn k0.w.heap.size 232 r')) .ret c l.w) ?_ hQ ?_ ?_ ?_
 ·intro Q13 W13 hgo hex hret
  refine sim_loop ?_ _ _ _ _ _ hf2 ⟨⟨hg,hs,hd⟩,i3,i4,i7,n7,i8,trivial⟩ Q13 W13 hgo hex hret
  clear hr hf2 hgo hex hret W13 hQ hg hs hd i3 i4 i7 i8 n7
  intro s3 fl_ a k hr hS Q hQ hgo1413 hex1414 hret1415
  obtain ⟨⟨hg,hs,hd⟩,i3,i4,i7,n7,i8,_⟩:=hS
  unfold region_strips_L1 at hr
  refine wp_seq ?_
  refine cutS (fun c l=>Bs noF k0 56 c l∧IsV x1 (c.get 3) l∧IsV x7 (c.get 4) l∧IsOwn 0 232 s3.1 (c.get 7) l∧Lo k0 (obF (c.get 7))∧IsV s3.2 (c.get 8) l∧(IsV (decide (s3.2 < (x7.length:Int)))) (c.get 32) l∧True) ?_ ?_
  ·intro Q14 W14 w12
   refine gS 4 (_::_::_::_::[]) hs (by kernel_rfl) ⟨mu rfl i8,mu rfl i4,o1 [(30,some 1)] rfl fun _ _ h n=>ok_len rfl rfl Tryz.underlying67 (IsV.rd n.1),o1 [(29,some 0),(31,some 2)] rfl fun _ _ h n=>ok_lss rfl n.1 n.2.1,trivial⟩ W14 fun b q p=>?_
   exact tail_done (k:=q) (w12 _ _ ⟨Bs.post ⟨hg,hs,hd⟩ p,p.ke 3 rfl i3,p.ke 4 rfl i4,p.ke 7 rfl i7,(by rw [p.old 7 rfl]; exact n7),p.ke 8 rfl i8,p.ou 3 32 rfl,trivial⟩)
  rintro a k ⟨⟨hg,hs,hd⟩,i3,i4,i7,n7,i8,i32,_⟩
  refine wp_cond_split (isBool i32) (fun hc1423=>?_) (fun hc1423=>?_)
  ·rw [if_pos hc1423] at hr
   refine wp_skip ?_
   refine wp_seq ?_
   refine wp_block ?_
   obtain ⟨x8,hx8,hr⟩:=bind_some hr
   obtain ⟨x9,hx9,hr⟩:=bind_some hr
   obtain ⟨x10,hx10,hr⟩:=bind_some hr
   obtain ⟨x11,hx11,hr⟩:=bind_some hr
   obtain ⟨x12,hx12,hr⟩:=bind_some hr
   obtain ⟨x13,hx13,hr⟩:=bind_some hr
   obtain ⟨x14,hx14,hr⟩:=bind_some hr
   refine cut (fun a' k'=>Bs noF k0 56 a' k'∧(IsV x1) (a'.get 3) k'∧(IsV x7) (a'.get 4) k'∧IsOwn 0 232 x14 (a'.get 7) k'∧Lo k0 (obF (a'.get 7))∧(IsV s3.2) (a'.get 8) k'∧True) ?_ hQ ?_
   ·intro Q15 W15 w13
    refine region (m:=19) (⟨some (OwnAt (a.get 7) 0 232 s3.1),[(7,none)]⟩::_::_::_::_::_::_::_::_::_::_::_::_::_::_::_::_::⟨some (IsV (⟨x9,x10,x13⟩:RegionStrip)),[(40,some 5),(44,some 9),(51,some 16)]⟩::⟨some (IsV (α:=(List RegionStrip)) ([(⟨x9,x10,x13⟩:RegionStrip)])),[(52,some 17)]⟩::[]) hmix hs (by kernel_rfl) ⟨ob1 rfl fun _ _ h n=>ok_moveOA (.inl rfl) (ownAt n.1 (up i7 h n.1)),mu rfl i4,mu rfl i8,o1 [(37,some 2)] rfl fun _ _ h n=>ok_sub rfl n.1 (cI rfl) hx8,o1 [(36,some 1),(38,some 3)] rfl fun _ _ h n=>ok_indexAddr rfl Tryz.underlying67 ty3 (IsV.rd n.1) n.2.1 hx9,o1 [(39,some 4)] rfl fun _ _ h n=>ok_load rfl ty3 n.1,mu rfl i4,mu rfl i8,o1 [(41,some 6),(42,some 7)] rfl fun _ _ h n=>ok_indexAddr rfl Tryz.underlying67 ty3 (IsV.rd n.1) n.2.1 hx10,o1 [(43,some 8)] rfl fun _ _ h n=>ok_load rfl ty3 n.1,mu rfl i3,mu rfl i4,mu rfl i8,o1 [(47,some 12)] rfl fun _ _ h n=>ok_sub rfl n.1 (cI rfl) hx11,o1 [(46,some 11),(48,some 13)] rfl fun _ _ h n=>ok_indexAddr rfl Tryz.underlying67 ty3 (IsV.rd n.1) n.2.1 hx12,o1 [(49,some 14)] rfl fun _ _ h n=>ok_load rfl ty3 n.1,o1 [(45,some 10),(50,some 15)] rfl fun _ _ h n=>ok_call rfl Tryz.call184 (region_column_ok n.1 n.2.1 hx13),ob1 rfl fun _ _ h n=>ok_build rfl (bld232_0_1_2 n.1 n.2.1 n.2.2.1),ob1 rfl fun _ _ h n=>ok_buildSlice rfl Tryz.underlying225 eo232 rfl (by decide) (by decide) ⟨rfl,n.1,trivial⟩,trivial⟩ W15 fun b q p=>?_
    have hgq:=hg.then p.grow
    have hsb:=p.size.trans hs
    have hdb:=p.defers.trans hd
    have j3:=p.ke 3 rfl i3
    have j4:=p.ke 4 rfl i4
    have j8:=p.ke 8 rfl i8
    have e35:b.get 35 = a.get 7:=(p.ou 0 35 rfl).1
    have j35:IsOwn 0 232 s3.1 (b.get 35) q:=(p.ou 0 35 rfl).2
    have y35:Lo k0 (obF (b.get 35)):=by rw [e35]; exact n7
    have j53:(IsV (α:=(List RegionStrip)) ([(⟨x9,x10,x13⟩:RegionStrip)])) (b.get 53) q:=p.ou 18 53 rfl
    have hns:=j35.nshF
    refine tail_appendS (i:=19) (d:=54) rfl rfl rfl rfl (by rw [hsb]; decide) (e:=232) Tryz.underlying225 eo232 j35 (IsV.rd j53) hx14 fun b2 q2 hsz hdf hoth hch hown hob=>?_
    have hle:=hch.le hns
    have yn:Lo k0 (obF (b2.get 54)):=y35.app hgq hob
    replace j3:=Pers.pers hle j3
    replace j4:=Pers.pers hle j4
    replace j8:=Pers.pers hle j8
    replace j53:=Pers.pers hle j53
    replace hgq:=hgq.step hch y35.wr
    rw [← hoth 3 (by decide)] at j3
    rw [← hoth 4 (by decide)] at j4
    rw [← hoth 8 (by decide)] at j8
    rw [← hoth 53 (by decide)] at j53
    have j54:=hown
    have y54:=yn
    replace hsb:=hsz.trans hsb
    replace hdb:=hdf.trans hdb
    clear hle hch hown hob hns yn hsz hdf hoth
    obtain ⟨b,hbb⟩ : ∃ b,b = b2:=⟨b2,rfl⟩
    subst hbb
    obtain ⟨q,hqq⟩ : ∃ q,q = q2:=⟨q2,rfl⟩
    subst hqq
    refine tail_assign (i:=20) (d:=7) rfl rfl (.inl rfl) rfl (by rw [hsb]; decide) fun b2 hsz hdf hnew hoth=>?_
    have jn:(IsOwn 0 232 x14) (b2.get 7) q:=by rw [hnew]; exact j54
    have yn:Lo k0 (obF (b2.get 7)):=by rw [hnew]; exact y54
    rw [← hoth 3 (by decide)] at j3
    rw [← hoth 4 (by decide)] at j4
    rw [← hoth 8 (by decide)] at j8
    rw [← hoth 53 (by decide)] at j53
    have j7:=jn
    have y7:=yn
    replace hsb:=hsz.trans hsb
    replace hdb:=hdf.trans hdb
    clear hsz hdf hoth
    obtain ⟨b,hbb⟩ : ∃ b,b = b2:=⟨b2,rfl⟩
    subst hbb
    exact tail_done (k:=q) (w13 _ _ ⟨⟨hgq,hsb,hdb⟩,j3,j4,j7,y7,j8,trivial⟩)
   rintro a k ⟨⟨hg,hs,hd⟩,i3,i4,i7,n7,i8,_⟩
   obtain ⟨x15,hx15,hr⟩:=bind_some hr
   refine cut (fun a' k'=>Bs noF k0 56 a' k'∧(IsV x1) (a'.get 3) k'∧(IsV x7) (a'.get 4) k'∧IsOwn 0 232 x14 (a'.get 7) k'∧Lo k0 (obF (a'.get 7))∧(IsV x15) (a'.get 8) k'∧True) ?_ hQ ?_
   ·intro Q16 W16 w14
    refine gS 3 (_::_::_::[]) hs (by kernel_rfl) ⟨mu rfl i8,o1 [(33,some 0)] rfl fun _ _ h n=>ok_add rfl n.1 (cI rfl) hx15,cp 1 rfl rfl,trivial⟩ W16 fun b q p=>?_
    exact tail_done (k:=q) (w14 _ _ ⟨Bs.post ⟨hg,hs,hd⟩ p,p.ke 3 rfl i3,p.ke 4 rfl i4,p.ke 7 rfl i7,(by rw [p.old 7 rfl]; exact n7),p.ou 2 8 rfl,trivial⟩)
   rintro a k ⟨⟨hg,hs,hd⟩,i3,i4,i7,n7,i8,_⟩
   exact hgo1413 _ _ _ (Option.some.inj hr).symm ⟨⟨hg,hs,hd⟩,i3,i4,i7,n7,i8,trivial⟩
  rw [if_neg (by rw [hc1423]; decide)] at hr
  refine wp_exit ?_
  exact hex1414 _ _ _ _ (Option.some.inj hr).symm ⟨rfl,⟨hg,hs,hd⟩,i7,n7,trivial⟩
 ·rintro r2 a k rfl hR
  dsimp only at hr
  obtain rfl:=Option.some.inj hr
  exact hR
 ·rintro _ _ _ rfl _
  simp at hr
 clear hf2
 rintro _ s4 a k rfl ⟨rfl,⟨hg,hs,hd⟩,i7,n7,_⟩
 dsimp only at hr
 refine cutS (fun c l=>Bs noF k0 56 c l∧IsOwn 0 232 s4.1 (c.get 2) l∧Lo k0 (obF (c.get 2))∧True) ?_ ?_
 ·intro Q17 W17 w15
  refine gS 2 (⟨some (OwnAt (a.get 7) 0 232 s4.1),[(7,none)]⟩::⟨some (OwnAt (a.get 7) 0 232 s4.1),[(55,some 0)]⟩::[]) hs (by kernel_rfl) ⟨ob1 rfl fun _ _ h n=>ok_moveOA (.inl rfl) (ownAt n.1 (up i7 h n.1)),ob1 rfl fun _ _ h n=>ok_moveOA (.inr rfl) n.1,trivial⟩ W17 fun b q p=>?_
  have hgq:=hg.then p.grow
  have hsb:=p.size.trans hs
  have hdb:=p.defers.trans hd
  have e2:b.get 2 = a.get 7:=(p.ou 1 2 rfl).1
  have j2:IsOwn 0 232 s4.1 (b.get 2) q:=(p.ou 1 2 rfl).2
  have y2:Lo k0 (obF (b.get 2)):=by rw [e2]; exact n7
  exact tail_done (k:=q) (w15 _ _ ⟨⟨hgq,hsb,hdb⟩,j2,y2,trivial⟩)
 rintro a k ⟨⟨hg,hs,hd⟩,i2,n2,_⟩
 refine wp_ret ?_
 obtain rfl:=Option.some.inj hr
 exact retC1 rfl hd hg (show ResOk _ _ _ (.tmp 2) _ from IsOwn.raise (k0:=k0) i2 n2)
theorem region_strips_ok {k0:K} {v0:Value} {lists_:(List (List Rect))} {r:(List RegionStrip)} (i0:(IsV lists_) v0 k0) (hr:region_strips lists_ = some r) :
  Calls Tryz.prog 180 #[v0] k0.w (Ret k0 (IsV r)):=
 ret_give (region_strips_okO i0 hr)
noncomputable def k180:=mkO 180 [.list (.list (.st 2))] [.list (.st 24)] (fun x=>region_strips x) Tryz.call180 fun k0 vs x r hG h hr=>by obtain ⟨v0,rfl,i0⟩:=h.one; exact region_strips_ok i0 hr
def slices_Equal_span_L0 (s1_:(List RegionSpan)) (s2_:(List RegionSpan)) (s1:Int):Option (Flow (Int) (Bool)):=
 if (decide (s1 < (s1_.length:Int))) then
  (getI s1_ s1).bind fun x1=>
  (getI s2_ s1).bind fun x2=>
  if (!decide (x1 = x2)) then
   some (.ret false)
  else
   (addI s1 1).bind fun x3=>
   some (.go x3)
 else
  some (.ex 0 s1)
def slices_Equal_span (s1_:(List RegionSpan)) (s2_:(List RegionSpan)):Option (Bool):=
 if ((s1_.length:Int) != (s2_.length:Int)) then
  some false
 else
  (iterL (slices_Equal_span_L0 s1_ s2_) (s1_.length + 1) 0).bind fun f1=>match f1 with
   | .go _=>none
   | .ex _ _=>
    some true
   | .ret r1=>some r1
noncomputable def k182:=mk 182 [.list (.st 23),.list (.st 23)] [.bool] (fun x=>slices_Equal_span x.1 x.2) [] [] Tryz.f182 (.s .n (.s .n (.s (.s .n (.l [] [(13,.v .int)] [(0,[13],[])] (fI 12) .n)) .n))) Tryz.func182 Tryz.call182 rfl rfl fun x=>by kernel_rfl
def region_write_L1 (l_:(List RegionStrip)) (s1:(List Rect) × Int) (s2:Int):Option (Flow (Int) ((List Rect))):=
 (if (decide (s2 < (l_.length:Int))) then
  (getI l_ s2).bind fun x1=>
  (getI l_ s1.2).bind fun x2=>
  (slices_Equal_span x1.column x2.column).bind fun x3=>
  some x3
 else
  some false).bind fun x4=>
 if x4 then
  (addI s2 1).bind fun x5=>
  some (.go x5)
 else
  some (.ex 2 s2)
def region_write_L2 (l_:(List RegionStrip)) (s1:(List Rect) × Int) (s2:Int) (x2:RegionStrip) (s3:(List Rect) × Int):Option (Flow ((List Rect) × Int) ((List Rect))):=
 if (decide (s3.2 < (x2.column.length:Int))) then
  (getI x2.column s3.2).bind fun x3=>
  (getI l_ s1.2).bind fun x4=>
  (subI s2 1).bind fun x5=>
  (getI l_ x5).bind fun x6=>
  (appI s3.1 ([(⟨x4.x0,x3.from_,x6.x1,x3.to_⟩:Rect)])).bind fun x7=>
  (addI s3.2 1).bind fun x8=>
  some (.go (x7,x8))
 else
  some (.ex 4 (s3.1,s3.2))
def region_write_L0 (l_:(List RegionStrip)) (s1:(List Rect) × Int):Option (Flow ((List Rect) × Int) ((List Rect))):=
 if (decide (s1.2 < (l_.length:Int))) then
  (addI s1.2 1).bind fun x1=>
  (iterL (region_write_L1 l_ s1) (l_.length + s1.1.length + 1) x1).bind fun f1=>match f1 with
   | .go _=>none
   | .ex _ s2 =>
    (getI l_ s1.2).bind fun x2=>
    (iterL (region_write_L2 l_ s1 s2 x2) (x2.column.length + 1) (s1.1,0)).bind fun f2=>match f2 with
     | .go _=>none
     | .ex _ s3=>
      some (.go (s3.1,s2))
     | .ret r1=>some (.ret r1)
   | .ret r2=>some (.ret r2)
 else
  some (.ex 0 (s1.1,s1.2))
def region_write (l_:(List RegionStrip)):Option ((List Rect)):=
 (iterL (region_write_L0 l_) (l_.length + ([]:List Rect).length + 1) (([]:List Rect),0)).bind fun f1=>match f1 with
  | .go _=>none
  | .ex _ s1=>
   some s1.1
  | .ret r1=>some r1
noncomputable def k179:=mk 179 [.list (.st 24)] [.list (.st 2)] (fun x=>region_write x) [k182] [3,43,61] Tryz.f179 (.s .n (.s .n (.s (.s .n (.l [] [(3,.o 79 (.st 2)),(4,.v .int)] [(0,[4],[])] (fL [0,3]) (.s .n (.s .n (.s (.l [] [(5,.v .int)] [(2,[],[])] (fL [0,3]) .n) (.s (.s .n (.l [] [(3,.o 79 (.st 2)),(39,.v .int)] [(4,[39],[])] (fI 38) .n)) .n)))))) (.s (.f [3] .n) .n)))) Tryz.func179 Tryz.call179 rfl rfl fun x=>by kernel_rfl
def region_limited (l_:(List Rect)):Option ((List Rect) × Int):=
 if (decide (200 < (l_.length:Int))) then
  some (([]:List Rect),6)
 else
  some (l_,0)
noncomputable def k178:=mk 178 [.list (.st 2)] [.list (.st 2),.int] (fun x=>region_limited x) [] [] Tryz.f178 (.n) Tryz.func178 Tryz.call178 rfl rfl fun x=>by kernel_rfl
def region_Of_L0 (l_:(List Rect)) (s1:Int):Option (Flow (Int) ((List Rect) × Int)):=
 if (decide (s1 < (l_.length:Int))) then
  (getI l_ s1).bind fun x1=>
  (rect_Right x1).bind fun x2=>
  if (!x2) then
   some (.ret (([]:List Rect),1))
  else
   (addI s1 1).bind fun x3=>
   some (.go x3)
 else
  some (.ex 0 s1)
def region_Of (l_:(List Rect)):Option ((List Rect) × Int):=
 (iterL (region_Of_L0 l_) (l_.length + 1) 0).bind fun f1=>match f1 with
  | .go _=>none
  | .ex _ _ =>
   if (decide (400 < (l_.length:Int))) then
    some (([]:List Rect),6)
   else
    (region_strips ([l_])).bind fun x1=>
    (region_write x1).bind fun x2=>
    (region_limited x2).bind fun x3=>
    some (x3.1,x3.2)
  | .ret r1=>some r1
noncomputable def k173:=mk 173 [.list (.st 2)] [.list (.st 2),.int] (fun x=>region_Of x) [k99,k180,k179,k178] [] Tryz.f173 (.s .n (.s (.s .n (.l [] [(8,.v .int)] [(0,[8],[])] (fI 7) .n)) .n)) Tryz.func173 Tryz.call173 rfl rfl fun x=>by kernel_rfl
def slices_Equal_Rect_L0 (s1_:(List Rect)) (s2_:(List Rect)) (s1:Int):Option (Flow (Int) (Bool)):=
 if (decide (s1 < (s1_.length:Int))) then
  (getI s1_ s1).bind fun x1=>
  (getI s2_ s1).bind fun x2=>
  if (!decide (x1 = x2)) then
   some (.ret false)
  else
   (addI s1 1).bind fun x3=>
   some (.go x3)
 else
  some (.ex 0 s1)
def slices_Equal_Rect (s1_:(List Rect)) (s2_:(List Rect)):Option (Bool):=
 if ((s1_.length:Int) != (s2_.length:Int)) then
  some false
 else
  (iterL (slices_Equal_Rect_L0 s1_ s2_) (s1_.length + 1) 0).bind fun f1=>match f1 with
   | .go _=>none
   | .ex _ _=>
    some true
   | .ret r1=>some r1
noncomputable def k174:=mk 174 [.list (.st 2),.list (.st 2)] [.bool] (fun x=>slices_Equal_Rect x.1 x.2) [] [] Tryz.f174 (.s .n (.s .n (.s (.s .n (.l [] [(13,.v .int)] [(0,[13],[])] (fI 12) .n)) .n))) Tryz.func174 Tryz.call174 rfl rfl fun x=>by kernel_rfl
def region_Right (a_:(List Rect)):Option (Bool):=
 (region_Of a_).bind fun x1=>
 (if (x1.2 == 0) then
  (slices_Equal_Rect x1.1 a_).bind fun x2=>
  some x2
 else
  some false).bind fun x3=>
 some x3
noncomputable def k162:=mk 162 [.list (.st 2)] [.bool] (fun x=>region_Right x) [k173,k174] [] Tryz.f162 (.n) Tryz.func162 Tryz.call162 rfl rfl fun x=>by kernel_rfl
def region_Same (a_:(List Rect)) (b_:(List Rect)):Option (Bool):=
 (slices_Equal_Rect a_ b_).bind fun x1=>
 some x1
noncomputable def k163:=mk 163 [.list (.st 2),.list (.st 2)] [.bool] (fun x=>region_Same x.1 x.2) [k174] [] Tryz.f163 (.n) Tryz.func163 Tryz.call163 rfl rfl fun x=>by kernel_rfl
def solid_Right_L0 (s_:(List Slab)) (s1:Int):Option (Flow (Int) (Bool)):=
 if (decide (s1 < (s_.length:Int))) then
  ((getI s_ s1).bind fun x1=>
  (if ((((decide (x1.Z0 < 0)) || (decide (x1.Z1 ≤ x1.Z0))) || (decide (4096 < x1.Z1))) || ((x1.Area.length:Int) == 0)) then
   some true
  else
   (region_Right x1.Area).bind fun x2=>
   some (!x2)).bind fun x3=>
  if x3 then
   some (.ret false)
  else
   if (s1 == 0) then
    some (.go ())
   else
    (subI s1 1).bind fun x4=>
    (getI s_ x4).bind fun x5=>
    (if (decide (x1.Z0 < x5.Z1)) then
     some true
    else
     (if (x5.Z1 == x1.Z0) then
      (region_Same x5.Area x1.Area).bind fun x6=>
      some x6
     else
      some false).bind fun x7=>
     some x7).bind fun x8=>
    if x8 then
     some (.ret false)
    else
     some (.go ()):Option (Flow (Unit) (Bool))).bind fun f1=>match f1 with
   | .go _=>
    (addI s1 1).bind fun x9=>
    some (.go x9)
   | .ex _ _=>none
   | .ret r1=>some (.ret r1)
 else
  some (.ex 0 s1)
def solid_Right (s_:(List Slab)):Option (Bool):=
 if (decide (80 < (s_.length:Int))) then
  some false
 else
  (iterL (solid_Right_L0 s_) (s_.length + 1) 0).bind fun f1=>match f1 with
   | .go _=>none
   | .ex _ _=>
    some true
   | .ret r1=>some r1
noncomputable def k136:=mk 136 [.list (.st 22)] [.bool] (fun x=>solid_Right x) [k162,k163] [] Tryz.f136 (.s .n (.s .n (.s (.s .n (.l [] [(11,.v .int)] [(0,[11],[])] (fI 10) (.s .n (.s .n (.s (.jf [] [] ([],[]) [] .n) .n))))) .n))) Tryz.func136 Tryz.call136 rfl rfl fun x=>by kernel_rfl
def solid_Boxes_L1 (x1:Slab) (s1:(List Box) × Int):Option (Flow ((List Box) × Int) ((List Box))):=
 if (decide (s1.2 < (x1.Area.length:Int))) then
  (getI x1.Area s1.2).bind fun x2=>
  (appI s1.1 ([(⟨x2,x1.Z0,x1.Z1⟩:Box)])).bind fun x3=>
  (addI s1.2 1).bind fun x4=>
  some (.go (x3,x4))
 else
  some (.ex 2 (s1.1,s1.2))
def solid_Boxes_L0 (s_:(List Slab)) (s1:(List Box) × Int):Option (Flow ((List Box) × Int) ((List Box))):=
 if (decide (s1.2 < (s_.length:Int))) then
  (getI s_ s1.2).bind fun x1=>
  (iterL (solid_Boxes_L1 x1) (x1.Area.length + 1) (s1.1,0)).bind fun f1=>match f1 with
   | .go _=>none
   | .ex _ s2=>
    (addI s1.2 1).bind fun x2=>
    some (.go (s2.1,x2))
   | .ret r1=>some (.ret r1)
 else
  some (.ex 0 (s1.1,s1.2))
def solid_Boxes (s_:(List Slab)):Option ((List Box)):=
 (solid_Right s_).bind fun x1=>
 if (!x1) then
  some ([]:List Box)
 else
  (iterL (solid_Boxes_L0 s_) (s_.length + 1) (([]:List Box),0)).bind fun f1=>match f1 with
   | .go _=>none
   | .ex _ s1=>
    some s1.1
   | .ret r1=>some r1
noncomputable def k110:=mk 110 [.list (.st 22)] [.list (.st 5)] (fun x=>solid_Boxes x) [k136] [3,24,32] Tryz.f110 (.s .n (.s .n (.s .n (.s (.s .n (.l [] [(3,.o 81 (.st 5)),(13,.v .int)] [(0,[13],[])] (fI 12) (.s .n (.s .n (.s (.s .n (.s .n (.l [] [(3,.o 81 (.st 5)),(20,.v .int)] [(2,[20],[])] (fI 19) .n))) .n))))) (.s (.f [3] .n) .n))))) Tryz.func110 Tryz.call110 rfl rfl fun x=>by kernel_rfl
theorem solid_Boxes_ok {k0:K} {v0:Value} {x0:(List Slab)} {r:(List Box)} (i0:(IsV x0) v0 k0) (hr:solid_Boxes x0 = some r):Calls Tryz.prog 110 #[v0] k0.w (Ret k0 (IsV r)):=(k110.ok.ok k0 [v0] x0 r (GOk.none (fun _=>rfl) fun _ e=>by cases e) i0 hr)
def sight_bound_compare (b_:SightBound) (c_:SightBound):Option (Int):=
 (mulI b_.n c_.d).bind fun x1=>
 (mulI c_.n b_.d).bind fun x2=>
 (cmp_Compare_int x1 x2).bind fun x3=>
 some x3
noncomputable def k139:=mk 139 [.st 26,.st 26] [.int] (fun x=>sight_bound_compare x.1 x.2) [k150] [] Tryz.f139 (.n) Tryz.func139 Tryz.call139 rfl rfl fun x=>by kernel_rfl
theorem sight_bound_compare_ok {k0:K} {v0 v1:Value} {x0:SightBound} {x1:SightBound} {r:Int} (i0:(IsV x0) v0 k0) (i1:(IsV x1) v1 k0) (hr:sight_bound_compare x0 x1 = some r):Calls Tryz.prog 139 #[v0,v1] k0.w (Ret k0 (IsV r)):=(k139.ok.ok k0 [v0,v1] (x0,x1) r (GOk.none (fun _=>rfl) fun _ e=>by cases e) ⟨i0,i1⟩ hr)
def sight_interval_above (i_:SightInterval) (b_:SightBound):Option (SightInterval):=
 (sight_bound_compare b_ i_.lo).bind fun x1=>
 (if (decide (0 < x1)) then
  some { i_ with lo:=b_ }
 else
  (if (x1 == 0) then
   some { i_ with lo:={ i_.lo with open_:=(i_.lo.open_ || b_.open_) } }
  else
   some i_).bind fun s1=>
  some s1).bind fun s2=>
 some s2
theorem sight_interval_above_ok {k0:K} {v0 v1:Value} {i_:SightInterval} {b_:SightBound} {r:SightInterval} {b0:Nat} (i0:v0 = .pointer (some ⟨b0,0,none⟩)) (c0:Gb.Box b0 i_ k0) (i1:(IsV b_) v1 k0) (hr:sight_interval_above i_ b_ = some r) :
  Calls Tryz.prog 137 #[v0,v1] k0.w (RetC (Eq b0) k0 (IsTurn b0 r)):=by
 unfold sight_interval_above at hr
 refine enterK Tryz.func137 rfl Tryz.ntmps137 (show 2 ≤ 34 by decide) fun a k hk0 hs hd ha=>?_
 obtain ⟨e0,e1,_⟩:=ha
 replace i0:a.get 0 = .pointer (some ⟨b0,0,none⟩):=by rw [e0]; exact i0
 replace c0:Gb.Box b0 i_ k:=by rw [hk0]; exact c0
 have n0:Wr (Eq b0) k0 (Eq b0):=fun b h=>.inl h
 replace i1:(IsV b_) (a.get 1) k:=by rw [e1,hk0]; exact i1
 have hQ:Gb.LetsOut (bodyPost Tryz.prog Tryz.f137 (RetC (Eq b0) k0 (IsTurn b0 r))):=letsOutC
 have hg:Chg (Eq b0) k0 k:=by rw [hk0]; exact Chg.refl _ k0
 refine cutS (fun c l=>Bs (Eq b0) k0 34 c l∧c.get 0 = .pointer (some ⟨b0,0,none⟩)∧Wr (Eq b0) k0 (Eq b0)∧Gb.Box b0 i_ l∧IsRef b_ (c.get 3) l∧True) ?_ ?_
 ·intro Q1 W1 w1
  refine gS 1 (⟨some (IsRef b_),[(1,none)]⟩::[]) hs (by kernel_rfl) ⟨ob1 rfl fun _ _ h n=>ok_boxR rfl (up i1 h n.1),trivial⟩ W1 fun b q p=>?_
  exact tail_done (k:=q) (w1 _ _ ⟨Bs.post ⟨hg,hs,hd⟩ p,upE i0 (p.old 0 rfl),n0,Gb.Box.grow c0 p.grow,p.ou 0 3 rfl,trivial⟩)
 rintro a k ⟨⟨hg,hs,hd⟩,i0,n0,c0,i3,_⟩
 refine wp_seq ?_
 obtain ⟨x1,hx1,hr⟩:=bind_some hr
 refine cut (fun a' k'=>Bs (Eq b0) k0 34 a' k'∧a'.get 0 = .pointer (some ⟨b0,0,none⟩)∧Wr (Eq b0) k0 (Eq b0)∧Gb.Box b0 i_ k'∧(IsRef b_) (a'.get 3) k'∧(IsV x1) (a'.get 4) k'∧True) ?_ hQ ?_
 ·intro Q2 W2 w2
  refine region (m:=7) (_::⟨some (IsAdr b0 (0)),[(0,none)]⟩::⟨some (IsAdr b0 (0)),[(6,some 1)]⟩::_::_::_::_::[]) hmix hs (by kernel_rfl) ⟨o1 [(3,none)] rfl fun _ _ h n=>ok_load rfl ty145 ((up i3 h n.1)).ptr,ob1 rfl fun _ _ h n=>ok_moveB rfl (upE i0 n.1),ob1 rfl fun _ _ h n=>ok_nilCheckA rfl n.1,o1 [(7,some 2)] rfl fun _ _ h n=>ok_fieldAddr rfl fo147_0 (at_SightInterval_0 _) (IsAdr.ptrB n.1 (c0.grow h)),o1 [(8,some 3)] rfl fun _ _ h n=>ok_load rfl ty145 n.1,o1 [(5,some 0),(9,some 4)] rfl fun _ _ h n=>ok_call rfl Tryz.call139 (sight_bound_compare_ok n.1 n.2.1 hx1),cp 5 rfl rfl,trivial⟩ W2 fun b q p=>?_
  exact tail_done (k:=q) (w2 _ _ ⟨Bs.post ⟨hg,hs,hd⟩ p,upE i0 (p.old 0 rfl),n0,Gb.Box.grow c0 p.grow,p.ke 3 rfl i3,p.ou 6 4 rfl,trivial⟩)
 rintro a k ⟨⟨hg,hs,hd⟩,i0,n0,c0,i3,i4,_⟩
 refine wp_block ?_
 refine cutS (fun c l=>Bs (Eq b0) k0 34 c l∧c.get 0 = .pointer (some ⟨b0,0,none⟩)∧Wr (Eq b0) k0 (Eq b0)∧Gb.Box b0 i_ l∧IsRef b_ (c.get 3) l∧IsV x1 (c.get 4) l∧IsV (decide (0 < x1)) (c.get 11) l∧True) ?_ ?_
 ·intro Q3 W3 w3
  refine gS 3 (_::_::_::[]) hs (by kernel_rfl) ⟨mu rfl i4,o1 [(12,some 0)] rfl fun _ _ h n=>ok_gtr rfl n.1 (cI rfl),cp 1 rfl rfl,trivial⟩ W3 fun b q p=>?_
  exact tail_done (k:=q) (w3 _ _ ⟨Bs.post ⟨hg,hs,hd⟩ p,upE i0 (p.old 0 rfl),n0,Gb.Box.grow c0 p.grow,p.ke 3 rfl i3,p.ke 4 rfl i4,p.ou 2 11 rfl,trivial⟩)
 rintro a k ⟨⟨hg,hs,hd⟩,i0,n0,c0,i3,i4,i11,_⟩
 obtain ⟨s1,hs1,hr⟩:=bind_some hr
 refine cut (fun a' k'=>Bs (Eq b0) k0 34 a' k'∧a'.get 0 = .pointer (some ⟨b0,0,none⟩)∧Wr (Eq b0) k0 (Eq b0)∧Gb.Box b0 s1 k'∧True) ?_ hQ ?_
 ·intro Q4 W4 w4
  replace hr:=hs1
  clear hQ
  have hQ:=W4
  refine wp_cond_split (isBool i11) (fun hc1822=>?_) (fun hc1822=>?_)
  ·rw [if_pos hc1822] at hr
   refine cut (fun a' k'=>Bs (Eq b0) k0 34 a' k'∧a'.get 0 = .pointer (some ⟨b0,0,none⟩)∧Wr (Eq b0) k0 (Eq b0)∧Gb.Box b0 ({ i_ with lo:=b_ }) k'∧True) ?_ hQ ?_
   ·intro Q5 W5 w5
    refine gS 4 (⟨some (IsAdr b0 (0)),[(0,none)]⟩::_::⟨some (IsAdr b0 (0)),[(14,some 0)]⟩::_::[]) hs (by kernel_rfl) ⟨ob1 rfl fun _ _ h n=>ok_moveB rfl (upE i0 n.1),o1 [(3,none)] rfl fun _ _ h n=>ok_load rfl ty145 ((up i3 h n.1)).ptr,ob1 rfl fun _ _ h n=>ok_nilCheckA rfl n.1,o1 [(16,some 2)] rfl fun _ _ h n=>ok_fieldAdr2 rfl fo147_0 n.1,trivial⟩ W5 fun b q p=>?_
    have hgq:=hg.then p.grow
    have hsb:=p.size.trans hs
    have hdb:=p.defers.trans hd
    have j0:=upE i0 (p.old 0 rfl)
    have z0:=Gb.Box.grow c0 p.grow
    have y0:=n0
    have j15:(IsV b_) (b.get 15) q:=p.ou 1 15 rfl
    have j17:IsAdr b0 (0 + 0) (b.get 17) q:=p.ou 3 17 rfl
    have hns:=z0.nshF
    refine tail_storeB (i:=4) rfl rfl rfl rfl szf145 upd_F147_0 j17 z0 j15 fun q2 hch hz=>?_
    replace hgq:=hgq.step hch y0
    have hle:=hch.le hns
    replace j15:=Pers.pers hle j15
    replace j17:=Pers.pers hle j17
    replace z0:=hz
    clear hns hle hch
    obtain ⟨q,hqq⟩ : ∃ q,q = q2:=⟨q2,rfl⟩
    subst hqq
    exact tail_done (k:=q) (w5 _ _ ⟨⟨hgq,hsb,hdb⟩,j0,y0,z0,trivial⟩)
   rintro a k ⟨⟨hg,hs,hd⟩,i0,n0,c0,_⟩
   obtain rfl:=Option.some.inj hr
   exact w4 _ _ ⟨⟨hg,hs,hd⟩,i0,n0,c0,trivial⟩
  rw [if_neg (by rw [hc1822]; decide)] at hr
  refine cutS (fun c l=>Bs (Eq b0) k0 34 c l∧c.get 0 = .pointer (some ⟨b0,0,none⟩)∧Wr (Eq b0) k0 (Eq b0)∧Gb.Box b0 i_ l∧IsRef b_ (c.get 3) l∧IsV (x1 == 0) (c.get 18) l∧True) ?_ ?_
  ·intro Q6 W6 w6
   refine gS 3 (_::_::_::[]) hs (by kernel_rfl) ⟨mu rfl i4,o1 [(19,some 0)] rfl fun _ _ h n=>ok_eqI rfl n.1 (cI rfl),cp 1 rfl rfl,trivial⟩ W6 fun b q p=>?_
   exact tail_done (k:=q) (w6 _ _ ⟨Bs.post ⟨hg,hs,hd⟩ p,upE i0 (p.old 0 rfl),n0,Gb.Box.grow c0 p.grow,p.ke 3 rfl i3,p.ou 2 18 rfl,trivial⟩)
  rintro a k ⟨⟨hg,hs,hd⟩,i0,n0,c0,i3,i18,_⟩
  obtain ⟨s2,hs2,hr⟩:=bind_some hr
  refine cut (fun a' k'=>Bs (Eq b0) k0 34 a' k'∧a'.get 0 = .pointer (some ⟨b0,0,none⟩)∧Wr (Eq b0) k0 (Eq b0)∧Gb.Box b0 s2 k'∧True) ?_ hQ ?_
  ·intro Q7 W7 w7
   replace hr:=hs2
   clear hQ
   have hQ:=W7
   refine wp_cond_split (isBool i18) (fun hc1818=>?_) (fun hc1818=>?_)
   ·rw [if_pos hc1818] at hr
    refine cut (fun a' k'=>Bs (Eq b0) k0 34 a' k'∧a'.get 0 = .pointer (some ⟨b0,0,none⟩)∧Wr (Eq b0) k0 (Eq b0)∧Gb.Box b0 ({ i_ with lo:={ i_.lo with open_:=(i_.lo.open_ || b_.open_) } }) k'∧True) ?_ hQ ?_
    ·intro Q8 W8 w8
     refine gS 13 (⟨some (IsAdr b0 (0)),[(0,none)]⟩::⟨some (IsAdr b0 (0)),[(0,none)]⟩::⟨some (IsAdr b0 (0)),[(22,some 1)]⟩::_::_::_::_::_::_::_::⟨some (IsAdr b0 (0)),[(21,some 0)]⟩::_::_::[]) hs (by kernel_rfl) ⟨ob1 rfl fun _ _ h n=>ok_moveB rfl (upE i0 n.1),ob1 rfl fun _ _ h n=>ok_moveB rfl (upE i0 n.1),ob1 rfl fun _ _ h n=>ok_nilCheckA rfl n.1,o1 [(23,some 2)] rfl fun _ _ h n=>ok_fieldAddr rfl fo147_0 (at_SightInterval_0 _) (IsAdr.ptrB n.1 (c0.grow h)),o1 [(24,some 3)] rfl fun _ _ h n=>ok_fieldAddr rfl fo145_2 (at_SightBound_2 _) n.1,o1 [(25,some 4)] rfl fun _ _ h n=>ok_load rfl ty4 n.1,cm 5 rfl rfl,gF [(3,none)] rfl rfl fun hp _ _ h n=>ok_fieldAddr rfl fo145_2 (at_SightBound_2 _) ((up i3 h n.1)).ptr,gF [(28,some 7)] rfl rfl fun hp _ _ h n=>ok_load rfl ty4 (Gd.get n.1 hp),o1 [(27,some 6),(29,some 8)] rfl fun _ _ h n=>ok_pickOr rfl n.1 (cB rfl) (Gd.get n.2.1),ob1 rfl fun _ _ h n=>ok_nilCheckA rfl n.1,o1 [(31,some 10)] rfl fun _ _ h n=>ok_fieldAdr2 rfl fo147_0 n.1,o1 [(32,some 11)] rfl fun _ _ h n=>ok_fieldAdr2 rfl fo145_2 n.1,trivial⟩ W8 fun b q p=>?_
     have hgq:=hg.then p.grow
     have hsb:=p.size.trans hs
     have hdb:=p.defers.trans hd
     have j0:=upE i0 (p.old 0 rfl)
     have z0:=Gb.Box.grow c0 p.grow
     have y0:=n0
     have j30:(IsV (i_.lo.open_ || b_.open_)) (b.get 30) q:=p.ou 9 30 rfl
     have j33:IsAdr b0 (0 + 0 + 2) (b.get 33) q:=p.ou 12 33 rfl
     have hns:=z0.nshF
     refine tail_storeB (i:=13) rfl rfl rfl rfl szf4 upd_F147_0_F145_2 j33 z0 j30 fun q2 hch hz=>?_
     replace hgq:=hgq.step hch y0
     have hle:=hch.le hns
     replace j30:=Pers.pers hle j30
     replace j33:=Pers.pers hle j33
     replace z0:=hz
     clear hns hle hch
     obtain ⟨q,hqq⟩ : ∃ q,q = q2:=⟨q2,rfl⟩
     subst hqq
     exact tail_done (k:=q) (w8 _ _ ⟨⟨hgq,hsb,hdb⟩,j0,y0,z0,trivial⟩)
    rintro a k ⟨⟨hg,hs,hd⟩,i0,n0,c0,_⟩
    obtain rfl:=Option.some.inj hr
    exact w7 _ _ ⟨⟨hg,hs,hd⟩,i0,n0,c0,trivial⟩
   rw [if_neg (by rw [hc1818]; decide)] at hr
   refine wp_skip ?_
   obtain rfl:=Option.some.inj hr
   exact w7 _ _ ⟨⟨hg,hs,hd⟩,i0,n0,c0,trivial⟩
  clear hs2
  rintro a k ⟨⟨hg,hs,hd⟩,i0,n0,c0,_⟩
  obtain rfl:=Option.some.inj hr
  exact w4 _ _ ⟨⟨hg,hs,hd⟩,i0,n0,c0,trivial⟩
 clear hs1
 rintro a k ⟨⟨hg,hs,hd⟩,i0,n0,c0,_⟩
 obtain rfl:=Option.some.inj hr
 exact retT rfl hd hg c0
def sight_interval_below (i_:SightInterval) (b_:SightBound):Option (SightInterval):=
 (if i_.top then
  (sight_bound_compare b_ i_.hi).bind fun x1=>
  some x1
 else
  some (-1)).bind fun s1=>
 (if (decide (s1 < 0)) then
  some { { i_ with hi:=b_ } with top:=true }
 else
  (if (s1 == 0) then
   some { i_ with hi:={ i_.hi with open_:=(i_.hi.open_ || b_.open_) } }
  else
   some i_).bind fun s2=>
  some s2).bind fun s3=>
 some s3
theorem sight_interval_below_ok {k0:K} {v0 v1:Value} {i_:SightInterval} {b_:SightBound} {r:SightInterval} {b0:Nat} (i0:v0 = .pointer (some ⟨b0,0,none⟩)) (c0:Gb.Box b0 i_ k0) (i1:(IsV b_) v1 k0) (hr:sight_interval_below i_ b_ = some r) :
  Calls Tryz.prog 138 #[v0,v1] k0.w (RetC (Eq b0) k0 (IsTurn b0 r)):=by
 unfold sight_interval_below at hr
 refine enterK Tryz.func138 rfl Tryz.ntmps138 (show 2 ≤ 41 by decide) fun a k hk0 hs hd ha=>?_
 obtain ⟨e0,e1,_⟩:=ha
 replace i0:a.get 0 = .pointer (some ⟨b0,0,none⟩):=by rw [e0]; exact i0
 replace c0:Gb.Box b0 i_ k:=by rw [hk0]; exact c0
 have n0:Wr (Eq b0) k0 (Eq b0):=fun b h=>.inl h
 replace i1:(IsV b_) (a.get 1) k:=by rw [e1,hk0]; exact i1
 have hQ:Gb.LetsOut (bodyPost Tryz.prog Tryz.f138 (RetC (Eq b0) k0 (IsTurn b0 r))):=letsOutC
 have hg:Chg (Eq b0) k0 k:=by rw [hk0]; exact Chg.refl _ k0
 refine cutS (fun c l=>Bs (Eq b0) k0 41 c l∧c.get 0 = .pointer (some ⟨b0,0,none⟩)∧Wr (Eq b0) k0 (Eq b0)∧Gb.Box b0 i_ l∧IsRef b_ (c.get 3) l∧True) ?_ ?_
 ·intro Q1 W1 w1
  refine gS 1 (⟨some (IsRef b_),[(1,none)]⟩::[]) hs (by kernel_rfl) ⟨ob1 rfl fun _ _ h n=>ok_boxR rfl (up i1 h n.1),trivial⟩ W1 fun b q p=>?_
  exact tail_done (k:=q) (w1 _ _ ⟨Bs.post ⟨hg,hs,hd⟩ p,upE i0 (p.old 0 rfl),n0,Gb.Box.grow c0 p.grow,p.ou 0 3 rfl,trivial⟩)
 rintro a k ⟨⟨hg,hs,hd⟩,i0,n0,c0,i3,_⟩
 refine cutS (fun c l=>Bs (Eq b0) k0 41 c l∧c.get 0 = .pointer (some ⟨b0,0,none⟩)∧Wr (Eq b0) k0 (Eq b0)∧Gb.Box b0 i_ l∧IsRef b_ (c.get 3) l∧IsI (-1) (c.get 4) l∧True) ?_ ?_
 ·intro Q2 W2 w2
  refine gS 1 (⟨some (IsI (-1)),[]⟩::[]) hs (by kernel_rfl) ⟨aI rfl rfl,trivial⟩ W2 fun b q p=>?_
  exact tail_done (k:=q) (w2 _ _ ⟨Bs.post ⟨hg,hs,hd⟩ p,upE i0 (p.old 0 rfl),n0,Gb.Box.grow c0 p.grow,p.ke 3 rfl i3,p.ou 0 4 rfl,trivial⟩)
 rintro a k ⟨⟨hg,hs,hd⟩,i0,n0,c0,i3,i4,_⟩
 refine wp_seq ?_
 refine cutS (fun c l=>Bs (Eq b0) k0 41 c l∧c.get 0 = .pointer (some ⟨b0,0,none⟩)∧Wr (Eq b0) k0 (Eq b0)∧Gb.Box b0 i_ l∧IsRef b_ (c.get 3) l∧IsI (-1) (c.get 4) l∧IsV i_.top (c.get 8) l∧True) ?_ ?_
 ·intro Q3 W3 w3
  refine gS 4 (⟨some (IsAdr b0 (0)),[(0,none)]⟩::⟨some (IsAdr b0 (0)),[(5,some 0)]⟩::_::_::[]) hs (by kernel_rfl) ⟨ob1 rfl fun _ _ h n=>ok_moveB rfl (upE i0 n.1),ob1 rfl fun _ _ h n=>ok_nilCheckA rfl n.1,o1 [(6,some 1)] rfl fun _ _ h n=>ok_fieldAddr rfl fo147_2 (at_SightInterval_2 _) (IsAdr.ptrB n.1 (c0.grow h)),o1 [(7,some 2)] rfl fun _ _ h n=>ok_load rfl ty4 n.1,trivial⟩ W3 fun b q p=>?_
  exact tail_done (k:=q) (w3 _ _ ⟨Bs.post ⟨hg,hs,hd⟩ p,upE i0 (p.old 0 rfl),n0,Gb.Box.grow c0 p.grow,p.ke 3 rfl i3,p.ke 4 rfl i4,p.ou 3 8 rfl,trivial⟩)
 rintro a k ⟨⟨hg,hs,hd⟩,i0,n0,c0,i3,i4,i8,_⟩
 obtain ⟨s1,hs1,hr⟩:=bind_some hr
 refine cut (fun a' k'=>Bs (Eq b0) k0 41 a' k'∧a'.get 0 = .pointer (some ⟨b0,0,none⟩)∧Wr (Eq b0) k0 (Eq b0)∧Gb.Box b0 i_ k'∧(IsRef b_) (a'.get 3) k'∧(IsV s1) (a'.get 4) k'∧True) ?_ hQ ?_
 ·intro Q4 W4 w4
  replace hr:=hs1
  clear hQ
  have hQ:=W4
  refine wp_cond_split (isBool i8) (fun hc1838=>?_) (fun hc1838=>?_)
  ·rw [if_pos hc1838] at hr
   obtain ⟨x1,hx1,hr⟩:=bind_some hr
   refine cut (fun a' k'=>Bs (Eq b0) k0 41 a' k'∧a'.get 0 = .pointer (some ⟨b0,0,none⟩)∧Wr (Eq b0) k0 (Eq b0)∧Gb.Box b0 i_ k'∧(IsRef b_) (a'.get 3) k'∧(IsV x1) (a'.get 4) k'∧True) ?_ hQ ?_
   ·intro Q5 W5 w5
    refine region (m:=7) (_::⟨some (IsAdr b0 (0)),[(0,none)]⟩::⟨some (IsAdr b0 (0)),[(10,some 1)]⟩::_::_::_::_::[]) hmix hs (by kernel_rfl) ⟨o1 [(3,none)] rfl fun _ _ h n=>ok_load rfl ty145 ((up i3 h n.1)).ptr,ob1 rfl fun _ _ h n=>ok_moveB rfl (upE i0 n.1),ob1 rfl fun _ _ h n=>ok_nilCheckA rfl n.1,o1 [(11,some 2)] rfl fun _ _ h n=>ok_fieldAddr rfl fo147_1 (at_SightInterval_1 _) (IsAdr.ptrB n.1 (c0.grow h)),o1 [(12,some 3)] rfl fun _ _ h n=>ok_load rfl ty145 n.1,o1 [(9,some 0),(13,some 4)] rfl fun _ _ h n=>ok_call rfl Tryz.call139 (sight_bound_compare_ok n.1 n.2.1 hx1),cp 5 rfl rfl,trivial⟩ W5 fun b q p=>?_
    exact tail_done (k:=q) (w5 _ _ ⟨Bs.post ⟨hg,hs,hd⟩ p,upE i0 (p.old 0 rfl),n0,Gb.Box.grow c0 p.grow,p.ke 3 rfl i3,p.ou 6 4 rfl,trivial⟩)
   rintro a k ⟨⟨hg,hs,hd⟩,i0,n0,c0,i3,i4,_⟩
   obtain rfl:=Option.some.inj hr
   exact w4 _ _ ⟨⟨hg,hs,hd⟩,i0,n0,c0,i3,i4,trivial⟩
  rw [if_neg (by rw [hc1838]; decide)] at hr
  refine wp_skip ?_
  obtain rfl:=Option.some.inj hr
  exact w4 _ _ ⟨⟨hg,hs,hd⟩,i0,n0,c0,i3,i4,trivial⟩
 clear hs1
 rintro a k ⟨⟨hg,hs,hd⟩,i0,n0,c0,i3,i4,_⟩
 refine wp_block ?_
 refine cutS (fun c l=>Bs (Eq b0) k0 41 c l∧c.get 0 = .pointer (some ⟨b0,0,none⟩)∧Wr (Eq b0) k0 (Eq b0)∧Gb.Box b0 i_ l∧IsRef b_ (c.get 3) l∧IsV s1 (c.get 4) l∧IsV (decide (s1 < 0)) (c.get 15) l∧True) ?_ ?_
 ·intro Q6 W6 w6
  refine gS 3 (_::_::_::[]) hs (by kernel_rfl) ⟨mu rfl i4,o1 [(16,some 0)] rfl fun _ _ h n=>ok_lss rfl n.1 (cI rfl),cp 1 rfl rfl,trivial⟩ W6 fun b q p=>?_
  exact tail_done (k:=q) (w6 _ _ ⟨Bs.post ⟨hg,hs,hd⟩ p,upE i0 (p.old 0 rfl),n0,Gb.Box.grow c0 p.grow,p.ke 3 rfl i3,p.ke 4 rfl i4,p.ou 2 15 rfl,trivial⟩)
 rintro a k ⟨⟨hg,hs,hd⟩,i0,n0,c0,i3,i4,i15,_⟩
 obtain ⟨s2,hs2,hr⟩:=bind_some hr
 refine cut (fun a' k'=>Bs (Eq b0) k0 41 a' k'∧a'.get 0 = .pointer (some ⟨b0,0,none⟩)∧Wr (Eq b0) k0 (Eq b0)∧Gb.Box b0 s2 k'∧True) ?_ hQ ?_
 ·intro Q7 W7 w7
  replace hr:=hs2
  clear hQ
  have hQ:=W7
  refine wp_cond_split (isBool i15) (fun hc1855=>?_) (fun hc1855=>?_)
  ·rw [if_pos hc1855] at hr
   refine cut (fun a' k'=>Bs (Eq b0) k0 41 a' k'∧a'.get 0 = .pointer (some ⟨b0,0,none⟩)∧Wr (Eq b0) k0 (Eq b0)∧Gb.Box b0 ({ { i_ with hi:=b_ } with top:=true }) k'∧True) ?_ hQ ?_
   ·intro Q8 W8 w8
    refine gS 5 (⟨some (IsAdr b0 (0)),[(0,none)]⟩::⟨some (IsAdr b0 (0)),[(0,none)]⟩::_::⟨some (IsAdr b0 (0)),[(18,some 0)]⟩::_::[]) hs (by kernel_rfl) ⟨ob1 rfl fun _ _ h n=>ok_moveB rfl (upE i0 n.1),ob1 rfl fun _ _ h n=>ok_moveB rfl (upE i0 n.1),o1 [(3,none)] rfl fun _ _ h n=>ok_load rfl ty145 ((up i3 h n.1)).ptr,ob1 rfl fun _ _ h n=>ok_nilCheckA rfl n.1,o1 [(21,some 3)] rfl fun _ _ h n=>ok_fieldAdr2 rfl fo147_1 n.1,trivial⟩ W8 fun b q p=>?_
    have hgq:=hg.then p.grow
    have hsb:=p.size.trans hs
    have hdb:=p.defers.trans hd
    have j0:=upE i0 (p.old 0 rfl)
    have z0:=Gb.Box.grow c0 p.grow
    have y0:=n0
    have j19:IsAdr b0 (0) (b.get 19) q:=p.ou 1 19 rfl
    have j20:(IsV b_) (b.get 20) q:=p.ou 2 20 rfl
    have j22:IsAdr b0 (0 + 3) (b.get 22) q:=p.ou 4 22 rfl
    have hns:=z0.nshF
    refine tail_storeB (i:=5) rfl rfl rfl rfl szf145 upd_F147_1 j22 z0 j20 fun q2 hch hz=>?_
    replace hgq:=hgq.step hch y0
    have hle:=hch.le hns
    replace j19:=Pers.pers hle j19
    replace j20:=Pers.pers hle j20
    replace j22:=Pers.pers hle j22
    replace z0:=hz
    clear hns hle hch
    obtain ⟨q,hqq⟩ : ∃ q,q = q2:=⟨q2,rfl⟩
    subst hqq
    refine tail_does (R:=IsAdr b0 (0)) (i:=6) (d:=23) rfl rfl rfl (by rw [hsb]; decide) W8 (ok_nilCheckA rfl j19) fun b2 q2 hsz hdf hoth hgr hnew=>?_
    replace z0:=z0.grow hgr
    replace j19:=Pers.pers hgr.le j19
    replace j20:=Pers.pers hgr.le j20
    replace j22:=Pers.pers hgr.le j22
    replace hgq:=hgq.then hgr
    rw [← hoth 0 (by decide)] at j0
    rw [← hoth 19 (by decide)] at j19
    rw [← hoth 20 (by decide)] at j20
    rw [← hoth 22 (by decide)] at j22
    have j23:=hnew
    replace hsb:=hsz.trans hsb
    replace hdb:=hdf.trans hdb
    clear hgr hsz hdf hoth hnew
    obtain ⟨b,hbb⟩ : ∃ b,b = b2:=⟨b2,rfl⟩
    subst hbb
    obtain ⟨q,hqq⟩ : ∃ q,q = q2:=⟨q2,rfl⟩
    subst hqq
    refine tail_does (R:=IsAdr b0 (0 + 6)) (i:=7) (d:=24) rfl rfl rfl (by rw [hsb]; decide) W8 (ok_fieldAdr2 rfl fo147_2 j23) fun b2 q2 hsz hdf hoth hgr hnew=>?_
    replace z0:=z0.grow hgr
    replace j19:=Pers.pers hgr.le j19
    replace j20:=Pers.pers hgr.le j20
    replace j22:=Pers.pers hgr.le j22
    replace j23:=Pers.pers hgr.le j23
    replace hgq:=hgq.then hgr
    rw [← hoth 0 (by decide)] at j0
    rw [← hoth 19 (by decide)] at j19
    rw [← hoth 20 (by decide)] at j20
    rw [← hoth 22 (by decide)] at j22
    rw [← hoth 23 (by decide)] at j23
    have j24:=hnew
    replace hsb:=hsz.trans hsb
    replace hdb:=hdf.trans hdb
    clear hgr hsz hdf hoth hnew
    obtain ⟨b,hbb⟩ : ∃ b,b = b2:=⟨b2,rfl⟩
    subst hbb
    obtain ⟨q,hqq⟩ : ∃ q,q = q2:=⟨q2,rfl⟩
    subst hqq
    have hns:=z0.nshF
    refine tail_storeB (i:=8) rfl rfl rfl rfl szf4 upd_F147_2 j24 z0 (isV_bool.2 rfl) fun q2 hch hz=>?_
    replace hgq:=hgq.step hch y0
    have hle:=hch.le hns
    replace j19:=Pers.pers hle j19
    replace j20:=Pers.pers hle j20
    replace j22:=Pers.pers hle j22
    replace j23:=Pers.pers hle j23
    replace j24:=Pers.pers hle j24
    replace z0:=hz
    clear hns hle hch
    obtain ⟨q,hqq⟩ : ∃ q,q = q2:=⟨q2,rfl⟩
    subst hqq
    exact tail_done (k:=q) (w8 _ _ ⟨⟨hgq,hsb,hdb⟩,j0,y0,z0,trivial⟩)
   rintro a k ⟨⟨hg,hs,hd⟩,i0,n0,c0,_⟩
   obtain rfl:=Option.some.inj hr
   exact w7 _ _ ⟨⟨hg,hs,hd⟩,i0,n0,c0,trivial⟩
  rw [if_neg (by rw [hc1855]; decide)] at hr
  refine cutS (fun c l=>Bs (Eq b0) k0 41 c l∧c.get 0 = .pointer (some ⟨b0,0,none⟩)∧Wr (Eq b0) k0 (Eq b0)∧Gb.Box b0 i_ l∧IsRef b_ (c.get 3) l∧IsV (s1 == 0) (c.get 25) l∧True) ?_ ?_
  ·intro Q9 W9 w9
   refine gS 3 (_::_::_::[]) hs (by kernel_rfl) ⟨mu rfl i4,o1 [(26,some 0)] rfl fun _ _ h n=>ok_eqI rfl n.1 (cI rfl),cp 1 rfl rfl,trivial⟩ W9 fun b q p=>?_
   exact tail_done (k:=q) (w9 _ _ ⟨Bs.post ⟨hg,hs,hd⟩ p,upE i0 (p.old 0 rfl),n0,Gb.Box.grow c0 p.grow,p.ke 3 rfl i3,p.ou 2 25 rfl,trivial⟩)
  rintro a k ⟨⟨hg,hs,hd⟩,i0,n0,c0,i3,i25,_⟩
  obtain ⟨s3,hs3,hr⟩:=bind_some hr
  refine cut (fun a' k'=>Bs (Eq b0) k0 41 a' k'∧a'.get 0 = .pointer (some ⟨b0,0,none⟩)∧Wr (Eq b0) k0 (Eq b0)∧Gb.Box b0 s3 k'∧True) ?_ hQ ?_
  ·intro Q10 W10 w10
   replace hr:=hs3
   clear hQ
   have hQ:=W10
   refine wp_cond_split (isBool i25) (fun hc1851=>?_) (fun hc1851=>?_)
   ·rw [if_pos hc1851] at hr
    refine cut (fun a' k'=>Bs (Eq b0) k0 41 a' k'∧a'.get 0 = .pointer (some ⟨b0,0,none⟩)∧Wr (Eq b0) k0 (Eq b0)∧Gb.Box b0 ({ i_ with hi:={ i_.hi with open_:=(i_.hi.open_ || b_.open_) } }) k'∧True) ?_ hQ ?_
    ·intro Q11 W11 w11
     refine gS 13 (⟨some (IsAdr b0 (0)),[(0,none)]⟩::⟨some (IsAdr b0 (0)),[(0,none)]⟩::⟨some (IsAdr b0 (0)),[(29,some 1)]⟩::_::_::_::_::_::_::_::⟨some (IsAdr b0 (0)),[(28,some 0)]⟩::_::_::[]) hs (by kernel_rfl) ⟨ob1 rfl fun _ _ h n=>ok_moveB rfl (upE i0 n.1),ob1 rfl fun _ _ h n=>ok_moveB rfl (upE i0 n.1),ob1 rfl fun _ _ h n=>ok_nilCheckA rfl n.1,o1 [(30,some 2)] rfl fun _ _ h n=>ok_fieldAddr rfl fo147_1 (at_SightInterval_1 _) (IsAdr.ptrB n.1 (c0.grow h)),o1 [(31,some 3)] rfl fun _ _ h n=>ok_fieldAddr rfl fo145_2 (at_SightBound_2 _) n.1,o1 [(32,some 4)] rfl fun _ _ h n=>ok_load rfl ty4 n.1,cm 5 rfl rfl,gF [(3,none)] rfl rfl fun hp _ _ h n=>ok_fieldAddr rfl fo145_2 (at_SightBound_2 _) ((up i3 h n.1)).ptr,gF [(35,some 7)] rfl rfl fun hp _ _ h n=>ok_load rfl ty4 (Gd.get n.1 hp),o1 [(34,some 6),(36,some 8)] rfl fun _ _ h n=>ok_pickOr rfl n.1 (cB rfl) (Gd.get n.2.1),ob1 rfl fun _ _ h n=>ok_nilCheckA rfl n.1,o1 [(38,some 10)] rfl fun _ _ h n=>ok_fieldAdr2 rfl fo147_1 n.1,o1 [(39,some 11)] rfl fun _ _ h n=>ok_fieldAdr2 rfl fo145_2 n.1,trivial⟩ W11 fun b q p=>?_
     have hgq:=hg.then p.grow
     have hsb:=p.size.trans hs
     have hdb:=p.defers.trans hd
     have j0:=upE i0 (p.old 0 rfl)
     have z0:=Gb.Box.grow c0 p.grow
     have y0:=n0
     have j37:(IsV (i_.hi.open_ || b_.open_)) (b.get 37) q:=p.ou 9 37 rfl
     have j40:IsAdr b0 (0 + 3 + 2) (b.get 40) q:=p.ou 12 40 rfl
     have hns:=z0.nshF
     refine tail_storeB (i:=13) rfl rfl rfl rfl szf4 upd_F147_1_F145_2 j40 z0 j37 fun q2 hch hz=>?_
     replace hgq:=hgq.step hch y0
     have hle:=hch.le hns
     replace j37:=Pers.pers hle j37
     replace j40:=Pers.pers hle j40
     replace z0:=hz
     clear hns hle hch
     obtain ⟨q,hqq⟩ : ∃ q,q = q2:=⟨q2,rfl⟩
     subst hqq
     exact tail_done (k:=q) (w11 _ _ ⟨⟨hgq,hsb,hdb⟩,j0,y0,z0,trivial⟩)
    rintro a k ⟨⟨hg,hs,hd⟩,i0,n0,c0,_⟩
    obtain rfl:=Option.some.inj hr
    exact w10 _ _ ⟨⟨hg,hs,hd⟩,i0,n0,c0,trivial⟩
   rw [if_neg (by rw [hc1851]; decide)] at hr
   refine wp_skip ?_
   obtain rfl:=Option.some.inj hr
   exact w10 _ _ ⟨⟨hg,hs,hd⟩,i0,n0,c0,trivial⟩
  clear hs3
  rintro a k ⟨⟨hg,hs,hd⟩,i0,n0,c0,_⟩
  obtain rfl:=Option.some.inj hr
  exact w7 _ _ ⟨⟨hg,hs,hd⟩,i0,n0,c0,trivial⟩
 clear hs2
 rintro a k ⟨⟨hg,hs,hd⟩,i0,n0,c0,_⟩
 obtain rfl:=Option.some.inj hr
 exact retT rfl hd hg c0
def sight_interval_narrow (i_:SightInterval) (at_:Int) (by_:Int) (from_:Int) (to_:Int):Option (SightInterval):=
 (if (decide (0 < by_)) then
  (subI from_ at_).bind fun x1=>
  (sight_interval_above i_ (⟨x1,by_,false⟩:SightBound)).bind fun x2=>
  (subI to_ at_).bind fun x3=>
  (sight_interval_below x2 (⟨x3,by_,true⟩:SightBound)).bind fun x4=>
  some x4
 else
  (if (decide (by_ < 0)) then
   (subI at_ to_).bind fun x5=>
   (subI 0 by_).bind fun x6=>
   (sight_interval_above i_ (⟨x5,x6,true⟩:SightBound)).bind fun x7=>
   (subI at_ from_).bind fun x8=>
   (subI 0 by_).bind fun x9=>
   (sight_interval_below x7 (⟨x8,x9,false⟩:SightBound)).bind fun x10=>
   some x10
  else
   (if ((decide (at_ < from_)) || (decide (to_ ≤ at_))) then
    some { i_ with none_:=true }
   else
    some i_).bind fun s1=>
   some s1).bind fun s2=>
  some s2).bind fun s3=>
 some s3
theorem sight_interval_narrow_ok {k0:K} {v0 v1 v2 v3 v4:Value} {i_:SightInterval} {at_:Int} {by_:Int} {from_:Int} {to_:Int} {r:SightInterval} {b0:Nat} (i0:v0 = .pointer (some ⟨b0,0,none⟩)) (c0:Gb.Box b0 i_ k0) (i1:(IsV at_) v1 k0) (i2:(IsV by_) v2 k0) (i3:(IsV from_) v3 k0) (i4:(IsV to_) v4 k0) (hr:sight_interval_narrow i_ at_ by_ from_ to_ = some r) :
  Calls Tryz.prog 111 #[v0,v1,v2,v3,v4] k0.w (RetC (Eq b0) k0 (IsTurn b0 r)):=by
 unfold sight_interval_narrow at hr
 refine enterK Tryz.func111 rfl Tryz.ntmps111 (show 5 ≤ 58 by decide) fun a k hk0 hs hd ha=>?_
 obtain ⟨e0,e1,e2,e3,e4,_⟩:=ha
 replace i0:a.get 0 = .pointer (some ⟨b0,0,none⟩):=by rw [e0]; exact i0
 replace c0:Gb.Box b0 i_ k:=by rw [hk0]; exact c0
 have n0:Wr (Eq b0) k0 (Eq b0):=fun b h=>.inl h
 replace i1:(IsV at_) (a.get 1) k:=by rw [e1,hk0]; exact i1
 replace i2:(IsV by_) (a.get 2) k:=by rw [e2,hk0]; exact i2
 replace i3:(IsV from_) (a.get 3) k:=by rw [e3,hk0]; exact i3
 replace i4:(IsV to_) (a.get 4) k:=by rw [e4,hk0]; exact i4
 have hQ:Gb.LetsOut (bodyPost Tryz.prog Tryz.f111 (RetC (Eq b0) k0 (IsTurn b0 r))):=letsOutC
 have hg:Chg (Eq b0) k0 k:=by rw [hk0]; exact Chg.refl _ k0
 refine wp_block ?_
 refine cutS (fun c l=>Bs (Eq b0) k0 58 c l∧c.get 0 = .pointer (some ⟨b0,0,none⟩)∧Wr (Eq b0) k0 (Eq b0)∧Gb.Box b0 i_ l∧IsV at_ (c.get 1) l∧IsV by_ (c.get 2) l∧IsV from_ (c.get 3) l∧IsV to_ (c.get 4) l∧IsV (decide (0 < by_)) (c.get 10) l∧True) ?_ ?_
 ·intro Q1 W1 w1
  refine gS 3 (_::_::_::[]) hs (by kernel_rfl) ⟨mu rfl i2,o1 [(11,some 0)] rfl fun _ _ h n=>ok_gtr rfl n.1 (cI rfl),cp 1 rfl rfl,trivial⟩ W1 fun b q p=>?_
  exact tail_done (k:=q) (w1 _ _ ⟨Bs.post ⟨hg,hs,hd⟩ p,upE i0 (p.old 0 rfl),n0,Gb.Box.grow c0 p.grow,p.ke 1 rfl i1,p.ke 2 rfl i2,p.ke 3 rfl i3,p.ke 4 rfl i4,p.ou 2 10 rfl,trivial⟩)
 rintro a k ⟨⟨hg,hs,hd⟩,i0,n0,c0,i1,i2,i3,i4,i10,_⟩
 obtain ⟨s1,hs1,hr⟩:=bind_some hr
 refine cut (fun a' k'=>Bs (Eq b0) k0 58 a' k'∧a'.get 0 = .pointer (some ⟨b0,0,none⟩)∧Wr (Eq b0) k0 (Eq b0)∧Gb.Box b0 s1 k'∧True) ?_ hQ ?_
 ·intro Q2 W2 w2
  replace hr:=hs1
  clear hQ
  have hQ:=W2
  refine wp_cond_split (isBool i10) (fun hc1898=>?_) (fun hc1898=>?_)
  ·rw [if_pos hc1898] at hr
   refine wp_seq ?_
   obtain ⟨x1,hx1,hr⟩:=bind_some hr
   obtain ⟨x2,hx2,hr⟩:=bind_some hr
   refine cut (fun a' k'=>Bs (Eq b0) k0 58 a' k'∧a'.get 0 = .pointer (some ⟨b0,0,none⟩)∧Wr (Eq b0) k0 (Eq b0)∧Gb.Box b0 x2 k'∧(IsV at_) (a'.get 1) k'∧(IsV by_) (a'.get 2) k'∧(IsV to_) (a'.get 4) k'∧True) ?_ hQ ?_
   ·intro Q3 W3 w3
    refine gS 6 (⟨some (IsAdr b0 (0)),[(0,none)]⟩::_::_::_::_::⟨some (IsV (⟨x1,by_,false⟩:SightBound)),[(16,some 3),(17,some 4)]⟩::[]) hs (by kernel_rfl) ⟨ob1 rfl fun _ _ h n=>ok_moveB rfl (upE i0 n.1),mu rfl i3,mu rfl i1,o1 [(14,some 1),(15,some 2)] rfl fun _ _ h n=>ok_sub rfl n.1 n.2.1 hx1,mu rfl i2,ob1 rfl fun _ _ h n=>ok_build rfl (bld145_0_1_2 n.1 n.2.1 (isV_bool.2 rfl)),trivial⟩ W3 fun b q p=>?_
    have hgq:=hg.then p.grow
    have hsb:=p.size.trans hs
    have hdb:=p.defers.trans hd
    have j0:=upE i0 (p.old 0 rfl)
    have z0:=Gb.Box.grow c0 p.grow
    have y0:=n0
    have j1:=p.ke 1 rfl i1
    have j2:=p.ke 2 rfl i2
    have j4:=p.ke 4 rfl i4
    have j13:IsAdr b0 (0) (b.get 13) q:=p.ou 0 13 rfl
    have j18:(IsV (⟨x1,by_,false⟩:SightBound)) (b.get 18) q:=p.ou 5 18 rfl
    have hns:=z0.nshF
    refine tail_call (F:=Eq b0) (i:=6) (d:=19) rfl rfl rfl rfl (by rw [hsb]; decide) Tryz.call137 W3 (sight_interval_above_ok j13 z0 j18 hx2) fun b2 q2 hsz hdf hoth hch hres=>?_
    have hle:=hch.le hns
    replace j1:=Pers.pers hle j1
    replace j2:=Pers.pers hle j2
    replace j4:=Pers.pers hle j4
    replace j13:=Pers.pers hle j13
    replace j18:=Pers.pers hle j18
    replace hgq:=hgq.step hch y0
    replace z0:=hres
    rw [← hoth 0 (by decide)] at j0
    rw [← hoth 1 (by decide)] at j1
    rw [← hoth 2 (by decide)] at j2
    rw [← hoth 4 (by decide)] at j4
    rw [← hoth 13 (by decide)] at j13
    rw [← hoth 18 (by decide)] at j18
    replace hsb:=hsz.trans hsb
    replace hdb:=hdf.trans hdb
    clear hle hch hns hsz hdf hoth hres
    obtain ⟨b,hbb⟩ : ∃ b,b = b2:=⟨b2,rfl⟩
    subst hbb
    obtain ⟨q,hqq⟩ : ∃ q,q = q2:=⟨q2,rfl⟩
    subst hqq
    exact tail_done (k:=q) (w3 _ _ ⟨⟨hgq,hsb,hdb⟩,j0,y0,z0,j1,j2,j4,trivial⟩)
   rintro a k ⟨⟨hg,hs,hd⟩,i0,n0,c0,i1,i2,i4,_⟩
   obtain ⟨x3,hx3,hr⟩:=bind_some hr
   obtain ⟨x4,hx4,hr⟩:=bind_some hr
   refine cut (fun a' k'=>Bs (Eq b0) k0 58 a' k'∧a'.get 0 = .pointer (some ⟨b0,0,none⟩)∧Wr (Eq b0) k0 (Eq b0)∧Gb.Box b0 x4 k'∧True) ?_ hQ ?_
   ·intro Q4 W4 w4
    refine gS 6 (⟨some (IsAdr b0 (0)),[(0,none)]⟩::_::_::_::_::⟨some (IsV (⟨x3,by_,true⟩:SightBound)),[(23,some 3),(24,some 4)]⟩::[]) hs (by kernel_rfl) ⟨ob1 rfl fun _ _ h n=>ok_moveB rfl (upE i0 n.1),mu rfl i4,mu rfl i1,o1 [(21,some 1),(22,some 2)] rfl fun _ _ h n=>ok_sub rfl n.1 n.2.1 hx3,mu rfl i2,ob1 rfl fun _ _ h n=>ok_build rfl (bld145_0_1_2 n.1 n.2.1 (isV_bool.2 rfl)),trivial⟩ W4 fun b q p=>?_
    have hgq:=hg.then p.grow
    have hsb:=p.size.trans hs
    have hdb:=p.defers.trans hd
    have j0:=upE i0 (p.old 0 rfl)
    have z0:=Gb.Box.grow c0 p.grow
    have y0:=n0
    have j20:IsAdr b0 (0) (b.get 20) q:=p.ou 0 20 rfl
    have j25:(IsV (⟨x3,by_,true⟩:SightBound)) (b.get 25) q:=p.ou 5 25 rfl
    have hns:=z0.nshF
    refine tail_call (F:=Eq b0) (i:=6) (d:=26) rfl rfl rfl rfl (by rw [hsb]; decide) Tryz.call138 W4 (sight_interval_below_ok j20 z0 j25 hx4) fun b2 q2 hsz hdf hoth hch hres=>?_
    have hle:=hch.le hns
    replace j20:=Pers.pers hle j20
    replace j25:=Pers.pers hle j25
    replace hgq:=hgq.step hch y0
    replace z0:=hres
    rw [← hoth 0 (by decide)] at j0
    rw [← hoth 20 (by decide)] at j20
    rw [← hoth 25 (by decide)] at j25
    replace hsb:=hsz.trans hsb
    replace hdb:=hdf.trans hdb
    clear hle hch hns hsz hdf hoth hres
    obtain ⟨b,hbb⟩ : ∃ b,b = b2:=⟨b2,rfl⟩
    subst hbb
    obtain ⟨q,hqq⟩ : ∃ q,q = q2:=⟨q2,rfl⟩
    subst hqq
    exact tail_done (k:=q) (w4 _ _ ⟨⟨hgq,hsb,hdb⟩,j0,y0,z0,trivial⟩)
   rintro a k ⟨⟨hg,hs,hd⟩,i0,n0,c0,_⟩
   obtain rfl:=Option.some.inj hr
   exact w2 _ _ ⟨⟨hg,hs,hd⟩,i0,n0,c0,trivial⟩
  rw [if_neg (by rw [hc1898]; decide)] at hr
  refine cutS (fun c l=>Bs (Eq b0) k0 58 c l∧c.get 0 = .pointer (some ⟨b0,0,none⟩)∧Wr (Eq b0) k0 (Eq b0)∧Gb.Box b0 i_ l∧IsV at_ (c.get 1) l∧IsV by_ (c.get 2) l∧IsV from_ (c.get 3) l∧IsV to_ (c.get 4) l∧IsV (decide (by_ < 0)) (c.get 27) l∧True) ?_ ?_
  ·intro Q5 W5 w5
   refine gS 3 (_::_::_::[]) hs (by kernel_rfl) ⟨mu rfl i2,o1 [(28,some 0)] rfl fun _ _ h n=>ok_lss rfl n.1 (cI rfl),cp 1 rfl rfl,trivial⟩ W5 fun b q p=>?_
   exact tail_done (k:=q) (w5 _ _ ⟨Bs.post ⟨hg,hs,hd⟩ p,upE i0 (p.old 0 rfl),n0,Gb.Box.grow c0 p.grow,p.ke 1 rfl i1,p.ke 2 rfl i2,p.ke 3 rfl i3,p.ke 4 rfl i4,p.ou 2 27 rfl,trivial⟩)
  rintro a k ⟨⟨hg,hs,hd⟩,i0,n0,c0,i1,i2,i3,i4,i27,_⟩
  obtain ⟨s2,hs2,hr⟩:=bind_some hr
  refine cut (fun a' k'=>Bs (Eq b0) k0 58 a' k'∧a'.get 0 = .pointer (some ⟨b0,0,none⟩)∧Wr (Eq b0) k0 (Eq b0)∧Gb.Box b0 s2 k'∧True) ?_ hQ ?_
  ·intro Q6 W6 w6
   replace hr:=hs2
   clear hQ
   have hQ:=W6
   refine wp_cond_split (isBool i27) (fun hc1894=>?_) (fun hc1894=>?_)
   ·rw [if_pos hc1894] at hr
    refine wp_seq ?_
    obtain ⟨x5,hx5,hr⟩:=bind_some hr
    obtain ⟨x6,hx6,hr⟩:=bind_some hr
    obtain ⟨x7,hx7,hr⟩:=bind_some hr
    refine cut (fun a' k'=>Bs (Eq b0) k0 58 a' k'∧a'.get 0 = .pointer (some ⟨b0,0,none⟩)∧Wr (Eq b0) k0 (Eq b0)∧Gb.Box b0 x7 k'∧(IsV at_) (a'.get 1) k'∧(IsV by_) (a'.get 2) k'∧(IsV from_) (a'.get 3) k'∧True) ?_ hQ ?_
    ·intro Q7 W7 w7
     refine gS 7 (⟨some (IsAdr b0 (0)),[(0,none)]⟩::_::_::_::_::⟨some (IsV x6),[(34,some 4)]⟩::⟨some (IsV (⟨x5,x6,true⟩:SightBound)),[(33,some 3),(35,some 5)]⟩::[]) hs (by kernel_rfl) ⟨ob1 rfl fun _ _ h n=>ok_moveB rfl (upE i0 n.1),mu rfl i1,mu rfl i4,o1 [(31,some 1),(32,some 2)] rfl fun _ _ h n=>ok_sub rfl n.1 n.2.1 hx5,mu rfl i2,ob1 rfl fun _ _ h n=>ok_neg rfl n.1 hx6,ob1 rfl fun _ _ h n=>ok_build rfl (bld145_0_1_2 n.1 n.2.1 (isV_bool.2 rfl)),trivial⟩ W7 fun b q p=>?_
     have hgq:=hg.then p.grow
     have hsb:=p.size.trans hs
     have hdb:=p.defers.trans hd
     have j0:=upE i0 (p.old 0 rfl)
     have z0:=Gb.Box.grow c0 p.grow
     have y0:=n0
     have j1:=p.ke 1 rfl i1
     have j2:=p.ke 2 rfl i2
     have j3:=p.ke 3 rfl i3
     have j30:IsAdr b0 (0) (b.get 30) q:=p.ou 0 30 rfl
     have j36:(IsV (⟨x5,x6,true⟩:SightBound)) (b.get 36) q:=p.ou 6 36 rfl
     have hns:=z0.nshF
     refine tail_call (F:=Eq b0) (i:=7) (d:=37) rfl rfl rfl rfl (by rw [hsb]; decide) Tryz.call137 W7 (sight_interval_above_ok j30 z0 j36 hx7) fun b2 q2 hsz hdf hoth hch hres=>?_
     have hle:=hch.le hns
     replace j1:=Pers.pers hle j1
     replace j2:=Pers.pers hle j2
     replace j3:=Pers.pers hle j3
     replace j30:=Pers.pers hle j30
     replace j36:=Pers.pers hle j36
     replace hgq:=hgq.step hch y0
     replace z0:=hres
     rw [← hoth 0 (by decide)] at j0
     rw [← hoth 1 (by decide)] at j1
     rw [← hoth 2 (by decide)] at j2
     rw [← hoth 3 (by decide)] at j3
     rw [← hoth 30 (by decide)] at j30
     rw [← hoth 36 (by decide)] at j36
     replace hsb:=hsz.trans hsb
     replace hdb:=hdf.trans hdb
     clear hle hch hns hsz hdf hoth hres
     obtain ⟨b,hbb⟩ : ∃ b,b = b2:=⟨b2,rfl⟩
     subst hbb
     obtain ⟨q,hqq⟩ : ∃ q,q = q2:=⟨q2,rfl⟩
     subst hqq
     exact tail_done (k:=q) (w7 _ _ ⟨⟨hgq,hsb,hdb⟩,j0,y0,z0,j1,j2,j3,trivial⟩)
    rintro a k ⟨⟨hg,hs,hd⟩,i0,n0,c0,i1,i2,i3,_⟩
    obtain ⟨x8,hx8,hr⟩:=bind_some hr
    obtain ⟨x9,hx9,hr⟩:=bind_some hr
    obtain ⟨x10,hx10,hr⟩:=bind_some hr
    refine cut (fun a' k'=>Bs (Eq b0) k0 58 a' k'∧a'.get 0 = .pointer (some ⟨b0,0,none⟩)∧Wr (Eq b0) k0 (Eq b0)∧Gb.Box b0 x10 k'∧True) ?_ hQ ?_
    ·intro Q8 W8 w8
     refine gS 7 (⟨some (IsAdr b0 (0)),[(0,none)]⟩::_::_::_::_::⟨some (IsV x9),[(42,some 4)]⟩::⟨some (IsV (⟨x8,x9,false⟩:SightBound)),[(41,some 3),(43,some 5)]⟩::[]) hs (by kernel_rfl) ⟨ob1 rfl fun _ _ h n=>ok_moveB rfl (upE i0 n.1),mu rfl i1,mu rfl i3,o1 [(39,some 1),(40,some 2)] rfl fun _ _ h n=>ok_sub rfl n.1 n.2.1 hx8,mu rfl i2,ob1 rfl fun _ _ h n=>ok_neg rfl n.1 hx9,ob1 rfl fun _ _ h n=>ok_build rfl (bld145_0_1_2 n.1 n.2.1 (isV_bool.2 rfl)),trivial⟩ W8 fun b q p=>?_
     have hgq:=hg.then p.grow
     have hsb:=p.size.trans hs
     have hdb:=p.defers.trans hd
     have j0:=upE i0 (p.old 0 rfl)
     have z0:=Gb.Box.grow c0 p.grow
     have y0:=n0
     have j38:IsAdr b0 (0) (b.get 38) q:=p.ou 0 38 rfl
     have j44:(IsV (⟨x8,x9,false⟩:SightBound)) (b.get 44) q:=p.ou 6 44 rfl
     have hns:=z0.nshF
     refine tail_call (F:=Eq b0) (i:=7) (d:=45) rfl rfl rfl rfl (by rw [hsb]; decide) Tryz.call138 W8 (sight_interval_below_ok j38 z0 j44 hx10) fun b2 q2 hsz hdf hoth hch hres=>?_
     have hle:=hch.le hns
     replace j38:=Pers.pers hle j38
     replace j44:=Pers.pers hle j44
     replace hgq:=hgq.step hch y0
     replace z0:=hres
     rw [← hoth 0 (by decide)] at j0
     rw [← hoth 38 (by decide)] at j38
     rw [← hoth 44 (by decide)] at j44
     replace hsb:=hsz.trans hsb
     replace hdb:=hdf.trans hdb
     clear hle hch hns hsz hdf hoth hres
     obtain ⟨b,hbb⟩ : ∃ b,b = b2:=⟨b2,rfl⟩
     subst hbb
     obtain ⟨q,hqq⟩ : ∃ q,q = q2:=⟨q2,rfl⟩
     subst hqq
     exact tail_done (k:=q) (w8 _ _ ⟨⟨hgq,hsb,hdb⟩,j0,y0,z0,trivial⟩)
    rintro a k ⟨⟨hg,hs,hd⟩,i0,n0,c0,_⟩
    obtain rfl:=Option.some.inj hr
    exact w6 _ _ ⟨⟨hg,hs,hd⟩,i0,n0,c0,trivial⟩
   rw [if_neg (by rw [hc1894]; decide)] at hr
   refine cutS (fun c l=>Bs (Eq b0) k0 58 c l∧c.get 0 = .pointer (some ⟨b0,0,none⟩)∧Wr (Eq b0) k0 (Eq b0)∧Gb.Box b0 i_ l∧(IsV ((decide (at_ < from_)) || (decide (to_ ≤ at_)))) (c.get 46) l∧True) ?_ ?_
   ·intro Q9 W9 w9
    refine gS 9 (_::_::_::_::_::_::_::_::_::[]) hs (by kernel_rfl) ⟨mu rfl i1,mu rfl i3,o1 [(47,some 0),(48,some 1)] rfl fun _ _ h n=>ok_lss rfl n.1 n.2.1,cm 2 rfl rfl,mF rfl rfl i1,mF rfl rfl i4,gF [(51,some 4),(52,some 5)] rfl rfl fun hp _ _ h n=>ok_geq rfl (Gd.get n.1 hp) (Gd.get n.2.1 hp),o1 [(50,some 3),(53,some 6)] rfl fun _ _ h n=>ok_pickOr rfl n.1 (cB rfl) (Gd.get n.2.1),cp 7 rfl rfl,trivial⟩ W9 fun b q p=>?_
    exact tail_done (k:=q) (w9 _ _ ⟨Bs.post ⟨hg,hs,hd⟩ p,upE i0 (p.old 0 rfl),n0,Gb.Box.grow c0 p.grow,p.ou 8 46 rfl,trivial⟩)
   rintro a k ⟨⟨hg,hs,hd⟩,i0,n0,c0,i46,_⟩
   obtain ⟨s3,hs3,hr⟩:=bind_some hr
   refine cut (fun a' k'=>Bs (Eq b0) k0 58 a' k'∧a'.get 0 = .pointer (some ⟨b0,0,none⟩)∧Wr (Eq b0) k0 (Eq b0)∧Gb.Box b0 s3 k'∧True) ?_ hQ ?_
   ·intro Q10 W10 w10
    replace hr:=hs3
    clear hQ
    have hQ:=W10
    refine wp_cond_split (isBool i46) (fun hc1890=>?_) (fun hc1890=>?_)
    ·rw [if_pos hc1890] at hr
     refine cut (fun a' k'=>Bs (Eq b0) k0 58 a' k'∧a'.get 0 = .pointer (some ⟨b0,0,none⟩)∧Wr (Eq b0) k0 (Eq b0)∧Gb.Box b0 ({ i_ with none_:=true }) k'∧True) ?_ hQ ?_
     ·intro Q11 W11 w11
      refine gS 3 (⟨some (IsAdr b0 (0)),[(0,none)]⟩::⟨some (IsAdr b0 (0)),[(55,some 0)]⟩::_::[]) hs (by kernel_rfl) ⟨ob1 rfl fun _ _ h n=>ok_moveB rfl (upE i0 n.1),ob1 rfl fun _ _ h n=>ok_nilCheckA rfl n.1,o1 [(56,some 1)] rfl fun _ _ h n=>ok_fieldAdr2 rfl fo147_3 n.1,trivial⟩ W11 fun b q p=>?_
      have hgq:=hg.then p.grow
      have hsb:=p.size.trans hs
      have hdb:=p.defers.trans hd
      have j0:=upE i0 (p.old 0 rfl)
      have z0:=Gb.Box.grow c0 p.grow
      have y0:=n0
      have j57:IsAdr b0 (0 + 7) (b.get 57) q:=p.ou 2 57 rfl
      have hns:=z0.nshF
      refine tail_storeB (i:=3) rfl rfl rfl rfl szf4 upd_F147_3 j57 z0 (isV_bool.2 rfl) fun q2 hch hz=>?_
      replace hgq:=hgq.step hch y0
      have hle:=hch.le hns
      replace j57:=Pers.pers hle j57
      replace z0:=hz
      clear hns hle hch
      obtain ⟨q,hqq⟩ : ∃ q,q = q2:=⟨q2,rfl⟩
      subst hqq
      exact tail_done (k:=q) (w11 _ _ ⟨⟨hgq,hsb,hdb⟩,j0,y0,z0,trivial⟩)
     rintro a k ⟨⟨hg,hs,hd⟩,i0,n0,c0,_⟩
     obtain rfl:=Option.some.inj hr
     exact w10 _ _ ⟨⟨hg,hs,hd⟩,i0,n0,c0,trivial⟩
    rw [if_neg (by rw [hc1890]; decide)] at hr
    refine wp_skip ?_
    obtain rfl:=Option.some.inj hr
    exact w10 _ _ ⟨⟨hg,hs,hd⟩,i0,n0,c0,trivial⟩
   clear hs3
   rintro a k ⟨⟨hg,hs,hd⟩,i0,n0,c0,_⟩
   obtain rfl:=Option.some.inj hr
   exact w6 _ _ ⟨⟨hg,hs,hd⟩,i0,n0,c0,trivial⟩
  clear hs2
  rintro a k ⟨⟨hg,hs,hd⟩,i0,n0,c0,_⟩
  obtain rfl:=Option.some.inj hr
  exact w2 _ _ ⟨⟨hg,hs,hd⟩,i0,n0,c0,trivial⟩
 clear hs1
 rintro a k ⟨⟨hg,hs,hd⟩,i0,n0,c0,_⟩
 obtain rfl:=Option.some.inj hr
 exact retT rfl hd hg c0
def sight_interval_empty (i_:SightInterval):Option (Bool):=
 if (i_.none_ || (!i_.top)) then
  some i_.none_
 else
  (sight_bound_compare i_.lo i_.hi).bind fun x1=>
  some ((decide (0 < x1)) || ((x1 == 0) && (i_.lo.open_ || i_.hi.open_)))
noncomputable def k112:=mk 112 [.rf (.st 25)] [.bool] (fun x=>sight_interval_empty x) [k139] [] Tryz.f112 (.n) Tryz.func112 Tryz.call112 rfl rfl fun x=>by kernel_rfl
theorem sight_interval_empty_ok {k0:K} {v0:Value} {x0:SightInterval} {r:Bool} (i0:(IsRef x0) v0 k0) (hr:sight_interval_empty x0 = some r):Calls Tryz.prog 112 #[v0] k0.w (Ret k0 (IsV r)):=(k112.ok.ok k0 [v0] x0 r (GOk.none (fun _=>rfl) fun _ e=>by cases e) (isV_rfT.2 i0) hr)
def sight_meets_L0 (p_:Point3) (v_:Point3) (t_:SightInterval) (x1:(List Box)) (s1:Int):Option (Flow (Int) (Bool)):=
 if (decide (s1 < (x1.length:Int))) then
  (getI x1 s1).bind fun x2=>
  (sight_interval_narrow t_ p_.X v_.X x2.Base.X0 x2.Base.X1).bind fun x3=>
  (sight_interval_narrow x3 p_.Y v_.Y x2.Base.Y0 x2.Base.Y1).bind fun x4=>
  (sight_interval_narrow x4 p_.Z v_.Z x2.Z0 x2.Z1).bind fun x5=>
  (sight_interval_empty x5).bind fun x6=>
  if (!x6) then
   some (.ret true)
  else
   (addI s1 1).bind fun x7=>
   some (.go x7)
 else
  some (.ex 0 s1)
def sight_meets (s_:(List Slab)) (p_:Point3) (v_:Point3) (t_:SightInterval):Option (Bool):=
 (solid_Boxes s_).bind fun x1=>
 (iterL (sight_meets_L0 p_ v_ t_ x1) (x1.length + 1) 0).bind fun f1=>match f1 with
  | .go _=>none
  | .ex _ _=>
   some false
  | .ret r1=>some r1
theorem sight_meets_ok {k0:K} {v0 v1 v2 v3:Value} {s_:(List Slab)} {p_:Point3} {v_:Point3} {t_:SightInterval} {r:Bool} (i0:(IsV s_) v0 k0) (i1:(IsV p_) v1 k0) (i2:(IsV v_) v2 k0) (i3:(IsV t_) v3 k0) (hr:sight_meets s_ p_ v_ t_ = some r) :
  Calls Tryz.prog 87 #[v0,v1,v2,v3] k0.w (Ret k0 (IsV r)):=by
 unfold sight_meets at hr
 refine Ret.ofC ?_
 refine enterK Tryz.func87 rfl Tryz.ntmps87 (show 4 ≤ 59 by decide) fun a k hk0 hs hd ha=>?_
 obtain ⟨e0,e1,e2,e3,_⟩:=ha
 replace i0:(IsV s_) (a.get 0) k:=by rw [e0,hk0]; exact i0
 replace i1:(IsV p_) (a.get 1) k:=by rw [e1,hk0]; exact i1
 replace i2:(IsV v_) (a.get 2) k:=by rw [e2,hk0]; exact i2
 replace i3:(IsV t_) (a.get 3) k:=by rw [e3,hk0]; exact i3
 have hQ:Gb.LetsOut (bodyPost Tryz.prog Tryz.f87 (RetC noF k0 (IsV r))):=letsOutC
 have hg:Chg noF k0 k:=by rw [hk0]; exact Chg.refl _ k0
 refine stepL 4 (⟨some (IsRef p_),[(1,none)]⟩::⟨some (IsRef v_),[(2,none)]⟩::⟨some (IsRef t_),[(3,none)]⟩::⟨some (IsV false),[]⟩::[]) rfl ⟨hg,hs,hd⟩ (by kernel_rfl) ⟨ob1 rfl fun _ _ h n=>ok_boxR rfl (up i1 h n.1),ob1 rfl fun _ _ h n=>ok_boxR rfl (up i2 h n.1),ob1 rfl fun _ _ h n=>ok_boxR rfl (up i3 h n.1),ob1 rfl fun _ _ h n=>ok_assign rfl (isV_bool.2 rfl),trivial⟩ [⟨_,_⟩,⟨_,_⟩,⟨_,_⟩,⟨_,_⟩] (fun b q p=>⟨p.ke 0 rfl i0,p.ou 0 5 rfl,p.ou 1 6 rfl,p.ou 2 7 rfl,trivial⟩) ?_
 rintro a k ⟨⟨hg,hs,hd⟩,i0,i5,i6,i7,_⟩
 refine wp_seq ?_
 refine wp_seq ?_
 obtain ⟨x1,hx1,hr⟩:=bind_some hr
 refine cut (fun a' k'=>Bs noF k0 59 a' k'∧(IsRef p_) (a'.get 5) k'∧(IsRef v_) (a'.get 6) k'∧(IsRef t_) (a'.get 7) k'∧(IsV x1) (a'.get 14) k'∧(IsL x1) (a'.get 15) k'∧(IsI 0) (a'.get 16) k'∧True) ?_ hQ ?_
 ·intro Q1 W1 w1
  refine gS 4 (_::_::_::⟨some (IsI 0),[]⟩::[]) hs (by kernel_rfl) ⟨mu rfl i0,o1 [(13,some 0)] rfl fun _ _ h n=>ok_call rfl Tryz.call110 (solid_Boxes_ok n.1 hx1),o1 [(14,some 1)] rfl fun _ _ h n=>ok_len rfl rfl Tryz.underlying163 (IsV.rd n.1),ob1 rfl fun _ _ h n=>ok_move rfl (cI rfl),trivial⟩ W1 fun b q p=>?_
  exact tail_done (k:=q) (w1 _ _ ⟨Bs.post ⟨hg,hs,hd⟩ p,p.ke 5 rfl i5,p.ke 6 rfl i6,p.ke 7 rfl i7,p.ou 1 14 rfl,p.ou 2 15 rfl,p.ou 3 16 rfl,trivial⟩)
 rintro a k ⟨⟨hg,hs,hd⟩,i5,i6,i7,i14,i15,i16,_⟩
 refine wp_block ?_
 obtain ⟨f1,hf1,hr⟩:=bind_some hr
 refine cutFe f1 (fun s' c l=>Bs noF k0 59 c l∧IsRef p_ (c.get 5) l∧IsRef v_ (c.get 6) l∧IsRef t_ (c.get 7) l∧IsV x1 (c.get 14) l∧IsL x1 (c.get 15) l∧IsV s' (c.get 16) l∧True) (fun i' s' c l=>(i' = 0∧Bs noF k0 59 c l∧True)) (fun r' c l=>bodyPost Tryz.prog Tryz.f87 (RetC noF k0 (IsV r')) .ret c l.w) ?_ hQ ?_ ?_ ?_
 ·intro Q2 W2 hgo hex hret
  refine sim_loop ?_ _ _ _ _ _ hf1 ⟨⟨hg,hs,hd⟩,i5,i6,i7,i14,i15,i16,trivial⟩ Q2 W2 hgo hex hret
  clear hr hf1 hgo hex hret W2 hQ hg hs hd i14 i15 i16 i5 i6 i7
  intro s1 fl_ a k hr hS Q hQ hgo1921 hex1922 hret1923
  obtain ⟨⟨hg,hs,hd⟩,i5,i6,i7,i14,i15,i16,_⟩:=hS
  unfold sight_meets_L0 at hr
  refine stepL 1 (_::[]) rfl ⟨hg,hs,hd⟩ (by kernel_rfl) ⟨o1 [(16,none),(15,none)] rfl fun _ _ h n=>ok_lss rfl (up i16 h n.1) (up i15 h n.2.1),trivial⟩ [⟨_,_⟩,⟨_,_⟩,⟨_,_⟩,⟨_,_⟩,⟨_,_⟩,⟨_,_⟩,⟨_,_⟩] (fun b q p=>⟨p.ke 5 rfl i5,p.ke 6 rfl i6,p.ke 7 rfl i7,p.ke 14 rfl i14,p.ke 15 rfl i15,p.ke 16 rfl i16,p.ou 0 17 rfl,trivial⟩) ?_
  rintro a k ⟨⟨hg,hs,hd⟩,i5,i6,i7,i14,i15,i16,i17,_⟩
  refine wp_seq ?_
  refine wp_cond_split (isBool i17) (fun hc1953=>?_) (fun hc1953=>?_)
  ·rw [if_pos hc1953] at hr
   refine wp_skip ?_
   refine wp_seq ?_
   refine wp_block ?_
   refine wp_seq ?_
   obtain ⟨x2,hx2,hr⟩:=bind_some hr
   refine cut (fun a' k'=>Bs noF k0 59 a' k'∧(IsRef p_) (a'.get 5) k'∧(IsRef v_) (a'.get 6) k'∧(IsRef t_) (a'.get 7) k'∧(IsRef x2) (a'.get 10) k'∧(IsV x1) (a'.get 14) k'∧(IsL x1) (a'.get 15) k'∧(IsV s1) (a'.get 16) k'∧True) ?_ hQ ?_
   ·intro Q3 W3 w2
    refine gS 3 (_::_::⟨some (IsBox k.w.heap.size (⟨(⟨0,0,0,0⟩:Rect),0,0⟩:Box)),[]⟩::[]) hs (by kernel_rfl) ⟨o1 [(14,none),(16,none)] rfl fun _ _ h n=>ok_indexAddr rfl Tryz.underlying163 ty81 (IsV.rd (up i14 h n.1)) (up i16 h n.2.1) hx2,o1 [(18,some 0)] rfl fun _ _ h n=>ok_load rfl ty81 n.1,ob1 rfl fun _ _ h n=>ok_alloc _ h.size rfl z81,trivial⟩ W3 fun b q p=>?_
    have hgq:=hg.then p.grow
    have hsb:=p.size.trans hs
    have hdb:=p.defers.trans hd
    have j5:=p.ke 5 rfl i5
    have j6:=p.ke 6 rfl i6
    have j7:=p.ke 7 rfl i7
    obtain ⟨b10,j10,x10,z10⟩:(IsBox k.w.heap.size (⟨(⟨0,0,0,0⟩:Rect),0,0⟩:Box)) (b.get 10) q:=p.ou 2 10 rfl
    replace x10:Lo k (Eq b10):=Lo.eq x10
    have y10:Lo k0 (Eq b10):=x10.chg hg
    have j14:=p.ke 14 rfl i14
    have j15:=p.ke 15 rfl i15
    have j16:=p.ke 16 rfl i16
    have j19:(IsV x2) (b.get 19) q:=p.ou 1 19 rfl
    have hns:=z10.nshF
    refine tail_storeB (i:=3) rfl rfl rfl rfl szf81 (Upd.self (α:=Box)) j10 z10 j19 fun q2 hch hz=>?_
    replace hgq:=hgq.step hch y10.wr
    have hle:=hch.le hns
    replace j5:=Pers.pers hle j5
    replace j6:=Pers.pers hle j6
    replace j7:=Pers.pers hle j7
    replace j14:=Pers.pers hle j14
    replace j15:=Pers.pers hle j15
    replace j16:=Pers.pers hle j16
    replace j19:=Pers.pers hle j19
    replace z10:=hz
    clear hns hle hch
    obtain ⟨q,hqq⟩ : ∃ q,q = q2:=⟨q2,rfl⟩
    subst hqq
    obtain ⟨q2,hsh,jn⟩:=z10.give
    replace j5:=Pers.pers hsh.le j5
    replace j6:=Pers.pers hsh.le j6
    replace j7:=Pers.pers hsh.le j7
    replace j14:=Pers.pers hsh.le j14
    replace j15:=Pers.pers hsh.le j15
    replace j16:=Pers.pers hsh.le j16
    rw [← j10] at jn
    replace j10:=jn
    replace hgq:=hgq.hand hsh y10.wr
    rw [← hsh.w]
    clear hsh
    obtain ⟨q,hqq⟩ : ∃ q,q = q2:=⟨q2,rfl⟩
    subst hqq
    exact tail_done (k:=q) (w2 _ _ ⟨⟨hgq,hsb,hdb⟩,j5,j6,j7,j10,j14,j15,j16,trivial⟩)
   rintro a k ⟨⟨hg,hs,hd⟩,i5,i6,i7,i10,i14,i15,i16,_⟩
   refine cutS (fun c l=>Bs noF k0 59 c l∧IsRef p_ (c.get 5) l∧IsRef v_ (c.get 6) l∧IsRef t_ (c.get 7) l∧IsRef x2 (c.get 10) l∧IsV x1 (c.get 14) l∧IsL x1 (c.get 15) l∧IsV s1 (c.get 16) l∧(∃ b11,c.get 11 = .pointer (some ⟨b11,0,none⟩)∧Lo k0 (Eq b11)∧Gb.Box b11 t_ l∧True)) ?_ ?_
   ·intro Q4 W4 w3
    refine gS 2 (_::⟨some (IsBox k.w.heap.size (⟨(⟨0,0,false⟩:SightBound),(⟨0,0,false⟩:SightBound),false,false⟩:SightInterval)),[]⟩::[]) hs (by kernel_rfl) ⟨o1 [(7,none)] rfl fun _ _ h n=>ok_load rfl ty147 ((up i7 h n.1)).ptr,ob1 rfl fun _ _ h n=>ok_alloc _ h.size rfl z147,trivial⟩ W4 fun b q p=>?_
    have hgq:=hg.then p.grow
    have hsb:=p.size.trans hs
    have hdb:=p.defers.trans hd
    have j5:=p.ke 5 rfl i5
    have j6:=p.ke 6 rfl i6
    have j7:=p.ke 7 rfl i7
    have j10:=p.ke 10 rfl i10
    obtain ⟨b11,j11,x11,z11⟩:(IsBox k.w.heap.size (⟨(⟨0,0,false⟩:SightBound),(⟨0,0,false⟩:SightBound),false,false⟩:SightInterval)) (b.get 11) q:=p.ou 1 11 rfl
    replace x11:Lo k (Eq b11):=Lo.eq x11
    have y11:Lo k0 (Eq b11):=x11.chg hg
    have j14:=p.ke 14 rfl i14
    have j15:=p.ke 15 rfl i15
    have j16:=p.ke 16 rfl i16
    have j20:(IsV t_) (b.get 20) q:=p.ou 0 20 rfl
    have hns:=z11.nshF
    refine tail_storeB (i:=2) rfl rfl rfl rfl szf147 (Upd.self (α:=SightInterval)) j11 z11 j20 fun q2 hch hz=>?_
    replace hgq:=hgq.step hch y11.wr
    have hle:=hch.le hns
    replace j5:=Pers.pers hle j5
    replace j6:=Pers.pers hle j6
    replace j7:=Pers.pers hle j7
    replace j10:=Pers.pers hle j10
    replace j14:=Pers.pers hle j14
    replace j15:=Pers.pers hle j15
    replace j16:=Pers.pers hle j16
    replace j20:=Pers.pers hle j20
    replace z11:=hz
    clear hns hle hch
    obtain ⟨q,hqq⟩ : ∃ q,q = q2:=⟨q2,rfl⟩
    subst hqq
    exact tail_done (k:=q) (w3 _ _ ⟨⟨hgq,hsb,hdb⟩,j5,j6,j7,j10,j14,j15,j16,b11,j11,y11,z11,trivial⟩)
   rintro a k ⟨⟨hg,hs,hd⟩,i5,i6,i7,i10,i14,i15,i16,b11,i11,n11,c11,_⟩
   refine cutS (fun c l=>Bs noF k0 59 c l∧IsRef p_ (c.get 5) l∧IsRef v_ (c.get 6) l∧IsRef t_ (c.get 7) l∧IsRef x2 (c.get 10) l∧c.get 11 = .pointer (some ⟨b11,0,none⟩)∧Lo k0 (Eq b11)∧Gb.Box b11 t_ l∧IsMV 111 b11 (c.get 12) l∧IsV x1 (c.get 14) l∧IsL x1 (c.get 15) l∧IsV s1 (c.get 16) l∧True) ?_ ?_
   ·intro Q5 W5 w4
    refine gS 2 (⟨some (IsMV 111 b11),[(11,none)]⟩::_::[]) hs (by kernel_rfl) ⟨ob1 rfl fun _ _ h n=>ok_makeMV rfl (upE i11 n.1),cp 0 rfl rfl,trivial⟩ W5 fun b q p=>?_
    exact tail_done (k:=q) (w4 _ _ ⟨Bs.post ⟨hg,hs,hd⟩ p,p.ke 5 rfl i5,p.ke 6 rfl i6,p.ke 7 rfl i7,p.ke 10 rfl i10,upE i11 (p.old 11 rfl),n11,Gb.Box.grow c11 p.grow,p.ou 1 12 rfl,p.ke 14 rfl i14,p.ke 15 rfl i15,p.ke 16 rfl i16,trivial⟩)
   rintro a k ⟨⟨hg,hs,hd⟩,i5,i6,i7,i10,i11,n11,c11,i12,i14,i15,i16,_⟩
   refine wp_seq ?_
   obtain ⟨x3,hx3,hr⟩:=bind_some hr
   refine cut (fun a' k'=>Bs noF k0 59 a' k'∧(IsRef p_) (a'.get 5) k'∧(IsRef v_) (a'.get 6) k'∧(IsRef t_) (a'.get 7) k'∧(IsRef x2) (a'.get 10) k'∧a'.get 11 = .pointer (some ⟨b11,0,none⟩)∧Lo k0 (Eq b11)∧Gb.Box b11 x3 k'∧(IsMV 111 b11) (a'.get 12) k'∧(IsV x1) (a'.get 14) k'∧(IsL x1) (a'.get 15) k'∧(IsV s1) (a'.get 16) k'∧True) ?_ hQ ?_
   ·intro Q6 W6 w5
    refine gS 11 (_::_::_::_::_::_::_::_::_::_::_::[]) hs (by kernel_rfl) ⟨mu rfl i12,o1 [(5,none)] rfl fun _ _ h n=>ok_fieldAddr rfl fo88_0 (at_Point3_0 _) ((up i5 h n.1)).ptr,o1 [(23,some 1)] rfl fun _ _ h n=>ok_load rfl ty3 n.1,o1 [(6,none)] rfl fun _ _ h n=>ok_fieldAddr rfl fo88_0 (at_Point3_0 _) ((up i6 h n.1)).ptr,o1 [(25,some 3)] rfl fun _ _ h n=>ok_load rfl ty3 n.1,o1 [(10,none)] rfl fun _ _ h n=>ok_fieldAddr rfl fo81_0 (at_Box_0 _) ((up i10 h n.1)).ptr,o1 [(27,some 5)] rfl fun _ _ h n=>ok_fieldAddr rfl fo79_0 (at_Rect_0 _) n.1,o1 [(28,some 6)] rfl fun _ _ h n=>ok_load rfl ty3 n.1,o1 [(10,none)] rfl fun _ _ h n=>ok_fieldAddr rfl fo81_0 (at_Box_0 _) ((up i10 h n.1)).ptr,o1 [(30,some 8)] rfl fun _ _ h n=>ok_fieldAddr rfl fo79_2 (at_Rect_2 _) n.1,o1 [(31,some 9)] rfl fun _ _ h n=>ok_load rfl ty3 n.1,trivial⟩ W6 fun b q p=>?_
    have hgq:=hg.then p.grow
    have hsb:=p.size.trans hs
    have hdb:=p.defers.trans hd
    have j5:=p.ke 5 rfl i5
    have j6:=p.ke 6 rfl i6
    have j7:=p.ke 7 rfl i7
    have j10:=p.ke 10 rfl i10
    have j11:=upE i11 (p.old 11 rfl)
    have z11:=Gb.Box.grow c11 p.grow
    have y11:=n11
    have j12:=p.ke 12 rfl i12
    have j14:=p.ke 14 rfl i14
    have j15:=p.ke 15 rfl i15
    have j16:=p.ke 16 rfl i16
    have j22:(IsMV 111 b11) (b.get 22) q:=p.ou 0 22 rfl
    have j24:(IsV p_.X) (b.get 24) q:=p.ou 2 24 rfl
    have j26:(IsV v_.X) (b.get 26) q:=p.ou 4 26 rfl
    have j29:(IsV x2.Base.X0) (b.get 29) q:=p.ou 7 29 rfl
    have j32:(IsV x2.Base.X1) (b.get 32) q:=p.ou 10 32 rfl
    have hns:=z11.nshF
    refine tail_callMV (F:=Eq b11) (i:=11) (d:=33) rfl rfl rfl rfl (by rw [hsb]; decide) j22 Tryz.call111 W6 (sight_interval_narrow_ok rfl z11 j24 j26 j29 j32 hx3) fun b2 q2 hsz hdf hoth hch hres=>?_
    have hle:=hch.le hns
    replace j5:=Pers.pers hle j5
    replace j6:=Pers.pers hle j6
    replace j7:=Pers.pers hle j7
    replace j10:=Pers.pers hle j10
    replace j12:=Pers.pers hle j12
    replace j14:=Pers.pers hle j14
    replace j15:=Pers.pers hle j15
    replace j16:=Pers.pers hle j16
    replace j22:=Pers.pers hle j22
    replace j24:=Pers.pers hle j24
    replace j26:=Pers.pers hle j26
    replace j29:=Pers.pers hle j29
    replace j32:=Pers.pers hle j32
    replace hgq:=hgq.step hch y11.wr
    replace z11:=hres
    rw [← hoth 5 (by decide)] at j5
    rw [← hoth 6 (by decide)] at j6
    rw [← hoth 7 (by decide)] at j7
    rw [← hoth 10 (by decide)] at j10
    rw [← hoth 11 (by decide)] at j11
    rw [← hoth 12 (by decide)] at j12
    rw [← hoth 14 (by decide)] at j14
    rw [← hoth 15 (by decide)] at j15
    rw [← hoth 16 (by decide)] at j16
    rw [← hoth 22 (by decide)] at j22
    rw [← hoth 24 (by decide)] at j24
    rw [← hoth 26 (by decide)] at j26
    rw [← hoth 29 (by decide)] at j29
    rw [← hoth 32 (by decide)] at j32
    replace hsb:=hsz.trans hsb
    replace hdb:=hdf.trans hdb
    clear hle hch hns hsz hdf hoth hres
    obtain ⟨b,hbb⟩ : ∃ b,b = b2:=⟨b2,rfl⟩
    subst hbb
    obtain ⟨q,hqq⟩ : ∃ q,q = q2:=⟨q2,rfl⟩
    subst hqq
    exact tail_done (k:=q) (w5 _ _ ⟨⟨hgq,hsb,hdb⟩,j5,j6,j7,j10,j11,y11,z11,j12,j14,j15,j16,trivial⟩)
   rintro a k ⟨⟨hg,hs,hd⟩,i5,i6,i7,i10,i11,n11,c11,i12,i14,i15,i16,_⟩
   refine wp_seq ?_
   obtain ⟨x4,hx4,hr⟩:=bind_some hr
   refine cut (fun a' k'=>Bs noF k0 59 a' k'∧(IsRef p_) (a'.get 5) k'∧(IsRef v_) (a'.get 6) k'∧(IsRef t_) (a'.get 7) k'∧(IsRef x2) (a'.get 10) k'∧a'.get 11 = .pointer (some ⟨b11,0,none⟩)∧Lo k0 (Eq b11)∧Gb.Box b11 x4 k'∧(IsMV 111 b11) (a'.get 12) k'∧(IsV x1) (a'.get 14) k'∧(IsL x1) (a'.get 15) k'∧(IsV s1) (a'.get 16) k'∧True) ?_ hQ ?_
   ·intro Q7 W7 w6
    refine gS 11 (_::_::_::_::_::_::_::_::_::_::_::[]) hs (by kernel_rfl) ⟨mu rfl i12,o1 [(5,none)] rfl fun _ _ h n=>ok_fieldAddr rfl fo88_1 (at_Point3_1 _) ((up i5 h n.1)).ptr,o1 [(35,some 1)] rfl fun _ _ h n=>ok_load rfl ty3 n.1,o1 [(6,none)] rfl fun _ _ h n=>ok_fieldAddr rfl fo88_1 (at_Point3_1 _) ((up i6 h n.1)).ptr,o1 [(37,some 3)] rfl fun _ _ h n=>ok_load rfl ty3 n.1,o1 [(10,none)] rfl fun _ _ h n=>ok_fieldAddr rfl fo81_0 (at_Box_0 _) ((up i10 h n.1)).ptr,o1 [(39,some 5)] rfl fun _ _ h n=>ok_fieldAddr rfl fo79_1 (at_Rect_1 _) n.1,o1 [(40,some 6)] rfl fun _ _ h n=>ok_load rfl ty3 n.1,o1 [(10,none)] rfl fun _ _ h n=>ok_fieldAddr rfl fo81_0 (at_Box_0 _) ((up i10 h n.1)).ptr,o1 [(42,some 8)] rfl fun _ _ h n=>ok_fieldAddr rfl fo79_3 (at_Rect_3 _) n.1,o1 [(43,some 9)] rfl fun _ _ h n=>ok_load rfl ty3 n.1,trivial⟩ W7 fun b q p=>?_
    have hgq:=hg.then p.grow
    have hsb:=p.size.trans hs
    have hdb:=p.defers.trans hd
    have j5:=p.ke 5 rfl i5
    have j6:=p.ke 6 rfl i6
    have j7:=p.ke 7 rfl i7
    have j10:=p.ke 10 rfl i10
    have j11:=upE i11 (p.old 11 rfl)
    have z11:=Gb.Box.grow c11 p.grow
    have y11:=n11
    have j12:=p.ke 12 rfl i12
    have j14:=p.ke 14 rfl i14
    have j15:=p.ke 15 rfl i15
    have j16:=p.ke 16 rfl i16
    have j34:(IsMV 111 b11) (b.get 34) q:=p.ou 0 34 rfl
    have j36:(IsV p_.Y) (b.get 36) q:=p.ou 2 36 rfl
    have j38:(IsV v_.Y) (b.get 38) q:=p.ou 4 38 rfl
    have j41:(IsV x2.Base.Y0) (b.get 41) q:=p.ou 7 41 rfl
    have j44:(IsV x2.Base.Y1) (b.get 44) q:=p.ou 10 44 rfl
    have hns:=z11.nshF
    refine tail_callMV (F:=Eq b11) (i:=11) (d:=45) rfl rfl rfl rfl (by rw [hsb]; decide) j34 Tryz.call111 W7 (sight_interval_narrow_ok rfl z11 j36 j38 j41 j44 hx4) fun b2 q2 hsz hdf hoth hch hres=>?_
    have hle:=hch.le hns
    replace j5:=Pers.pers hle j5
    replace j6:=Pers.pers hle j6
    replace j7:=Pers.pers hle j7
    replace j10:=Pers.pers hle j10
    replace j12:=Pers.pers hle j12
    replace j14:=Pers.pers hle j14
    replace j15:=Pers.pers hle j15
    replace j16:=Pers.pers hle j16
    replace j34:=Pers.pers hle j34
    replace j36:=Pers.pers hle j36
    replace j38:=Pers.pers hle j38
    replace j41:=Pers.pers hle j41
    replace j44:=Pers.pers hle j44
    replace hgq:=hgq.step hch y11.wr
    replace z11:=hres
    rw [← hoth 5 (by decide)] at j5
    rw [← hoth 6 (by decide)] at j6
    rw [← hoth 7 (by decide)] at j7
    rw [← hoth 10 (by decide)] at j10
    rw [← hoth 11 (by decide)] at j11
    rw [← hoth 12 (by decide)] at j12
    rw [← hoth 14 (by decide)] at j14
    rw [← hoth 15 (by decide)] at j15
    rw [← hoth 16 (by decide)] at j16
    rw [← hoth 34 (by decide)] at j34
    rw [← hoth 36 (by decide)] at j36
    rw [← hoth 38 (by decide)] at j38
    rw [← hoth 41 (by decide)] at j41
    rw [← hoth 44 (by decide)] at j44
    replace hsb:=hsz.trans hsb
    replace hdb:=hdf.trans hdb
    clear hle hch hns hsz hdf hoth hres
    obtain ⟨b,hbb⟩ : ∃ b,b = b2:=⟨b2,rfl⟩
    subst hbb
    obtain ⟨q,hqq⟩ : ∃ q,q = q2:=⟨q2,rfl⟩
    subst hqq
    exact tail_done (k:=q) (w6 _ _ ⟨⟨hgq,hsb,hdb⟩,j5,j6,j7,j10,j11,y11,z11,j12,j14,j15,j16,trivial⟩)
   rintro a k ⟨⟨hg,hs,hd⟩,i5,i6,i7,i10,i11,n11,c11,i12,i14,i15,i16,_⟩
   refine wp_seq ?_
   obtain ⟨x5,hx5,hr⟩:=bind_some hr
   refine cut (fun a' k'=>Bs noF k0 59 a' k'∧(IsRef p_) (a'.get 5) k'∧(IsRef v_) (a'.get 6) k'∧(IsRef t_) (a'.get 7) k'∧a'.get 11 = .pointer (some ⟨b11,0,none⟩)∧Lo k0 (Eq b11)∧Gb.Box b11 x5 k'∧(IsV x1) (a'.get 14) k'∧(IsL x1) (a'.get 15) k'∧(IsV s1) (a'.get 16) k'∧True) ?_ hQ ?_
   ·intro Q8 W8 w7
    refine gS 9 (_::_::_::_::_::_::_::_::_::[]) hs (by kernel_rfl) ⟨mu rfl i12,o1 [(5,none)] rfl fun _ _ h n=>ok_fieldAddr rfl fo88_2 (at_Point3_2 _) ((up i5 h n.1)).ptr,o1 [(47,some 1)] rfl fun _ _ h n=>ok_load rfl ty3 n.1,o1 [(6,none)] rfl fun _ _ h n=>ok_fieldAddr rfl fo88_2 (at_Point3_2 _) ((up i6 h n.1)).ptr,o1 [(49,some 3)] rfl fun _ _ h n=>ok_load rfl ty3 n.1,o1 [(10,none)] rfl fun _ _ h n=>ok_fieldAddr rfl fo81_1 (at_Box_1 _) ((up i10 h n.1)).ptr,o1 [(51,some 5)] rfl fun _ _ h n=>ok_load rfl ty3 n.1,o1 [(10,none)] rfl fun _ _ h n=>ok_fieldAddr rfl fo81_2 (at_Box_2 _) ((up i10 h n.1)).ptr,o1 [(53,some 7)] rfl fun _ _ h n=>ok_load rfl ty3 n.1,trivial⟩ W8 fun b q p=>?_
    have hgq:=hg.then p.grow
    have hsb:=p.size.trans hs
    have hdb:=p.defers.trans hd
    have j5:=p.ke 5 rfl i5
    have j6:=p.ke 6 rfl i6
    have j7:=p.ke 7 rfl i7
    have j11:=upE i11 (p.old 11 rfl)
    have z11:=Gb.Box.grow c11 p.grow
    have y11:=n11
    have j14:=p.ke 14 rfl i14
    have j15:=p.ke 15 rfl i15
    have j16:=p.ke 16 rfl i16
    have j46:(IsMV 111 b11) (b.get 46) q:=p.ou 0 46 rfl
    have j48:(IsV p_.Z) (b.get 48) q:=p.ou 2 48 rfl
    have j50:(IsV v_.Z) (b.get 50) q:=p.ou 4 50 rfl
    have j52:(IsV x2.Z0) (b.get 52) q:=p.ou 6 52 rfl
    have j54:(IsV x2.Z1) (b.get 54) q:=p.ou 8 54 rfl
    have hns:=z11.nshF
    refine tail_callMV (F:=Eq b11) (i:=9) (d:=55) rfl rfl rfl rfl (by rw [hsb]; decide) j46 Tryz.call111 W8 (sight_interval_narrow_ok rfl z11 j48 j50 j52 j54 hx5) fun b2 q2 hsz hdf hoth hch hres=>?_
    have hle:=hch.le hns
    replace j5:=Pers.pers hle j5
    replace j6:=Pers.pers hle j6
    replace j7:=Pers.pers hle j7
    replace j14:=Pers.pers hle j14
    replace j15:=Pers.pers hle j15
    replace j16:=Pers.pers hle j16
    replace j46:=Pers.pers hle j46
    replace j48:=Pers.pers hle j48
    replace j50:=Pers.pers hle j50
    replace j52:=Pers.pers hle j52
    replace j54:=Pers.pers hle j54
    replace hgq:=hgq.step hch y11.wr
    replace z11:=hres
    rw [← hoth 5 (by decide)] at j5
    rw [← hoth 6 (by decide)] at j6
    rw [← hoth 7 (by decide)] at j7
    rw [← hoth 11 (by decide)] at j11
    rw [← hoth 14 (by decide)] at j14
    rw [← hoth 15 (by decide)] at j15
    rw [← hoth 16 (by decide)] at j16
    rw [← hoth 46 (by decide)] at j46
    rw [← hoth 48 (by decide)] at j48
    rw [← hoth 50 (by decide)] at j50
    rw [← hoth 52 (by decide)] at j52
    rw [← hoth 54 (by decide)] at j54
    replace hsb:=hsz.trans hsb
    replace hdb:=hdf.trans hdb
    clear hle hch hns hsz hdf hoth hres
    obtain ⟨b,hbb⟩ : ∃ b,b = b2:=⟨b2,rfl⟩
    subst hbb
    obtain ⟨q,hqq⟩ : ∃ q,q = q2:=⟨q2,rfl⟩
    subst hqq
    exact tail_done (k:=q) (w7 _ _ ⟨⟨hgq,hsb,hdb⟩,j5,j6,j7,j11,y11,z11,j14,j15,j16,trivial⟩)
   rintro a k ⟨⟨hg,hs,hd⟩,i5,i6,i7,i11,n11,c11,i14,i15,i16,_⟩
   refine wp_seq ?_
   obtain ⟨x6,hx6,hr⟩:=bind_some hr
   refine cut (fun a' k'=>Bs noF k0 59 a' k'∧(IsRef p_) (a'.get 5) k'∧(IsRef v_) (a'.get 6) k'∧(IsRef t_) (a'.get 7) k'∧(IsV x1) (a'.get 14) k'∧(IsL x1) (a'.get 15) k'∧(IsV s1) (a'.get 16) k'∧(IsV (!x6)) (a'.get 57) k'∧True) ?_ hQ ?_
   ·intro Q9 W9 w8
    refine regionS (a0:=a) (k0:=k) (n:=59) (m:=0) ([]) hs (by kernel_rfl) trivial W9 fun b q p=>?_
    have hgq:=hg.then p.grow
    have hsb:=p.size.trans hs
    have hdb:=p.defers.trans hd
    have j5:=p.ke 5 rfl i5
    have j6:=p.ke 6 rfl i6
    have j7:=p.ke 7 rfl i7
    have j11:=upE i11 (p.old 11 rfl)
    have z11:=Gb.Box.grow c11 p.grow
    have y11:=n11
    have j14:=p.ke 14 rfl i14
    have j15:=p.ke 15 rfl i15
    have j16:=p.ke 16 rfl i16
    obtain ⟨q2,hsh,jn⟩:=z11.give
    replace j5:=Pers.pers hsh.le j5
    replace j6:=Pers.pers hsh.le j6
    replace j7:=Pers.pers hsh.le j7
    replace j14:=Pers.pers hsh.le j14
    replace j15:=Pers.pers hsh.le j15
    replace j16:=Pers.pers hsh.le j16
    rw [← j11] at jn
    replace j11:=jn
    replace hgq:=hgq.hand hsh y11.wr
    rw [← hsh.w]
    clear hsh
    obtain ⟨q,hqq⟩ : ∃ q,q = q2:=⟨q2,rfl⟩
    subst hqq
    refine tail_call (F:=noF) (i:=0) (d:=56) rfl rfl rfl rfl (by rw [hsb]; decide) Tryz.call112 W9 (Ret.toC (sight_interval_empty_ok j11 hx6)) fun b2 q2 hsz hdf hoth hch hres=>?_
    have hgr:=hch.grow
    replace j5:=Pers.pers hgr.le j5
    replace j6:=Pers.pers hgr.le j6
    replace j7:=Pers.pers hgr.le j7
    replace j11:=Pers.pers hgr.le j11
    replace j14:=Pers.pers hgr.le j14
    replace j15:=Pers.pers hgr.le j15
    replace j16:=Pers.pers hgr.le j16
    replace hgq:=hgq.then hgr
    rw [← hoth 5 (by decide)] at j5
    rw [← hoth 6 (by decide)] at j6
    rw [← hoth 7 (by decide)] at j7
    rw [← hoth 11 (by decide)] at j11
    rw [← hoth 14 (by decide)] at j14
    rw [← hoth 15 (by decide)] at j15
    rw [← hoth 16 (by decide)] at j16
    have j56:(IsV x6) (b2.get 56) q2:=hres
    replace hsb:=hsz.trans hsb
    replace hdb:=hdf.trans hdb
    clear hch hgr hres hsz hdf hoth
    obtain ⟨b,hbb⟩ : ∃ b,b = b2:=⟨b2,rfl⟩
    subst hbb
    obtain ⟨q,hqq⟩ : ∃ q,q = q2:=⟨q2,rfl⟩
    subst hqq
    refine tail_does (R:=(IsV (!x6))) (i:=1) (d:=57) rfl rfl rfl (by rw [hsb]; decide) W9 (ok_not rfl j56) fun b2 q2 hsz hdf hoth hgr hnew=>?_
    replace j5:=Pers.pers hgr.le j5
    replace j6:=Pers.pers hgr.le j6
    replace j7:=Pers.pers hgr.le j7
    replace j11:=Pers.pers hgr.le j11
    replace j14:=Pers.pers hgr.le j14
    replace j15:=Pers.pers hgr.le j15
    replace j16:=Pers.pers hgr.le j16
    replace j56:=Pers.pers hgr.le j56
    replace hgq:=hgq.then hgr
    rw [← hoth 5 (by decide)] at j5
    rw [← hoth 6 (by decide)] at j6
    rw [← hoth 7 (by decide)] at j7
    rw [← hoth 11 (by decide)] at j11
    rw [← hoth 14 (by decide)] at j14
    rw [← hoth 15 (by decide)] at j15
    rw [← hoth 16 (by decide)] at j16
    rw [← hoth 56 (by decide)] at j56
    have j57:=hnew
    replace hsb:=hsz.trans hsb
    replace hdb:=hdf.trans hdb
    clear hgr hsz hdf hoth hnew
    obtain ⟨b,hbb⟩ : ∃ b,b = b2:=⟨b2,rfl⟩
    subst hbb
    obtain ⟨q,hqq⟩ : ∃ q,q = q2:=⟨q2,rfl⟩
    subst hqq
    exact tail_done (k:=q) (w8 _ _ ⟨⟨hgq,hsb,hdb⟩,j5,j6,j7,j14,j15,j16,j57,trivial⟩)
   rintro a k ⟨⟨hg,hs,hd⟩,i5,i6,i7,i14,i15,i16,i57,_⟩
   refine wp_cond_split (isBool i57) (fun hc1938=>?_) (fun hc1938=>?_)
   ·rw [if_pos hc1938] at hr
    refine stepL 1 (⟨some (IsV true),[]⟩::[]) rfl ⟨hg,hs,hd⟩ (by kernel_rfl) ⟨ob1 rfl fun _ _ h n=>ok_assign rfl (isV_bool.2 rfl),trivial⟩ [⟨_,_⟩] (fun b q p=>⟨p.ou 0 8 rfl,trivial⟩) ?_
    rintro a k ⟨⟨hg,hs,hd⟩,i8,_⟩
    refine wp_ret ?_
    exact hret1923 _ _ _ (Option.some.inj hr).symm (retC1 rfl hd hg i8)
   rw [if_neg (by rw [hc1938]; decide)] at hr
   refine wp_skip ?_
   obtain ⟨x7,hx7,hr⟩:=bind_some hr
   refine cut (fun a' k'=>Bs noF k0 59 a' k'∧(IsRef p_) (a'.get 5) k'∧(IsRef v_) (a'.get 6) k'∧(IsRef t_) (a'.get 7) k'∧(IsV x1) (a'.get 14) k'∧(IsL x1) (a'.get 15) k'∧(IsV x7) (a'.get 16) k'∧True) ?_ hQ ?_
   ·intro Q10 W10 w9
    refine gS 2 (_::_::[]) hs (by kernel_rfl) ⟨o1 [(16,none)] rfl fun _ _ h n=>ok_add rfl (up i16 h n.1) (cI rfl) hx7,cm 0 rfl rfl,trivial⟩ W10 fun b q p=>?_
    exact tail_done (k:=q) (w9 _ _ ⟨Bs.post ⟨hg,hs,hd⟩ p,p.ke 5 rfl i5,p.ke 6 rfl i6,p.ke 7 rfl i7,p.ke 14 rfl i14,p.ke 15 rfl i15,p.ou 1 16 rfl,trivial⟩)
   rintro a k ⟨⟨hg,hs,hd⟩,i5,i6,i7,i14,i15,i16,_⟩
   exact hgo1921 _ _ _ (Option.some.inj hr).symm ⟨⟨hg,hs,hd⟩,i5,i6,i7,i14,i15,i16,trivial⟩
  rw [if_neg (by rw [hc1953]; decide)] at hr
  refine wp_exit ?_
  exact hex1922 _ _ _ _ (Option.some.inj hr).symm ⟨rfl,⟨hg,hs,hd⟩,trivial⟩
 ·rintro r1 a k rfl hR
  dsimp only at hr
  obtain rfl:=Option.some.inj hr
  exact hR
 ·rintro _ _ _ rfl _
  simp at hr
 clear hf1
 rintro _ s2 a k rfl ⟨rfl,⟨hg,hs,hd⟩,_⟩
 dsimp only at hr
 refine stepL 1 (⟨some (IsV false),[]⟩::[]) rfl ⟨hg,hs,hd⟩ (by kernel_rfl) ⟨ob1 rfl fun _ _ h n=>ok_assign rfl (isV_bool.2 rfl),trivial⟩ [⟨_,_⟩] (fun b q p=>⟨p.ou 0 8 rfl,trivial⟩) ?_
 rintro a k ⟨⟨hg,hs,hd⟩,i8,_⟩
 refine wp_ret ?_
 obtain rfl:=Option.some.inj hr
 exact retC1 rfl hd hg i8
noncomputable def k87:=mkO 87 [.list (.st 22),.st 17,.st 17,.st 25] [.bool] (fun x=>sight_meets x.1 x.2.1 x.2.2.1 x.2.2.2) Tryz.call87 fun k0 vs x r hG h hr=>by obtain ⟨v0,vs,rfl,i0,h⟩:=h.cons; obtain ⟨v1,vs,rfl,i1,h⟩:=h.cons; obtain ⟨v2,vs,rfl,i2,h⟩:=h.cons; obtain ⟨v3,rfl,i3⟩:=h.one; exact sight_meets_ok i0 i1 i2 i3 hr
def sight_Ray (s_:(List Slab)) (p_:Point3) (d_:Point3):Option (Bool):=
 (sight_on p_).bind fun x1=>
 if ((((!x1) || (decide (d_ = (⟨0,0,0⟩:Point3)))) || (decide ((min (min d_.X d_.Y) d_.Z) < (-1048576)))) || (decide (1048576 < (max (max d_.X d_.Y) d_.Z)))) then
  some false
 else
  (sight_meets s_ p_ d_ (⟨(⟨0,1,true⟩:SightBound),(⟨0,0,false⟩:SightBound),false,false⟩:SightInterval)).bind fun x2=>
  some x2
noncomputable def k57:=mk 57 [.list (.st 22),.st 17,.st 17] [.bool] (fun x=>sight_Ray x.1 x.2.1 x.2.2) [k86,k87] [] Tryz.f57 (.n) Tryz.func57 Tryz.call57 rfl rfl fun x=>by kernel_rfl
def slices_IndexFunc_Slab_L0 (s_:(List (List Slab))) (f_:((List Slab) → Option (Bool))) (s1:Int):Option (Flow (Int) (Int)):=
 if (decide (s1 < (s_.length:Int))) then
  (getI s_ s1).bind fun x1=>
  (f_ x1).bind fun x2=>
  if x2 then
   some (.ret s1)
  else
   (addI s1 1).bind fun x3=>
   some (.go x3)
 else
  some (.ex 0 s1)
def slices_IndexFunc_Slab (s_:(List (List Slab))) (f_:((List Slab) → Option (Bool))):Option (Int):=
 (iterL (slices_IndexFunc_Slab_L0 s_ f_) (s_.length + 1) 0).bind fun f1=>match f1 with
  | .go _=>none
  | .ex _ _=>
   some (-1)
  | .ret r1=>some r1
noncomputable def k109:=mk 109 [.list (.list (.st 22)),.f1 (.list (.st 22)) .bool] [.int] (fun x=>slices_IndexFunc_Slab x.1 x.2) [] [] Tryz.f109 (.s .n (.s (.s .n (.l [] [(8,.v .int)] [(0,[8],[])] (fI 7) .n)) .n)) Tryz.func109 Tryz.call109 rfl rfl fun x=>by kernel_rfl
def slices_ContainsFunc_Slab (s_:(List (List Slab))) (f_:((List Slab) → Option (Bool))):Option (Bool):=
 (slices_IndexFunc_Slab s_ f_).bind fun x1=>
 some (decide (0 ≤ x1))
noncomputable def k84:=mk 84 [.list (.list (.st 22)),.f1 (.list (.st 22)) .bool] [.bool] (fun x=>slices_ContainsFunc_Slab x.1 x.2) [k109] [] Tryz.f84 (.n) Tryz.func84 Tryz.call84 rfl rfl fun x=>by kernel_rfl
def vested_free_1 (s_:(List Slab)) (p1_:((List Slab) → Point3 → Option (Bool))) (p2_:Point3):Option (Bool):=
 (p1_ s_ p2_).bind fun x1=>
 some x1
noncomputable def k85:=mk 85 [.list (.st 22),.rf (.f2 (.list (.st 22)) (.st 17) .bool),.rf (.st 17)] [.bool] (fun x=>vested_free_1 x.1 x.2.1 x.2.2) [] [] Tryz.f85 (.n) Tryz.func85 Tryz.call85 rfl rfl fun x=>by kernel_rfl
def vested_free_L0 (points_:(List Point3)) (solids_:(List (List Slab))) (blocks_:((List Slab) → Point3 → Option (Bool))) (s1:Int × Int):Option (Flow (Int × Int) (Int)):=
 if (decide (s1.2 < (points_.length:Int))) then
  (getI points_ s1.2).bind fun x1=>
  (slices_ContainsFunc_Slab solids_ (fun y0=>vested_free_1 y0 blocks_ x1)).bind fun x2=>
  (if (!x2) then
   (addI s1.1 1).bind fun x3=>
   some x3
  else
   some s1.1).bind fun s2=>
  (addI s1.2 1).bind fun x4=>
  some (.go (s2,x4))
 else
  some (.ex 0 (s1.1,s1.2))
def vested_free (points_:(List Point3)) (solids_:(List (List Slab))) (blocks_:((List Slab) → Point3 → Option (Bool))):Option (Int):=
 (iterL (vested_free_L0 points_ solids_ blocks_) (points_.length + 1) (0,0)).bind fun f1=>match f1 with
  | .go _=>none
  | .ex _ s1=>
   some s1.1
  | .ret r1=>some r1
noncomputable def k55:=mk 55 [.list (.st 17),.list (.list (.st 22)),.f2 (.list (.st 22)) (.st 17) .bool] [.int] (fun x=>vested_free x.1 x.2.1 x.2.2) [k85,k84] [] Tryz.f55 (.s .n (.s .n (.s (.s .n (.l [] [(7,.v .int),(12,.v .int)] [(0,[12],[])] (fI 11) (.s .n (.s .n (.s (.s .n (.s .n (.j [] [(7,.v .int)] ([],[]) (.s .n .n)))) .n))))) .n))) Tryz.func55 Tryz.call55 rfl rfl fun x=>by kernel_rfl
def vested_light_3 (p0_:Int):Option (Bool):=
 some false
noncomputable def k58:=mk 58 [.int] [.bool] (fun x=>vested_light_3 x) [] [] Tryz.f58 (.n) Tryz.func58 Tryz.call58 rfl rfl fun x=>by kernel_rfl
def sight_Blocked (s_:(List Slab)) (p_:Point3) (q_:Point3):Option (Bool):=
 (sight_on p_).bind fun x1=>
 (if (!x1) then
  some true
 else
  (sight_on q_).bind fun x2=>
  some (!x2)).bind fun x3=>
 if x3 then
  some false
 else
  (subI q_.X p_.X).bind fun x4=>
  (subI q_.Y p_.Y).bind fun x5=>
  (subI q_.Z p_.Z).bind fun x6=>
  (sight_meets s_ p_ (⟨x4,x5,x6⟩:Point3) (⟨(⟨0,1,true⟩:SightBound),(⟨1,1,true⟩:SightBound),true,false⟩:SightInterval)).bind fun x7=>
  some x7
noncomputable def k60:=mk 60 [.list (.st 22),.st 17,.st 17] [.bool] (fun x=>sight_Blocked x.1 x.2.1 x.2.2) [k86,k87] [] Tryz.f60 (.n) Tryz.func60 Tryz.call60 rfl rfl fun x=>by kernel_rfl
def vested_overlap (a_:Volume) (b_:Volume):Option (Bool):=
 (vested_right a_).bind fun x1=>
 (if (!x1) then
  some true
 else
  (vested_right b_).bind fun x2=>
  some (!x2)).bind fun x3=>
 if x3 then
  some false
 else
  (rect_Intersect a_.Box.Base b_.Box.Base).bind fun x4=>
  some (x4.2 && (decide ((max a_.Box.Z0 b_.Box.Z0) < (min a_.Box.Z1 b_.Box.Z1))))
noncomputable def k63:=mk 63 [.st 4,.st 4] [.bool] (fun x=>vested_overlap x.1 x.2) [k82,k78] [] Tryz.f63 (.n) Tryz.func63 Tryz.call63 rfl rfl fun x=>by kernel_rfl
def slices_IndexFunc_Placed_L0 (s_:(List Placed)) (f_:(Placed → Option (Bool))) (s1:Int):Option (Flow (Int) (Int)):=
 if (decide (s1 < (s_.length:Int))) then
  (getI s_ s1).bind fun x1=>
  (f_ x1).bind fun x2=>
  if x2 then
   some (.ret s1)
  else
   (addI s1 1).bind fun x3=>
   some (.go x3)
 else
  some (.ex 0 s1)
def slices_IndexFunc_Placed (s_:(List Placed)) (f_:(Placed → Option (Bool))):Option (Int):=
 (iterL (slices_IndexFunc_Placed_L0 s_ f_) (s_.length + 1) 0).bind fun f1=>match f1 with
  | .go _=>none
  | .ex _ _=>
   some (-1)
  | .ret r1=>some r1
noncomputable def k88:=mk 88 [.list (.st 21),.f1 (.st 21) .bool] [.int] (fun x=>slices_IndexFunc_Placed x.1 x.2) [] [] Tryz.f88 (.s .n (.s (.s .n (.l [] [(8,.v .int)] [(0,[8],[])] (fI 7) .n)) .n)) Tryz.func88 Tryz.call88 rfl rfl fun x=>by kernel_rfl
def slices_ContainsFunc_Placed (s_:(List Placed)) (f_:(Placed → Option (Bool))):Option (Bool):=
 (slices_IndexFunc_Placed s_ f_).bind fun x1=>
 some (decide (0 ≤ x1))
noncomputable def k61:=mk 61 [.list (.st 21),.f1 (.st 21) .bool] [.bool] (fun x=>slices_ContainsFunc_Placed x.1 x.2) [k88] [] Tryz.f61 (.n) Tryz.func61 Tryz.call61 rfl rfl fun x=>by kernel_rfl
def vested_light_1 (lot_:Int) (p1_:Window):Option (Bool):=
 some (lot_ == p1_.Lot)
noncomputable def k54:=mk 54 [.int,.rf (.st 20)] [.bool] (fun x=>vested_light_1 x.1 x.2) [] [] Tryz.f54 (.n) Tryz.func54 Tryz.call54 rfl rfl fun x=>by kernel_rfl
def vested_light_2 (s_:(List Slab)) (d_:Point3) (p2_:Window):Option (Bool):=
 (sight_Ray s_ p2_.At d_).bind fun x1=>
 some x1
noncomputable def k56:=mk 56 [.list (.st 22),.st 17,.rf (.st 20)] [.bool] (fun x=>vested_light_2 x.1 x.2.1 x.2.2) [k57] [] Tryz.f56 (.n) Tryz.func56 Tryz.call56 rfl rfl fun x=>by kernel_rfl
def vested_light_4 (s_:(List Slab)) (q_:Point3) (p2_:View):Option (Bool):=
 (sight_Blocked s_ p2_.Eye q_).bind fun x1=>
 some x1
noncomputable def k59:=mk 59 [.list (.st 22),.st 17,.rf (.st 16)] [.bool] (fun x=>vested_light_4 x.1 x.2.1 x.2.2) [k60] [] Tryz.f59 (.n) Tryz.func59 Tryz.call59 rfl rfl fun x=>by kernel_rfl
def vested_light_5 (a_:Placed) (p1_:Placed):Option (Bool):=
 (vested_overlap a_.Volume p1_.Volume).bind fun x1=>
 some x1
noncomputable def k62:=mk 62 [.st 21,.rf (.st 21)] [.bool] (fun x=>vested_light_5 x.1 x.2) [k63] [] Tryz.f62 (.n) Tryz.func62 Tryz.call62 rfl rfl fun x=>by kernel_rfl
def vested_light_L0 (t_:Town) (s1:Int × Limit):Option (Flow (Int × Limit) (Limit × Bool)):=
 if (decide (s1.1 < (t_.Windows.length:Int))) then
  (getI t_.Windows s1.1).bind fun x1=>
  (vested_solids t_ (fun y0=>vested_light_1 y0 x1)).bind fun x2=>
  (vested_free t_.Plan.Sun x2 (fun y0 y1=>vested_light_2 y0 y1 x1)).bind fun x3=>
  if (decide (x3 < t_.Plan.Hours)) then
   some (.ret ((⟨2,(⟨#[]⟩:ByteArray),s1.1⟩:Limit),false))
  else
   (addI s1.1 1).bind fun x4=>
   some (.go (x4,s1.2))
 else
  some (.ex 0 (s1.1,s1.2))
def vested_light_L1 (t_:Town) (x1:(List (List Slab))) (s1:Int × Limit):Option (Flow (Int × Limit) (Limit × Bool)):=
 if (decide (s1.1 < (t_.Plan.Views.length:Int))) then
  (getI t_.Plan.Views s1.1).bind fun x2=>
  (vested_free x2.Targets x1 (fun y0 y1=>vested_light_4 y0 y1 x2)).bind fun x3=>
  if (decide (x3 < x2.Least)) then
   some (.ret ((⟨3,x2.Name,0⟩:Limit),false))
  else
   (addI s1.1 1).bind fun x4=>
   some (.go (x4,s1.2))
 else
  some (.ex 2 (s1.1,s1.2))
def vested_light_L2 (t_:Town) (s1:Int × Limit):Option (Flow (Int × Limit) (Limit × Bool)):=
 if (decide (s1.1 < (t_.Built.length:Int))) then
  (getI t_.Built s1.1).bind fun x1=>
  (sliceI t_.Built 0 s1.1).bind fun x2=>
  (slices_ContainsFunc_Placed x2 (fun y0=>vested_light_5 y0 x1)).bind fun x3=>
  if x3 then
   some (.ret ((⟨5,(⟨#[]⟩:ByteArray),s1.1⟩:Limit),false))
  else
   (addI s1.1 1).bind fun x4=>
   some (.go (x4,s1.2))
 else
  some (.ex 4 (s1.1,s1.2))
def vested_light (t_:Town):Option (Limit × Bool):=
 (iterL (vested_light_L0 t_) (t_.Windows.length + 1) (0,(⟨0,(⟨#[]⟩:ByteArray),0⟩:Limit))).bind fun f1=>match f1 with
  | .go _=>none
  | .ex _ s1 =>
   (vested_solids t_ vested_light_3).bind fun x1=>
   (iterL (vested_light_L1 t_ x1) (t_.Plan.Views.length + 1) (0,s1.2)).bind fun f2=>match f2 with
    | .go _=>none
    | .ex _ s2 =>
     (iterL (vested_light_L2 t_) (t_.Built.length + 1) (0,s2.2)).bind fun f3=>match f3 with
      | .go _=>none
      | .ex _ _=>
       some ((⟨0,(⟨#[]⟩:ByteArray),0⟩:Limit),true)
      | .ret r1=>some r1
    | .ret r2=>some r2
  | .ret r3=>some r3
noncomputable def k38:=mk 38 [.st 7] [.st 27,.bool] (fun x=>vested_light x) [k54,k53,k56,k55,k58,k59,k62,k61] [2] Tryz.f38 (.s .n (.s (.s .n (.l [] [(15,.v .int),(2,.b (.st 27))] [(0,[15],[])] (fI 14) .n)) (.s .n (.s (.s .n (.l [] [(42,.v .int),(2,.b (.st 27))] [(2,[42],[])] (fI 41) .n)) (.s (.s .n (.l [] [(61,.v .int),(2,.b (.st 27))] [(4,[61],[])] (fI 60) .n)) .n))))) Tryz.func38 Tryz.call38 rfl rfl fun x=>by kernel_rfl
def vested_Safe_L1 (x1:Peak) (s1:Int × Int):Option (Flow (Int × Int) (Limit × Bool)):=
 if (decide (s1.2 < (x1.Tops.length:Int))) then
  (getI x1.Tops s1.2).bind fun x2=>
  (addI s1.1 x2).bind fun x3=>
  (addI s1.2 1).bind fun x4=>
  some (.go (x3,x4))
 else
  some (.ex 2 (s1.1,s1.2))
def vested_Safe_L0 (t_:Town) (rights_:(List Right)) (s1:Int × Limit):Option (Flow (Int × Limit) (Limit × Bool)):=
 if (decide (s1.1 < (t_.Plan.Caps.length:Int))) then
  (getI t_.Plan.Caps s1.1).bind fun x1=>
  (cap_Peak t_ rights_ x1).bind fun x2=>
  (iterL (vested_Safe_L1 x2) (x2.Tops.length + 1) (x2.Base,0)).bind fun f1=>match f1 with
   | .go _=>none
   | .ex _ s2 =>
    if (decide (x1.Limit < s2.1)) then
     some (.ret ((⟨1,x1.Name,0⟩:Limit),false))
    else
     (addI s1.1 1).bind fun x3=>
     some (.go (x3,s1.2))
   | .ret r1=>some (.ret r1)
 else
  some (.ex 0 (s1.1,s1.2))
def vested_Safe (t_:Town) (rights_:(List Right)):Option (Limit × Bool):=
 (iterL (vested_Safe_L0 t_ rights_) (t_.Plan.Caps.length + 1) (0,(⟨0,(⟨#[]⟩:ByteArray),0⟩:Limit))).bind fun f1=>match f1 with
  | .go _=>none
  | .ex _ _=>
   (vested_Last t_ rights_).bind fun x1=>
   (vested_light x1).bind fun x2=>
   some (x2.1,x2.2)
  | .ret r1=>some r1
noncomputable def k21:=mk 21 [.st 7,.list (.st 28)] [.st 27,.bool] (fun x=>vested_Safe x.1 x.2) [k29,k17,k38] [4] Tryz.f21 (.s .n (.s (.s .n (.l [] [(16,.v .int),(4,.b (.st 27))] [(0,[16],[])] (fI 15) (.s .n (.s .n (.s (.s .n (.s .n (.s .n (.s (.s .n (.l [] [(9,.v .int),(29,.v .int)] [(2,[29],[])] (fI 28) .n)) .n)))) .n))))) .n)) Tryz.func21 Tryz.call21 rfl rfl fun x=>by kernel_rfl
theorem vested_Safe_ok {k0:K} {v0 v1:Value} {x0:Town} {x1:(List Right)} {r:Limit × Bool} (i0:(IsV x0) v0 k0) (i1:(IsV x1) v1 k0) (hr:vested_Safe x0 x1 = some r):Calls Tryz.prog 21 #[v0,v1] k0.w (Ret k0 (IsTup2 (IsV r.1) (IsV r.2))):=ret2T (T:=tb) (k21.ok.ok k0 [v0,v1] (x0,x1) r (GOk.none (fun _=>rfl) fun _ e=>by cases e) ⟨i0,i1⟩ hr)
def vested_Keeps_L0 (t_:Town) (s1:Int × Limit):Option (Flow (Int × Limit) (Limit × Bool)):=
 if (decide (s1.1 < (t_.Plan.Caps.length:Int))) then
  (getI t_.Plan.Caps s1.1).bind fun x1=>
  (cap_Load t_ x1).bind fun x2=>
  if (decide (x1.Limit < x2)) then
   some (.ret ((⟨1,x1.Name,0⟩:Limit),false))
  else
   (addI s1.1 1).bind fun x3=>
   some (.go (x3,s1.2))
 else
  some (.ex 0 (s1.1,s1.2))
def vested_Keeps (t_:Town):Option (Limit × Bool):=
 (iterL (vested_Keeps_L0 t_) (t_.Plan.Caps.length + 1) (0,(⟨0,(⟨#[]⟩:ByteArray),0⟩:Limit))).bind fun f1=>match f1 with
  | .go _=>none
  | .ex _ _=>
   (vested_light t_).bind fun x1=>
   some (x1.1,x1.2)
  | .ret r1=>some r1
noncomputable def k19:=mk 19 [.st 7] [.st 27,.bool] (fun x=>vested_Keeps x) [k30,k38] [2] Tryz.f19 (.s .n (.s (.s .n (.l [] [(10,.v .int),(2,.b (.st 27))] [(0,[10],[])] (fI 9) .n)) .n)) Tryz.func19 Tryz.call19 rfl rfl fun x=>by kernel_rfl
theorem vested_Keeps_ok {k0:K} {v0:Value} {x0:Town} {r:Limit × Bool} (i0:(IsV x0) v0 k0) (hr:vested_Keeps x0 = some r):Calls Tryz.prog 19 #[v0] k0.w (Ret k0 (IsTup2 (IsV r.1) (IsV r.2))):=ret2T (T:=tb) (k19.ok.ok k0 [v0] x0 r (GOk.none (fun _=>rfl) fun _ e=>by cases e) i0 hr)
end Go.Proofs.YtegglcdhfnjhcaaGreat
