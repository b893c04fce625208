/- What the functions compute that the law reaches, part 2 -/
import Derived.Test.YtagkmlkhaekldaaGreatT1
namespace Go.Proofs.YtagkmlkhaekldaaGreat
open Go.Gb
set_option linter.unusedVariables false
set_option linter.unusedSimpArgs false
set_option maxRecDepth 100000
def law20_box (x_:Int) (y_:Int) (z_:Int) (w_:Int) (low_:Int) (high_:Int) (use_:Int):Option (Volume):=
 some (⟨(⟨(⟨x_,y_,z_,w_⟩:Rect),low_,high_⟩:Box),use_,0,false⟩:Volume)
noncomputable def k26:=mk 26 [.int,.int,.int,.int,.int,.int,.int] [.st 3] (fun x=>law20_box x.1 x.2.1 x.2.2.1 x.2.2.2.1 x.2.2.2.2.1 x.2.2.2.2.2.1 x.2.2.2.2.2.2) [] [14] Tryz.f26 (.n) Tryz.func26 Tryz.call26 rfl rfl fun x=>by kernel_rfl
def rect_Right (r_:Rect):Option (Bool):=
 some ((((((decide (0 ≤ r_.X0)) && (decide (r_.X0 < r_.X1))) && (decide (r_.X1 ≤ 1048576))) && (decide (0 ≤ r_.Y0))) && (decide (r_.Y0 < r_.Y1))) && (decide (r_.Y1 ≤ 1048576)))
noncomputable def k55:=mk 55 [.st 0] [.bool] (fun x=>rect_Right x) [] [] Tryz.f55 (.n) Tryz.func55 Tryz.call55 rfl rfl fun x=>by kernel_rfl
section
open Go.Proofs Go.RowKit Go.Lib Go.Sort Go.Shelf
def Tryz.growL133_ren:Go.Shelf.Ren:=⟨fun | 4=>133 | n=>n,fun | 22=>31 | 25=>47 | 3=>3 | 4=>4 | 9=>9 | 20=>20 | 0=>0 | n=>n,fun | n=>n⟩
theorem Tryz.growL133:Go.Proofs.Lays8.n4 Tryz.prog Tryz.growL133_ren:={
 mixed:=by kernel_rfl,
 f4:=⟨Tryz.f133.name,by decide,Tryz.func133.trans (congrArg some (by kernel_rfl))⟩,
 t0:=Tryz.underlying0,
 a0:=Tryz.isAgg0,
 z0:=Tryz.sizeOf0,
 v0:=Tryz.zeroValue0,
 t3:=Tryz.underlying3,
 a3:=Tryz.isAgg3,
 z3:=Tryz.sizeOf3,
 v3:=Tryz.zeroValue3,
 t4:=Tryz.underlying4,
 a4:=Tryz.isAgg4,
 z4:=Tryz.sizeOf4,
 v4:=Tryz.zeroValue4,
 t9:=Tryz.underlying9,
 a9:=Tryz.isAgg9,
 z9:=Tryz.sizeOf9,
 v9:=Tryz.zeroValue9,
 t20:=Tryz.underlying20,
 a20:=Tryz.isAgg20,
 z20:=Tryz.sizeOf20,
 v20:=Tryz.zeroValue20,
 t22:=Tryz.underlying31,
 a22:=Tryz.isAgg31,
 z22:=Tryz.sizeOf31,
 v22:=Tryz.zeroValue31 }
theorem slices_Grow_Rect_okO {k0:K} {v0 v1:Value} {n:Int} {r:List Rect} (i0:v0 = .slice none 0 0) (i1:IsV n v1 k0) (hr:growI Rect n = some r):Calls Tryz.prog 133 #[v0,v1] k0.w (Ret k0 (IsOwn k0.w.heap.size 47 r)):=by
 refine grow_own eo47 i0 i1 hr ?_ fun m i z h0 hm hi hz hs hb=>?_
 ·have hcon:=Any8.slices_Grow_room Tryz.growL133 none 0 0 0 k0.w (by omega) (by omega) (by omega) (by omega)
  change Calls Tryz.prog 133 _ _ _ at hcon
  exact hcon
 ·have hcon:=Any8.slices_Grow_grow Tryz.growL133 i z hi hz hs none 0 0 m [] k0.w (by omega) (by omega) (by
   have:(0 + m) * i.bytes ≤ 1073741824 * 65536:=Nat.mul_le_mul (by omega) hb
   omega) (by omega) (by simp) (fun _=>rfl) (fun a h=>by simp at h)
  change Calls Tryz.prog 133 _ _ _ at hcon
  exact hcon
end
def slices_Concat_Rect_L0 (slices_:(List (List Rect))) (s1:Int × Int):Option (Flow (Int × Int) ((List Rect))):=
 if (decide (s1.2 < (slices_.length:Int))) then
  (getI slices_ s1.2).bind fun x1=>
  (addI s1.1 (x1.length:Int)).bind fun x2=>
  if (decide (x2 < 0)) then
   none
  else
   (addI s1.2 1).bind fun x3=>
   some (.go (x2,x3))
 else
  some (.ex 0 (s1.1,s1.2))
def slices_Concat_Rect_L1 (slices_:(List (List Rect))) (s1:(List Rect) × Int):Option (Flow ((List Rect) × Int) ((List Rect))):=
 if (decide (s1.2 < (slices_.length:Int))) then
  (getI slices_ s1.2).bind fun x1=>
  (appI s1.1 x1).bind fun x2=>
  (addI s1.2 1).bind fun x3=>
  some (.go (x2,x3))
 else
  some (.ex 2 (s1.1,s1.2))
def slices_Concat_Rect (slices_:(List (List Rect))):Option ((List Rect)):=
 (iterL (slices_Concat_Rect_L0 slices_) (slices_.length + 1) (0,0)).bind fun f1=>match f1 with
  | .go _=>none
  | .ex _ s1 =>
   (growI Rect s1.1).bind fun x1=>
   (iterL (slices_Concat_Rect_L1 slices_) (slices_.length + 1) (x1,0)).bind fun f2=>match f2 with
    | .go _=>none
    | .ex _ s2=>
     some s2.1
    | .ret r1=>some r1
  | .ret r2=>some r2
theorem slices_Concat_Rect_okO {k0:K} {v0:Value} {slices_:(List (List Rect))} {r:(List Rect)} (i0:(IsV slices_) v0 k0) (hr:slices_Concat_Rect slices_ = some r) :
  Calls Tryz.prog 107 #[v0] k0.w (Ret k0 (IsOwn k0.w.heap.size 47 r)):=by
 unfold slices_Concat_Rect at hr
 refine Ret.ofC ?_
 refine enterK Tryz.func107 rfl Tryz.ntmps107 (show 1 ≤ 36 by decide) fun a k hk0 hs hd ha=>?_
 obtain ⟨e0,_⟩:=ha
 replace i0:(IsV slices_) (a.get 0) k:=by rw [e0,hk0]; exact i0
 have hQ:Gb.LetsOut (bodyPost Tryz.prog Tryz.f107 (RetC noF k0 (IsOwn k0.w.heap.size 47 r))):=letsOutC
 have hg:Chg noF k0 k:=by rw [hk0]; exact Chg.refl _ k0
 refine stepL 1 (⟨some IsE0,[]⟩::[]) rfl ⟨hg,hs,hd⟩ (by kernel_rfl) ⟨ob1 rfl fun b q h n=>ok_assign rfl isE0_nil,trivial⟩ [⟨_,_⟩] (fun b q p=>⟨p.ke 0 rfl i0,trivial⟩) ?_
 rintro a k ⟨⟨hg,hs,hd⟩,i0,_⟩
 refine stepL 1 (⟨some (IsI 0),[]⟩::[]) rfl ⟨hg,hs,hd⟩ (by kernel_rfl) ⟨aI rfl rfl,trivial⟩ [⟨_,_⟩,⟨_,_⟩] (fun b q p=>⟨p.ke 0 rfl i0,p.ou 0 3 rfl,trivial⟩) ?_
 rintro a k ⟨⟨hg,hs,hd⟩,i0,i3,_⟩
 refine wp_seq ?_
 refine stepL 3 (_::_::⟨some (IsI 0),[]⟩::[]) rfl ⟨hg,hs,hd⟩ (by kernel_rfl) ⟨mu rfl i0,o1 [(9,some 0)] rfl fun _ _ h n=>ok_len rfl rfl Tryz.underlying151 (IsV.rd n.1),ob1 rfl fun _ _ h n=>ok_move rfl (cI rfl),trivial⟩ [⟨_,_⟩,⟨_,_⟩,⟨_,_⟩,⟨_,_⟩,⟨_,_⟩] (fun b q p=>⟨p.ke 0 rfl i0,p.ke 3 rfl i3,p.ou 0 9 rfl,p.ou 1 10 rfl,p.ou 2 11 rfl,trivial⟩) ?_
 rintro a k ⟨⟨hg,hs,hd⟩,i0,i3,i9,i10,i11,_⟩
 refine wp_block ?_
 obtain ⟨f1,hf1,hr⟩:=bind_some hr
 refine cutFe f1 (fun s' c l=>Bs noF k0 36 c l∧IsV slices_ (c.get 0) l∧IsV s'.1 (c.get 3) l∧IsV slices_ (c.get 9) l∧IsL slices_ (c.get 10) l∧IsV s'.2 (c.get 11) l∧True) (fun i' s' c l=>(i' = 0∧Bs noF k0 36 c l∧IsV slices_ (c.get 0) l∧IsV s'.1 (c.get 3) l∧True)) (fun r' c l=>bodyPost Tryz.prog Tryz.f107 (RetC noF k0 (IsOwn k0.w.heap.size 47 r')) .ret c l.w) ?_ hQ ?_ ?_ ?_
 ·intro Q1 W1 hgo hex hret
  refine sim_loop ?_ _ _ _ _ _ hf1 ⟨⟨hg,hs,hd⟩,i0,i3,i9,i10,i11,trivial⟩ Q1 W1 hgo hex hret
  clear hr hf1 hgo hex hret W1 hQ hg hs hd i0 i10 i11 i3 i9
  intro s1 fl_ a k hr hS Q hQ hgo17 hex18 hret19
  obtain ⟨⟨hg,hs,hd⟩,i0,i3,i9,i10,i11,_⟩:=hS
  unfold slices_Concat_Rect_L0 at hr
  refine stepL 1 (_::[]) rfl ⟨hg,hs,hd⟩ (by kernel_rfl) ⟨o1 [(11,none),(10,none)] rfl fun _ _ h n=>ok_lss rfl (up i11 h n.1) (up i10 h n.2.1),trivial⟩ [⟨_,_⟩,⟨_,_⟩,⟨_,_⟩,⟨_,_⟩,⟨_,_⟩,⟨_,_⟩] (fun b q p=>⟨p.ke 0 rfl i0,p.ke 3 rfl i3,p.ke 9 rfl i9,p.ke 10 rfl i10,p.ke 11 rfl i11,p.ou 0 12 rfl,trivial⟩) ?_
  rintro a k ⟨⟨hg,hs,hd⟩,i0,i3,i9,i10,i11,i12,_⟩
  refine wp_seq ?_
  refine wp_cond_split (isBool i12) (fun hc34=>?_) (fun hc34=>?_)
  ·rw [if_pos hc34] at hr
   refine wp_skip ?_
   refine wp_seq ?_
   refine wp_block ?_
   refine wp_seq ?_
   obtain ⟨x1,hx1,hr⟩:=bind_some hr
   refine cut (fun a' k'=>Bs noF k0 36 a' k'∧(IsV slices_) (a'.get 0) k'∧(IsV s1.1) (a'.get 3) k'∧(IsV x1) (a'.get 5) k'∧(IsV slices_) (a'.get 9) k'∧(IsL slices_) (a'.get 10) k'∧(IsV s1.2) (a'.get 11) k'∧True) ?_ hQ ?_
   ·intro Q2 W2 w1
    refine gS 3 (_::_::_::[]) hs (by kernel_rfl) ⟨o1 [(9,none),(11,none)] rfl fun _ _ h n=>ok_indexAddr rfl Tryz.underlying151 ty31 (IsV.rd (up i9 h n.1)) (up i11 h n.2.1) hx1,o1 [(13,some 0)] rfl fun _ _ h n=>ok_load rfl ty31 n.1,cp 1 rfl rfl,trivial⟩ W2 fun b q p=>?_
    exact tail_done (k:=q) (w1 _ _ ⟨Bs.post ⟨hg,hs,hd⟩ p,p.ke 0 rfl i0,p.ke 3 rfl i3,p.ou 2 5 rfl,p.ke 9 rfl i9,p.ke 10 rfl i10,p.ke 11 rfl i11,trivial⟩)
   rintro a k ⟨⟨hg,hs,hd⟩,i0,i3,i5,i9,i10,i11,_⟩
   refine wp_seq ?_
   obtain ⟨x2,hx2,hr⟩:=bind_some hr
   refine cut (fun a' k'=>Bs noF k0 36 a' k'∧(IsV slices_) (a'.get 0) k'∧(IsV x2) (a'.get 3) k'∧(IsV slices_) (a'.get 9) k'∧(IsL slices_) (a'.get 10) k'∧(IsV s1.2) (a'.get 11) k'∧True) ?_ hQ ?_
   ·intro Q3 W3 w2
    refine gS 5 (_::_::_::_::_::[]) hs (by kernel_rfl) ⟨mu rfl i3,mu rfl i5,o1 [(16,some 1)] rfl fun _ _ h n=>ok_len rfl rfl Tryz.underlying31 (IsV.rd n.1),o1 [(15,some 0),(17,some 2)] rfl fun _ _ h n=>ok_add rfl n.1 n.2.1 hx2,cp 3 rfl rfl,trivial⟩ W3 fun b q p=>?_
    exact tail_done (k:=q) (w2 _ _ ⟨Bs.post ⟨hg,hs,hd⟩ p,p.ke 0 rfl i0,p.ou 4 3 rfl,p.ke 9 rfl i9,p.ke 10 rfl i10,p.ke 11 rfl i11,trivial⟩)
   rintro a k ⟨⟨hg,hs,hd⟩,i0,i3,i9,i10,i11,_⟩
   refine stepL 2 (_::_::[]) rfl ⟨hg,hs,hd⟩ (by kernel_rfl) ⟨mu rfl i3,o1 [(19,some 0)] rfl fun _ _ h n=>ok_lss rfl n.1 (cI rfl),trivial⟩ [⟨_,_⟩,⟨_,_⟩,⟨_,_⟩,⟨_,_⟩,⟨_,_⟩,⟨_,_⟩] (fun b q p=>⟨p.ke 0 rfl i0,p.ke 3 rfl i3,p.ke 9 rfl i9,p.ke 10 rfl i10,p.ke 11 rfl i11,p.ou 1 20 rfl,trivial⟩) ?_
   rintro a k ⟨⟨hg,hs,hd⟩,i0,i3,i9,i10,i11,i20,_⟩
   refine wp_cond_split (isBool i20) (fun hc27=>?_) (fun hc27=>?_)
   ·rw [if_pos hc27] at hr
    simp at hr
   rw [if_neg (by rw [hc27]; decide)] at hr
   refine wp_skip ?_
   obtain ⟨x3,hx3,hr⟩:=bind_some hr
   refine cut (fun a' k'=>Bs noF k0 36 a' k'∧(IsV slices_) (a'.get 0) k'∧(IsV x2) (a'.get 3) k'∧(IsV slices_) (a'.get 9) k'∧(IsL slices_) (a'.get 10) k'∧(IsV x3) (a'.get 11) k'∧True) ?_ hQ ?_
   ·intro Q4 W4 w3
    refine gS 2 (_::_::[]) hs (by kernel_rfl) ⟨o1 [(11,none)] rfl fun _ _ h n=>ok_add rfl (up i11 h n.1) (cI rfl) hx3,cm 0 rfl rfl,trivial⟩ W4 fun b q p=>?_
    exact tail_done (k:=q) (w3 _ _ ⟨Bs.post ⟨hg,hs,hd⟩ p,p.ke 0 rfl i0,p.ke 3 rfl i3,p.ke 9 rfl i9,p.ke 10 rfl i10,p.ou 1 11 rfl,trivial⟩)
   rintro a k ⟨⟨hg,hs,hd⟩,i0,i3,i9,i10,i11,_⟩
   exact hgo17 _ _ _ (Option.some.inj hr).symm ⟨⟨hg,hs,hd⟩,i0,i3,i9,i10,i11,trivial⟩
  rw [if_neg (by rw [hc34]; decide)] at hr
  refine wp_exit ?_
  exact hex18 _ _ _ _ (Option.some.inj hr).symm ⟨rfl,⟨hg,hs,hd⟩,i0,i3,trivial⟩
 ·rintro r1 a k rfl hR
  dsimp only at hr
  obtain rfl:=Option.some.inj hr
  exact hR
 ·rintro _ _ _ rfl _
  simp at hr
 clear hf1
 rintro _ s2 a k rfl ⟨rfl,⟨hg,hs,hd⟩,i0,i3,_⟩
 dsimp only at hr
 refine wp_seq ?_
 obtain ⟨x4,hx4,hr⟩:=bind_some hr
 refine cut (fun a' k'=>Bs noF k0 36 a' k'∧(IsV slices_) (a'.get 0) k'∧IsOwn 0 47 x4 (a'.get 6) k'∧Lo k0 (obF (a'.get 6))∧True) ?_ hQ ?_
 ·intro Q5 W5 w4
  refine gS 3 (_::_::_::[]) hs (by kernel_rfl) ⟨mu rfl i3,o1 [(23,some 0)] rfl fun _ _ h n=>ok_call rfl Tryz.call133 (ret_weaken h.size (slices_Grow_Rect_okO rfl n.1 hx4)),cp 1 rfl rfl,trivial⟩ W5 fun b q p=>?_
  have hgq:=hg.then p.grow
  have hsb:=p.size.trans hs
  have hdb:=p.defers.trans hd
  have j0:=p.ke 0 rfl i0
  have j6:(IsOwn k.w.heap.size 47 x4) (b.get 6) q:=p.ou 2 6 rfl
  have x6:Lo k (obF (b.get 6)):=j6.loF
  have y6:=x6.chg hg
  replace j6:=j6.weaken (Nat.zero_le _)
  exact tail_done (k:=q) (w4 _ _ ⟨⟨hgq,hsb,hdb⟩,j0,j6,y6,trivial⟩)
 rintro a k ⟨⟨hg,hs,hd⟩,i0,i6,n6,_⟩
 refine wp_seq ?_
 refine cutS (fun c l=>Bs noF k0 36 c l∧IsOwn 0 47 x4 (c.get 6) l∧Lo k0 (obF (c.get 6))∧IsV slices_ (c.get 25) l∧IsL slices_ (c.get 26) l∧IsI 0 (c.get 27) l∧True) ?_ ?_
 ·intro Q6 W6 w5
  refine gS 3 (_::_::⟨some (IsI 0),[]⟩::[]) hs (by kernel_rfl) ⟨mu rfl i0,o1 [(25,some 0)] rfl fun _ _ h n=>ok_len rfl rfl Tryz.underlying151 (IsV.rd n.1),ob1 rfl fun _ _ h n=>ok_move rfl (cI rfl),trivial⟩ W6 fun b q p=>?_
  exact tail_done (k:=q) (w5 _ _ ⟨Bs.post ⟨hg,hs,hd⟩ p,p.ke 6 rfl i6,(by rw [p.old 6 rfl]; exact n6),p.ou 0 25 rfl,p.ou 1 26 rfl,p.ou 2 27 rfl,trivial⟩)
 rintro a k ⟨⟨hg,hs,hd⟩,i6,n6,i25,i26,i27,_⟩
 refine wp_block ?_
 obtain ⟨f2,hf2,hr⟩:=bind_some hr
 refine cutFe f2 (fun s' c l=>Bs noF k0 36 c l∧IsOwn 0 47 s'.1 (c.get 6) l∧Lo k0 (obF (c.get 6))∧IsV slices_ (c.get 25) l∧IsL slices_ (c.get 26) l∧IsV s'.2 (c.get 27) l∧True) (fun i' s' c l=>(i' = 2∧Bs noF k0 36 c l∧IsOwn 0 47 s'.1 (c.get 6) l∧Lo k0 (obF (c.get 6))∧True)) (fun r' c l=>bodyPost Tryz.prog Tryz.f107 (RetC noF k0 (IsOwn k0.w.heap.size 47 r')) .ret c l.w) ?_ hQ ?_ ?_ ?_
 ·intro Q7 W7 hgo hex hret
  refine sim_loop ?_ _ _ _ _ _ hf2 ⟨⟨hg,hs,hd⟩,i6,n6,i25,i26,i27,trivial⟩ Q7 W7 hgo hex hret
  clear hr hf2 hgo hex hret W7 hQ hg hs hd i25 i26 i27 i6 n6
  intro s3 fl_ a k hr hS Q hQ hgo42 hex43 hret44
  obtain ⟨⟨hg,hs,hd⟩,i6,n6,i25,i26,i27,_⟩:=hS
  unfold slices_Concat_Rect_L1 at hr
  refine cutS (fun c l=>Bs noF k0 36 c l∧IsOwn 0 47 s3.1 (c.get 6) l∧Lo k0 (obF (c.get 6))∧IsV slices_ (c.get 25) l∧IsL slices_ (c.get 26) l∧IsV s3.2 (c.get 27) l∧(IsV (decide (s3.2 < (slices_.length:Int)))) (c.get 28) l∧True) ?_ ?_
  ·intro Q8 W8 w6
   refine gS 1 (_::[]) hs (by kernel_rfl) ⟨o1 [(27,none),(26,none)] rfl fun _ _ h n=>ok_lss rfl (up i27 h n.1) (up i26 h n.2.1),trivial⟩ W8 fun b q p=>?_
   exact tail_done (k:=q) (w6 _ _ ⟨Bs.post ⟨hg,hs,hd⟩ p,p.ke 6 rfl i6,(by rw [p.old 6 rfl]; exact n6),p.ke 25 rfl i25,p.ke 26 rfl i26,p.ke 27 rfl i27,p.ou 0 28 rfl,trivial⟩)
  rintro a k ⟨⟨hg,hs,hd⟩,i6,n6,i25,i26,i27,i28,_⟩
  refine wp_seq ?_
  refine wp_cond_split (isBool i28) (fun hc55=>?_) (fun hc55=>?_)
  ·rw [if_pos hc55] at hr
   refine wp_skip ?_
   refine wp_seq ?_
   refine wp_block ?_
   refine wp_seq ?_
   obtain ⟨x5,hx5,hr⟩:=bind_some hr
   refine cut (fun a' k'=>Bs noF k0 36 a' k'∧IsOwn 0 47 s3.1 (a'.get 6) k'∧Lo k0 (obF (a'.get 6))∧(IsV x5) (a'.get 8) k'∧(IsV slices_) (a'.get 25) k'∧(IsL slices_) (a'.get 26) k'∧(IsV s3.2) (a'.get 27) k'∧True) ?_ hQ ?_
   ·intro Q9 W9 w7
    refine gS 3 (_::_::_::[]) hs (by kernel_rfl) ⟨o1 [(25,none),(27,none)] rfl fun _ _ h n=>ok_indexAddr rfl Tryz.underlying151 ty31 (IsV.rd (up i25 h n.1)) (up i27 h n.2.1) hx5,o1 [(29,some 0)] rfl fun _ _ h n=>ok_load rfl ty31 n.1,cp 1 rfl rfl,trivial⟩ W9 fun b q p=>?_
    exact tail_done (k:=q) (w7 _ _ ⟨Bs.post ⟨hg,hs,hd⟩ p,p.ke 6 rfl i6,(by rw [p.old 6 rfl]; exact n6),p.ou 2 8 rfl,p.ke 25 rfl i25,p.ke 26 rfl i26,p.ke 27 rfl i27,trivial⟩)
   rintro a k ⟨⟨hg,hs,hd⟩,i6,n6,i8,i25,i26,i27,_⟩
   obtain ⟨x7,hx7,hr⟩:=bind_some hr
   refine cut (fun a' k'=>Bs noF k0 36 a' k'∧IsOwn 0 47 x7 (a'.get 6) k'∧Lo k0 (obF (a'.get 6))∧(IsV slices_) (a'.get 25) k'∧(IsL slices_) (a'.get 26) k'∧(IsV s3.2) (a'.get 27) k'∧True) ?_ hQ ?_
   ·intro Q10 W10 w8
    refine gS 2 (⟨some (OwnAt (a.get 6) 0 47 s3.1),[(6,none)]⟩::_::[]) hs (by kernel_rfl) ⟨ob1 rfl fun _ _ h n=>ok_moveOA (.inl rfl) (ownAt n.1 (up i6 h n.1)),mu rfl i8,trivial⟩ W10 fun b q p=>?_
    have hgq:=hg.then p.grow
    have hsb:=p.size.trans hs
    have hdb:=p.defers.trans hd
    have j25:=p.ke 25 rfl i25
    have j26:=p.ke 26 rfl i26
    have j27:=p.ke 27 rfl i27
    have e31:b.get 31 = a.get 6:=(p.ou 0 31 rfl).1
    have j31:IsOwn 0 47 s3.1 (b.get 31) q:=(p.ou 0 31 rfl).2
    have y31:Lo k0 (obF (b.get 31)):=by rw [e31]; exact n6
    have j32:(IsV x5) (b.get 32) q:=p.ou 1 32 rfl
    have hns:=j31.nshF
    refine tail_appendS (i:=2) (d:=33) rfl rfl rfl rfl (by rw [hsb]; decide) (e:=47) Tryz.underlying31 eo47 j31 (IsV.rd j32) hx7 fun b2 q2 hsz hdf hoth hch hown hob=>?_
    have hle:=hch.le hns
    have yn:Lo k0 (obF (b2.get 33)):=y31.app hgq hob
    replace j25:=Pers.pers hle j25
    replace j26:=Pers.pers hle j26
    replace j27:=Pers.pers hle j27
    replace j32:=Pers.pers hle j32
    replace hgq:=hgq.step hch y31.wr
    rw [← hoth 25 (by decide)] at j25
    rw [← hoth 26 (by decide)] at j26
    rw [← hoth 27 (by decide)] at j27
    rw [← hoth 32 (by decide)] at j32
    have j33:=hown
    have y33:=yn
    replace hsb:=hsz.trans hsb
    replace hdb:=hdf.trans hdb
    clear hle hch hown hob hns yn hsz hdf hoth
    obtain ⟨b,hbb⟩ : ∃ b,b = b2:=⟨b2,rfl⟩
    subst hbb
    obtain ⟨q,hqq⟩ : ∃ q,q = q2:=⟨q2,rfl⟩
    subst hqq
    refine tail_assign (i:=3) (d:=6) rfl rfl (.inl rfl) rfl (by rw [hsb]; decide) fun b2 hsz hdf hnew hoth=>?_
    have jn:(IsOwn 0 47 x7) (b2.get 6) q:=by rw [hnew]; exact j33
    have yn:Lo k0 (obF (b2.get 6)):=by rw [hnew]; exact y33
    rw [← hoth 25 (by decide)] at j25
    rw [← hoth 26 (by decide)] at j26
    rw [← hoth 27 (by decide)] at j27
    rw [← hoth 32 (by decide)] at j32
    have j6:=jn
    have y6:=yn
    replace hsb:=hsz.trans hsb
    replace hdb:=hdf.trans hdb
    clear hsz hdf hoth
    obtain ⟨b,hbb⟩ : ∃ b,b = b2:=⟨b2,rfl⟩
    subst hbb
    exact tail_done (k:=q) (w8 _ _ ⟨⟨hgq,hsb,hdb⟩,j6,y6,j25,j26,j27,trivial⟩)
   rintro a k ⟨⟨hg,hs,hd⟩,i6,n6,i25,i26,i27,_⟩
   obtain ⟨x8,hx8,hr⟩:=bind_some hr
   refine cut (fun a' k'=>Bs noF k0 36 a' k'∧IsOwn 0 47 x7 (a'.get 6) k'∧Lo k0 (obF (a'.get 6))∧(IsV slices_) (a'.get 25) k'∧(IsL slices_) (a'.get 26) k'∧(IsV x8) (a'.get 27) k'∧True) ?_ hQ ?_
   ·intro Q11 W11 w9
    refine gS 2 (_::_::[]) hs (by kernel_rfl) ⟨o1 [(27,none)] rfl fun _ _ h n=>ok_add rfl (up i27 h n.1) (cI rfl) hx8,cm 0 rfl rfl,trivial⟩ W11 fun b q p=>?_
    exact tail_done (k:=q) (w9 _ _ ⟨Bs.post ⟨hg,hs,hd⟩ p,p.ke 6 rfl i6,(by rw [p.old 6 rfl]; exact n6),p.ke 25 rfl i25,p.ke 26 rfl i26,p.ou 1 27 rfl,trivial⟩)
   rintro a k ⟨⟨hg,hs,hd⟩,i6,n6,i25,i26,i27,_⟩
   exact hgo42 _ _ _ (Option.some.inj hr).symm ⟨⟨hg,hs,hd⟩,i6,n6,i25,i26,i27,trivial⟩
  rw [if_neg (by rw [hc55]; decide)] at hr
  refine wp_exit ?_
  exact hex43 _ _ _ _ (Option.some.inj hr).symm ⟨rfl,⟨hg,hs,hd⟩,i6,n6,trivial⟩
 ·rintro r2 a k rfl hR
  dsimp only at hr
  obtain rfl:=Option.some.inj hr
  exact hR
 ·rintro _ _ _ rfl _
  simp at hr
 clear hf2
 rintro _ s4 a k rfl ⟨rfl,⟨hg,hs,hd⟩,i6,n6,_⟩
 dsimp only at hr
 refine cutS (fun c l=>Bs noF k0 36 c l∧IsOwn 0 47 s4.1 (c.get 2) l∧Lo k0 (obF (c.get 2))∧True) ?_ ?_
 ·intro Q12 W12 w10
  refine gS 2 (⟨some (OwnAt (a.get 6) 0 47 s4.1),[(6,none)]⟩::⟨some (OwnAt (a.get 6) 0 47 s4.1),[(35,some 0)]⟩::[]) hs (by kernel_rfl) ⟨ob1 rfl fun _ _ h n=>ok_moveOA (.inl rfl) (ownAt n.1 (up i6 h n.1)),ob1 rfl fun _ _ h n=>ok_moveOA (.inr rfl) n.1,trivial⟩ W12 fun b q p=>?_
  have hgq:=hg.then p.grow
  have hsb:=p.size.trans hs
  have hdb:=p.defers.trans hd
  have e2:b.get 2 = a.get 6:=(p.ou 1 2 rfl).1
  have j2:IsOwn 0 47 s4.1 (b.get 2) q:=(p.ou 1 2 rfl).2
  have y2:Lo k0 (obF (b.get 2)):=by rw [e2]; exact n6
  exact tail_done (k:=q) (w10 _ _ ⟨⟨hgq,hsb,hdb⟩,j2,y2,trivial⟩)
 rintro a k ⟨⟨hg,hs,hd⟩,i2,n2,_⟩
 refine wp_ret ?_
 obtain rfl:=Option.some.inj hr
 exact retC1 rfl hd hg (show ResOk _ _ _ (.tmp 2) _ from IsOwn.raise (k0:=k0) i2 n2)
theorem slices_Concat_Rect_ok {k0:K} {v0:Value} {slices_:(List (List Rect))} {r:(List Rect)} (i0:(IsV slices_) v0 k0) (hr:slices_Concat_Rect slices_ = some r) :
  Calls Tryz.prog 107 #[v0] k0.w (Ret k0 (IsV r)):=
 ret_give (slices_Concat_Rect_okO i0 hr)
noncomputable def k107:=mkO 107 [.list (.list (.st 0))] [.list (.st 0)] (fun x=>slices_Concat_Rect x) Tryz.call107 fun k0 vs x r hG h hr=>by obtain ⟨v0,rfl,i0⟩:=h.one; exact slices_Concat_Rect_ok i0 hr
section
open Go.Proofs Go.RowKit Go.Lib Go.Sort Go.Shelf
def Tryz.sortIntsL_ren:Go.Shelf.Ren:=⟨fun | 189=>78 | 125=>115 | 257=>114 | 128=>147 | 129=>148 | 294=>138 | 295=>139 | 296=>140 | 297=>141 | 298=>142 | 299=>143 | 216=>144 | 300=>145 | 301=>146 | 328=>163 | 329=>164 | 330=>165 | 331=>166 | 332=>167 | 215=>124 | 343=>186 | n=>n,fun | 28=>32 | 3=>3 | 46=>160 | 0=>0 | 51=>188 | 53=>190 | 4=>4 | 183=>180 | 182=>179 | 131=>185 | 5=>5 | 9=>9 | 218=>202 | 222=>206 | 228=>221 | 229=>222 | n=>n,fun | n=>n⟩
theorem Tryz.sortIntsL:Go.Proofs.Lays.n189 Tryz.prog Tryz.sortIntsL_ren:={
 mixed:=by kernel_rfl,
 f125:=Tryz.func115.trans (congrArg some (by kernel_rfl)),
 f128:=Tryz.func147.trans (congrArg some (by kernel_rfl)),
 f129:=Tryz.func148.trans (congrArg some (by kernel_rfl)),
 f189:=Tryz.func78.trans (congrArg some (by kernel_rfl)),
 f215:=Tryz.func124.trans (congrArg some (by kernel_rfl)),
 f216:=Tryz.func144.trans (congrArg some (by kernel_rfl)),
 f257:=Tryz.func114.trans (congrArg some (by kernel_rfl)),
 f294:=Tryz.func138.trans (congrArg some (by kernel_rfl)),
 f295:=Tryz.func139.trans (congrArg some (by kernel_rfl)),
 f296:=Tryz.func140.trans (congrArg some (by kernel_rfl)),
 f297:=Tryz.func141.trans (congrArg some (by kernel_rfl)),
 f298:=Tryz.func142.trans (congrArg some (by kernel_rfl)),
 f299:=Tryz.func143.trans (congrArg some (by kernel_rfl)),
 f300:=Tryz.func145.trans (congrArg some (by kernel_rfl)),
 f301:=Tryz.func146.trans (congrArg some (by kernel_rfl)),
 f328:=Tryz.func163.trans (congrArg some (by kernel_rfl)),
 f329:=Tryz.func164.trans (congrArg some (by kernel_rfl)),
 f330:=Tryz.func165.trans (congrArg some (by kernel_rfl)),
 f331:=Tryz.func166.trans (congrArg some (by kernel_rfl)),
 f332:=Tryz.func167.trans (congrArg some (by kernel_rfl)),
 f343:=Tryz.func186.trans (congrArg some (by kernel_rfl)),
 t0:=Tryz.underlying0,
 a0:=Tryz.isAgg0,
 z0:=Tryz.sizeOf0,
 v0:=Tryz.zeroValue0,
 t3:=Tryz.underlying3,
 a3:=Tryz.isAgg3,
 z3:=Tryz.sizeOf3,
 v3:=Tryz.zeroValue3,
 t4:=Tryz.underlying4,
 a4:=Tryz.isAgg4,
 z4:=Tryz.sizeOf4,
 v4:=Tryz.zeroValue4,
 t5:=Tryz.underlying5,
 a5:=Tryz.isAgg5,
 z5:=Tryz.sizeOf5,
 v5:=Tryz.zeroValue5,
 t9:=Tryz.underlying9,
 a9:=Tryz.isAgg9,
 z9:=Tryz.sizeOf9,
 v9:=Tryz.zeroValue9,
 t28:=Tryz.underlying32,
 a28:=Tryz.isAgg32,
 z28:=Tryz.sizeOf32,
 v28:=Tryz.zeroValue32,
 t46:=Tryz.underlying160,
 a46:=Tryz.isAgg160,
 z46:=Tryz.sizeOf160,
 v46:=Tryz.zeroValue160,
 t51:=Tryz.underlying188,
 a51:=Tryz.isAgg188,
 z51:=Tryz.sizeOf188,
 v51:=Tryz.zeroValue188,
 t53:=Tryz.underlying190,
 a53:=Tryz.isAgg190,
 z53:=Tryz.sizeOf190,
 v53:=Tryz.zeroValue190,
 t131:=Tryz.underlying185,
 a131:=Tryz.isAgg185,
 z131:=Tryz.sizeOf185,
 v131:=Tryz.zeroValue185,
 t182:=Tryz.underlying179,
 a182:=Tryz.isAgg179,
 z182:=Tryz.sizeOf179,
 v182:=Tryz.zeroValue179,
 t183:=Tryz.underlying180,
 a183:=Tryz.isAgg180,
 z183:=Tryz.sizeOf180,
 v183:=Tryz.zeroValue180,
 t218:=Tryz.underlying202,
 a218:=Tryz.isAgg202,
 z218:=Tryz.sizeOf202,
 v218:=Tryz.zeroValue202,
 t222:=Tryz.underlying206,
 a222:=Tryz.isAgg206,
 z222:=Tryz.sizeOf206,
 v222:=Tryz.zeroValue206,
 t228:=Tryz.underlying221,
 a228:=Tryz.isAgg221,
 z228:=Tryz.sizeOf221,
 v228:=Tryz.zeroValue221,
 t229:=Tryz.underlying222,
 a229:=Tryz.isAgg222,
 z229:=Tryz.sizeOf222,
 v229:=Tryz.zeroValue222 }
theorem sortInts_ok {k0:K} {v0:Value} {l r:List Int} (i0:IsOwn 0 3 l v0 k0) (hr:sortInts l = some r):Calls Tryz.prog 78 #[v0] k0.w (RetC (obF v0) k0 fun _ k'=>IsOwn 0 3 r v0 k'):=by
 unfold sortInts at hr
 split at hr
 ·rename_i hl
  obtain rfl:=Option.some.inj hr
  refine sortI_own (S:=fun l=>l.mergeSort fun x y=>decide (x ≤ y)) (List.length_mergeSort _) (fun p cap w=>?_) (fun blk off cap w hH hblk=>?_) i0
  ·have hcon:=Any.slices_Sort_int_none Tryz.sortIntsL p cap w
   change Calls Tryz.prog 78 _ _ _ at hcon
   exact hcon
  ·have hcon:=Any.slices_Sort_int Tryz.sortIntsL blk off cap l w hH hblk (by omega)
   change Calls Tryz.prog 78 _ _ _ at hcon
   exact hcon
 ·simp at hr
end
noncomputable def kr78:FkR tb Tryz.prog:=⟨78,fnT tb [.tu] 3 .int (fun x y=>sortInts y),fnT_ok Tryz.call78 fun k0 vs u1 u2 x y r hG h hy hr=>by obtain ⟨vs0,rfl,h1⟩:=h.tu; obtain rfl:=h1.nil; exact sortInts_ok hy hr⟩
section
open Go.Proofs Go.RowKit Go.Lib Go.Sort Go.Shelf
def Tryz.compactL_ren:Go.Shelf.Ren:=⟨fun | 20=>79 | n=>n,fun | 22=>32 | 3=>3 | 4=>4 | 0=>0 | n=>n,fun | n=>n⟩
theorem Tryz.compactL:Go.Proofs.Lays2.n20 Tryz.prog Tryz.compactL_ren:={
 mixed:=by kernel_rfl,
 f20:=Tryz.func79.trans (congrArg some (by kernel_rfl)),
 t0:=Tryz.underlying0,
 a0:=Tryz.isAgg0,
 z0:=Tryz.sizeOf0,
 v0:=Tryz.zeroValue0,
 t3:=Tryz.underlying3,
 a3:=Tryz.isAgg3,
 z3:=Tryz.sizeOf3,
 v3:=Tryz.zeroValue3,
 t4:=Tryz.underlying4,
 a4:=Tryz.isAgg4,
 z4:=Tryz.sizeOf4,
 v4:=Tryz.zeroValue4,
 t22:=Tryz.underlying32,
 a22:=Tryz.isAgg32,
 z22:=Tryz.sizeOf32,
 v22:=Tryz.zeroValue32,
 i3:=by kernel_rfl }
theorem compactInts_ok {k0:K} {v0:Value} {l r:List Int} (i0:IsOwn 0 3 l v0 k0) (hr:compactInts l = some r):Calls Tryz.prog 79 #[v0] k0.w (RetC (obF v0) k0 (IsOwnW v0 k0 3 r)):=by
 unfold compactInts at hr
 split at hr
 ·rename_i hl
  obtain rfl:=Option.some.inj hr
  refine compactI_own compact_length hl (fun p cap w=>?_) (fun blk off cap w hH hc=>?_) i0
  ·have hcon:=Any.slices_Compact_int_empty Tryz.compactL p cap w
   change Calls Tryz.prog 79 _ _ _ at hcon
   exact hcon
  ·have hcon:=Any.slices_Compact_int Tryz.compactL blk off cap l w hH (by omega) hc
   change Calls Tryz.prog 79 _ _ _ at hcon
   exact hcon
 ·simp at hr
end
noncomputable def kr79:FkR tb Tryz.prog:=⟨79,fnK tb [.tk] 3 .int 3 .int (fun x z=>compactInts z),fnK_ok Tryz.call79 fun k0 vs u1 u2 x z r hG h hz hr=>by obtain ⟨vs0,rfl,h1⟩:=h.tk; obtain rfl:=h1.nil; exact compactInts_ok hz hr⟩
def cmp_isNaN_int (x_:Int):Option (Bool):=
 some (x_ != x_)
noncomputable def k124:=mk 124 [.int] [.bool] (fun x=>cmp_isNaN_int x) [] [] Tryz.f124 (.n) Tryz.func124 Tryz.call124 rfl rfl fun x=>by kernel_rfl
def cmp_Compare_int (x_:Int) (y_:Int):Option (Int):=
 (cmp_isNaN_int x_).bind fun x1=>
 (cmp_isNaN_int y_).bind fun x2=>
 if x1 then
  if x2 then
   some 0
  else
   some (-1)
 else
  if x2 then
   some 1
  else
   if (decide (x_ < y_)) then
    some (-1)
   else
    if (decide (y_ < x_)) then
     some 1
    else
     some 0
noncomputable def k93:=mk 93 [.int,.int] [.int] (fun x=>cmp_Compare_int x.1 x.2) [k124] [] Tryz.f93 (.n) Tryz.func93 Tryz.call93 rfl rfl fun x=>by kernel_rfl
def region_column_1 (a_:RegionSpan) (b_:RegionSpan):Option (Int):=
 (cmp_Compare_int a_.from_ b_.from_).bind fun x1=>
 some x1
noncomputable def k135:=mk 135 [.st 1,.st 1] [.int] (fun x=>region_column_1 x.1 x.2) [k93] [] Tryz.f135 (.n) Tryz.func135 Tryz.call135 rfl rfl fun x=>by kernel_rfl
theorem region_column_1_ok {k0:K} {v0 v1:Value} {x0:RegionSpan} {x1:RegionSpan} {r:Int} (i0:(IsV x0) v0 k0) (i1:(IsV x1) v1 k0) (hr:region_column_1 x0 x1 = some r):Calls Tryz.prog 135 #[v0,v1] k0.w (Ret k0 (IsV r)):=(k135.ok.ok k0 [v0,v1] (x0,x1) r (GOk.none (fun _=>rfl) fun _ e=>by cases e) ⟨i0,i1⟩ hr)
section
open Go.Proofs Go.RowKit Go.Lib Go.Sort Go.Shelf
def Tryz.sortSpansL_ren:Go.Shelf.Ren:=⟨fun | 6=>134 | 15=>115 | 14=>158 | 28=>147 | 29=>148 | 20=>175 | 21=>176 | 22=>177 | 23=>178 | 24=>179 | 25=>180 | 26=>181 | 27=>182 | 46=>190 | 47=>164 | 48=>165 | 49=>191 | 50=>192 | 57=>193 | n=>n,fun | 22=>146 | 24=>148 | 25=>175 | 3=>3 | 39=>160 | 0=>0 | 53=>188 | 55=>190 | 4=>4 | 46=>180 | 45=>179 | 50=>185 | 5=>5 | 9=>9 | 66=>202 | 70=>206 | 76=>221 | 77=>222 | n=>n,fun | n=>n⟩
theorem Tryz.sortSpansL:Go.Proofs.SlLaysF0.n6 Tryz.prog Tryz.sortSpansL_ren:={
 mixed:=by kernel_rfl,
 f6:=⟨Tryz.f134.name,by decide,Tryz.func134.trans (congrArg some (by kernel_rfl))⟩,
 f14:=⟨Tryz.f158.name,by decide,Tryz.func158.trans (congrArg some (by kernel_rfl))⟩,
 f15:=Tryz.func115.trans (congrArg some (by kernel_rfl)),
 f20:=⟨Tryz.f175.name,by decide,Tryz.func175.trans (congrArg some (by kernel_rfl))⟩,
 f21:=⟨Tryz.f176.name,by decide,Tryz.func176.trans (congrArg some (by kernel_rfl))⟩,
 f22:=⟨Tryz.f177.name,by decide,Tryz.func177.trans (congrArg some (by kernel_rfl))⟩,
 f23:=⟨Tryz.f178.name,by decide,Tryz.func178.trans (congrArg some (by kernel_rfl))⟩,
 f24:=⟨Tryz.f179.name,by decide,Tryz.func179.trans (congrArg some (by kernel_rfl))⟩,
 f25:=⟨Tryz.f180.name,by decide,Tryz.func180.trans (congrArg some (by kernel_rfl))⟩,
 f26:=⟨Tryz.f181.name,by decide,Tryz.func181.trans (congrArg some (by kernel_rfl))⟩,
 f27:=⟨Tryz.f182.name,by decide,Tryz.func182.trans (congrArg some (by kernel_rfl))⟩,
 f28:=Tryz.func147.trans (congrArg some (by kernel_rfl)),
 f29:=Tryz.func148.trans (congrArg some (by kernel_rfl)),
 f46:=⟨Tryz.f190.name,by decide,Tryz.func190.trans (congrArg some (by kernel_rfl))⟩,
 f47:=Tryz.func164.trans (congrArg some (by kernel_rfl)),
 f48:=Tryz.func165.trans (congrArg some (by kernel_rfl)),
 f49:=⟨Tryz.f191.name,by decide,Tryz.func191.trans (congrArg some (by kernel_rfl))⟩,
 f50:=⟨Tryz.f192.name,by decide,Tryz.func192.trans (congrArg some (by kernel_rfl))⟩,
 f57:=⟨Tryz.f193.name,by decide,Tryz.func193.trans (congrArg some (by kernel_rfl))⟩,
 t0:=Tryz.underlying0,
 a0:=Tryz.isAgg0,
 z0:=Tryz.sizeOf0,
 v0:=Tryz.zeroValue0,
 t3:=Tryz.underlying3,
 a3:=Tryz.isAgg3,
 z3:=Tryz.sizeOf3,
 v3:=Tryz.zeroValue3,
 t4:=Tryz.underlying4,
 a4:=Tryz.isAgg4,
 z4:=Tryz.sizeOf4,
 v4:=Tryz.zeroValue4,
 t5:=Tryz.underlying5,
 a5:=Tryz.isAgg5,
 z5:=Tryz.sizeOf5,
 v5:=Tryz.zeroValue5,
 t9:=Tryz.underlying9,
 a9:=Tryz.isAgg9,
 z9:=Tryz.sizeOf9,
 v9:=Tryz.zeroValue9,
 t22:=Tryz.underlying146,
 a22:=Tryz.isAgg146,
 z22:=Tryz.sizeOf146,
 v22:=Tryz.zeroValue146,
 t25:=Tryz.underlying175,
 a25:=Tryz.isAgg175,
 z25:=Tryz.sizeOf175,
 v25:=Tryz.zeroValue175,
 t39:=Tryz.underlying160,
 a39:=Tryz.isAgg160,
 z39:=Tryz.sizeOf160,
 v39:=Tryz.zeroValue160,
 t45:=Tryz.underlying179,
 a45:=Tryz.isAgg179,
 z45:=Tryz.sizeOf179,
 v45:=Tryz.zeroValue179,
 t46:=Tryz.underlying180,
 a46:=Tryz.isAgg180,
 z46:=Tryz.sizeOf180,
 v46:=Tryz.zeroValue180,
 t50:=Tryz.underlying185,
 a50:=Tryz.isAgg185,
 z50:=Tryz.sizeOf185,
 v50:=Tryz.zeroValue185,
 t53:=Tryz.underlying188,
 a53:=Tryz.isAgg188,
 z53:=Tryz.sizeOf188,
 v53:=Tryz.zeroValue188,
 t55:=Tryz.underlying190,
 a55:=Tryz.isAgg190,
 z55:=Tryz.sizeOf190,
 v55:=Tryz.zeroValue190,
 t66:=Tryz.underlying202,
 a66:=Tryz.isAgg202,
 z66:=Tryz.sizeOf202,
 v66:=Tryz.zeroValue202,
 t70:=Tryz.underlying206,
 a70:=Tryz.isAgg206,
 z70:=Tryz.sizeOf206,
 v70:=Tryz.zeroValue206,
 t76:=Tryz.underlying221,
 a76:=Tryz.isAgg221,
 z76:=Tryz.sizeOf221,
 v76:=Tryz.zeroValue221,
 t77:=Tryz.underlying222,
 a77:=Tryz.isAgg222,
 z77:=Tryz.sizeOf222,
 v77:=Tryz.zeroValue222 }
instance:FlatE RegionSpan:=FlatE.ofMap fun x:RegionSpan=>(x.from_,x.to_)
/-- What the comparison of two elements hands back. -/
def spanCmp (x y:RegionSpan):Int:=if x.from_ < y.from_ then -1 else if y.from_ < x.from_ then 1 else 0
theorem region_column_1_val (x y:RegionSpan):region_column_1 x y = some (spanCmp x y):=by
 unfold region_column_1 cmp_Compare_int cmp_isNaN_int spanCmp
 by_cases h:x.from_ < y.from_
 ·simp [h]
 ·by_cases h2:y.from_ < x.from_ <;> simp [h,h2]
theorem ltOf_span (x y:RegionSpan):ltOf spanCmp x y = decide (x.from_ < y.from_):=by
 unfold ltOf spanCmp
 congr 1
 rw [eq_iff_iff]
 split
 ·simp [*]
 ·split <;> simp [*]
theorem spanCmp_swo:SWO (ltOf spanCmp):=by
 constructor <;> simp only [ltOf_span,decide_eq_true_eq,decide_eq_false_iff_not] <;> intros <;> omega
def sortSpans (l:List RegionSpan):Option (List RegionSpan):=if l.length ≤ 1073741824 then some (pdq (ltOf spanCmp) l.toArray 0 l.toArray.size (Lib.bitLen l.toArray.size) true true).toList else none
theorem sortSpans_spec {l:List RegionSpan} (h:l.length ≤ 1000000) : ∃ r,sortSpans l = some r∧r.Perm l∧r.Pairwise fun a b=>a.from_ ≤ b.from_:=by
 obtain ⟨⟨h1,_,h2⟩,h3⟩:=pdq_sorts (ltOf spanCmp) spanCmp_swo l.toArray 0 l.toArray.size (Lib.bitLen l.toArray.size) true true (Nat.zero_le _) (Nat.le_refl _) (Or.inl rfl)
 refine ⟨_,if_pos (by omega),?_,?_⟩
 ·generalize pdq (ltOf spanCmp) l.toArray 0 l.toArray.size (Lib.bitLen l.toArray.size) true true = r at h1 h2
  have e:r.extract 0 l.toArray.size = r:=by rw [← h1]; simp
  rw [e] at h2
  simpa using h2
 ·rw [List.pairwise_iff_getElem]
  intro i j hi hj hij
  have:=h3 i j (Nat.zero_le _) hij (by rw [← h1]; simpa using hj)
  rw [getElem!_pos _ j (by simpa using hj),getElem!_pos _ i (by simpa using hi)] at this
  rw [ltOf_span,decide_eq_false_iff_not] at this
  simp only [Array.getElem_toList]
  omega
theorem pdq_size_span (d:Array RegionSpan):(pdq (ltOf spanCmp) d 0 d.size (Lib.bitLen d.size) true true).size = d.size:=
 (pdq_sorts (ltOf spanCmp) spanCmp_swo d 0 d.size (Lib.bitLen d.size) true true (Nat.zero_le _) (Nat.le_refl _) (Or.inl rfl)).1.1
set_option maxHeartbeats 2000000 in
theorem sortSpans_ok {k0:K} {v0:Value} {l r:List RegionSpan} (i0:IsOwn 0 148 l v0 k0) (hr:sortSpans l = some r) :
  Calls Tryz.prog 134 #[v0,.func (.func 135) #[] #[]] k0.w (RetC (obF v0) k0 fun _ k'=>IsOwn 0 148 r v0 k'):=by
 unfold sortSpans at hr
 split at hr
 ·rename_i h12
  obtain rfl:=Option.some.inj hr
  refine sort_own (S:=fun d=>pdq (ltOf spanCmp) d 0 d.size (Lib.bitLen d.size) true true) pdq_size_span (fun p cap w=>?_) (fun blk off cap w hH hblk=>?_) i0
  ·have hcon:=AnyF.slices_SortFunc_none { Tryz.sortSpansL with } p cap (.func (.func 135) #[] #[]) w
   change Calls Tryz.prog 134 _ _ _ at hcon
   exact hcon
  ·have hcon:=AnyQ.slices_SortFunc_eq Tryz.sortSpansL 2 Tryz.isAgg148 Tryz.sizeOf148 (FlatE.enc (α:=RegionSpan)) (fun _=>rfl) (fun x v hv=>flat_one k0 x v hv) spanCmp spanCmp_swo 135 #[] blk off cap l.toArray w (enters_of Tryz.func135 (by kernel_rfl) rfl)
    (fun _ _ _ _ x y=>ret_cmp (k:=kFree _) (region_column_1_ok (isV_flat rfl x _) (isV_flat rfl y _) (region_column_1_val x y))) hH hblk (by simp; omega)
   change Calls Tryz.prog 134 _ _ _ at hcon
   exact hcon
 ·simp at hr
end
noncomputable def kr134:FkR tb Tryz.prog:=⟨134,fnT tb [.tu,.fn 135] 148 (.st 1) (fun x y=>sortSpans y),fnT_ok Tryz.call134 fun k0 vs u1 u2 x y r hG h hy hr=>by obtain ⟨vs0,rfl,h1⟩:=h.tu; obtain ⟨vs1,rfl,h2⟩:=h1.fn; obtain rfl:=h2.nil; exact sortSpans_ok hy hr⟩
def region_column_L0 (l_:(List Rect)) (x_:Int) (s1:(List RegionSpan) × Int):Option (Flow ((List RegionSpan) × Int) ((List RegionSpan))):=
 if (decide (s1.2 < (l_.length:Int))) then
  (getI l_ s1.2).bind fun x1=>
  (if ((decide (x1.X0 ≤ x_)) && (decide (x_ < x1.X1))) then
   (appI s1.1 ([(⟨x1.Y0,x1.Y1⟩:RegionSpan)])).bind fun x2=>
   some x2
  else
   some s1.1).bind fun s2=>
  (addI s1.2 1).bind fun x3=>
  some (.go (s2,x3))
 else
  some (.ex 0 (s1.1,s1.2))
def region_column_L1 (x1:(List RegionSpan)) (s1:(List RegionSpan) × Int):Option (Flow ((List RegionSpan) × Int) ((List RegionSpan))):=
 if (decide (s1.2 < (x1.length:Int))) then
  (getI x1 s1.2).bind fun x2=>
  (if (decide (0 < (s1.1.length:Int))) then
   (subI (s1.1.length:Int) 1).bind fun x3=>
   (getI s1.1 x3).bind fun x4=>
   some (decide (x2.from_ ≤ x4.to_))
  else
   some false).bind fun x5=>
  (if x5 then
   (subI (s1.1.length:Int) 1).bind fun x6=>
   (subI (s1.1.length:Int) 1).bind fun x7=>
   (getI s1.1 x7).bind fun x8=>
   (getI s1.1 x6).bind fun x9=>
   (some (s1.1.set (x6).toNat ({ x9 with to_:=(max x8.to_ x2.to_) }))).bind fun x10=>
   some x10
  else
   (appI s1.1 ([x2])).bind fun x11=>
   some x11).bind fun s2=>
  (addI s1.2 1).bind fun x12=>
  some (.go (s2,x12))
 else
  some (.ex 2 (s1.1,s1.2))
def region_column (l_:(List Rect)) (x_:Int):Option ((List RegionSpan)):=
 (iterL (region_column_L0 l_ x_) (l_.length + 1) (([]:List RegionSpan),0)).bind fun f1=>match f1 with
  | .go _=>none
  | .ex _ s1 =>
   (sortSpans s1.1).bind fun x1=>
   (iterL (region_column_L1 x1) (x1.length + 1) (([]:List RegionSpan),0)).bind fun f2=>match f2 with
    | .go _=>none
    | .ex _ s2=>
     some s2.1
    | .ret r1=>some r1
  | .ret r2=>some r2
noncomputable def k108:=mkc 108 [.list (.st 0),.int] [.list (.st 1)] (fun x=>region_column x.1 x.2) [] [kr134] [5,8,28,35,37,74,77] Tryz.f108 (.s .n (.s .n (.s (.s .n (.l [] [(5,.o 148 (.st 1)),(14,.v .int)] [(0,[14],[])] (fI 13) (.s .n (.s .n (.s (.s .n (.s .n (.j [] [(5,.o 148 (.st 1))] ([],[]) (.s .n .n)))) .n))))) (.s .n (.s (.f [5] .n) (.s (.s (.f [5] .n) (.l [] [(8,.o 148 (.st 1)),(41,.v .int)] [(2,[41],[])] (fI 40) (.s .n (.s .n (.s (.s .n (.s .n (.s .n (.j [] [(8,.o 148 (.st 1))] ([],[]) (.s .n .n))))) .n))))) (.s (.f [8] .n) .n))))))) Tryz.func108 Tryz.call108 rfl rfl fun x=>by kernel_rfl
def region_strips_L0 (x1:(List Rect)) (s1:(List Int) × Int):Option (Flow ((List Int) × Int) ((List RegionStrip))):=
 if (decide (s1.2 < (x1.length:Int))) then
  (getI x1 s1.2).bind fun x2=>
  (appI s1.1 ([x2.X0,x2.X1])).bind fun x3=>
  (addI s1.2 1).bind fun x4=>
  some (.go (x3,x4))
 else
  some (.ex 0 (s1.1,s1.2))
def region_strips_L1 (x1:(List Rect)) (x2:(List Int)) (s1:(List RegionStrip) × Int):Option (Flow ((List RegionStrip) × Int) ((List RegionStrip))):=
 if (decide (s1.2 < (x2.length:Int))) then
  (subI s1.2 1).bind fun x3=>
  (getI x2 x3).bind fun x4=>
  (getI x2 s1.2).bind fun x5=>
  (subI s1.2 1).bind fun x6=>
  (getI x2 x6).bind fun x7=>
  (region_column x1 x7).bind fun x8=>
  (appI s1.1 ([(⟨x4,x5,x8⟩:RegionStrip)])).bind fun x9=>
  (addI s1.2 1).bind fun x10=>
  some (.go (x9,x10))
 else
  some (.ex 2 (s1.1,s1.2))
def region_strips (lists_:(List (List Rect))):Option ((List RegionStrip)):=
 (slices_Concat_Rect lists_).bind fun x1=>
 (iterL (region_strips_L0 x1) (x1.length + 1) (([]:List Int),0)).bind fun f1=>match f1 with
  | .go _=>none
  | .ex _ s1 =>
   (sortInts s1.1).bind fun x2=>
   (compactInts x2).bind fun x3=>
   (iterL (region_strips_L1 x1 x3) (x1.length + x3.length + ([]:List RegionStrip).length + 1) (([]:List RegionStrip),1)).bind fun f2=>match f2 with
    | .go _=>none
    | .ex _ s2=>
     some s2.1
    | .ret r1=>some r1
  | .ret r2=>some r2
noncomputable def k68:=mkc 68 [.list (.list (.st 0))] [.list (.st 2)] (fun x=>region_strips x) [k107,k108] [kr78,kr79] [2,4,7,17,23,25,27,35,54,55] Tryz.f68 (.s .n (.s .n (.s .n (.s (.s .n (.l [] [(4,.o 3 .int),(13,.v .int)] [(0,[13],[])] (fI 12) .n)) (.s .n (.s .n (.s (.f [4] .n) (.s (.s (.f [4] .n) (.l [] [(7,.o 150 (.st 2)),(8,.v .int)] [(2,[8],[])] (fL [3,4,7]) (.s (.s (.f [4] .n) .n) (.s (.f [4] .n) (.f [4] .n))))) .n)))))))) Tryz.func68 Tryz.call68 rfl rfl fun x=>by kernel_rfl
def slices_Equal_span_L0 (s1_:(List RegionSpan)) (s2_:(List RegionSpan)) (s1:Int):Option (Flow (Int) (Bool)):=
 if (decide (s1 < (s1_.length:Int))) then
  (getI s1_ s1).bind fun x1=>
  (getI s2_ s1).bind fun x2=>
  if (!decide (x1 = x2)) then
   some (.ret false)
  else
   (addI s1 1).bind fun x3=>
   some (.go x3)
 else
  some (.ex 0 s1)
def slices_Equal_span (s1_:(List RegionSpan)) (s2_:(List RegionSpan)):Option (Bool):=
 if ((s1_.length:Int) != (s2_.length:Int)) then
  some false
 else
  (iterL (slices_Equal_span_L0 s1_ s2_) (s1_.length + 1) 0).bind fun f1=>match f1 with
   | .go _=>none
   | .ex _ _=>
    some true
   | .ret r1=>some r1
noncomputable def k106:=mk 106 [.list (.st 1),.list (.st 1)] [.bool] (fun x=>slices_Equal_span x.1 x.2) [] [] Tryz.f106 (.s .n (.s .n (.s (.s .n (.l [] [(13,.v .int)] [(0,[13],[])] (fI 12) .n)) .n))) Tryz.func106 Tryz.call106 rfl rfl fun x=>by kernel_rfl
def region_write_L1 (l_:(List RegionStrip)) (s1:(List Rect) × Int) (s2:Int):Option (Flow (Int) ((List Rect))):=
 (if (decide (s2 < (l_.length:Int))) then
  (getI l_ s2).bind fun x1=>
  (getI l_ s1.2).bind fun x2=>
  (slices_Equal_span x1.column x2.column).bind fun x3=>
  some x3
 else
  some false).bind fun x4=>
 if x4 then
  (addI s2 1).bind fun x5=>
  some (.go x5)
 else
  some (.ex 2 s2)
def region_write_L2 (l_:(List RegionStrip)) (s1:(List Rect) × Int) (s2:Int) (x2:RegionStrip) (s3:(List Rect) × Int):Option (Flow ((List Rect) × Int) ((List Rect))):=
 if (decide (s3.2 < (x2.column.length:Int))) then
  (getI x2.column s3.2).bind fun x3=>
  (getI l_ s1.2).bind fun x4=>
  (subI s2 1).bind fun x5=>
  (getI l_ x5).bind fun x6=>
  (appI s3.1 ([(⟨x4.x0,x3.from_,x6.x1,x3.to_⟩:Rect)])).bind fun x7=>
  (addI s3.2 1).bind fun x8=>
  some (.go (x7,x8))
 else
  some (.ex 4 (s3.1,s3.2))
def region_write_L0 (l_:(List RegionStrip)) (s1:(List Rect) × Int):Option (Flow ((List Rect) × Int) ((List Rect))):=
 if (decide (s1.2 < (l_.length:Int))) then
  (addI s1.2 1).bind fun x1=>
  (iterL (region_write_L1 l_ s1) (l_.length + s1.1.length + 1) x1).bind fun f1=>match f1 with
   | .go _=>none
   | .ex _ s2 =>
    (getI l_ s1.2).bind fun x2=>
    (iterL (region_write_L2 l_ s1 s2 x2) (x2.column.length + 1) (s1.1,0)).bind fun f2=>match f2 with
     | .go _=>none
     | .ex _ s3=>
      some (.go (s3.1,s2))
     | .ret r1=>some (.ret r1)
   | .ret r2=>some (.ret r2)
 else
  some (.ex 0 (s1.1,s1.2))
def region_write (l_:(List RegionStrip)):Option ((List Rect)):=
 (iterL (region_write_L0 l_) (l_.length + ([]:List Rect).length + 1) (([]:List Rect),0)).bind fun f1=>match f1 with
  | .go _=>none
  | .ex _ s1=>
   some s1.1
  | .ret r1=>some r1
noncomputable def k67:=mk 67 [.list (.st 2)] [.list (.st 0)] (fun x=>region_write x) [k106] [3,43,61] Tryz.f67 (.s .n (.s .n (.s (.s .n (.l [] [(3,.o 47 (.st 0)),(4,.v .int)] [(0,[4],[])] (fL [0,3]) (.s .n (.s .n (.s (.l [] [(5,.v .int)] [(2,[],[])] (fL [0,3]) .n) (.s (.s .n (.l [] [(3,.o 47 (.st 0)),(39,.v .int)] [(4,[39],[])] (fI 38) .n)) .n)))))) (.s (.f [3] .n) .n)))) Tryz.func67 Tryz.call67 rfl rfl fun x=>by kernel_rfl
def region_limited (l_:(List Rect)):Option ((List Rect) × Int):=
 if (decide (200 < (l_.length:Int))) then
  some (([]:List Rect),6)
 else
  some (l_,0)
noncomputable def k66:=mk 66 [.list (.st 0)] [.list (.st 0),.int] (fun x=>region_limited x) [] [] Tryz.f66 (.n) Tryz.func66 Tryz.call66 rfl rfl fun x=>by kernel_rfl
def region_Of_L0 (l_:(List Rect)) (s1:Int):Option (Flow (Int) ((List Rect) × Int)):=
 if (decide (s1 < (l_.length:Int))) then
  (getI l_ s1).bind fun x1=>
  (rect_Right x1).bind fun x2=>
  if (!x2) then
   some (.ret (([]:List Rect),1))
  else
   (addI s1 1).bind fun x3=>
   some (.go x3)
 else
  some (.ex 0 s1)
def region_Of (l_:(List Rect)):Option ((List Rect) × Int):=
 (iterL (region_Of_L0 l_) (l_.length + 1) 0).bind fun f1=>match f1 with
  | .go _=>none
  | .ex _ _ =>
   if (decide (400 < (l_.length:Int))) then
    some (([]:List Rect),6)
   else
    (region_strips ([l_])).bind fun x1=>
    (region_write x1).bind fun x2=>
    (region_limited x2).bind fun x3=>
    some (x3.1,x3.2)
  | .ret r1=>some r1
noncomputable def k27:=mk 27 [.list (.st 0)] [.list (.st 0),.int] (fun x=>region_Of x) [k55,k68,k67,k66] [] Tryz.f27 (.s .n (.s (.s .n (.l [] [(8,.v .int)] [(0,[8],[])] (fI 7) .n)) .n)) Tryz.func27 Tryz.call27 rfl rfl fun x=>by kernel_rfl
def slices_Equal_Rect_L0 (s1_:(List Rect)) (s2_:(List Rect)) (s1:Int):Option (Flow (Int) (Bool)):=
 if (decide (s1 < (s1_.length:Int))) then
  (getI s1_ s1).bind fun x1=>
  (getI s2_ s1).bind fun x2=>
  if (!decide (x1 = x2)) then
   some (.ret false)
  else
   (addI s1 1).bind fun x3=>
   some (.go x3)
 else
  some (.ex 0 s1)
def slices_Equal_Rect (s1_:(List Rect)) (s2_:(List Rect)):Option (Bool):=
 if ((s1_.length:Int) != (s2_.length:Int)) then
  some false
 else
  (iterL (slices_Equal_Rect_L0 s1_ s2_) (s1_.length + 1) 0).bind fun f1=>match f1 with
   | .go _=>none
   | .ex _ _=>
    some true
   | .ret r1=>some r1
noncomputable def k90:=mk 90 [.list (.st 0),.list (.st 0)] [.bool] (fun x=>slices_Equal_Rect x.1 x.2) [] [] Tryz.f90 (.s .n (.s .n (.s (.s .n (.l [] [(13,.v .int)] [(0,[13],[])] (fI 12) .n)) .n))) Tryz.func90 Tryz.call90 rfl rfl fun x=>by kernel_rfl
def region_Right (a_:(List Rect)):Option (Bool):=
 (region_Of a_).bind fun x1=>
 (if (x1.2 == 0) then
  (slices_Equal_Rect x1.1 a_).bind fun x2=>
  some x2
 else
  some false).bind fun x3=>
 some x3
noncomputable def k43:=mk 43 [.list (.st 0)] [.bool] (fun x=>region_Right x) [k27,k90] [] Tryz.f43 (.n) Tryz.func43 Tryz.call43 rfl rfl fun x=>by kernel_rfl
def drawing_Volumes_L0 (d_:Drawing) (from_:Int) (to_:Int) (s1:(List Volume) × Int):Option (Flow ((List Volume) × Int) ((List Volume))):=
 if (decide (s1.2 < (d_.Phases.length:Int))) then
  (getI d_.Phases s1.2).bind fun x1=>
  (if ((decide (from_ ≤ s1.2)) && (decide (s1.2 < to_))) then
   (appI s1.1 x1.Volumes).bind fun x2=>
   some x2
  else
   some s1.1).bind fun s2=>
  (addI s1.2 1).bind fun x3=>
  some (.go (s2,x3))
 else
  some (.ex 0 (s1.1,s1.2))
def drawing_Volumes (d_:Drawing) (from_:Int) (to_:Int):Option ((List Volume)):=
 (iterL (drawing_Volumes_L0 d_ from_ to_) (d_.Phases.length + 1) (([]:List Volume),0)).bind fun f1=>match f1 with
  | .go _=>none
  | .ex _ s1=>
   some s1.1
  | .ret r1=>some r1
noncomputable def k10:=mk 10 [.st 7,.int,.int] [.list (.st 3)] (fun x=>drawing_Volumes x.1 x.2.1 x.2.2) [] [7,26,29] Tryz.f10 (.s .n (.s .n (.s (.s .n (.l [] [(7,.o 51 (.st 3)),(13,.v .int)] [(0,[13],[])] (fI 12) (.s .n (.s .n (.s (.s .n (.s .n (.j [] [(7,.o 51 (.st 3))] ([],[]) (.s .n .n)))) .n))))) (.s (.f [7] .n) .n)))) Tryz.func10 Tryz.call10 rfl rfl fun x=>by kernel_rfl
def drawing_RightVolume (v_:Volume):Option (Bool):=
 (rect_Right v_.Box.Base).bind fun x1=>
 if ((((!x1) || (decide (v_.Box.Z0 < 0))) || (decide (v_.Box.Z1 ≤ v_.Box.Z0))) || (decide (4096 < v_.Box.Z1))) then
  some false
 else
  if ((v_.Use != 0) && (v_.Units != 0)) then
   some false
  else
   some ((((decide (0 ≤ v_.Use)) && (decide (v_.Use < 6))) && (decide (0 ≤ v_.Units))) && (decide (v_.Units ≤ 1048576)))
noncomputable def k20:=mk 20 [.st 3] [.bool] (fun x=>drawing_RightVolume x) [k55] [] Tryz.f20 (.n) Tryz.func20 Tryz.call20 rfl rfl fun x=>by kernel_rfl
def rect_checked (r_:Rect):Option (Rect × Bool):=
 (rect_Right r_).bind fun x1=>
 if x1 then
  some (r_,true)
 else
  some ((⟨0,0,0,0⟩:Rect),false)
noncomputable def k77:=mk 77 [.st 0] [.st 0,.bool] (fun x=>rect_checked x) [k55] [2] Tryz.f77 (.n) Tryz.func77 Tryz.call77 rfl rfl fun x=>by kernel_rfl
def rect_Area (r_:Rect):Option (Int):=
 (rect_checked r_).bind fun x1=>
 (subI x1.1.X1 x1.1.X0).bind fun x2=>
 (subI x1.1.Y1 x1.1.Y0).bind fun x3=>
 (mulI x2 x3).bind fun x4=>
 some x4
noncomputable def k33:=mk 33 [.st 0] [.int] (fun x=>rect_Area x) [k77] [1] Tryz.f33 (.n) Tryz.func33 Tryz.call33 rfl rfl fun x=>by kernel_rfl
def region_Area_L0 (a_:(List Rect)) (s1:Int × Int):Option (Flow (Int × Int) (Int)):=
 if (decide (s1.2 < (a_.length:Int))) then
  (getI a_ s1.2).bind fun x1=>
  (rect_Area x1).bind fun x2=>
  (addI s1.1 x2).bind fun x3=>
  (addI s1.2 1).bind fun x4=>
  some (.go (x3,x4))
 else
  some (.ex 0 (s1.1,s1.2))
def region_Area (a_:(List Rect)):Option (Int):=
 (region_Right a_).bind fun x1=>
 if (!x1) then
  some 0
 else
  (iterL (region_Area_L0 a_) (a_.length + 1) (0,0)).bind fun f1=>match f1 with
   | .go _=>none
   | .ex _ s1=>
    some s1.1
   | .ret r1=>some r1
noncomputable def k30:=mk 30 [.list (.st 0)] [.int] (fun x=>region_Area x) [k43,k33] [] Tryz.f30 (.s .n (.s .n (.s .n (.s (.s .n (.l [] [(3,.v .int),(11,.v .int)] [(0,[11],[])] (fI 10) .n)) .n)))) Tryz.func30 Tryz.call30 rfl rfl fun x=>by kernel_rfl
def measure_site_lot (s_:MeasureSite):Option (Int):=
 (region_Area s_.area).bind fun x1=>
 some x1
noncomputable def k44:=mk 44 [.rf (.st 10)] [.int] (fun x=>measure_site_lot x) [k30] [] Tryz.f44 (.n) Tryz.func44 Tryz.call44 rfl rfl fun x=>by kernel_rfl
def measure_site__cover_1 (a_:Rect) (b_:Rect):Option (Int):=
 (cmp_Compare_int a_.Y0 b_.Y0).bind fun x1=>
 some x1
noncomputable def k92:=mk 92 [.st 0,.st 0] [.int] (fun x=>measure_site__cover_1 x.1 x.2) [k93] [] Tryz.f92 (.n) Tryz.func92 Tryz.call92 rfl rfl fun x=>by kernel_rfl
theorem measure_site__cover_1_ok {k0:K} {v0 v1:Value} {x0:Rect} {x1:Rect} {r:Int} (i0:(IsV x0) v0 k0) (i1:(IsV x1) v1 k0) (hr:measure_site__cover_1 x0 x1 = some r):Calls Tryz.prog 92 #[v0,v1] k0.w (Ret k0 (IsV r)):=(k92.ok.ok k0 [v0,v1] (x0,x1) r (GOk.none (fun _=>rfl) fun _ e=>by cases e) ⟨i0,i1⟩ hr)
section
open Go.Proofs Go.RowKit Go.Lib Go.Sort Go.Shelf
def Tryz.sortRectsL_ren:Go.Shelf.Ren:=⟨fun | 6=>91 | 15=>115 | 14=>123 | 28=>147 | 29=>148 | 20=>149 | 21=>150 | 22=>151 | 23=>152 | 24=>153 | 25=>154 | 26=>155 | 27=>156 | 46=>168 | 47=>164 | 48=>165 | 49=>169 | 50=>170 | 57=>187 | n=>n,fun | 22=>31 | 24=>47 | 25=>139 | 3=>3 | 39=>160 | 0=>0 | 53=>188 | 55=>190 | 4=>4 | 46=>180 | 45=>179 | 50=>185 | 5=>5 | 9=>9 | 66=>202 | 70=>206 | 76=>221 | 77=>222 | n=>n,fun | n=>n⟩
theorem Tryz.sortRectsL:Go.Proofs.SlLaysF0.n6 Tryz.prog Tryz.sortRectsL_ren:={
 mixed:=by kernel_rfl,
 f6:=⟨Tryz.f91.name,by decide,Tryz.func91.trans (congrArg some (by kernel_rfl))⟩,
 f14:=⟨Tryz.f123.name,by decide,Tryz.func123.trans (congrArg some (by kernel_rfl))⟩,
 f15:=Tryz.func115.trans (congrArg some (by kernel_rfl)),
 f20:=⟨Tryz.f149.name,by decide,Tryz.func149.trans (congrArg some (by kernel_rfl))⟩,
 f21:=⟨Tryz.f150.name,by decide,Tryz.func150.trans (congrArg some (by kernel_rfl))⟩,
 f22:=⟨Tryz.f151.name,by decide,Tryz.func151.trans (congrArg some (by kernel_rfl))⟩,
 f23:=⟨Tryz.f152.name,by decide,Tryz.func152.trans (congrArg some (by kernel_rfl))⟩,
 f24:=⟨Tryz.f153.name,by decide,Tryz.func153.trans (congrArg some (by kernel_rfl))⟩,
 f25:=⟨Tryz.f154.name,by decide,Tryz.func154.trans (congrArg some (by kernel_rfl))⟩,
 f26:=⟨Tryz.f155.name,by decide,Tryz.func155.trans (congrArg some (by kernel_rfl))⟩,
 f27:=⟨Tryz.f156.name,by decide,Tryz.func156.trans (congrArg some (by kernel_rfl))⟩,
 f28:=Tryz.func147.trans (congrArg some (by kernel_rfl)),
 f29:=Tryz.func148.trans (congrArg some (by kernel_rfl)),
 f46:=⟨Tryz.f168.name,by decide,Tryz.func168.trans (congrArg some (by kernel_rfl))⟩,
 f47:=Tryz.func164.trans (congrArg some (by kernel_rfl)),
 f48:=Tryz.func165.trans (congrArg some (by kernel_rfl)),
 f49:=⟨Tryz.f169.name,by decide,Tryz.func169.trans (congrArg some (by kernel_rfl))⟩,
 f50:=⟨Tryz.f170.name,by decide,Tryz.func170.trans (congrArg some (by kernel_rfl))⟩,
 f57:=⟨Tryz.f187.name,by decide,Tryz.func187.trans (congrArg some (by kernel_rfl))⟩,
 t0:=Tryz.underlying0,
 a0:=Tryz.isAgg0,
 z0:=Tryz.sizeOf0,
 v0:=Tryz.zeroValue0,
 t3:=Tryz.underlying3,
 a3:=Tryz.isAgg3,
 z3:=Tryz.sizeOf3,
 v3:=Tryz.zeroValue3,
 t4:=Tryz.underlying4,
 a4:=Tryz.isAgg4,
 z4:=Tryz.sizeOf4,
 v4:=Tryz.zeroValue4,
 t5:=Tryz.underlying5,
 a5:=Tryz.isAgg5,
 z5:=Tryz.sizeOf5,
 v5:=Tryz.zeroValue5,
 t9:=Tryz.underlying9,
 a9:=Tryz.isAgg9,
 z9:=Tryz.sizeOf9,
 v9:=Tryz.zeroValue9,
 t22:=Tryz.underlying31,
 a22:=Tryz.isAgg31,
 z22:=Tryz.sizeOf31,
 v22:=Tryz.zeroValue31,
 t25:=Tryz.underlying139,
 a25:=Tryz.isAgg139,
 z25:=Tryz.sizeOf139,
 v25:=Tryz.zeroValue139,
 t39:=Tryz.underlying160,
 a39:=Tryz.isAgg160,
 z39:=Tryz.sizeOf160,
 v39:=Tryz.zeroValue160,
 t45:=Tryz.underlying179,
 a45:=Tryz.isAgg179,
 z45:=Tryz.sizeOf179,
 v45:=Tryz.zeroValue179,
 t46:=Tryz.underlying180,
 a46:=Tryz.isAgg180,
 z46:=Tryz.sizeOf180,
 v46:=Tryz.zeroValue180,
 t50:=Tryz.underlying185,
 a50:=Tryz.isAgg185,
 z50:=Tryz.sizeOf185,
 v50:=Tryz.zeroValue185,
 t53:=Tryz.underlying188,
 a53:=Tryz.isAgg188,
 z53:=Tryz.sizeOf188,
 v53:=Tryz.zeroValue188,
 t55:=Tryz.underlying190,
 a55:=Tryz.isAgg190,
 z55:=Tryz.sizeOf190,
 v55:=Tryz.zeroValue190,
 t66:=Tryz.underlying202,
 a66:=Tryz.isAgg202,
 z66:=Tryz.sizeOf202,
 v66:=Tryz.zeroValue202,
 t70:=Tryz.underlying206,
 a70:=Tryz.isAgg206,
 z70:=Tryz.sizeOf206,
 v70:=Tryz.zeroValue206,
 t76:=Tryz.underlying221,
 a76:=Tryz.isAgg221,
 z76:=Tryz.sizeOf221,
 v76:=Tryz.zeroValue221,
 t77:=Tryz.underlying222,
 a77:=Tryz.isAgg222,
 z77:=Tryz.sizeOf222,
 v77:=Tryz.zeroValue222 }
instance:FlatE Rect:=FlatE.ofMap fun x:Rect=>(x.X0,x.Y0,x.X1,x.Y1)
/-- What the comparison of two elements hands back. -/
def rectCmp (x y:Rect):Int:=if x.Y0 < y.Y0 then -1 else if y.Y0 < x.Y0 then 1 else 0
theorem measure_site__cover_1_val (x y:Rect):measure_site__cover_1 x y = some (rectCmp x y):=by
 unfold measure_site__cover_1 cmp_Compare_int cmp_isNaN_int rectCmp
 by_cases h:x.Y0 < y.Y0
 ·simp [h]
 ·by_cases h2:y.Y0 < x.Y0 <;> simp [h,h2]
theorem ltOf_rect (x y:Rect):ltOf rectCmp x y = decide (x.Y0 < y.Y0):=by
 unfold ltOf rectCmp
 congr 1
 rw [eq_iff_iff]
 split
 ·simp [*]
 ·split <;> simp [*]
theorem rectCmp_swo:SWO (ltOf rectCmp):=by
 constructor <;> simp only [ltOf_rect,decide_eq_true_eq,decide_eq_false_iff_not] <;> intros <;> omega
def sortRects (l:List Rect):Option (List Rect):=if l.length ≤ 1073741824 then some (pdq (ltOf rectCmp) l.toArray 0 l.toArray.size (Lib.bitLen l.toArray.size) true true).toList else none
theorem sortRects_spec {l:List Rect} (h:l.length ≤ 1000000) : ∃ r,sortRects l = some r∧r.Perm l∧r.Pairwise fun a b=>a.Y0 ≤ b.Y0:=by
 obtain ⟨⟨h1,_,h2⟩,h3⟩:=pdq_sorts (ltOf rectCmp) rectCmp_swo l.toArray 0 l.toArray.size (Lib.bitLen l.toArray.size) true true (Nat.zero_le _) (Nat.le_refl _) (Or.inl rfl)
 refine ⟨_,if_pos (by omega),?_,?_⟩
 ·generalize pdq (ltOf rectCmp) l.toArray 0 l.toArray.size (Lib.bitLen l.toArray.size) true true = r at h1 h2
  have e:r.extract 0 l.toArray.size = r:=by rw [← h1]; simp
  rw [e] at h2
  simpa using h2
 ·rw [List.pairwise_iff_getElem]
  intro i j hi hj hij
  have:=h3 i j (Nat.zero_le _) hij (by rw [← h1]; simpa using hj)
  rw [getElem!_pos _ j (by simpa using hj),getElem!_pos _ i (by simpa using hi)] at this
  rw [ltOf_rect,decide_eq_false_iff_not] at this
  simp only [Array.getElem_toList]
  omega
theorem pdq_size_rect (d:Array Rect):(pdq (ltOf rectCmp) d 0 d.size (Lib.bitLen d.size) true true).size = d.size:=
 (pdq_sorts (ltOf rectCmp) rectCmp_swo d 0 d.size (Lib.bitLen d.size) true true (Nat.zero_le _) (Nat.le_refl _) (Or.inl rfl)).1.1
set_option maxHeartbeats 2000000 in
theorem sortRects_ok {k0:K} {v0:Value} {l r:List Rect} (i0:IsOwn 0 47 l v0 k0) (hr:sortRects l = some r) :
  Calls Tryz.prog 91 #[v0,.func (.func 92) #[] #[]] k0.w (RetC (obF v0) k0 fun _ k'=>IsOwn 0 47 r v0 k'):=by
 unfold sortRects at hr
 split at hr
 ·rename_i h12
  obtain rfl:=Option.some.inj hr
  refine sort_own (S:=fun d=>pdq (ltOf rectCmp) d 0 d.size (Lib.bitLen d.size) true true) pdq_size_rect (fun p cap w=>?_) (fun blk off cap w hH hblk=>?_) i0
  ·have hcon:=AnyF.slices_SortFunc_none { Tryz.sortRectsL with } p cap (.func (.func 92) #[] #[]) w
   change Calls Tryz.prog 91 _ _ _ at hcon
   exact hcon
  ·have hcon:=AnyQ.slices_SortFunc_eq Tryz.sortRectsL 4 Tryz.isAgg47 Tryz.sizeOf47 (FlatE.enc (α:=Rect)) (fun _=>rfl) (fun x v hv=>flat_one k0 x v hv) rectCmp rectCmp_swo 92 #[] blk off cap l.toArray w (enters_of Tryz.func92 (by kernel_rfl) rfl)
    (fun _ _ _ _ x y=>ret_cmp (k:=kFree _) (measure_site__cover_1_ok (isV_flat rfl x _) (isV_flat rfl y _) (measure_site__cover_1_val x y))) hH hblk (by simp; omega)
   change Calls Tryz.prog 91 _ _ _ at hcon
   exact hcon
 ·simp at hr
end
noncomputable def kr91:FkR tb Tryz.prog:=⟨91,fnT tb [.tu,.fn 92] 47 (.st 0) (fun x y=>sortRects y),fnT_ok Tryz.call91 fun k0 vs u1 u2 x y r hG h hy hr=>by obtain ⟨vs0,rfl,h1⟩:=h.tu; obtain ⟨vs1,rfl,h2⟩:=h1.fn; obtain rfl:=h2.nil; exact sortRects_ok hy hr⟩
def measure_site_cover_L0 (s_:MeasureSite) (s1:(List Int) × (List Rect) × Int):Option (Flow ((List Int) × (List Rect) × Int) (Int)):=
 if (decide (s1.2.2 < (s_.volumes.length:Int))) then
  (getI s_.volumes s1.2.2).bind fun x1=>
  (getI s1.2.1 s1.2.2).bind fun x2=>
  (some (s1.2.1.set (s1.2.2).toNat x1.Box.Base)).bind fun x3=>
  (getI x3 s1.2.2).bind fun x4=>
  (getI x3 s1.2.2).bind fun x5=>
  (appI s1.1 ([x4.X0,x5.X1])).bind fun x6=>
  (addI s1.2.2 1).bind fun x7=>
  some (.go (x6,x3,x7))
 else
  some (.ex 0 (s1.1,s1.2.1,s1.2.2))
def measure_site_cover_L2 (x1:(List Rect)) (x2:(List Int)) (s1:Int × Int) (s2:Int × Int × Int):Option (Flow (Int × Int × Int) (Int)):=
 if (decide (s2.2.2 < (x1.length:Int))) then
  (getI x1 s2.2.2).bind fun x3=>
  (getI x2 s1.2).bind fun x4=>
  (if (decide (x3.X0 ≤ x4)) then
   (getI x2 s1.2).bind fun x5=>
   some (decide (x5 < x3.X1))
  else
   some false).bind fun x6=>
  (if (x6 && (decide (s2.2.1 < x3.Y1))) then
   (addI s1.2 1).bind fun x7=>
   (getI x2 x7).bind fun x8=>
   (getI x2 s1.2).bind fun x9=>
   (subI x8 x9).bind fun x10=>
   (subI x3.Y1 (max s2.2.1 x3.Y0)).bind fun x11=>
   (mulI x10 x11).bind fun x12=>
   (addI s2.1 x12).bind fun x13=>
   some (x13,x3.Y1)
  else
   some (s2.1,s2.2.1)).bind fun s3=>
  (addI s2.2.2 1).bind fun x14=>
  some (.go (s3.1,s3.2,x14))
 else
  some (.ex 4 (s2.1,s2.2.1,s2.2.2))
def measure_site_cover_L1 (x1:(List Rect)) (x2:(List Int)) (x3:Int) (s1:Int × Int):Option (Flow (Int × Int) (Int)):=
 if (decide (s1.2 < (max 0 x3))) then
  (iterL (measure_site_cover_L2 x1 x2 s1) (x1.length + 1) (s1.1,0,0)).bind fun f1=>match f1 with
   | .go _=>none
   | .ex _ s2=>
    (addI s1.2 1).bind fun x4=>
    some (.go (s2.1,x4))
   | .ret r1=>some (.ret r1)
 else
  some (.ex 2 (s1.1,s1.2))
def measure_site_cover (s_:MeasureSite):Option (Int):=
 (makeI (s_.volumes.length:Int) (⟨0,0,0,0⟩:Rect)).bind fun x1=>
 (iterL (measure_site_cover_L0 s_) (s_.volumes.length + 1) (([]:List Int),x1,0)).bind fun f1=>match f1 with
  | .go _=>none
  | .ex _ s1 =>
   (sortRects s1.2.1).bind fun x2=>
   (sortInts s1.1).bind fun x3=>
   (subI (x3.length:Int) 1).bind fun x4=>
   (iterL (measure_site_cover_L1 x2 x3 x4) ((max 0 x4).toNat + 1) (0,0)).bind fun f2=>match f2 with
    | .go _=>none
    | .ex _ s2=>
     some s2.1
    | .ret r1=>some r1
  | .ret r2=>some r2
noncomputable def k45:=mkc 45 [.rf (.st 10)] [.int] (fun x=>measure_site_cover x) [] [kr91,kr78] [3,4,17,34,46,48,50] Tryz.f45 (.s .n (.s .n (.s .n (.s (.s .n (.l [] [(3,.o 3 .int),(4,.o 47 (.st 0)),(23,.v .int)] [(0,[23],[])] (fI 22) .n)) (.s .n (.s (.f [4] .n) (.s (.f [3,4] .n) (.s (.s (.f [3,4] .n) (.l [] [(7,.v .int),(56,.v .int)] [(2,[56],[])] (fI 55) (.s (.f [3,4] .n) (.s .n (.s (.s (.f [3,4] .n) (.s (.f [3,4] .n) (.s (.f [3,4] .n) (.l [] [(7,.v .int),(9,.v .int),(61,.v .int)] [(4,[9,61],[])] (fI 60) (.s (.f [3,4] .n) (.s .n (.s (.s (.f [3,4] .n) (.s (.f [3,4] .n) (.j [] [(7,.v .int),(9,.v .int)] ([],[]) (.s (.s (.f [3,4] .n) (.f [3,4] .n)) .n)))) (.f [3,4] .n)))))))) (.f [3,4] .n)))))) .n)))))))) Tryz.func45 Tryz.call45 rfl rfl fun x=>by kernel_rfl
def measure_site_sum_L0 (s_:MeasureSite) (f_:(Volume → Option (Int))) (s1:Int × Int):Option (Flow (Int × Int) (Int)):=
 if (decide (s1.2 < (s_.volumes.length:Int))) then
  (getI s_.volumes s1.2).bind fun x1=>
  (f_ x1).bind fun x2=>
  (addI s1.1 x2).bind fun x3=>
  (addI s1.2 1).bind fun x4=>
  some (.go (x3,x4))
 else
  some (.ex 0 (s1.1,s1.2))
def measure_site_sum (s_:MeasureSite) (f_:(Volume → Option (Int))):Option (Int):=
 (iterL (measure_site_sum_L0 s_ f_) (s_.volumes.length + 1) (0,0)).bind fun f1=>match f1 with
  | .go _=>none
  | .ex _ s1=>
   some s1.1
  | .ret r1=>some r1
noncomputable def k94:=mk 94 [.rf (.st 10),.f1 (.st 3) .int] [.int] (fun x=>measure_site_sum x.1 x.2) [] [] Tryz.f94 (.s .n (.s .n (.s (.s .n (.l [] [(5,.v .int),(13,.v .int)] [(0,[13],[])] (fI 12) .n)) .n))) Tryz.func94 Tryz.call94 rfl rfl fun x=>by kernel_rfl
def measure_Storeys (v_:Volume):Option (Int):=
 (if v_.Extra then
  some true
 else
  (drawing_RightVolume v_).bind fun x1=>
  some (!x1)).bind fun x2=>
 if x2 then
  some 0
 else
  (subI v_.Box.Z1 v_.Box.Z0).bind fun x3=>
  (addI x3 3).bind fun x4=>
  (subI x4 1).bind fun x5=>
  (quoI x5 3).bind fun x6=>
  some x6
noncomputable def k11:=mk 11 [.st 3] [.int] (fun x=>measure_Storeys x) [k20] [] Tryz.f11 (.n) Tryz.func11 Tryz.call11 rfl rfl fun x=>by kernel_rfl
def measure_Floor (v_:Volume):Option (Int):=
 (drawing_RightVolume v_).bind fun x1=>
 if (!x1) then
  some 0
 else
  (rect_Area v_.Box.Base).bind fun x2=>
  (measure_Storeys v_).bind fun x3=>
  (mulI x2 x3).bind fun x4=>
  some x4
noncomputable def k13:=mk 13 [.st 3] [.int] (fun x=>measure_Floor x) [k20,k33,k11] [] Tryz.f13 (.n) Tryz.func13 Tryz.call13 rfl rfl fun x=>by kernel_rfl
def measure_site_floor (s_:MeasureSite):Option (Int):=
 (measure_site_sum s_ measure_Floor).bind fun x1=>
 some x1
noncomputable def k46:=mk 46 [.rf (.st 10)] [.int] (fun x=>measure_site_floor x) [k94,k13] [] Tryz.f46 (.n) Tryz.func46 Tryz.call46 rfl rfl fun x=>by kernel_rfl
def measure_site_greatest_L0 (s_:MeasureSite) (f_:(Volume → Option (Int))) (s1:Int × Int):Option (Flow (Int × Int) (Int)):=
 if (decide (s1.2 < (s_.volumes.length:Int))) then
  (getI s_.volumes s1.2).bind fun x1=>
  (f_ x1).bind fun x2=>
  (addI s1.2 1).bind fun x3=>
  some (.go ((max s1.1 x2),x3))
 else
  some (.ex 0 (s1.1,s1.2))
def measure_site_greatest (s_:MeasureSite) (f_:(Volume → Option (Int))):Option (Int):=
 (iterL (measure_site_greatest_L0 s_ f_) (s_.volumes.length + 1) (0,0)).bind fun f1=>match f1 with
  | .go _=>none
  | .ex _ s1=>
   some s1.1
  | .ret r1=>some r1
noncomputable def k95:=mk 95 [.rf (.st 10),.f1 (.st 3) .int] [.int] (fun x=>measure_site_greatest x.1 x.2) [] [] Tryz.f95 (.s .n (.s .n (.s (.s .n (.l [] [(5,.v .int),(13,.v .int)] [(0,[13],[])] (fI 12) .n)) .n))) Tryz.func95 Tryz.call95 rfl rfl fun x=>by kernel_rfl
def measure_site_floors (s_:MeasureSite):Option (Int):=
 (measure_site_greatest s_ measure_Storeys).bind fun x1=>
 some x1
noncomputable def k47:=mk 47 [.rf (.st 10)] [.int] (fun x=>measure_site_floors x) [k95,k11] [] Tryz.f47 (.n) Tryz.func47 Tryz.call47 rfl rfl fun x=>by kernel_rfl
def measure_site__height_1 (v_:Volume):Option (Int):=
 some v_.Box.Z1
noncomputable def k96:=mk 96 [.st 3] [.int] (fun x=>measure_site__height_1 x) [] [] Tryz.f96 (.n) Tryz.func96 Tryz.call96 rfl rfl fun x=>by kernel_rfl
def measure_site_height (s_:MeasureSite):Option (Int):=
 (measure_site_greatest s_ measure_site__height_1).bind fun x1=>
 some x1
noncomputable def k48:=mk 48 [.rf (.st 10)] [.int] (fun x=>measure_site_height x) [k95,k96] [] Tryz.f48 (.n) Tryz.func48 Tryz.call48 rfl rfl fun x=>by kernel_rfl
def measure_site__homes_1 (v_:Volume):Option (Int):=
 some v_.Units
noncomputable def k97:=mk 97 [.st 3] [.int] (fun x=>measure_site__homes_1 x) [] [] Tryz.f97 (.n) Tryz.func97 Tryz.call97 rfl rfl fun x=>by kernel_rfl
def measure_site_homes (s_:MeasureSite):Option (Int):=
 (measure_site_sum s_ measure_site__homes_1).bind fun x1=>
 some x1
noncomputable def k49:=mk 49 [.rf (.st 10)] [.int] (fun x=>measure_site_homes x) [k94,k97] [] Tryz.f49 (.n) Tryz.func49 Tryz.call49 rfl rfl fun x=>by kernel_rfl
def measure_grown (r_:Rect) (n_:Int):Option (Rect × Bool):=
 (subI r_.X0 n_).bind fun x1=>
 (subI r_.Y0 n_).bind fun x2=>
 (addI r_.X1 n_).bind fun x3=>
 (addI r_.Y1 n_).bind fun x4=>
 (rect_Right (⟨x1,x2,x3,x4⟩:Rect)).bind fun x5=>
 some ((⟨x1,x2,x3,x4⟩:Rect),x5)
noncomputable def k125:=mk 125 [.st 0,.int] [.st 0,.bool] (fun x=>measure_grown x.1 x.2) [k55] [4] Tryz.f125 (.n) Tryz.func125 Tryz.call125 rfl rfl fun x=>by kernel_rfl
def rect_Intersect (a_:Rect) (b_:Rect):Option (Rect × Bool):=
 (rect_Right a_).bind fun x1=>
 (if (!x1) then
  some true
 else
  (rect_Right b_).bind fun x2=>
  some (!x2)).bind fun x3=>
 if x3 then
  some ((⟨0,0,0,0⟩:Rect),false)
 else
  (rect_checked (⟨(max a_.X0 b_.X0),(max a_.Y0 b_.Y0),(min a_.X1 b_.X1),(min a_.Y1 b_.Y1)⟩:Rect)).bind fun x4=>
  some (x4.1,x4.2)
noncomputable def k37:=mk 37 [.st 0,.st 0] [.st 0,.bool] (fun x=>rect_Intersect x.1 x.2) [k55,k77] [4] Tryz.f37 (.n) Tryz.func37 Tryz.call37 rfl rfl fun x=>by kernel_rfl
def measure_site_inside_L0 (s_:MeasureSite) (x1:Rect × Bool) (s1:Int × Int):Option (Flow (Int × Int) (Bool)):=
 if (decide (s1.2 < (s_.area.length:Int))) then
  (getI s_.area s1.2).bind fun x2=>
  (rect_Intersect x1.1 x2).bind fun x3=>
  (if x3.2 then
   (rect_Area x3.1).bind fun x4=>
   (addI s1.1 x4).bind fun x5=>
   some x5
  else
   some s1.1).bind fun s2=>
  (addI s1.2 1).bind fun x6=>
  some (.go (s2,x6))
 else
  some (.ex 0 (s1.1,s1.2))
def measure_site_inside (s_:MeasureSite) (b_:Rect) (n_:Int):Option (Bool):=
 (measure_grown b_ n_).bind fun x1=>
 if (!x1.2) then
  some false
 else
  (iterL (measure_site_inside_L0 s_ x1) (s_.area.length + 1) (0,0)).bind fun f1=>match f1 with
   | .go _=>none
   | .ex _ s1=>
    (rect_Area x1.1).bind fun x2=>
    some (s1.1 == x2)
   | .ret r1=>some r1
noncomputable def k98:=mk 98 [.rf (.st 10),.st 0,.int] [.bool] (fun x=>measure_site_inside x.1 x.2.1 x.2.2) [k125,k37,k33] [] Tryz.f98 (.s .n (.s .n (.s .n (.s .n (.s (.s .n (.l [] [(9,.v .int),(27,.v .int)] [(0,[27],[])] (fI 26) (.s .n (.s .n (.s (.s .n (.s .n (.s .n (.j [] [(9,.v .int)] ([],[]) (.s .n .n))))) .n))))) .n))))) Tryz.func98 Tryz.call98 rfl rfl fun x=>by kernel_rfl
def measure_site_setback_L1 (s_:MeasureSite) (x1:Volume) (s1:Int × Int):Option (Flow (Int × Int) (Int)):=
 if (decide (s1.1 < s1.2)) then
  (addI s1.1 s1.2).bind fun x2=>
  (addI x2 1).bind fun x3=>
  (quoI x3 2).bind fun x4=>
  (measure_site_inside s_ x1.Box.Base x4).bind fun x5=>
  (if x5 then
   some (x4,s1.2)
  else
   (subI x4 1).bind fun x6=>
   some (s1.1,x6)).bind fun s2=>
  some (.go (s2.1,s2.2))
 else
  some (.ex 2 (s1.1,s1.2))
def measure_site_setback_L0 (s_:MeasureSite) (s1:Int × Int):Option (Flow (Int × Int) (Int)):=
 if (decide (s1.2 < (s_.volumes.length:Int))) then
  (getI s_.volumes s1.2).bind fun x1=>
  (iterL (measure_site_setback_L1 s_ x1) (25) (0,s1.1)).bind fun f1=>match f1 with
   | .go _=>none
   | .ex _ s2=>
    (addI s1.2 1).bind fun x2=>
    some (.go (s2.1,x2))
   | .ret r1=>some (.ret r1)
 else
  some (.ex 0 (s1.1,s1.2))
def measure_site_setback (s_:MeasureSite):Option (Int):=
 (iterL (measure_site_setback_L0 s_) (s_.volumes.length + 1) (1048576,0)).bind fun f1=>match f1 with
  | .go _=>none
  | .ex _ s1=>
   some s1.1
  | .ret r1=>some r1
noncomputable def k50:=mk 50 [.rf (.st 10)] [.int] (fun x=>measure_site_setback x) [k98] [] Tryz.f50 (.s .n (.s .n (.s (.s .n (.l [] [(3,.v .int),(14,.v .int)] [(0,[14],[])] (fI 13) (.s .n (.s .n (.s (.s .n (.s .n (.s (.l [] [(6,.v .int),(7,.v .int)] [(2,[7],[])] (fun _=>25) (.s .n (.s .n (.s .n (.j [] [(6,.v .int),(7,.v .int)] ([],[]) (.s .n .n)))))) .n))) .n))))) .n))) Tryz.func50 Tryz.call50 rfl rfl fun x=>by kernel_rfl
def slices_IndexFunc_Entry_L0 (s_:(List Entry)) (f_:(Entry → Option (Bool))) (s1:Int):Option (Flow (Int) (Int)):=
 if (decide (s1 < (s_.length:Int))) then
  (getI s_ s1).bind fun x1=>
  (f_ x1).bind fun x2=>
  if x2 then
   some (.ret s1)
  else
   (addI s1 1).bind fun x3=>
   some (.go x3)
 else
  some (.ex 0 s1)
def slices_IndexFunc_Entry (s_:(List Entry)) (f_:(Entry → Option (Bool))):Option (Int):=
 (iterL (slices_IndexFunc_Entry_L0 s_ f_) (s_.length + 1) 0).bind fun f1=>match f1 with
  | .go _=>none
  | .ex _ _=>
   some (-1)
  | .ret r1=>some r1
noncomputable def k116:=mk 116 [.list (.st 9),.f1 (.st 9) .bool] [.int] (fun x=>slices_IndexFunc_Entry x.1 x.2) [] [] Tryz.f116 (.s .n (.s (.s .n (.l [] [(8,.v .int)] [(0,[8],[])] (fI 7) .n)) .n)) Tryz.func116 Tryz.call116 rfl rfl fun x=>by kernel_rfl
def measure_row_1 (e_:Entry) (p1_:(ByteArray × ByteArray × ByteArray × ByteArray × ByteArray × ByteArray)) (p2_:Int):Option (Bool):=
 (getI ([p1_.1,p1_.2.1,p1_.2.2.1,p1_.2.2.2.1,p1_.2.2.2.2.1,p1_.2.2.2.2.2]:List ByteArray) p2_).bind fun x1=>
 some ((e_.Name.toList == x1.toList))
noncomputable def k117:=mk 117 [.st 9,.rf (.st 21),.rf .int] [.bool] (fun x=>measure_row_1 x.1 x.2.1 x.2.2) [] [] Tryz.f117 (.n) Tryz.func117 Tryz.call117 rfl rfl fun x=>by kernel_rfl
def measure_row_L0 (p_:Plan) (use_:Int) (s1:Int):Option (Flow (Int) (Int)):=
 if (decide (s1 < (p_.Tables.length:Int))) then
  (getI p_.Tables s1).bind fun x1=>
  if (!(x1.Name.toList == (⟨#[116,114,97,102,102,105,99]⟩:ByteArray).toList)) then
   (addI s1 1).bind fun x2=>
   some (.go x2)
  else
   (slices_IndexFunc_Entry x1.Rows (fun y0=>measure_row_1 y0 (((⟨#[104,111,109,101]⟩:ByteArray),(⟨#[115,104,111,112]⟩:ByteArray),(⟨#[119,111,114,107]⟩:ByteArray),(⟨#[112,97,114,107]⟩:ByteArray),(⟨#[112,108,97,110,116]⟩:ByteArray),(⟨#[104,97,108,108]⟩:ByteArray)):(ByteArray × ByteArray × ByteArray × ByteArray × ByteArray × ByteArray)) use_)).bind fun x3=>
   (if (decide (0 ≤ x3)) then
    (getI x1.Rows x3).bind fun x4=>
    some x4.N
   else
    some x1.Else).bind fun s2=>
   some (.ret (max 0 (min s2 1048576)))
 else
  some (.ex 0 s1)
def measure_row (p_:Plan) (use_:Int):Option (Int):=
 (iterL (measure_row_L0 p_ use_) (p_.Tables.length + 1) 0).bind fun f1=>match f1 with
  | .go _=>none
  | .ex _ _=>
   some 0
  | .ret r1=>some r1
noncomputable def k81:=mk 81 [.st 11,.int] [.int] (fun x=>measure_row x.1 x.2) [k117,k116] [] Tryz.f81 (.s .n (.s .n (.s (.s .n (.l [] [(14,.v .int)] [(0,[14],[])] (fI 13) (.s .n (.s .n (.s (.s .n (.s .n (.s .n (.s (.s .n (.s .n (.j [] [(8,.v .int)] ([],[]) (.s .n .n)))) .n)))) .n))))) .n))) Tryz.func81 Tryz.call81 rfl rfl fun x=>by kernel_rfl
def measure_traffic (p_:Plan) (v_:Volume):Option (Int):=
 (measure_row p_ v_.Use).bind fun x1=>
 (measure_Floor v_).bind fun x2=>
 (if (decide (0 < x1)) then
  (quoI 109951162777600 x1).bind fun x3=>
  some (decide (x3 < x2))
 else
  some false).bind fun x4=>
 if x4 then
  some 1099511627776
 else
  (mulI x1 x2).bind fun x5=>
  (addI x5 100).bind fun x6=>
  (subI x6 1).bind fun x7=>
  (quoI x7 100).bind fun x8=>
  some x8
noncomputable def k39:=mk 39 [.st 11,.st 3] [.int] (fun x=>measure_traffic x.1 x.2) [k81,k13] [] Tryz.f39 (.n) Tryz.func39 Tryz.call39 rfl rfl fun x=>by kernel_rfl
def measure_site__traffic_1 (v_:Volume) (s_:MeasureSite):Option Int:=
 (measure_traffic s_.plan v_).bind fun x=>some x
noncomputable def k99:=mk 99 [.st 3,.rf (.rf (.st 10))] [.int] (fun x=>measure_site__traffic_1 x.1 x.2) [k39] [] Tryz.f99 (.n) Tryz.func99 Tryz.call99 rfl rfl fun x=>by kernel_rfl
def measure_site_traffic (s_:MeasureSite):Option Int:=
 (measure_site_sum s_ fun v=>measure_site__traffic_1 v s_).bind fun x=>some x
noncomputable def k51:=mk 51 [.rf (.st 10)] [.int] (fun x=>measure_site_traffic x) [k99,k94] [] Tryz.f51 (.n) Tryz.func51 Tryz.call51 rfl rfl fun x=>by kernel_rfl

def measure_Of_L0 (vs:List Volume) (s:MeasureSite × Int):Option (Flow (MeasureSite × Int) (List Entry)):=
 if (decide (s.2 < (vs.length:Int))) then
  (getI vs s.2).bind fun x=>
  (if (decide (s.2 < 40)) then
   (drawing_RightVolume x).bind fun y=>
   some y
  else
   some false).bind fun b=>
  (if b then
   (appI s.1.volumes [x]).bind fun l=>
   some { s.1 with volumes:=l }
  else
   some s.1).bind fun w=>
  (addI s.2 1).bind fun i=>
  some (.go (w,i))
 else
  some (.ex 0 (s.1,s.2))
def measure_rows:List MeasureRow:=[⟨⟨#[97,114,101,97]⟩,measure_site_lot⟩,⟨⟨#[99,111,118,101,114]⟩,measure_site_cover⟩,⟨⟨#[102,108,111,111,114]⟩,measure_site_floor⟩,⟨⟨#[102,108,111,111,114,115]⟩,measure_site_floors⟩,⟨⟨#[104,101,105,103,104,116]⟩,measure_site_height⟩,⟨⟨#[104,111,109,101,115]⟩,measure_site_homes⟩,⟨⟨#[114,117,110,111,102,102]⟩,measure_site_cover⟩,⟨⟨#[115,101,116,98,97,99,107]⟩,measure_site_setback⟩,⟨⟨#[116,114,97,102,102,105,99]⟩,measure_site_traffic⟩]
def measure_Of_L1 (t:MeasureSite) (s:List Entry × Int):Option (Flow (List Entry × Int) (List Entry)):=
 if (decide (s.2 < 9)) then
  (getI measure_rows s.2).bind fun r=>
  (r.of t).bind fun n=>
  (appI s.1 [(⟨r.name,n⟩:Entry)]).bind fun l=>
  (addI s.2 1).bind fun i=>
  some (.go (l,i))
 else
  some (.ex 2 (s.1,s.2))
def measure_Of (p_:Plan) (lot_:Lot) (d_:Drawing):Option (List Entry):=
 (region_Right lot_.Area).bind fun b=>
 (if b then
  some (⟨p_,lot_.Area,[]⟩:MeasureSite)
 else
  some (⟨p_,[],[]⟩:MeasureSite)).bind fun w=>
 (drawing_Volumes d_ 0 (d_.Phases.length:Int)).bind fun vs=>
 (iterL (measure_Of_L0 vs) (vs.length + 1) (w,0)).bind fun f=>match f with
  | .go _=>none
  | .ex _ s =>
   (iterL (measure_Of_L1 s.1) 10 ([],0)).bind fun f=>match f with
    | .go _=>none
    | .ex _ s=>some s.1
    | .ret r=>some r
  | .ret r=>some r
noncomputable def ks18:List (Fk tb Tryz.prog):=[k43,k10,k20,k44,k45,k46,k47,k48,k49,k50,k51]
noncomputable def ch18:Cx tb:=⟨Tryz.prog,tid,eqs,depsOf ks18,rdepsOf (T:=tb) (P:=Tryz.prog) [],false,[11,76],Tryz.f18.results.toList,Tryz.f18.ntmps,noHk,fun _=>True⟩
theorem chOk18:CxOk ch18:=⟨depsOf_ok ks18,rdepsOf_ok [],eqsOk.at,hmix,rfl⟩
/-- the site is a box of the call's own, in a part of which lies an own slice -/
noncomputable def hk18:Nat → Code → Env tb → (R:Type) → (Env tb → Option R) → Option R
 | 0,.region 1 _ _,e,_,K=>(refAt e 3 (.st 11)).bind fun p=>bif topsE [14,15,16] e then K ((7,.rs false 0 (⟨p,[],[]⟩:MeasureSite))::mapE (klA 7) e) else none
 | 1,.region 3 _ _,e,_,K=>(takeS e 7 (.c 0)).bind fun (x:MeasureSite)=>(refAt e 4 (.st 22)).bind fun (l:Lot)=>bif topsE [20,21,22,23,24] e then K ((7,.rs false 0 ({ x with area:=l.Area }:MeasureSite))::mapE (klA 7) e) else none
 | 2,.region 8 _ _,e,_,K=>(takeS e 7 (.c 0)).bind fun (x:MeasureSite)=>(refAt e 9 (.st 3)).bind fun (y:Volume)=>bif topsE [42,43,44,45,46,47,48,49,50,51] e then (appI x.volumes [y]).bind fun l=>K ((7,.rs false 0 ({ x with volumes:=l }:MeasureSite))::mapE (klA 7) e) else none
 | 3,.region 11 A d,e,_,K=>(takeS e 7 (.c 0)).bind fun (x:MeasureSite)=>evR ch18 A.toList d ((7,.ref (.st 10) x)::mapE (klA 7) e) K
 | _,_,_,_,_=>none
noncomputable def cx18:Cx tb:=⟨Tryz.prog,tid,eqs,depsOf ks18,rdepsOf (T:=tb) (P:=Tryz.prog) [],false,[11,76],Tryz.f18.results.toList,Tryz.f18.ntmps,hk18,fun c=>c ∈ subs (body Tryz.f18)⟩
section
variable {A:Array Oper} {d:Bool} {e:Env tb} {R:Type} {K:Env tb → Option R} {r:R}
set_option maxHeartbeats 4000000
theorem reg18_1 (hc:Code.region 1 A d ∈ subs (body Tryz.f18)) (h:hk18 0 (.region 1 A d) e R K = some r):HkOk cx18 (.region 1 A d) e K r:=by
 obtain ⟨rfl,rfl⟩:=mem_reg2 (show (subs (body Tryz.f18)).filter (isReg 1) = [.region 1 _ _] from rfl) hc
 intro F k0 W a0 a k Q hW hl hgo
 replace h:(refAt e 3 (.st 11)).bind _ = some r:=h
 obtain ⟨(p:Plan),hp,h⟩:=bind_some h
 have hi:=refAt_is hl hp
 cases ht:topsE [14,15,16] e with
 | false=>rw [ht] at h; simp at h
 | true=>
 rw [ht] at h
 simp only [cond_true] at h
 refine regionS (a0:=a) (k0:=k) (n:=79) (m:=0) [] hl.s (by kernel_rfl) trivial trivial fun b q p0=>?_
 have hs:b.tmps.size = 79:=p0.size.trans hl.s
 have hd:b.defers = a.defers:=p0.defers
 have hg0:Grow k q:=p0.grow
 have ho : ∀ t,b.get t = a.get t:=fun t=>p0.old t rfl
 have hi:IsRef (p:Plan) (b.get 3) q:=by rw [ho]; exact Pers.pers hg0.le hi
 refine tail_does (R:=IsV (p:Plan)) (i:=0) (d:=14) rfl rfl rfl (by rw [hs]; decide) trivial (ok_load rfl ty30 hi.ptr) fun b1 q1 hs1 hd1 ho1 hg1 h1=>?_
 refine tail_does (R:=IsVN [ho_94_2.off] (⟨p,[],[]⟩:MeasureSite)) (i:=1) (d:=15) rfl rfl rfl (by rw [hs1,hs]; decide) trivial (ok_buildN rfl (bld94_0N h1)) fun b2 q2 hs2 hd2 ho2 hg2 h2=>?_
 refine tail_does (i:=2) (d:=16) rfl rfl rfl (by rw [hs2,hs1,hs]; decide) trivial (ok_boxN rfl h2) fun b3 q3 hs3 hd3 ho3 hg3 h3=>?_
 obtain ⟨bb,hv3,hlt,hB,hN⟩:=h3
 refine tail_assign (i:=3) (d:=7) rfl rfl (.inl rfl) rfl (by rw [hs3,hs2,hs1,hs]; decide) fun b4 hs4 hd4 hv4 ho4=>?_
 have hv4:b4.get 7 = .pointer (some ⟨bb,0,none⟩):=hv4.trans hv3
 have hO:=(Box.open (all:=[ho_94_2]) hB hu_94_2 hv4).wake (hN _ (.head _)) rfl
 have hRP:tb.RP 0 (⟨p,[],[]⟩:MeasureSite) (Eq bb) (b4.get 7) q3:=⟨bb,hO⟩
 have hch:Chg noF k q3:=(((Chg.refl noF k).then hg0).then hg1 |>.then hg2).then hg3
 have hsz:k.w.heap.size ≤ bb:=Nat.le_trans (Nat.le_trans hg0.size (Nat.le_trans hg1.size hg2.size)) hlt
 refine tail_done (k:=q3) (hgo _ _ _ h (hl.redo (D:=[14,15,16]) ht (fun t hm=>hW t ?_) (.inl (hW 7 ?_)) hch (fun b hb=>hb.elim) (hs4.trans (hs3.trans (hs2.trans (hs1.trans (hs.trans hl.s.symm))))) (hd4.trans (hd3.trans (hd2.trans (hd1.trans hd)))) (fun t hm hne=>?_) ⟨_,hRP⟩ (fun _=>rfl) fun b hb=>.inr ?_))
 ·revert t; decide
 ·decide
 ·simp only [List.mem_cons,List.not_mem_nil,or_false,not_or] at hm
  rw [ho4 t hne,ho3 t hm.2.2,ho2 t hm.2.1,ho1 t hm.1,ho t]
 ·have hb:Rk.fp tb (.c 0) (b4.get 7) q3 b:=hb
  rw [rp_fp hRP] at hb
  exact hb ▸ hsz
theorem reg18_3 (hc:Code.region 3 A d ∈ subs (body Tryz.f18)) (h:hk18 1 (.region 3 A d) e R K = some r):HkOk cx18 (.region 3 A d) e K r:=by
 obtain ⟨rfl,rfl⟩:=mem_reg2 (show (subs (body Tryz.f18)).filter (isReg 3) = [.region 3 _ _] from rfl) hc
 intro F k0 W a0 a k Q hW hl hgo
 replace h:(takeS e 7 (.c 0)).bind _ = some r:=h
 obtain ⟨(x:MeasureSite),hx,h⟩:=bind_some h
 obtain ⟨(l:Lot),hp,h⟩:=bind_some h
 have hi:=refAt_is hl hp
 obtain ⟨hlk,G,bb,hG⟩:=takeC hl hx
 have hG:BoxH bb [ho_94_2] [ho_94_2] (x:MeasureSite) G (a.get 7) k:=hG
 cases ht:topsE [20,21,22,23,24] e with
 | false=>rw [ht] at h; simp at h
 | true=>
 rw [ht] at h
 simp only [cond_true] at h
 refine regionS (a0:=a) (k0:=k) (n:=79) (m:=0) [] hl.s (by kernel_rfl) trivial trivial fun b q p0=>?_
 have hs:b.tmps.size = 79:=p0.size.trans hl.s
 have hd:b.defers = a.defers:=p0.defers
 have hg0:Grow k q:=p0.grow
 have ho : ∀ t,b.get t = a.get t:=fun t=>p0.old t rfl
 have hi:IsRef (l:Lot) (b.get 4) q:=by rw [ho]; exact Pers.pers hg0.le hi
 refine tail_assign (i:=0) (d:=20) rfl rfl (.inr rfl) rfl (by rw [hs]; decide) fun b0 hs1 hd0 hv0 ho0=>?_
 have hv0:IsAdr bb 0 (b0.get 20) q:=hv0.trans ((ho 7).trans hG.ptr)
 have hi:IsRef (l:Lot) (b0.get 4) q:=by rw [ho0 4 (by decide)]; exact hi
 refine tail_does (R:=IsPtr (l:Lot).Area) (i:=1) (d:=21) rfl rfl rfl (by rw [hs1,hs]; decide) trivial (ok_fieldAddr rfl fo34_2 (at_Lot_2 _) hi.ptr) fun b1 q1 hs2 hd1 ho1 hg1 h1=>?_
 refine tail_does (R:=IsV (l:Lot).Area) (i:=2) (d:=22) rfl rfl rfl (by rw [hs2,hs1,hs]; decide) trivial (ok_load rfl ty31 h1) fun b2 q2 hs3 hd2 ho2 hg2 h2=>?_
 have hv2:IsAdr bb 0 (b2.get 20) q2:=by rw [ho2 20 (by decide),ho1 20 (by decide)]; exact hv0
 refine tail_does (R:=IsAdr bb 0) (i:=3) (d:=23) rfl rfl rfl (by rw [hs3,hs2,hs1,hs]; decide) trivial (ok_nilCheckA rfl hv2) fun b3 q3 hs4 hd3 ho3 hg3 h3=>?_
 refine tail_does (i:=4) (d:=24) rfl rfl rfl (by rw [hs4,hs3,hs2,hs1,hs]; decide) trivial (ok_fieldAdr rfl fo94_1 h3) fun b4 q4 hs5 hd4 ho4 hg4 h4=>?_
 have h2:IsV (l:Lot).Area (b4.get 22) q4:=by rw [ho4 22 (by decide),ho3 22 (by decide)]; exact Pers.pers (hg3.le.trans hg4.le) h2
 have hg:Grow k q4:=(((hg0.trans hg1).trans hg2).trans hg3).trans hg4
 have hB:BoxH bb [ho_94_2] [ho_94_2] (x:MeasureSite) G (a.get 7) q4:=Rsc.grow hG hg
 refine tail_storeP (i:=5) (x':=({ x with area:=(l:Lot).Area }:MeasureSite)) rfl rfl rfl rfl szf31 upd_F94_1 h4 hB (by decide) (fun _ h=>by cases h with | head=>decide | tail _ h=>exact nomatch h) (fun _ h=>by cases h with | head=>decide | tail _ h=>exact nomatch h) rfl (fun _ _ _ h=>h) h2 fun q5 hch h5=>?_
 have e7:b4.get 7 = a.get 7:=by rw [ho4 7 (by decide),ho3 7 (by decide),ho2 7 (by decide),ho1 7 (by decide),ho0 7 (by decide),ho]
 have hRP0:tb.RP 0 (x:MeasureSite) G (a.get 7) k:=⟨bb,hG⟩
 have hRP:tb.RP 0 ({ x with area:=(l:Lot).Area }:MeasureSite) G (b4.get 7) q5:=⟨bb,by rw [e7]; exact h5⟩
 have hfp : ∀ c,G c → unl (lk e 7) = true∧(lk e 7).fp (a.get 7) k c:=fun c hc=>by rw [hlk]; exact ⟨rfl,by show Rk.fp tb (.c 0) (a.get 7) k c; rw [rp_fp hRP0]; exact hc⟩
 refine tail_done (k:=q5) (hgo _ _ _ h (hl.redo (D:=[20,21,22,23,24]) ht (fun t hm=>hW t ?_) (.inr e7) (((Chg.refl G k).then hg).step hch fun c hc=>.inl hc) hfp (hs5.trans (hs4.trans (hs3.trans (hs2.trans (hs1.trans (hs.trans hl.s.symm)))))) (hd4.trans (hd3.trans (hd2.trans (hd1.trans (hd0.trans hd))))) (fun t hm hne=>?_) ⟨_,hRP⟩ (fun _=>rfl) fun c hc=>.inl (hfp c ?_)))
 ·revert t; decide
 ·simp only [List.mem_cons,List.not_mem_nil,or_false,not_or] at hm
  rw [ho4 t hm.2.2.2.2,ho3 t hm.2.2.2.1,ho2 t hm.2.2.1,ho1 t hm.2.1,ho0 t hm.1,ho t]
 ·have hc:Rk.fp tb (.c 0) (b4.get 7) q5 c:=hc
  rw [rp_fp hRP] at hc
  exact hc
theorem reg18_11 (hc:Code.region 11 A d ∈ subs (body Tryz.f18)) (h:hk18 3 (.region 11 A d) e R K = some r):HkOk cx18 (.region 11 A d) e K r:=by
 intro F k0 W a0 a k Q hW hl hgo
 replace h:(takeS e 7 (.c 0)).bind _ = some r:=h
 obtain ⟨(x:MeasureSite),hx,h⟩:=bind_some h
 obtain ⟨hlk,G,bb,hG⟩:=takeC hl hx
 have hG:BoxH bb [ho_94_2] [ho_94_2] (x:MeasureSite) G (a.get 7) k:=hG
 have hRP0:tb.RP 0 (x:MeasureSite) G (a.get 7) k:=⟨bb,hG⟩
 obtain ⟨k1,hk,hr⟩:=hG.ref (hc_94_2 _) (fun _ h=>h)
 have h1:=hl.hand (s:=7) (av:=.ref (.st 10) (x:MeasureSite)) (by rw [hlk]; rfl) hk (fun c hc=>by rw [hlk]; show Rk.fp tb (.c 0) (a.get 7) k c; rw [rp_fp hRP0]; exact hc) hr (fun _=>rfl) rfl
 rw [← hk.w]
 exact evR_ok (C:=ch18) chOk18 (fun o ho d hd=>hW d (List.mem_filterMap.2 ⟨o,ho,hd⟩)) h1 h hgo
theorem reg18_8 (hc:Code.region 8 A d ∈ subs (body Tryz.f18)) (h:hk18 2 (.region 8 A d) e R K = some r):HkOk cx18 (.region 8 A d) e K r:=by
 obtain ⟨rfl,rfl⟩:=mem_reg2 (show (subs (body Tryz.f18)).filter (isReg 8) = [.region 8 _ _] from rfl) hc
 intro F k0 W a0 a k Q hW hl hgo
 replace h:(takeS e 7 (.c 0)).bind _ = some r:=h
 obtain ⟨(x:MeasureSite),hx,h⟩:=bind_some h
 obtain ⟨(y:Volume),hy,h⟩:=bind_some h
 have hi:IsRef y (a.get 9) k:=refAt_is hl hy
 obtain ⟨hlk,G,bb,hG⟩:=takeC hl hx
 have hG:BoxH bb [ho_94_2] [ho_94_2] (x:MeasureSite) G (a.get 7) k:=hG
 have hRP0:tb.RP 0 (x:MeasureSite) G (a.get 7) k:=⟨bb,hG⟩
 cases ht:topsE [42,43,44,45,46,47,48,49,50,51] e with
 | false=>rw [ht] at h; simp at h
 | true=>
 rw [ht] at h
 simp only [cond_true] at h
 obtain ⟨l,hal,h⟩:=bind_some h
 have hA:IsAdr bb 0 (a.get 7) k:=hG.ptr
 refine region_mid (a0:=a) (k0:=k) (n:=79) (m:=7) (⟨some (IsAdr bb 0),[(7,none)]⟩::⟨some (IsAdr bb 0),[(7,none)]⟩::⟨some (IsAdr bb 0),[(43,some 1)]⟩::⟨some (IsAdr bb ho_94_2.off),[(44,some 2)]⟩::⟨some (HdAt bb ho_94_2.off),[(45,some 3)]⟩::⟨some (IsV (y:Volume)),[(9,none)]⟩::⟨some (IsV [(y:Volume)]),[(47,some 5)]⟩::[]) [0] [7,8,9,10] hmix hl.s (by kernel_rfl)
  ⟨mu rfl hA,mu rfl hA,ob1 rfl fun _ _ h n=>ok_nilCheckA rfl n.1,ob1 rfl fun _ _ h n=>ok_fieldAdr rfl fo94_2 n.1,ob1 rfl fun _ _ h n=>ok_loadH (g:=ho_94_2) rfl Tryz.underlying43 szf43 n.1 (Rsc.grow hG h) (.head _),ob1 rfl fun _ _ h n=>ok_load rfl ty51 ((up hi h n.1)).ptr,ob1 rfl fun _ _ h n=>ok_buildSlice rfl Tryz.underlying43 eo51 rfl (by decide) (by decide) ⟨rfl,n.1,trivial⟩,trivial⟩ trivial (fun l hm hl e he=>?_) fun b q p=>?_
 ·obtain rfl:l = 0:=by simpa using hm
  obtain rfl:=Option.some.inj he
  exact ⟨_,rfl,fun k _=>hA⟩
 have hs:b.tmps.size = 79:=p.size.trans hl.s
 have hB:BoxH bb [ho_94_2] [ho_94_2] (x:MeasureSite) G (a.get 7) q:=Rsc.grow hG p.grow
 have h46:HdAt bb ho_94_2.off (b.get 46) q:=p.val 4 46 _ _ (by decide) rfl rfl
 have h48:IsV [(y:Volume)] (b.get 48) q:=p.val 6 48 _ _ (by decide) rfl rfl
 have h42:IsAdr bb 0 (b.get 42) q:=p.val 0 42 _ _ (by decide) rfl rfl
 have e7:b.get 7 = a.get 7:=p.old 7 rfl
 obtain ⟨F1,h1,h2,h3,h4,h5⟩:=hB.take h46
 have h2:IsOwn 0 51 (x:MeasureSite).volumes (b.get 46) q:=h2
 have hns:=h2.nshF
 refine tail_appendS (i:=7) (d:=49) rfl rfl rfl rfl (by rw [hs]; decide) (e:=51) Tryz.underlying43 eo51 h2 (IsV.rd h48) hal fun b1 q1 hs1 hd1 ho1 hc1 hown hob=>?_
 have hle1:=hc1.le hns
 have hB1:BoxH bb [ho_94_2] [] (x:MeasureSite) F1 (a.get 7) q1:=Rsc.keep h1 hc1 h3.symm hns
 have ha1:Apart (obF (b1.get 49)) F1:=fun c hc hF=>(hob c hc).elim (fun h=>h3 c h hF) fun h=>Nat.lt_irrefl _ (Nat.lt_of_lt_of_le (Rsc.lt h1 c hF) h)
 have hv1:IsAdr bb 0 (b1.get 42) q1:=by rw [ho1 42 (by decide)]; exact h42
 refine tail_does (R:=IsAdr bb 0) (i:=8) (d:=50) rfl rfl rfl (by rw [hs1,hs]; decide) trivial (ok_nilCheckA rfl hv1) fun b2 q2 hs2 hd2 ho2 hg2 g2=>?_
 refine tail_does (i:=9) (d:=51) rfl rfl rfl (by rw [hs2,hs1,hs]; decide) trivial (ok_fieldAdr rfl fo94_2 g2) fun b3 q3 hs3 hd3 ho3 hg3 g3=>?_
 have e49:b3.get 49 = b1.get 49:=by rw [ho3 49 (by decide),ho2 49 (by decide)]
 have hown3:IsOwn 0 51 l (b3.get 49) q3:=by rw [e49]; exact Mono.mono (hg2.trans hg3) hown
 have hB3:BoxH bb [ho_94_2] [] (x:MeasureSite) F1 (a.get 7) q3:=Rsc.grow hB1 (hg2.trans hg3)
 refine tail_storeH (i:=10) (g:=ho_94_2) (x':=({ x with volumes:=l }:MeasureSite)) rfl rfl rfl rfl szf43 g3 hB3 (by decide) ⟨_,.head _,rfl⟩ rfl (fun _ _ _ h=>h) (fun _ h=>nomatch h) hown3 (by show Apart (obF (b3.get 49)) F1; rw [e49]; exact ha1) fun q4 F4 hch hB4 hF4=>?_
 have e7' : b3.get 7 = a.get 7:=by rw [ho3 7 (by decide),ho2 7 (by decide),ho1 7 (by decide),e7]
 have hRP:tb.RP 0 ({ x with volumes:=l }:MeasureSite) F4 (b3.get 7) q4:=⟨bb,by rw [e7']; exact hB4⟩
 have hfp : ∀ c,G c → unl (lk e 7) = true∧(lk e 7).fp (a.get 7) k c:=fun c hc=>by rw [hlk]; exact ⟨rfl,by show Rk.fp tb (.c 0) (a.get 7) k c; rw [rp_fp hRP0]; exact hc⟩
 refine tail_done (k:=q4) (hgo _ _ _ h (hl.redo (D:=[42,43,44,45,46,47,48,49,50,51]) ht (fun t hm=>hW t ?_) (.inr e7') ((((((Chg.refl G k).then p.grow).step hc1 fun c hc=>.inl (h5 c hc)).then hg2).then hg3).step hch fun c hc=>.inl (h4 c hc)) hfp (hs3.trans (hs2.trans (hs1.trans (hs.trans hl.s.symm)))) (hd3.trans (hd2.trans (hd1.trans p.defers))) (fun t hm hne=>?_) ⟨_,hRP⟩ (fun _=>rfl) fun c hc=>?_))
 ·revert t; decide
 ·simp only [List.mem_cons,List.not_mem_nil,or_false,not_or] at hm
  rw [ho3 t (by omega),ho2 t (by omega),ho1 t (by omega)]
  refine p.old t ?_
  simp [allI]
  omega
 ·have hc:Rk.fp tb (.c 0) (b3.get 7) q4 c:=hc
  rw [rp_fp hRP] at hc
  rcases hF4 c hc with h | h
  ·exact .inl (hfp c (h4 c h))
  ·have h:obF (b3.get 49) c:=h
   rw [e49] at h
   exact (hob c h).elim (fun h=>.inl (hfp c (h5 c h))) fun h=>.inr (Nat.le_trans p.grow.size h)
end
noncomputable def k18:Fk tb Tryz.prog:=⟨18,⟨[(.st 11),(.st 22),(.st 7)],[.list (.st 9)],fun x=>measure_Of x.1 x.2.1 x.2.2⟩,fnOkW ks18 [] false [11,76] Tryz.f18 hk18 (fun i c e R K r hc h=>by
 have h0:=h
 replace h:hk18 i c e R K = some r:=h
 unfold hk18 at h
 split at h
 ·exact reg18_1 hc h0
 ·exact reg18_3 hc h0
 ·exact reg18_8 hc h0
 ·exact reg18_11 hc h0
 ·simp at h) (.s .n (.s (.h 0) (.s (.s .n (.j [] [(7,.c 0)] ([],[]) (.s (.h 1) .n))) (.s (.s .n (.l [] [(7,.c 0),(31,.v .int)] [(0,[31],[])] (fL [29]) (.s .n (.s .n (.s (.s .n (.s .n (.j [] [(7,.c 0)] ([],[]) (.s (.h 2) .n)))) .n))))) (.s .n (.s (.h 3) (.s (.s .n (.l [] [(11,.o 61 (.st 9)),(64,.v .int)] [(2,[64],[])] (fun _=>10) (.s .n (.s .n (.s (.s .n .n) .n))))) (.s (.f [11] .n) .n)))))))) eqsOk hmix rfl Tryz.func18 Tryz.call18 rfl rfl fun x=>by kernel_rfl⟩
theorem measure_Of_ok {k0:K} {v0 v1 v2:Value} {x0:Plan} {x1:Lot} {x2:Drawing} {r:List Entry} (i0:(IsV x0) v0 k0) (i1:(IsV x1) v1 k0) (i2:(IsV x2) v2 k0) (hr:measure_Of x0 x1 x2 = some r):Calls Tryz.prog 18 #[v0,v1,v2] k0.w (Ret k0 (IsV r)):=(k18.ok.ok k0 [v0,v1,v2] (x0,x1,x2) r (GOk.none (fun _=>rfl) fun _ e=>by cases e) ⟨i0,i1,i2⟩ hr)

def law20_square (r_:Rect):Option ((List Point)):=
 some ([(⟨r_.X0,r_.Y0⟩:Point),(⟨r_.X1,r_.Y0⟩:Point),(⟨r_.X1,r_.Y1⟩:Point),(⟨r_.X0,r_.Y1⟩:Point)])
noncomputable def k24:=mk 24 [.st 0] [.list (.st 6)] (fun x=>law20_square x) [] [] Tryz.f24 (.n) Tryz.func24 Tryz.call24 rfl rfl fun x=>by kernel_rfl
def polygon_around_L0 (p_:(List Point)) (s1:(List PolygonSide) × Int):Option (Flow ((List PolygonSide) × Int) ((List PolygonSide))):=
 if (decide (s1.2 < (p_.length:Int))) then
  (getI p_ s1.2).bind fun x1=>
  (addI s1.2 1).bind fun x2=>
  (remI x2 (p_.length:Int)).bind fun x3=>
  (getI p_ x3).bind fun x4=>
  (getI s1.1 s1.2).bind fun x5=>
  (some (s1.1.set (s1.2).toNat (⟨x1,x4⟩:PolygonSide))).bind fun x6=>
  (addI s1.2 1).bind fun x7=>
  some (.go (x6,x7))
 else
  some (.ex 0 (s1.1,s1.2))
def polygon_around (p_:(List Point)):Option ((List PolygonSide)):=
 (makeI (p_.length:Int) (⟨(⟨0,0⟩:Point),(⟨0,0⟩:Point)⟩:PolygonSide)).bind fun x1=>
 (iterL (polygon_around_L0 p_) (p_.length + 1) (x1,0)).bind fun f1=>match f1 with
  | .go _=>none
  | .ex _ s1=>
   some s1.1
  | .ret r1=>some r1
noncomputable def k61:=mk 61 [.list (.st 6)] [.list (.st 5)] (fun x=>polygon_around x) [] [3,7] Tryz.f61 (.s .n (.s .n (.s (.s .n (.l [] [(3,.o 111 (.st 5)),(10,.v .int)] [(0,[10],[])] (fI 9) .n)) (.s (.f [3] .n) .n)))) Tryz.func61 Tryz.call61 rfl rfl fun x=>by kernel_rfl
def polygon_onGrid (p_:Point):Option (Bool):=
 some ((((decide (0 ≤ p_.X)) && (decide (p_.X ≤ 1048576))) && (decide (0 ≤ p_.Y))) && (decide (p_.Y ≤ 1048576)))
noncomputable def k62:=mk 62 [.st 6] [.bool] (fun x=>polygon_onGrid x) [] [] Tryz.f62 (.n) Tryz.func62 Tryz.call62 rfl rfl fun x=>by kernel_rfl
def polygon_side_upright (s_:PolygonSide):Option (Bool):=
 some (s_.a.X == s_.b.X)
noncomputable def k63:=mk 63 [.st 5] [.bool] (fun x=>polygon_side_upright x) [] [] Tryz.f63 (.n) Tryz.func63 Tryz.call63 rfl rfl fun x=>by kernel_rfl
def cmp_Or_int_L0 (vals_:(List Int)) (s1:Int):Option (Flow (Int) (Int)):=
 if (decide (s1 < (vals_.length:Int))) then
  (getI vals_ s1).bind fun x1=>
  if (x1 != 0) then
   some (.ret x1)
  else
   (addI s1 1).bind fun x2=>
   some (.go x2)
 else
  some (.ex 0 s1)
def cmp_Or_int (vals_:(List Int)):Option (Int):=
 (iterL (cmp_Or_int_L0 vals_) (vals_.length + 1) 0).bind fun f1=>match f1 with
  | .go _=>none
  | .ex _ _=>
   some 0
  | .ret r1=>some r1
noncomputable def k105:=mk 105 [.list .int] [.int] (fun x=>cmp_Or_int x) [] [] Tryz.f105 (.s .n (.s .n (.s (.s .n (.l [] [(8,.v .int)] [(0,[8],[])] (fI 7) .n)) .n))) Tryz.func105 Tryz.call105 rfl rfl fun x=>by kernel_rfl
def polygon_compare (a_:Point) (b_:Point):Option (Int):=
 (cmp_Compare_int a_.X b_.X).bind fun x1=>
 (cmp_Compare_int a_.Y b_.Y).bind fun x2=>
 (cmp_Or_int ([x1,x2])).bind fun x3=>
 some x3
noncomputable def k64:=mk 64 [.st 6,.st 6] [.int] (fun x=>polygon_compare x.1 x.2) [k93,k105] [] Tryz.f64 (.n) Tryz.func64 Tryz.call64 rfl rfl fun x=>by kernel_rfl
def polygon_side_crosses (s_:PolygonSide) (t_:PolygonSide):Option (Bool):=
 some ((decide ((max (min s_.a.X s_.b.X) (min t_.a.X t_.b.X)) ≤ (min (max s_.a.X s_.b.X) (max t_.a.X t_.b.X)))) && (decide ((max (min s_.a.Y s_.b.Y) (min t_.a.Y t_.b.Y)) ≤ (min (max s_.a.Y s_.b.Y) (max t_.a.Y t_.b.Y)))))
noncomputable def k65:=mk 65 [.st 5,.st 5] [.bool] (fun x=>polygon_side_crosses x.1 x.2) [] [] Tryz.f65 (.n) Tryz.func65 Tryz.call65 rfl rfl fun x=>by kernel_rfl
def polygon_Right_L0 (p_:(List Point)) (x1:(List PolygonSide)) (s1:Int):Option (Flow (Int) (Bool)):=
 if (decide (s1 < (x1.length:Int))) then
  (getI x1 s1).bind fun x2=>
  (addI s1 1).bind fun x3=>
  (remI x3 (x1.length:Int)).bind fun x4=>
  (getI x1 x4).bind fun x5=>
  (polygon_onGrid x2.a).bind fun x6=>
  (if ((!x6) || ((x2.a.X == x2.b.X) == (x2.a.Y == x2.b.Y))) then
   some true
  else
   (polygon_side_upright x2).bind fun x7=>
   (polygon_side_upright x5).bind fun x8=>
   some (x7 == x8)).bind fun x9=>
  if x9 then
   some (.ret false)
  else
   (if (decide (0 < s1)) then
    (getI p_ 0).bind fun x10=>
    (getI p_ s1).bind fun x11=>
    (polygon_compare x10 x11).bind fun x12=>
    some (decide (0 ≤ x12))
   else
    some false).bind fun x13=>
   if x13 then
    some (.ret false)
   else
    (addI s1 1).bind fun x14=>
    some (.go x14)
 else
  some (.ex 0 s1)
def polygon_Right_L2 (x1:(List PolygonSide)) (s1:Int) (s2:Int):Option (Flow (Int) (Bool)):=
 if (decide (s2 < (x1.length:Int))) then
  (addI s1 (x1.length:Int)).bind fun x2=>
  (subI x2 s2).bind fun x3=>
  (if (decide (1 < x3)) then
   (getI x1 s1).bind fun x4=>
   (getI x1 s2).bind fun x5=>
   (polygon_side_crosses x4 x5).bind fun x6=>
   some x6
  else
   some false).bind fun x7=>
  if x7 then
   some (.ret false)
  else
   (addI s2 1).bind fun x8=>
   some (.go x8)
 else
  some (.ex 4 s2)
def polygon_Right_L1 (x1:(List PolygonSide)) (s1:Int):Option (Flow (Int) (Bool)):=
 if (decide (s1 < (x1.length:Int))) then
  (addI s1 2).bind fun x2=>
  (iterL (polygon_Right_L2 x1 s1) (x1.length + 1) x2).bind fun f1=>match f1 with
   | .go _=>none
   | .ex _ _=>
    (addI s1 1).bind fun x3=>
    some (.go x3)
   | .ret r1=>some (.ret r1)
 else
  some (.ex 2 s1)
def polygon_Right (p_:(List Point)):Option (Bool):=
 if ((decide ((p_.length:Int) < 4)) || (decide (60 < (p_.length:Int)))) then
  some false
 else
  (polygon_around p_).bind fun x1=>
  (iterL (polygon_Right_L0 p_ x1) (x1.length + 1) 0).bind fun f1=>match f1 with
   | .go _=>none
   | .ex _ _ =>
    (iterL (polygon_Right_L1 x1) (x1.length + 1) 0).bind fun f2=>match f2 with
     | .go _=>none
     | .ex _ _=>
      (getI x1 0).bind fun x2=>
      (polygon_side_upright x2).bind fun x3=>
      some (!x3)
     | .ret r1=>some r1
   | .ret r2=>some r2
noncomputable def k23:=mk 23 [.list (.st 6)] [.bool] (fun x=>polygon_Right x) [k61,k62,k63,k64,k65] [] Tryz.f23 (.s .n (.s .n (.s .n (.s (.s .n (.l [] [(21,.v .int)] [(0,[21],[])] (fI 20) .n)) (.s (.s .n (.l [] [(78,.v .int)] [(2,[78],[])] (fI 77) (.s .n (.s .n (.s (.s .n (.s .n (.l [] [(8,.v .int)] [(4,[8],[])] (fL [3]) .n))) .n))))) .n))))) Tryz.func23 Tryz.call23 rfl rfl fun x=>by kernel_rfl
def polygon_Region_L0 (p_:(List Point)) (s1:(List Int) × Int):Option (Flow ((List Int) × Int) ((List Rect) × Int)):=
 if (decide (s1.2 < (p_.length:Int))) then
  (getI p_ s1.2).bind fun x1=>
  (appI s1.1 ([x1.X])).bind fun x2=>
  (addI s1.2 1).bind fun x3=>
  some (.go (x2,x3))
 else
  some (.ex 0 (s1.1,s1.2))
def polygon_Region_L2 (x1:(List Int)) (x2:(List PolygonSide)) (s1:(List Rect) × Int) (s2:(List Int) × Int):Option (Flow ((List Int) × Int) ((List Rect) × Int)):=
 if (decide (s2.2 < (x2.length:Int))) then
  (getI x2 s2.2).bind fun x3=>
  (polygon_side_upright x3).bind fun x4=>
  (if (!x4) then
   (getI x1 s1.2).bind fun x5=>
   some (decide ((min x3.a.X x3.b.X) ≤ x5))
  else
   some false).bind fun x6=>
  (if x6 then
   (getI x1 s1.2).bind fun x7=>
   some (decide (x7 < (max x3.a.X x3.b.X)))
  else
   some false).bind fun x8=>
  (if x8 then
   (appI s2.1 ([x3.a.Y])).bind fun x9=>
   some x9
  else
   some s2.1).bind fun s3=>
  (addI s2.2 1).bind fun x10=>
  some (.go (s3,x10))
 else
  some (.ex 4 (s2.1,s2.2))
def polygon_Region_L3 (x1:(List Int)) (s1:(List Rect) × Int) (x2:(List Int)) (s2:(List Rect) × Int):Option (Flow ((List Rect) × Int) ((List Rect) × Int)):=
 (addI s2.2 1).bind fun x3=>
 if (decide (x3 < (x2.length:Int))) then
  (getI x1 s1.2).bind fun x4=>
  (getI x2 s2.2).bind fun x5=>
  (addI s1.2 1).bind fun x6=>
  (getI x1 x6).bind fun x7=>
  (addI s2.2 1).bind fun x8=>
  (getI x2 x8).bind fun x9=>
  (appI s2.1 ([(⟨x4,x5,x7,x9⟩:Rect)])).bind fun x10=>
  (addI s2.2 2).bind fun x11=>
  some (.go (x10,x11))
 else
  some (.ex 6 (s2.1,s2.2))
def polygon_Region_L1 (x1:(List Int)) (x2:(List PolygonSide)) (x3:Int) (s1:(List Rect) × Int):Option (Flow ((List Rect) × Int) ((List Rect) × Int)):=
 if (decide (s1.2 < x3)) then
  (iterL (polygon_Region_L2 x1 x2 s1) (x2.length + 1) (([]:List Int),0)).bind fun f1=>match f1 with
   | .go _=>none
   | .ex _ s2 =>
    (sortInts s2.1).bind fun x4=>
    (iterL (polygon_Region_L3 x1 s1 x4) (x1.length + x2.length + s1.1.length + x4.length + 1) (s1.1,0)).bind fun f2=>match f2 with
     | .go _=>none
     | .ex _ s3=>
      (addI s1.2 1).bind fun x5=>
      some (.go (s3.1,x5))
     | .ret r1=>some (.ret r1)
   | .ret r2=>some (.ret r2)
 else
  some (.ex 2 (s1.1,s1.2))
def polygon_Region (p_:(List Point)):Option ((List Rect) × Int):=
 (polygon_Right p_).bind fun x1=>
 if (!x1) then
  some (([]:List Rect),10)
 else
  (iterL (polygon_Region_L0 p_) (p_.length + 1) (([]:List Int),0)).bind fun f1=>match f1 with
   | .go _=>none
   | .ex _ s1 =>
    (sortInts s1.1).bind fun x2=>
    (compactInts x2).bind fun x3=>
    (polygon_around p_).bind fun x4=>
    (subI (x3.length:Int) 1).bind fun x5=>
    (iterL (polygon_Region_L1 x3 x4 x5) (x5.toNat + 1) (([]:List Rect),0)).bind fun f2=>match f2 with
     | .go _=>none
     | .ex _ s2 =>
      if (decide (200 < (s2.1.length:Int))) then
       some (([]:List Rect),6)
      else
       some (s2.1,0)
     | .ret r1=>some r1
   | .ret r2=>some r2
noncomputable def k35:=mkc 35 [.list (.st 6)] [.list (.st 0),.int] (fun x=>polygon_Region x) [k23,k61,k63] [kr78,kr79] [4,8,10,23,27,29,31,78,83,85,94,115] Tryz.f35 (.s .n (.s .n (.s .n (.s (.s .n (.l [] [(4,.o 3 .int),(19,.v .int)] [(0,[19],[])] (fI 18) .n)) (.s .n (.s .n (.s (.f [4] .n) (.s (.f [4] .n) (.s (.s (.f [4] .n) (.l [] [(8,.o 47 (.st 0)),(38,.v .int)] [(2,[38],[])] (fI 37) (.s (.f [4] .n) (.s .n (.s (.s (.f [4] .n) (.s (.f [4] .n) (.s (.s (.f [4] .n) (.l [] [(10,.o 3 .int),(43,.v .int)] [(4,[43],[])] (fI 42) (.s (.f [4] .n) (.s .n (.s (.s (.f [4] .n) (.s (.f [4] .n) (.j [] [(10,.o 3 .int)] ([],[]) (.s (.f [4] .n) .n)))) (.f [4] .n)))))) (.s (.f [4] .n) (.s (.f [4,10] .n) (.l [] [(8,.o 47 (.st 0)),(13,.v .int)] [(6,[13],[])] (fL [4,7,8,10]) (.s (.s (.f [4,10] .n) .n) (.s (.f [4,10] .n) (.f [4,10] .n))))))))) (.f [4] .n)))))) (.s (.s (.f [8] .n) .n) (.s (.f [8] .n) .n))))))))))) Tryz.func35 Tryz.call35 rfl rfl fun x=>by kernel_rfl
def slices_IndexFunc_Rect_L0 (s_:(List Rect)) (f_:(Rect → Option (Bool))) (s1:Int):Option (Flow (Int) (Int)):=
 if (decide (s1 < (s_.length:Int))) then
  (getI s_ s1).bind fun x1=>
  (f_ x1).bind fun x2=>
  if x2 then
   some (.ret s1)
  else
   (addI s1 1).bind fun x3=>
   some (.go x3)
 else
  some (.ex 0 s1)
def slices_IndexFunc_Rect (s_:(List Rect)) (f_:(Rect → Option (Bool))):Option (Int):=
 (iterL (slices_IndexFunc_Rect_L0 s_ f_) (s_.length + 1) 0).bind fun f1=>match f1 with
  | .go _=>none
  | .ex _ _=>
   some (-1)
  | .ret r1=>some r1
noncomputable def k80:=mk 80 [.list (.st 0),.f1 (.st 0) .bool] [.int] (fun x=>slices_IndexFunc_Rect x.1 x.2) [] [] Tryz.f80 (.s .n (.s (.s .n (.l [] [(8,.v .int)] [(0,[8],[])] (fI 7) .n)) .n)) Tryz.func80 Tryz.call80 rfl rfl fun x=>by kernel_rfl
def slices_ContainsFunc_Rect (s_:(List Rect)) (f_:(Rect → Option (Bool))):Option (Bool):=
 (slices_IndexFunc_Rect s_ f_).bind fun x1=>
 some (decide (0 ≤ x1))
noncomputable def k38:=mk 38 [.list (.st 0),.f1 (.st 0) .bool] [.bool] (fun x=>slices_ContainsFunc_Rect x.1 x.2) [k80] [] Tryz.f38 (.n) Tryz.func38 Tryz.call38 rfl rfl fun x=>by kernel_rfl
def measure_Load_1 (r_:Rect) (p1_:Volume):Option (Bool):=
 (rect_Intersect r_ p1_.Box.Base).bind fun x1=>
 some x1.2
noncomputable def k36:=mk 36 [.st 0,.rf (.st 3)] [.bool] (fun x=>measure_Load_1 x.1 x.2) [k37] [] Tryz.f36 (.n) Tryz.func36 Tryz.call36 rfl rfl fun x=>by kernel_rfl
def measure_Load (p_:Plan) (c_:Cap) (v_:Volume):Option (Int):=
 (drawing_RightVolume v_).bind fun x1=>
 if (!x1) then
  some 0
 else
  (polygon_Region c_.Corners).bind fun x2=>
  (if (x2.2 != 0) then
   some true
  else
   (slices_ContainsFunc_Rect x2.1 (fun y0=>measure_Load_1 y0 v_)).bind fun x3=>
   some (!x3)).bind fun x4=>
  if x4 then
   some 0
  else
   if (c_.Load == 0) then
    some v_.Units
   else
    if (c_.Load == 1) then
     (measure_traffic p_ v_).bind fun x5=>
     some x5
    else
     if (c_.Load == 2) then
      (rect_Area v_.Box.Base).bind fun x6=>
      some x6
     else
      some 0
noncomputable def k15:=mk 15 [.st 11,.st 18,.st 3] [.int] (fun x=>measure_Load x.1 x.2.1 x.2.2) [k20,k35,k36,k38,k39,k33] [] Tryz.f15 (.n) Tryz.func15 Tryz.call15 rfl rfl fun x=>by kernel_rfl
def ref20_Same_L0 (a_:(List Entry)) (b_:(List Entry)) (s1:Int):Option (Flow (Int) (Bool)):=
 if (decide (s1 < (a_.length:Int))) then
  (getI a_ s1).bind fun x1=>
  (getI b_ s1).bind fun x2=>
  if (!decide (x1 = x2)) then
   some (.ret false)
  else
   (addI s1 1).bind fun x3=>
   some (.go x3)
 else
  some (.ex 0 s1)
def ref20_Same (a_:(List Entry)) (b_:(List Entry)):Option (Bool):=
 if ((a_.length:Int) != (b_.length:Int)) then
  some false
 else
  (iterL (ref20_Same_L0 a_ b_) (a_.length + b_.length + 1) 0).bind fun f1=>match f1 with
   | .go _=>none
   | .ex _ _=>
    some true
   | .ret r1=>some r1
noncomputable def k17:=mk 17 [.list (.st 9),.list (.st 9)] [.bool] (fun x=>ref20_Same x.1 x.2) [] [] Tryz.f17 (.s .n (.s .n (.s (.s .n (.l [] [(5,.v .int)] [(0,[5],[])] (fL [0,1]) .n)) .n))) Tryz.func17 Tryz.call17 rfl rfl fun x=>by kernel_rfl
def law20_small  : Option (Bool):=
 (law20_box 2 2 5 4 0 7 0).bind fun x1=>
 (law20_box 4 2 7 3 7 9 1).bind fun x2=>
 (measure_Of (⟨[],[(⟨(⟨#[116,114,97,102,102,105,99]⟩:ByteArray),[(⟨(⟨#[104,111,109,101]⟩:ByteArray),50⟩:Entry)],20⟩:Table)],[],[],[],[],[],0⟩:Plan) (⟨1,0,[(⟨0,0,10,8⟩:Rect)],[]⟩:Lot) (⟨1,[(⟨[{ x1 with Units:=4 },x2],[]⟩:Phase)]⟩:Drawing)).bind fun x3=>
 (law20_square (⟨0,0,5,5⟩:Rect)).bind fun x4=>
 (measure_Load (⟨[],[(⟨(⟨#[116,114,97,102,102,105,99]⟩:ByteArray),[(⟨(⟨#[104,111,109,101]⟩:ByteArray),50⟩:Entry)],20⟩:Table)],[],[],[],[],[],0⟩:Plan) (⟨(⟨#[]⟩:ByteArray),2,0,x4⟩:Cap) x2).bind fun x5=>
 (law20_square (⟨7,0,9,9⟩:Rect)).bind fun x6=>
 (measure_Load (⟨[],[(⟨(⟨#[116,114,97,102,102,105,99]⟩:ByteArray),[(⟨(⟨#[104,111,109,101]⟩:ByteArray),50⟩:Entry)],20⟩:Table)],[],[],[],[],[],0⟩:Plan) (⟨(⟨#[]⟩:ByteArray),2,0,x6⟩:Cap) x2).bind fun x7=>
 (ref20_Same x3 ([(⟨(⟨#[97,114,101,97]⟩:ByteArray),80⟩:Entry),(⟨(⟨#[99,111,118,101,114]⟩:ByteArray),8⟩:Entry),(⟨(⟨#[102,108,111,111,114]⟩:ByteArray),21⟩:Entry),(⟨(⟨#[102,108,111,111,114,115]⟩:ByteArray),3⟩:Entry),(⟨(⟨#[104,101,105,103,104,116]⟩:ByteArray),9⟩:Entry),(⟨(⟨#[104,111,109,101,115]⟩:ByteArray),4⟩:Entry),(⟨(⟨#[114,117,110,111,102,102]⟩:ByteArray),8⟩:Entry),(⟨(⟨#[115,101,116,98,97,99,107]⟩:ByteArray),2⟩:Entry),(⟨(⟨#[116,114,97,102,102,105,99]⟩:ByteArray),10⟩:Entry)])).bind fun x8=>
 (if ((x8 && (x5 == 3)) && (x7 == 0)) then
  (measure_Storeys ({ x1 with Units:=4 })).bind fun x9=>
  some (x9 == 3)
 else
  some false).bind fun x10=>
 (if x10 then
  (measure_Floor ({ x1 with Units:=4 })).bind fun x11=>
  some (x11 == 18)
 else
  some false).bind fun x12=>
 (if x12 then
  (measure_Storeys x2).bind fun x13=>
  some (x13 == 1)
 else
  some false).bind fun x14=>
 (if x14 then
  (measure_Floor x2).bind fun x15=>
  some (x15 == 3)
 else
  some false).bind fun x16=>
 some x16
noncomputable def k8:=mk 8 [] [.bool] (fun x=>law20_small) [k26,k18,k24,k15,k17,k11,k13] [1] Tryz.f8 (.n) Tryz.func8 Tryz.call8 rfl rfl fun x=>by kernel_rfl
def region_Shift_L0 (a_:(List Rect)) (dx_:Int) (dy_:Int) (s1:(List Rect) × Int):Option (Flow ((List Rect) × Int) ((List Rect) × Int)):=
 if (decide (s1.2 < (a_.length:Int))) then
  (getI a_ s1.2).bind fun x1=>
  (addI x1.X0 dx_).bind fun x2=>
  (addI x1.Y0 dy_).bind fun x3=>
  (addI x1.X1 dx_).bind fun x4=>
  (addI x1.Y1 dy_).bind fun x5=>
  (rect_Right (⟨x2,x3,x4,x5⟩:Rect)).bind fun x6=>
  if (!x6) then
   some (.ret (([]:List Rect),3))
  else
   (appI s1.1 ([(⟨x2,x3,x4,x5⟩:Rect)])).bind fun x7=>
   (addI s1.2 1).bind fun x8=>
   some (.go (x7,x8))
 else
  some (.ex 0 (s1.1,s1.2))
def region_Shift (a_:(List Rect)) (dx_:Int) (dy_:Int):Option ((List Rect) × Int):=
 (region_Right a_).bind fun x1=>
 if (!x1) then
  some (([]:List Rect),1)
 else
  if ((decide (0 < (a_.length:Int))) && ((decide (1048576 < (max dx_ dy_))) || (decide ((min dx_ dy_) < (-1048576))))) then
   some (([]:List Rect),3)
  else
   (iterL (region_Shift_L0 a_ dx_ dy_) (a_.length + 1) (([]:List Rect),0)).bind fun f1=>match f1 with
    | .go _=>none
    | .ex _ s1=>
     some (s1.1,0)
    | .ret r1=>some r1
noncomputable def k21:=mk 21 [.list (.st 0),.int,.int] [.list (.st 0),.int] (fun x=>region_Shift x.1 x.2.1 x.2.2) [k43,k55] [8,10,55,58] Tryz.f21 (.s .n (.s .n (.s .n (.s .n (.s (.s .n (.l [] [(8,.o 47 (.st 0)),(31,.v .int)] [(0,[31],[])] (fI 30) .n)) (.s (.f [8] .n) .n)))))) Tryz.func21 Tryz.call21 rfl rfl fun x=>by kernel_rfl
def ref20_Few_L0 (d_:Drawing) (s1:Int × Int):Option (Flow (Int × Int) (Bool)):=
 if (decide (s1.2 < (d_.Phases.length:Int))) then
  (getI d_.Phases s1.2).bind fun x1=>
  (addW s1.1 (x1.Volumes.length:Int)).bind fun x2=>
  (addW s1.2 1).bind fun x3=>
  some (.go (x2,x3))
 else
  some (.ex 0 (s1.1,s1.2))
def ref20_Few_L1 (p_:Plan) (s1:Int):Option (Flow (Int) (Bool)):=
 if (decide (s1 < (p_.Tables.length:Int))) then
  (getI p_.Tables s1).bind fun x1=>
  if (decide (10 < (x1.Rows.length:Int))) then
   some (.ret false)
  else
   (addW s1 1).bind fun x2=>
   some (.go x2)
 else
  some (.ex 2 s1)
def ref20_Few (p_:Plan) (lot_:Lot) (d_:Drawing):Option (Bool):=
 (iterL (ref20_Few_L0 d_) (d_.Phases.length + 1) (0,0)).bind fun f1=>match f1 with
  | .go _=>none
  | .ex _ s1 =>
   (iterL (ref20_Few_L1 p_) (p_.Tables.length + 1) 0).bind fun f2=>match f2 with
    | .go _=>none
    | .ex _ _=>
     some ((((decide ((p_.Tables.length:Int) ≤ 5)) && (decide ((lot_.Area.length:Int) ≤ 12))) && (decide ((d_.Phases.length:Int) ≤ 8))) && (decide (s1.1 ≤ 50)))
    | .ret r1=>some r1
  | .ret r2=>some r2
noncomputable def k9:=mkw 9 [.st 11,.st 22,.st 7] [.bool] (fun x=>ref20_Few x.1 x.2.1 x.2.2) [] [] [] Tryz.f9 (.s .n (.s .n (.s (.s .n (.l [] [(7,.v .int),(8,.v .int)] [(0,[8],[])] (fun e=>(gt e 2 (.st 7):Drawing).Phases.length + 1) .n)) (.s (.s .n (.l [] [(9,.v .int)] [(2,[9],[])] (fun e=>(gt e 0 (.st 11):Plan).Tables.length + 1) .n)) .n)))) Tryz.func9 Tryz.call9 rfl rfl fun x=>by kernel_rfl
def law20_MeasureMoves_L0 (dx_:Int) (dy_:Int) (x1:Bool) (x2:(List Volume)) (s1:(List Volume) × Int):Option (Flow ((List Volume) × Int) (Bool)):=
 if (decide (s1.2 < (x2.length:Int))) then
  (getI x2 s1.2).bind fun x3=>
  (drawing_RightVolume x3).bind fun x4=>
  if (!x4) then
   some (.ret x1)
  else
   (addI x3.Box.Base.X0 dx_).bind fun x5=>
   (addI x3.Box.Base.Y0 dy_).bind fun x6=>
   (addI x3.Box.Base.X1 dx_).bind fun x7=>
   (addI x3.Box.Base.Y1 dy_).bind fun x8=>
   (drawing_RightVolume ({ x3 with Box:={ x3.Box with Base:=(⟨x5,x6,x7,x8⟩:Rect) } })).bind fun x9=>
   if (!x9) then
    some (.ret x1)
   else
    (appI s1.1 ([{ x3 with Box:={ x3.Box with Base:=(⟨x5,x6,x7,x8⟩:Rect) } }])).bind fun x10=>
    (addI s1.2 1).bind fun x11=>
    some (.go (x10,x11))
 else
  some (.ex 0 (s1.1,s1.2))
def law20_MeasureMoves (p_:Plan) (lot_:Lot) (d_:Drawing) (dx_:Int) (dy_:Int):Option (Bool):=
 (law20_small).bind fun x1=>
 (drawing_Volumes d_ 0 (d_.Phases.length:Int)).bind fun x2=>
 (region_Shift lot_.Area dx_ dy_).bind fun x3=>
 (ref20_Few p_ lot_ d_).bind fun x4=>
 if (((((((!x4) || (decide (12 < (x2.length:Int)))) || (x3.2 != 0)) || (decide (dx_ < (-1048576)))) || (decide (1048576 < dx_))) || (decide (dy_ < (-1048576)))) || (decide (1048576 < dy_))) then
  some x1
 else
  (iterL (law20_MeasureMoves_L0 dx_ dy_ x1 x2) (x2.length + x3.1.length + ([]:List Volume).length + 1) (([]:List Volume),0)).bind fun f1=>match f1 with
   | .go _=>none
   | .ex _ s1 =>
    (if x1 then
     (measure_Of p_ lot_ d_).bind fun x5=>
     (measure_Of p_ (⟨lot_.Id,0,x3.1,[]⟩:Lot) (⟨0,[(⟨s1.1,[]⟩:Phase)]⟩:Drawing)).bind fun x6=>
     (ref20_Same x5 x6).bind fun x7=>
     some x7
    else
     some false).bind fun x8=>
    some x8
   | .ret r1=>some r1
noncomputable def k5:=mk 5 [.st 11,.st 22,.st 7,.int,.int] [.bool] (fun x=>law20_MeasureMoves x.1 x.2.1 x.2.2.1 x.2.2.2.1 x.2.2.2.2) [k8,k10,k21,k9,k20,k18,k17] [15,17,105,108] Tryz.f5 (.s .n (.s .n (.s .n (.s .n (.s .n (.s .n (.s (.s .n (.l [] [(15,.o 51 (.st 3)),(16,.v .int)] [(0,[16],[])] (fL [12,13,15]) .n)) (.s (.f [15] .n) (.s (.f [15] .n) .n))))))))) Tryz.func5 Tryz.call5 rfl rfl fun x=>by kernel_rfl
theorem law20_MeasureMoves_ok {k0:K} {v0 v1 v2 v3 v4:Value} {x0:Plan} {x1:Lot} {x2:Drawing} {x3:Int} {x4:Int} {r:Bool} (i0:(IsV x0) v0 k0) (i1:(IsV x1) v1 k0) (i2:(IsV x2) v2 k0) (i3:(IsV x3) v3 k0) (i4:(IsV x4) v4 k0) (hr:law20_MeasureMoves x0 x1 x2 x3 x4 = some r):Calls Tryz.prog 5 #[v0,v1,v2,v3,v4] k0.w (Ret k0 (IsV r)):=(k5.ok.ok k0 [v0,v1,v2,v3,v4] (x0,x1,x2,x3,x4) r (GOk.none (fun _=>rfl) fun _ e=>by cases e) ⟨i0,i1,i2,i3,i4⟩ hr)
end Go.Proofs.YtagkmlkhaekldaaGreat
