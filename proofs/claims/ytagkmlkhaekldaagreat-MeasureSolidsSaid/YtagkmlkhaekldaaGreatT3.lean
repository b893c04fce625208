/- What the functions compute that the law reaches, part 3 -/
import Derived.Test.YtagkmlkhaekldaaGreatT2
namespace Go.Proofs.YtagkmlkhaekldaaGreat
open Go.Gb
set_option linter.unusedVariables false
set_option linter.unusedSimpArgs false
set_option maxRecDepth 100000
def solid_Of_L0 (l_:(List Box)) (s1:(List Slab) × Int):Option (Flow ((List Slab) × Int) ((List Slab) × Int)):=
 if (decide (s1.2 < (l_.length:Int))) then
  (getI l_ s1.2).bind fun x1=>
  (rect_Right x1.Base).bind fun x2=>
  if ((((!x2) || (decide (x1.Z0 < 0))) || (decide (x1.Z1 ≤ x1.Z0))) || (decide (4096 < x1.Z1))) then
   some (.ret (([]:List Slab),1))
  else
   (appI s1.1 ([(⟨x1.Z0,x1.Z1,[]⟩:Slab)])).bind fun x3=>
   (addI s1.2 1).bind fun x4=>
   some (.go (x3,x4))
 else
  some (.ex 0 (s1.1,s1.2))
def solid_Of_L2 (l_:(List Box)) (x1:(List Int)) (s1:(List Slab) × Int) (s2:(List Rect) × Int):Option (Flow ((List Rect) × Int) ((List Slab) × Int)):=
 if (decide (s2.2 < (l_.length:Int))) then
  (getI l_ s2.2).bind fun x2=>
  (getI x1 s1.2).bind fun x3=>
  (if (decide (x2.Z0 < x3)) then
   (subI s1.2 1).bind fun x4=>
   (getI x1 x4).bind fun x5=>
   some (decide (x5 < x2.Z1))
  else
   some false).bind fun x6=>
  (if x6 then
   (appI s2.1 ([x2.Base])).bind fun x7=>
   some x7
  else
   some s2.1).bind fun s3=>
  (addI s2.2 1).bind fun x8=>
  some (.go (s3,x8))
 else
  some (.ex 4 (s2.1,s2.2))
def solid_Of_L1 (l_:(List Box)) (x1:(List Int)) (s1:(List Slab) × Int):Option (Flow ((List Slab) × Int) ((List Slab) × Int)):=
 if (decide (s1.2 < (x1.length:Int))) then
  (iterL (solid_Of_L2 l_ x1 s1) (l_.length + 1) (([]:List Rect),0)).bind fun f1=>match f1 with
   | .go _=>none
   | .ex _ s2 =>
    (region_Of s2.1).bind fun x2=>
    if (x2.2 != 0) then
     some (.ret (([]:List Slab),x2.2))
    else
     (subI s1.2 1).bind fun x3=>
     (getI x1 x3).bind fun x4=>
     (getI x1 s1.2).bind fun x5=>
     (solid_put s1.1 (⟨x4,x5,x2.1⟩:Slab)).bind fun x6=>
     (addI s1.2 1).bind fun x7=>
     some (.go (x6,x7))
   | .ret r1=>some (.ret r1)
 else
  some (.ex 2 (s1.1,s1.2))
def solid_Of (l_:(List Box)):Option ((List Slab) × Int):=
 (iterL (solid_Of_L0 l_) (l_.length + 1) (([]:List Slab),0)).bind fun f1=>match f1 with
  | .go _=>none
  | .ex _ s1 =>
   if (decide (200 < (l_.length:Int))) then
    some (([]:List Slab),6)
   else
    (solid_heights ([s1.1])).bind fun x1=>
    (iterL (solid_Of_L1 l_ x1) (l_.length + x1.length + ([]:List Slab).length + 1) (([]:List Slab),1)).bind fun f2=>match f2 with
     | .go _=>none
     | .ex _ s2=>
      (solid_fits s2.1).bind fun x2=>
      some (x2.1,x2.2)
     | .ret r1=>some r1
  | .ret r2=>some r2
noncomputable def k28:=mkc 28 [.list (.st 4)] [.list (.st 7),.int] (fun x=>solid_Of x) [k55,k69,k27,k71] [kr70] [4,8,10,42,49,86,90,100,112] Tryz.f28 (.s .n (.s .n (.s (.s .n (.l [] [(4,.o 81 (.st 7)),(17,.v .int)] [(0,[17],[])] (fI 16) .n)) (.s (.s (.f [4] .n) .n) (.s (.f [4] .n) (.s .n (.s (.s .n (.l [] [(8,.o 81 (.st 7)),(9,.v .int)] [(2,[9],[])] (fL [0,7,8]) (.s .n (.s (.s .n (.s (.s .n (.l [] [(10,.o 47 (.st 0)),(65,.v .int)] [(4,[65],[])] (fI 64) (.s .n (.s .n (.s (.s .n (.s .n (.j [] [(10,.o 47 (.st 0))] ([],[]) (.s .n .n)))) .n))))) (.s (.f [10] .n) .n))) .n)))) (.s (.f [8] .n) .n)))))))) Tryz.func28 Tryz.call28 rfl rfl fun x=>by kernel_rfl
def slices_BinarySearchFunc_strip_int_L0 (x_:(List RegionStrip)) (target_:Int) (cmp_:(RegionStrip → Int → Option (Int))) (s1:Int × Int):Option (Flow (Int × Int) (Int × Bool)):=
 if (decide (s1.1 < s1.2)) then
  (addI s1.1 s1.2).bind fun x1=>
  (getI x_ (IntKind.i64.wrap (IK.shr (IK.mk (IntKind.u64.wrap x1):IK .u64) 1).n)).bind fun x2=>
  (cmp_ x2 target_).bind fun x3=>
  (if (decide (x3 < 0)) then
   (addI (IntKind.i64.wrap (IK.shr (IK.mk (IntKind.u64.wrap x1):IK .u64) 1).n) 1).bind fun x4=>
   some (x4,s1.2)
  else
   some (s1.1,(IntKind.i64.wrap (IK.shr (IK.mk (IntKind.u64.wrap x1):IK .u64) 1).n))).bind fun s2=>
  some (.go (s2.1,s2.2))
 else
  some (.ex 0 (s1.1,s1.2))
def slices_BinarySearchFunc_strip_int (x_:(List RegionStrip)) (target_:Int) (cmp_:(RegionStrip → Int → Option (Int))):Option (Int × Bool):=
 (iterL (slices_BinarySearchFunc_strip_int_L0 x_ target_ cmp_) (x_.length + 1) (0,(x_.length:Int))).bind fun f1=>match f1 with
  | .go _=>none
  | .ex _ s1 =>
   (if (decide (s1.1 < (x_.length:Int))) then
    (getI x_ s1.1).bind fun x1=>
    (cmp_ x1 target_).bind fun x2=>
    some (x2 == 0)
   else
    some false).bind fun x3=>
   some (s1.1,x3)
  | .ret r1=>some r1
noncomputable def k161:=mk 161 [.list (.st 2),.int,.f2 (.st 2) .int .int] [.int,.bool] (fun x=>slices_BinarySearchFunc_strip_int x.1 x.2.1 x.2.2) [] [] Tryz.f161 (.s .n (.s .n (.s .n (.s (.l [] [(9,.v .int),(10,.v .int)] [(0,[10],[])] (fL [0]) (.s .n (.s .n (.s .n (.j [] [(9,.v .int),(10,.v .int)] ([],[]) (.s .n .n)))))) .n)))) Tryz.func161 Tryz.call161 rfl rfl fun x=>by kernel_rfl
def region_at_1 (s_:RegionStrip) (x_:Int):Option (Int):=
 if (decide (s_.x1 ≤ x_)) then
  some (-1)
 else
  some 1
noncomputable def k162:=mk 162 [.st 2,.int] [.int] (fun x=>region_at_1 x.1 x.2) [] [] Tryz.f162 (.n) Tryz.func162 Tryz.call162 rfl rfl fun x=>by kernel_rfl
def region_at (l_:(List RegionStrip)) (x_:Int):Option ((List RegionSpan)):=
 (slices_BinarySearchFunc_strip_int l_ x_ region_at_1).bind fun x1=>
 (if (decide (x1.1 < (l_.length:Int))) then
  (getI l_ x1.1).bind fun x2=>
  some (decide (x2.x0 ≤ x_))
 else
  some false).bind fun x3=>
 if x3 then
  (getI l_ x1.1).bind fun x4=>
  some x4.column
 else
  some ([]:List RegionSpan)
noncomputable def k137:=mk 137 [.list (.st 2),.int] [.list (.st 1)] (fun x=>region_at x.1 x.2) [k161,k162] [] Tryz.f137 (.n) Tryz.func137 Tryz.call137 rfl rfl fun x=>by kernel_rfl
theorem region_at_ok {k0:K} {v0 v1:Value} {x0:(List RegionStrip)} {x1:Int} {r:(List RegionSpan)} (i0:(IsV x0) v0 k0) (i1:(IsV x1) v1 k0) (hr:region_at x0 x1 = some r):Calls Tryz.prog 137 #[v0,v1] k0.w (Ret k0 (IsV r)):=(k137.ok.ok k0 [v0,v1] (x0,x1) r (GOk.none (fun _=>rfl) fun _ e=>by cases e) ⟨i0,i1⟩ hr)
section
open Go.Proofs Go.RowKit Go.Lib Go.Sort Go.Shelf
def Tryz.growL183_ren:Go.Shelf.Ren:=⟨fun | 4=>183 | n=>n,fun | 22=>146 | 25=>148 | 3=>3 | 4=>4 | 9=>9 | 20=>20 | 0=>0 | 2=>3 | n=>n,fun | n=>n⟩
theorem Tryz.growL183:Go.Proofs.Lays8.n4 Tryz.prog Tryz.growL183_ren:={
 mixed:=by kernel_rfl,
 f4:=⟨Tryz.f183.name,by decide,Tryz.func183.trans (congrArg some (by kernel_rfl))⟩,
 t0:=Tryz.underlying0,
 a0:=Tryz.isAgg0,
 z0:=Tryz.sizeOf0,
 v0:=Tryz.zeroValue0,
 t3:=Tryz.underlying3,
 a3:=Tryz.isAgg3,
 z3:=Tryz.sizeOf3,
 v3:=Tryz.zeroValue3,
 t4:=Tryz.underlying4,
 a4:=Tryz.isAgg4,
 z4:=Tryz.sizeOf4,
 v4:=Tryz.zeroValue4,
 t9:=Tryz.underlying9,
 a9:=Tryz.isAgg9,
 z9:=Tryz.sizeOf9,
 v9:=Tryz.zeroValue9,
 t20:=Tryz.underlying20,
 a20:=Tryz.isAgg20,
 z20:=Tryz.sizeOf20,
 v20:=Tryz.zeroValue20,
 t22:=Tryz.underlying146,
 a22:=Tryz.isAgg146,
 z22:=Tryz.sizeOf146,
 v22:=Tryz.zeroValue146 }
theorem slices_Grow_span_okO {k0:K} {v0 v1:Value} {n:Int} {r:List RegionSpan} (i0:v0 = .slice none 0 0) (i1:IsV n v1 k0) (hr:growI RegionSpan n = some r):Calls Tryz.prog 183 #[v0,v1] k0.w (Ret k0 (IsOwn k0.w.heap.size 148 r)):=by
 refine grow_own eo148 i0 i1 hr ?_ fun m i z h0 hm hi hz hs hb=>?_
 ·have hcon:=Any8.slices_Grow_room Tryz.growL183 none 0 0 0 k0.w (by omega) (by omega) (by omega) (by omega)
  change Calls Tryz.prog 183 _ _ _ at hcon
  exact hcon
 ·have hcon:=Any8.slices_Grow_grow Tryz.growL183 i z hi hz hs none 0 0 m [] k0.w (by omega) (by omega) (by
   have:(0 + m) * i.bytes ≤ 1073741824 * 65536:=Nat.mul_le_mul (by omega) hb
   omega) (by omega) (by simp) (fun _=>rfl) (fun a h=>by simp at h)
  change Calls Tryz.prog 183 _ _ _ at hcon
  exact hcon
end
def slices_Concat_span_L0 (slices_:(List (List RegionSpan))) (s1:Int × Int):Option (Flow (Int × Int) ((List RegionSpan))):=
 if (decide (s1.2 < (slices_.length:Int))) then
  (getI slices_ s1.2).bind fun x1=>
  (addI s1.1 (x1.length:Int)).bind fun x2=>
  if (decide (x2 < 0)) then
   none
  else
   (addI s1.2 1).bind fun x3=>
   some (.go (x2,x3))
 else
  some (.ex 0 (s1.1,s1.2))
def slices_Concat_span_L1 (slices_:(List (List RegionSpan))) (s1:(List RegionSpan) × Int):Option (Flow ((List RegionSpan) × Int) ((List RegionSpan))):=
 if (decide (s1.2 < (slices_.length:Int))) then
  (getI slices_ s1.2).bind fun x1=>
  (appI s1.1 x1).bind fun x2=>
  (addI s1.2 1).bind fun x3=>
  some (.go (x2,x3))
 else
  some (.ex 2 (s1.1,s1.2))
def slices_Concat_span (slices_:(List (List RegionSpan))):Option ((List RegionSpan)):=
 (iterL (slices_Concat_span_L0 slices_) (slices_.length + 1) (0,0)).bind fun f1=>match f1 with
  | .go _=>none
  | .ex _ s1 =>
   (growI RegionSpan s1.1).bind fun x1=>
   (iterL (slices_Concat_span_L1 slices_) (slices_.length + 1) (x1,0)).bind fun f2=>match f2 with
    | .go _=>none
    | .ex _ s2=>
     some s2.1
    | .ret r1=>some r1
  | .ret r2=>some r2
theorem slices_Concat_span_okO {k0:K} {v0:Value} {slices_:(List (List RegionSpan))} {r:(List RegionSpan)} (i0:(IsV slices_) v0 k0) (hr:slices_Concat_span slices_ = some r) :
  Calls Tryz.prog 159 #[v0] k0.w (Ret k0 (IsOwn k0.w.heap.size 148 r)):=by
 unfold slices_Concat_span at hr
 refine Ret.ofC ?_
 refine enterK Tryz.func159 rfl Tryz.ntmps159 (show 1 ≤ 36 by decide) fun a k hk0 hs hd ha=>?_
 obtain ⟨e0,_⟩:=ha
 replace i0:(IsV slices_) (a.get 0) k:=by rw [e0,hk0]; exact i0
 have hQ:Gb.LetsOut (bodyPost Tryz.prog Tryz.f159 (RetC noF k0 (IsOwn k0.w.heap.size 148 r))):=letsOutC
 have hg:Chg noF k0 k:=by rw [hk0]; exact Chg.refl _ k0
 refine stepL 1 (⟨some IsE0,[]⟩::[]) rfl ⟨hg,hs,hd⟩ (by kernel_rfl) ⟨ob1 rfl fun b q h n=>ok_assign rfl isE0_nil,trivial⟩ [⟨_,_⟩] (fun b q p=>⟨p.ke 0 rfl i0,trivial⟩) ?_
 rintro a k ⟨⟨hg,hs,hd⟩,i0,_⟩
 refine stepL 1 (⟨some (IsI 0),[]⟩::[]) rfl ⟨hg,hs,hd⟩ (by kernel_rfl) ⟨aI rfl rfl,trivial⟩ [⟨_,_⟩,⟨_,_⟩] (fun b q p=>⟨p.ke 0 rfl i0,p.ou 0 3 rfl,trivial⟩) ?_
 rintro a k ⟨⟨hg,hs,hd⟩,i0,i3,_⟩
 refine wp_seq ?_
 refine stepL 3 (_::_::⟨some (IsI 0),[]⟩::[]) rfl ⟨hg,hs,hd⟩ (by kernel_rfl) ⟨mu rfl i0,o1 [(9,some 0)] rfl fun _ _ h n=>ok_len rfl rfl Tryz.underlying217 (IsV.rd n.1),ob1 rfl fun _ _ h n=>ok_move rfl (cI rfl),trivial⟩ [⟨_,_⟩,⟨_,_⟩,⟨_,_⟩,⟨_,_⟩,⟨_,_⟩] (fun b q p=>⟨p.ke 0 rfl i0,p.ke 3 rfl i3,p.ou 0 9 rfl,p.ou 1 10 rfl,p.ou 2 11 rfl,trivial⟩) ?_
 rintro a k ⟨⟨hg,hs,hd⟩,i0,i3,i9,i10,i11,_⟩
 refine wp_block ?_
 obtain ⟨f1,hf1,hr⟩:=bind_some hr
 refine cutFe f1 (fun s' c l=>Bs noF k0 36 c l∧IsV slices_ (c.get 0) l∧IsV s'.1 (c.get 3) l∧IsV slices_ (c.get 9) l∧IsL slices_ (c.get 10) l∧IsV s'.2 (c.get 11) l∧True) (fun i' s' c l=>(i' = 0∧Bs noF k0 36 c l∧IsV slices_ (c.get 0) l∧IsV s'.1 (c.get 3) l∧True)) (fun r' c l=>bodyPost Tryz.prog Tryz.f159 (RetC noF k0 (IsOwn k0.w.heap.size 148 r')) .ret c l.w) ?_ hQ ?_ ?_ ?_
 ·intro Q1 W1 hgo hex hret
  refine sim_loop ?_ _ _ _ _ _ hf1 ⟨⟨hg,hs,hd⟩,i0,i3,i9,i10,i11,trivial⟩ Q1 W1 hgo hex hret
  clear hr hf1 hgo hex hret W1 hQ hg hs hd i0 i10 i11 i3 i9
  intro s1 fl_ a k hr hS Q hQ hgo2279 hex2280 hret2281
  obtain ⟨⟨hg,hs,hd⟩,i0,i3,i9,i10,i11,_⟩:=hS
  unfold slices_Concat_span_L0 at hr
  refine stepL 1 (_::[]) rfl ⟨hg,hs,hd⟩ (by kernel_rfl) ⟨o1 [(11,none),(10,none)] rfl fun _ _ h n=>ok_lss rfl (up i11 h n.1) (up i10 h n.2.1),trivial⟩ [⟨_,_⟩,⟨_,_⟩,⟨_,_⟩,⟨_,_⟩,⟨_,_⟩,⟨_,_⟩] (fun b q p=>⟨p.ke 0 rfl i0,p.ke 3 rfl i3,p.ke 9 rfl i9,p.ke 10 rfl i10,p.ke 11 rfl i11,p.ou 0 12 rfl,trivial⟩) ?_
  rintro a k ⟨⟨hg,hs,hd⟩,i0,i3,i9,i10,i11,i12,_⟩
  refine wp_seq ?_
  refine wp_cond_split (isBool i12) (fun hc2296=>?_) (fun hc2296=>?_)
  ·rw [if_pos hc2296] at hr
   refine wp_skip ?_
   refine wp_seq ?_
   refine wp_block ?_
   refine wp_seq ?_
   obtain ⟨x1,hx1,hr⟩:=bind_some hr
   refine cut (fun a' k'=>Bs noF k0 36 a' k'∧(IsV slices_) (a'.get 0) k'∧(IsV s1.1) (a'.get 3) k'∧(IsV x1) (a'.get 5) k'∧(IsV slices_) (a'.get 9) k'∧(IsL slices_) (a'.get 10) k'∧(IsV s1.2) (a'.get 11) k'∧True) ?_ hQ ?_
   ·intro Q2 W2 w1
    refine gS 3 (_::_::_::[]) hs (by kernel_rfl) ⟨o1 [(9,none),(11,none)] rfl fun _ _ h n=>ok_indexAddr rfl Tryz.underlying217 ty146 (IsV.rd (up i9 h n.1)) (up i11 h n.2.1) hx1,o1 [(13,some 0)] rfl fun _ _ h n=>ok_load rfl ty146 n.1,cp 1 rfl rfl,trivial⟩ W2 fun b q p=>?_
    exact tail_done (k:=q) (w1 _ _ ⟨Bs.post ⟨hg,hs,hd⟩ p,p.ke 0 rfl i0,p.ke 3 rfl i3,p.ou 2 5 rfl,p.ke 9 rfl i9,p.ke 10 rfl i10,p.ke 11 rfl i11,trivial⟩)
   rintro a k ⟨⟨hg,hs,hd⟩,i0,i3,i5,i9,i10,i11,_⟩
   refine wp_seq ?_
   obtain ⟨x2,hx2,hr⟩:=bind_some hr
   refine cut (fun a' k'=>Bs noF k0 36 a' k'∧(IsV slices_) (a'.get 0) k'∧(IsV x2) (a'.get 3) k'∧(IsV slices_) (a'.get 9) k'∧(IsL slices_) (a'.get 10) k'∧(IsV s1.2) (a'.get 11) k'∧True) ?_ hQ ?_
   ·intro Q3 W3 w2
    refine gS 5 (_::_::_::_::_::[]) hs (by kernel_rfl) ⟨mu rfl i3,mu rfl i5,o1 [(16,some 1)] rfl fun _ _ h n=>ok_len rfl rfl Tryz.underlying146 (IsV.rd n.1),o1 [(15,some 0),(17,some 2)] rfl fun _ _ h n=>ok_add rfl n.1 n.2.1 hx2,cp 3 rfl rfl,trivial⟩ W3 fun b q p=>?_
    exact tail_done (k:=q) (w2 _ _ ⟨Bs.post ⟨hg,hs,hd⟩ p,p.ke 0 rfl i0,p.ou 4 3 rfl,p.ke 9 rfl i9,p.ke 10 rfl i10,p.ke 11 rfl i11,trivial⟩)
   rintro a k ⟨⟨hg,hs,hd⟩,i0,i3,i9,i10,i11,_⟩
   refine stepL 2 (_::_::[]) rfl ⟨hg,hs,hd⟩ (by kernel_rfl) ⟨mu rfl i3,o1 [(19,some 0)] rfl fun _ _ h n=>ok_lss rfl n.1 (cI rfl),trivial⟩ [⟨_,_⟩,⟨_,_⟩,⟨_,_⟩,⟨_,_⟩,⟨_,_⟩,⟨_,_⟩] (fun b q p=>⟨p.ke 0 rfl i0,p.ke 3 rfl i3,p.ke 9 rfl i9,p.ke 10 rfl i10,p.ke 11 rfl i11,p.ou 1 20 rfl,trivial⟩) ?_
   rintro a k ⟨⟨hg,hs,hd⟩,i0,i3,i9,i10,i11,i20,_⟩
   refine wp_cond_split (isBool i20) (fun hc2289=>?_) (fun hc2289=>?_)
   ·rw [if_pos hc2289] at hr
    simp at hr
   rw [if_neg (by rw [hc2289]; decide)] at hr
   refine wp_skip ?_
   obtain ⟨x3,hx3,hr⟩:=bind_some hr
   refine cut (fun a' k'=>Bs noF k0 36 a' k'∧(IsV slices_) (a'.get 0) k'∧(IsV x2) (a'.get 3) k'∧(IsV slices_) (a'.get 9) k'∧(IsL slices_) (a'.get 10) k'∧(IsV x3) (a'.get 11) k'∧True) ?_ hQ ?_
   ·intro Q4 W4 w3
    refine gS 2 (_::_::[]) hs (by kernel_rfl) ⟨o1 [(11,none)] rfl fun _ _ h n=>ok_add rfl (up i11 h n.1) (cI rfl) hx3,cm 0 rfl rfl,trivial⟩ W4 fun b q p=>?_
    exact tail_done (k:=q) (w3 _ _ ⟨Bs.post ⟨hg,hs,hd⟩ p,p.ke 0 rfl i0,p.ke 3 rfl i3,p.ke 9 rfl i9,p.ke 10 rfl i10,p.ou 1 11 rfl,trivial⟩)
   rintro a k ⟨⟨hg,hs,hd⟩,i0,i3,i9,i10,i11,_⟩
   exact hgo2279 _ _ _ (Option.some.inj hr).symm ⟨⟨hg,hs,hd⟩,i0,i3,i9,i10,i11,trivial⟩
  rw [if_neg (by rw [hc2296]; decide)] at hr
  refine wp_exit ?_
  exact hex2280 _ _ _ _ (Option.some.inj hr).symm ⟨rfl,⟨hg,hs,hd⟩,i0,i3,trivial⟩
 ·rintro r1 a k rfl hR
  dsimp only at hr
  obtain rfl:=Option.some.inj hr
  exact hR
 ·rintro _ _ _ rfl _
  simp at hr
 clear hf1
 rintro _ s2 a k rfl ⟨rfl,⟨hg,hs,hd⟩,i0,i3,_⟩
 dsimp only at hr
 refine wp_seq ?_
 obtain ⟨x4,hx4,hr⟩:=bind_some hr
 refine cut (fun a' k'=>Bs noF k0 36 a' k'∧(IsV slices_) (a'.get 0) k'∧IsOwn 0 148 x4 (a'.get 6) k'∧Lo k0 (obF (a'.get 6))∧True) ?_ hQ ?_
 ·intro Q5 W5 w4
  refine gS 3 (_::_::_::[]) hs (by kernel_rfl) ⟨mu rfl i3,o1 [(23,some 0)] rfl fun _ _ h n=>ok_call rfl Tryz.call183 (ret_weaken h.size (slices_Grow_span_okO rfl n.1 hx4)),cp 1 rfl rfl,trivial⟩ W5 fun b q p=>?_
  have hgq:=hg.then p.grow
  have hsb:=p.size.trans hs
  have hdb:=p.defers.trans hd
  have j0:=p.ke 0 rfl i0
  have j6:(IsOwn k.w.heap.size 148 x4) (b.get 6) q:=p.ou 2 6 rfl
  have x6:Lo k (obF (b.get 6)):=j6.loF
  have y6:=x6.chg hg
  replace j6:=j6.weaken (Nat.zero_le _)
  exact tail_done (k:=q) (w4 _ _ ⟨⟨hgq,hsb,hdb⟩,j0,j6,y6,trivial⟩)
 rintro a k ⟨⟨hg,hs,hd⟩,i0,i6,n6,_⟩
 refine wp_seq ?_
 refine cutS (fun c l=>Bs noF k0 36 c l∧IsOwn 0 148 x4 (c.get 6) l∧Lo k0 (obF (c.get 6))∧IsV slices_ (c.get 25) l∧IsL slices_ (c.get 26) l∧IsI 0 (c.get 27) l∧True) ?_ ?_
 ·intro Q6 W6 w5
  refine gS 3 (_::_::⟨some (IsI 0),[]⟩::[]) hs (by kernel_rfl) ⟨mu rfl i0,o1 [(25,some 0)] rfl fun _ _ h n=>ok_len rfl rfl Tryz.underlying217 (IsV.rd n.1),ob1 rfl fun _ _ h n=>ok_move rfl (cI rfl),trivial⟩ W6 fun b q p=>?_
  exact tail_done (k:=q) (w5 _ _ ⟨Bs.post ⟨hg,hs,hd⟩ p,p.ke 6 rfl i6,(by rw [p.old 6 rfl]; exact n6),p.ou 0 25 rfl,p.ou 1 26 rfl,p.ou 2 27 rfl,trivial⟩)
 rintro a k ⟨⟨hg,hs,hd⟩,i6,n6,i25,i26,i27,_⟩
 refine wp_block ?_
 obtain ⟨f2,hf2,hr⟩:=bind_some hr
 refine cutFe f2 (fun s' c l=>Bs noF k0 36 c l∧IsOwn 0 148 s'.1 (c.get 6) l∧Lo k0 (obF (c.get 6))∧IsV slices_ (c.get 25) l∧IsL slices_ (c.get 26) l∧IsV s'.2 (c.get 27) l∧True) (fun i' s' c l=>(i' = 2∧Bs noF k0 36 c l∧IsOwn 0 148 s'.1 (c.get 6) l∧Lo k0 (obF (c.get 6))∧True)) (fun r' c l=>bodyPost Tryz.prog Tryz.f159 (RetC noF k0 (IsOwn k0.w.heap.size 148 r')) .ret c l.w) ?_ hQ ?_ ?_ ?_
 ·intro Q7 W7 hgo hex hret
  refine sim_loop ?_ _ _ _ _ _ hf2 ⟨⟨hg,hs,hd⟩,i6,n6,i25,i26,i27,trivial⟩ Q7 W7 hgo hex hret
  clear hr hf2 hgo hex hret W7 hQ hg hs hd i25 i26 i27 i6 n6
  intro s3 fl_ a k hr hS Q hQ hgo2304 hex2305 hret2306
  obtain ⟨⟨hg,hs,hd⟩,i6,n6,i25,i26,i27,_⟩:=hS
  unfold slices_Concat_span_L1 at hr
  refine cutS (fun c l=>Bs noF k0 36 c l∧IsOwn 0 148 s3.1 (c.get 6) l∧Lo k0 (obF (c.get 6))∧IsV slices_ (c.get 25) l∧IsL slices_ (c.get 26) l∧IsV s3.2 (c.get 27) l∧(IsV (decide (s3.2 < (slices_.length:Int)))) (c.get 28) l∧True) ?_ ?_
  ·intro Q8 W8 w6
   refine gS 1 (_::[]) hs (by kernel_rfl) ⟨o1 [(27,none),(26,none)] rfl fun _ _ h n=>ok_lss rfl (up i27 h n.1) (up i26 h n.2.1),trivial⟩ W8 fun b q p=>?_
   exact tail_done (k:=q) (w6 _ _ ⟨Bs.post ⟨hg,hs,hd⟩ p,p.ke 6 rfl i6,(by rw [p.old 6 rfl]; exact n6),p.ke 25 rfl i25,p.ke 26 rfl i26,p.ke 27 rfl i27,p.ou 0 28 rfl,trivial⟩)
  rintro a k ⟨⟨hg,hs,hd⟩,i6,n6,i25,i26,i27,i28,_⟩
  refine wp_seq ?_
  refine wp_cond_split (isBool i28) (fun hc2317=>?_) (fun hc2317=>?_)
  ·rw [if_pos hc2317] at hr
   refine wp_skip ?_
   refine wp_seq ?_
   refine wp_block ?_
   refine wp_seq ?_
   obtain ⟨x5,hx5,hr⟩:=bind_some hr
   refine cut (fun a' k'=>Bs noF k0 36 a' k'∧IsOwn 0 148 s3.1 (a'.get 6) k'∧Lo k0 (obF (a'.get 6))∧(IsV x5) (a'.get 8) k'∧(IsV slices_) (a'.get 25) k'∧(IsL slices_) (a'.get 26) k'∧(IsV s3.2) (a'.get 27) k'∧True) ?_ hQ ?_
   ·intro Q9 W9 w7
    refine gS 3 (_::_::_::[]) hs (by kernel_rfl) ⟨o1 [(25,none),(27,none)] rfl fun _ _ h n=>ok_indexAddr rfl Tryz.underlying217 ty146 (IsV.rd (up i25 h n.1)) (up i27 h n.2.1) hx5,o1 [(29,some 0)] rfl fun _ _ h n=>ok_load rfl ty146 n.1,cp 1 rfl rfl,trivial⟩ W9 fun b q p=>?_
    exact tail_done (k:=q) (w7 _ _ ⟨Bs.post ⟨hg,hs,hd⟩ p,p.ke 6 rfl i6,(by rw [p.old 6 rfl]; exact n6),p.ou 2 8 rfl,p.ke 25 rfl i25,p.ke 26 rfl i26,p.ke 27 rfl i27,trivial⟩)
   rintro a k ⟨⟨hg,hs,hd⟩,i6,n6,i8,i25,i26,i27,_⟩
   obtain ⟨x7,hx7,hr⟩:=bind_some hr
   refine cut (fun a' k'=>Bs noF k0 36 a' k'∧IsOwn 0 148 x7 (a'.get 6) k'∧Lo k0 (obF (a'.get 6))∧(IsV slices_) (a'.get 25) k'∧(IsL slices_) (a'.get 26) k'∧(IsV s3.2) (a'.get 27) k'∧True) ?_ hQ ?_
   ·intro Q10 W10 w8
    refine gS 2 (⟨some (OwnAt (a.get 6) 0 148 s3.1),[(6,none)]⟩::_::[]) hs (by kernel_rfl) ⟨ob1 rfl fun _ _ h n=>ok_moveOA (.inl rfl) (ownAt n.1 (up i6 h n.1)),mu rfl i8,trivial⟩ W10 fun b q p=>?_
    have hgq:=hg.then p.grow
    have hsb:=p.size.trans hs
    have hdb:=p.defers.trans hd
    have j25:=p.ke 25 rfl i25
    have j26:=p.ke 26 rfl i26
    have j27:=p.ke 27 rfl i27
    have e31:b.get 31 = a.get 6:=(p.ou 0 31 rfl).1
    have j31:IsOwn 0 148 s3.1 (b.get 31) q:=(p.ou 0 31 rfl).2
    have y31:Lo k0 (obF (b.get 31)):=by rw [e31]; exact n6
    have j32:(IsV x5) (b.get 32) q:=p.ou 1 32 rfl
    have hns:=j31.nshF
    refine tail_appendS (i:=2) (d:=33) rfl rfl rfl rfl (by rw [hsb]; decide) (e:=148) Tryz.underlying146 eo148 j31 (IsV.rd j32) hx7 fun b2 q2 hsz hdf hoth hch hown hob=>?_
    have hle:=hch.le hns
    have yn:Lo k0 (obF (b2.get 33)):=y31.app hgq hob
    replace j25:=Pers.pers hle j25
    replace j26:=Pers.pers hle j26
    replace j27:=Pers.pers hle j27
    replace j32:=Pers.pers hle j32
    replace hgq:=hgq.step hch y31.wr
    rw [← hoth 25 (by decide)] at j25
    rw [← hoth 26 (by decide)] at j26
    rw [← hoth 27 (by decide)] at j27
    rw [← hoth 32 (by decide)] at j32
    have j33:=hown
    have y33:=yn
    replace hsb:=hsz.trans hsb
    replace hdb:=hdf.trans hdb
    clear hle hch hown hob hns yn hsz hdf hoth
    obtain ⟨b,hbb⟩ : ∃ b,b = b2:=⟨b2,rfl⟩
    subst hbb
    obtain ⟨q,hqq⟩ : ∃ q,q = q2:=⟨q2,rfl⟩
    subst hqq
    refine tail_assign (i:=3) (d:=6) rfl rfl (.inl rfl) rfl (by rw [hsb]; decide) fun b2 hsz hdf hnew hoth=>?_
    have jn:(IsOwn 0 148 x7) (b2.get 6) q:=by rw [hnew]; exact j33
    have yn:Lo k0 (obF (b2.get 6)):=by rw [hnew]; exact y33
    rw [← hoth 25 (by decide)] at j25
    rw [← hoth 26 (by decide)] at j26
    rw [← hoth 27 (by decide)] at j27
    rw [← hoth 32 (by decide)] at j32
    have j6:=jn
    have y6:=yn
    replace hsb:=hsz.trans hsb
    replace hdb:=hdf.trans hdb
    clear hsz hdf hoth
    obtain ⟨b,hbb⟩ : ∃ b,b = b2:=⟨b2,rfl⟩
    subst hbb
    exact tail_done (k:=q) (w8 _ _ ⟨⟨hgq,hsb,hdb⟩,j6,y6,j25,j26,j27,trivial⟩)
   rintro a k ⟨⟨hg,hs,hd⟩,i6,n6,i25,i26,i27,_⟩
   obtain ⟨x8,hx8,hr⟩:=bind_some hr
   refine cut (fun a' k'=>Bs noF k0 36 a' k'∧IsOwn 0 148 x7 (a'.get 6) k'∧Lo k0 (obF (a'.get 6))∧(IsV slices_) (a'.get 25) k'∧(IsL slices_) (a'.get 26) k'∧(IsV x8) (a'.get 27) k'∧True) ?_ hQ ?_
   ·intro Q11 W11 w9
    refine gS 2 (_::_::[]) hs (by kernel_rfl) ⟨o1 [(27,none)] rfl fun _ _ h n=>ok_add rfl (up i27 h n.1) (cI rfl) hx8,cm 0 rfl rfl,trivial⟩ W11 fun b q p=>?_
    exact tail_done (k:=q) (w9 _ _ ⟨Bs.post ⟨hg,hs,hd⟩ p,p.ke 6 rfl i6,(by rw [p.old 6 rfl]; exact n6),p.ke 25 rfl i25,p.ke 26 rfl i26,p.ou 1 27 rfl,trivial⟩)
   rintro a k ⟨⟨hg,hs,hd⟩,i6,n6,i25,i26,i27,_⟩
   exact hgo2304 _ _ _ (Option.some.inj hr).symm ⟨⟨hg,hs,hd⟩,i6,n6,i25,i26,i27,trivial⟩
  rw [if_neg (by rw [hc2317]; decide)] at hr
  refine wp_exit ?_
  exact hex2305 _ _ _ _ (Option.some.inj hr).symm ⟨rfl,⟨hg,hs,hd⟩,i6,n6,trivial⟩
 ·rintro r2 a k rfl hR
  dsimp only at hr
  obtain rfl:=Option.some.inj hr
  exact hR
 ·rintro _ _ _ rfl _
  simp at hr
 clear hf2
 rintro _ s4 a k rfl ⟨rfl,⟨hg,hs,hd⟩,i6,n6,_⟩
 dsimp only at hr
 refine cutS (fun c l=>Bs noF k0 36 c l∧IsOwn 0 148 s4.1 (c.get 2) l∧Lo k0 (obF (c.get 2))∧True) ?_ ?_
 ·intro Q12 W12 w10
  refine gS 2 (⟨some (OwnAt (a.get 6) 0 148 s4.1),[(6,none)]⟩::⟨some (OwnAt (a.get 6) 0 148 s4.1),[(35,some 0)]⟩::[]) hs (by kernel_rfl) ⟨ob1 rfl fun _ _ h n=>ok_moveOA (.inl rfl) (ownAt n.1 (up i6 h n.1)),ob1 rfl fun _ _ h n=>ok_moveOA (.inr rfl) n.1,trivial⟩ W12 fun b q p=>?_
  have hgq:=hg.then p.grow
  have hsb:=p.size.trans hs
  have hdb:=p.defers.trans hd
  have e2:b.get 2 = a.get 6:=(p.ou 1 2 rfl).1
  have j2:IsOwn 0 148 s4.1 (b.get 2) q:=(p.ou 1 2 rfl).2
  have y2:Lo k0 (obF (b.get 2)):=by rw [e2]; exact n6
  exact tail_done (k:=q) (w10 _ _ ⟨⟨hgq,hsb,hdb⟩,j2,y2,trivial⟩)
 rintro a k ⟨⟨hg,hs,hd⟩,i2,n2,_⟩
 refine wp_ret ?_
 obtain rfl:=Option.some.inj hr
 exact retC1 rfl hd hg (show ResOk _ _ _ (.tmp 2) _ from IsOwn.raise (k0:=k0) i2 n2)
theorem slices_Concat_span_ok {k0:K} {v0:Value} {slices_:(List (List RegionSpan))} {r:(List RegionSpan)} (i0:(IsV slices_) v0 k0) (hr:slices_Concat_span slices_ = some r) :
  Calls Tryz.prog 159 #[v0] k0.w (Ret k0 (IsV r)):=
 ret_give (slices_Concat_span_okO i0 hr)
noncomputable def k159:=mkO 159 [.list (.list (.st 1))] [.list (.st 1)] (fun x=>slices_Concat_span x) Tryz.call159 fun k0 vs x r hG h hr=>by obtain ⟨v0,rfl,i0⟩:=h.one; exact slices_Concat_span_ok i0 hr
def slices_BinarySearchFunc_span_int_L0 (x_:(List RegionSpan)) (target_:Int) (cmp_:(RegionSpan → Int → Option (Int))) (s1:Int × Int):Option (Flow (Int × Int) (Int × Bool)):=
 if (decide (s1.1 < s1.2)) then
  (addI s1.1 s1.2).bind fun x1=>
  (getI x_ (IntKind.i64.wrap (IK.shr (IK.mk (IntKind.u64.wrap x1):IK .u64) 1).n)).bind fun x2=>
  (cmp_ x2 target_).bind fun x3=>
  (if (decide (x3 < 0)) then
   (addI (IntKind.i64.wrap (IK.shr (IK.mk (IntKind.u64.wrap x1):IK .u64) 1).n) 1).bind fun x4=>
   some (x4,s1.2)
  else
   some (s1.1,(IntKind.i64.wrap (IK.shr (IK.mk (IntKind.u64.wrap x1):IK .u64) 1).n))).bind fun s2=>
  some (.go (s2.1,s2.2))
 else
  some (.ex 0 (s1.1,s1.2))
def slices_BinarySearchFunc_span_int (x_:(List RegionSpan)) (target_:Int) (cmp_:(RegionSpan → Int → Option (Int))):Option (Int × Bool):=
 (iterL (slices_BinarySearchFunc_span_int_L0 x_ target_ cmp_) (x_.length + 1) (0,(x_.length:Int))).bind fun f1=>match f1 with
  | .go _=>none
  | .ex _ s1 =>
   (if (decide (s1.1 < (x_.length:Int))) then
    (getI x_ s1.1).bind fun x1=>
    (cmp_ x1 target_).bind fun x2=>
    some (x2 == 0)
   else
    some false).bind fun x3=>
   some (s1.1,x3)
  | .ret r1=>some r1
noncomputable def k184:=mk 184 [.list (.st 1),.int,.f2 (.st 1) .int .int] [.int,.bool] (fun x=>slices_BinarySearchFunc_span_int x.1 x.2.1 x.2.2) [] [] Tryz.f184 (.s .n (.s .n (.s .n (.s (.l [] [(9,.v .int),(10,.v .int)] [(0,[10],[])] (fL [0]) (.s .n (.s .n (.s .n (.j [] [(9,.v .int),(10,.v .int)] ([],[]) (.s .n .n)))))) .n)))) Tryz.func184 Tryz.call184 rfl rfl fun x=>by kernel_rfl
def region_inside_1 (s_:RegionSpan) (y_:Int):Option (Int):=
 if (decide (s_.to_ ≤ y_)) then
  some (-1)
 else
  some 1
noncomputable def k185:=mk 185 [.st 1,.int] [.int] (fun x=>region_inside_1 x.1 x.2) [] [] Tryz.f185 (.n) Tryz.func185 Tryz.call185 rfl rfl fun x=>by kernel_rfl
def region_inside (l_:(List RegionSpan)) (y_:Int):Option (Bool):=
 (slices_BinarySearchFunc_span_int l_ y_ region_inside_1).bind fun x1=>
 (if (decide (x1.1 < (l_.length:Int))) then
  (getI l_ x1.1).bind fun x2=>
  some (decide (x2.from_ ≤ y_))
 else
  some false).bind fun x3=>
 some x3
noncomputable def k160:=mk 160 [.list (.st 1),.int] [.bool] (fun x=>region_inside x.1 x.2) [k184,k185] [] Tryz.f160 (.n) Tryz.func160 Tryz.call160 rfl rfl fun x=>by kernel_rfl
def region_merge_L0 (x1:(List RegionSpan)) (s1:(List Int) × Int):Option (Flow ((List Int) × Int) ((List RegionSpan))):=
 if (decide (s1.2 < (x1.length:Int))) then
  (getI x1 s1.2).bind fun x2=>
  (appI s1.1 ([x2.from_,x2.to_])).bind fun x3=>
  (addI s1.2 1).bind fun x4=>
  some (.go (x3,x4))
 else
  some (.ex 0 (s1.1,s1.2))
def region_merge_L1 (a_:(List RegionSpan)) (b_:(List RegionSpan)) (keep_:(Bool → Bool → Option (Bool))) (x1:(List Int)) (s1:(List RegionSpan) × Int):Option (Flow ((List RegionSpan) × Int) ((List RegionSpan))):=
 if (decide (s1.2 < (x1.length:Int))) then
  ((subI s1.2 1).bind fun x2=>
  (getI x1 x2).bind fun x3=>
  (region_inside a_ x3).bind fun x4=>
  (region_inside b_ x3).bind fun x5=>
  (keep_ x4 x5).bind fun x6=>
  if (!x6) then
   some s1.1
  else
   (if (decide (0 < (s1.1.length:Int))) then
    (subI (s1.1.length:Int) 1).bind fun x7=>
    (getI s1.1 x7).bind fun x8=>
    some (x8.to_ == x3)
   else
    some false).bind fun x9=>
   (if x9 then
    (subI (s1.1.length:Int) 1).bind fun x10=>
    (getI x1 s1.2).bind fun x11=>
    (getI s1.1 x10).bind fun x12=>
    (some (s1.1.set (x10).toNat ({ x12 with to_:=x11 }))).bind fun x13=>
    some x13
   else
    (getI x1 s1.2).bind fun x14=>
    (appI s1.1 ([(⟨x3,x14⟩:RegionSpan)])).bind fun x15=>
    some x15).bind fun s2=>
   some s2).bind fun s3=>
  (addI s1.2 1).bind fun x16=>
  some (.go (s3,x16))
 else
  some (.ex 2 (s1.1,s1.2))
def region_merge (a_:(List RegionSpan)) (b_:(List RegionSpan)) (keep_:(Bool → Bool → Option (Bool))):Option ((List RegionSpan)):=
 (slices_Concat_span ([a_,b_])).bind fun x1=>
 (iterL (region_merge_L0 x1) (x1.length + 1) (([]:List Int),0)).bind fun f1=>match f1 with
  | .go _=>none
  | .ex _ s1 =>
   (sortInts s1.1).bind fun x2=>
   (compactInts x2).bind fun x3=>
   (iterL (region_merge_L1 a_ b_ keep_ x3) (a_.length + b_.length + x3.length + ([]:List RegionSpan).length + 1) (([]:List RegionSpan),1)).bind fun f2=>match f2 with
    | .go _=>none
    | .ex _ s2=>
     some s2.1
    | .ret r1=>some r1
  | .ret r2=>some r2
noncomputable def k136:=mkc 136 [.list (.st 1),.list (.st 1),.f2 .bool .bool .bool] [.list (.st 1)] (fun x=>region_merge x.1 x.2.1 x.2.2) [k159,k160] [kr78,kr79] [7,10,23,29,31,33,78,86] Tryz.f136 (.s .n (.s .n (.s (.s .n (.l [] [(7,.o 3 .int),(19,.v .int)] [(0,[19],[])] (fI 18) .n)) (.s .n (.s .n (.s (.f [7] .n) (.s (.s (.f [7] .n) (.l [] [(10,.o 148 (.st 1)),(11,.v .int)] [(2,[11],[])] (fL [0,1,7,10]) (.s (.s (.f [7] .n) .n) (.s (.j [] [(10,.o 148 (.st 1))] ([],[]) (.s (.f [7] .n) (.s (.s (.f [7] .n) .n) (.s (.f [7] .n) (.s (.f [7] .n) (.j [] [(10,.o 148 (.st 1))] ([],[]) (.s (.f [7] .n) (.f [7] .n)))))))) (.f [7] .n))))) (.s (.f [10] .n) .n)))))))) Tryz.func136 Tryz.call136 rfl rfl fun x=>by kernel_rfl
theorem region_merge_ok {k0:K} {v0 v1 v2:Value} {x0:(List RegionSpan)} {x1:(List RegionSpan)} {x2:(Bool → Bool → Option (Bool))} {r:(List RegionSpan)} (i0:(IsV x0) v0 k0) (i1:(IsV x1) v1 k0) (i2:(IsFn2 Tryz.prog x2) v2 k0) (hr:region_merge x0 x1 x2 = some r):Calls Tryz.prog 136 #[v0,v1,v2] k0.w (Ret k0 (IsV r)):=(k136.ok.ok k0 [v0,v1,v2] (x0,x1,x2) r (GOk.none (fun _=>rfl) fun _ e=>by cases e) ⟨i0,i1,(isV_f2T.2 i2)⟩ hr)
def region_combine_L0 (keep_:(Bool → Bool → Option (Bool))) (x1:(List RegionStrip)) (x2:(List RegionStrip)) (x3:(List RegionStrip)) (s1:(List RegionStrip) × Int):Option (Flow ((List RegionStrip) × Int) ((List Rect) × Int)):=
 if (decide (s1.2 < (x3.length:Int))) then
  (getI s1.1 s1.2).bind fun x4=>
  (region_at x1 x4.x0).bind fun x5=>
  (region_at x2 x4.x0).bind fun x6=>
  (region_merge x5 x6 keep_).bind fun x7=>
  (getI s1.1 s1.2).bind fun x8=>
  (some (s1.1.set (s1.2).toNat ({ x8 with column:=x7 }))).bind fun x9=>
  (addI s1.2 1).bind fun x10=>
  some (.go (x9,x10))
 else
  some (.ex 0 (s1.1,s1.2))
def region_combine (a_:(List Rect)) (b_:(List Rect)) (keep_:(Bool → Bool → Option (Bool))):Option ((List Rect) × Int):=
 (region_Right a_).bind fun x1=>
 (if (!x1) then
  some true
 else
  (region_Right b_).bind fun x2=>
  some (!x2)).bind fun x3=>
 if x3 then
  some (([]:List Rect),1)
 else
  (region_strips ([a_])).bind fun x4=>
  (region_strips ([b_])).bind fun x5=>
  (region_strips ([a_,b_])).bind fun x6=>
  (iterL (region_combine_L0 keep_ x4 x5 x6) (x6.length + 1) (x6,0)).bind fun f1=>match f1 with
   | .go _=>none
   | .ex _ s1=>
    (region_write s1.1).bind fun x7=>
    (region_limited x7).bind fun x8=>
    some (x8.1,x8.2)
   | .ret r1=>some r1
theorem region_combine_ok {k0:K} {v0 v1 v2:Value} {a_:(List Rect)} {b_:(List Rect)} {keep_:(Bool → Bool → Option (Bool))} {r:(List Rect) × Int} (i0:(IsV a_) v0 k0) (i1:(IsV b_) v1 k0) (i2:(IsFn2 Tryz.prog keep_) v2 k0) (hr:region_combine a_ b_ keep_ = some r) :
  Calls Tryz.prog 110 #[v0,v1,v2] k0.w (Ret k0 (IsTup2 (IsV r.1) (IsV r.2))):=by
 unfold region_combine at hr
 refine Ret.ofC ?_
 refine enterK Tryz.func110 rfl Tryz.ntmps110 (show 3 ≤ 58 by decide) fun a k hk0 hs hd ha=>?_
 obtain ⟨e0,e1,e2,_⟩:=ha
 replace i0:(IsV a_) (a.get 0) k:=by rw [e0,hk0]; exact i0
 replace i1:(IsV b_) (a.get 1) k:=by rw [e1,hk0]; exact i1
 replace i2:(IsFn2 Tryz.prog keep_) (a.get 2) k:=by rw [e2,hk0]; exact i2
 have hQ:Gb.LetsOut (bodyPost Tryz.prog Tryz.f110 (RetC noF k0 (IsTup2 (IsV r.1) (IsV r.2)))):=letsOutC
 have hg:Chg noF k0 k:=by rw [hk0]; exact Chg.refl _ k0
 refine stepL 2 (⟨some IsE0,[]⟩::⟨some (IsI 0),[]⟩::[]) rfl ⟨hg,hs,hd⟩ (by kernel_rfl) ⟨ob1 rfl fun b q h n=>ok_assign rfl isE0_nil,aI rfl rfl,trivial⟩ [⟨_,_⟩,⟨_,_⟩,⟨_,_⟩] (fun b q p=>⟨p.ke 0 rfl i0,p.ke 1 rfl i1,p.ke 2 rfl i2,trivial⟩) ?_
 rintro a k ⟨⟨hg,hs,hd⟩,i0,i1,i2,_⟩
 refine wp_seq ?_
 refine wp_seq ?_
 obtain ⟨x1,hx1,hr⟩:=bind_some hr
 obtain ⟨x2,hx2,hr⟩:=bind_some hr
 obtain ⟨x3,hx3,hx2⟩:=ite_bindF hx2
 refine cut (fun a' k'=>Bs noF k0 58 a' k'∧(IsV a_) (a'.get 0) k'∧(IsV b_) (a'.get 1) k'∧(IsFn2 Tryz.prog keep_) (a'.get 2) k'∧(IsV x2) (a'.get 20) k'∧True) ?_ hQ ?_
 ·intro Q1 W1 w1
  refine gS 8 (_::_::_::_::_::_::_::_::[]) hs (by kernel_rfl) ⟨mu rfl i0,o1 [(13,some 0)] rfl fun _ _ h n=>ok_call rfl Tryz.call43 (region_Right_ok n.1 hx1),o1 [(14,some 1)] rfl fun _ _ h n=>ok_not rfl n.1,cm 2 rfl rfl,mF rfl rfl i1,gF [(17,some 4)] rfl rfl fun hp _ _ h n=>ok_call rfl Tryz.call43 (region_Right_ok (Gd.get n.1 hp) (hx3 hp)),gF [(18,some 5)] rfl rfl fun hp _ _ h n=>ok_not rfl (Gd.get n.1 hp),o1 [(16,some 3),(19,some 6)] rfl fun _ _ h n=>ok_pickM rfl n.1 hx2 (cB rfl) (Gd.get n.2.1),trivial⟩ W1 fun b q p=>?_
  exact tail_done (k:=q) (w1 _ _ ⟨Bs.post ⟨hg,hs,hd⟩ p,p.ke 0 rfl i0,p.ke 1 rfl i1,p.ke 2 rfl i2,p.ou 7 20 rfl,trivial⟩)
 rintro a k ⟨⟨hg,hs,hd⟩,i0,i1,i2,i20,_⟩
 refine wp_cond_split (isBool i20) (fun hc2528=>?_) (fun hc2528=>?_)
 ·rw [if_pos hc2528] at hr
  refine cutL noF k0 58 [⟨6,IsV ([]:List Rect)⟩,⟨7,IsI 1⟩] ?_ ?_
  ·intro Q2 W2 w2
   refine gS 2 (⟨some IsE0,[]⟩::⟨some (IsI 1),[]⟩::[]) hs (by kernel_rfl) ⟨ob1 rfl fun b q h n=>ok_assign rfl isE0_nil,aI rfl rfl,trivial⟩ W2 fun b q p=>?_
   have hgq:=hg.then p.grow
   have hsb:=p.size.trans hs
   have hdb:=p.defers.trans hd
   have j6:IsE0 (b.get 6) q:=p.ou 0 6 rfl
   have j7:(IsI 1) (b.get 7) q:=p.ou 1 7 rfl
   replace j6:IsV ([]:List Rect) (b.get 6) q:=j6.isV
   exact tail_done (k:=q) (w2 _ _ ⟨⟨hgq,hsb,hdb⟩,j6,j7,trivial⟩)
  rintro a k ⟨⟨hg,hs,hd⟩,i6,i7,_⟩
  refine wp_ret ?_
  obtain rfl:=Option.some.inj hr
  exact retC2 rfl hd hg i6 i7
 rw [if_neg (by rw [hc2528]; decide)] at hr
 refine wp_skip ?_
 refine wp_seq ?_
 obtain ⟨x4,hx4,hr⟩:=bind_some hr
 obtain ⟨x5,hx5,hr⟩:=bind_some hr
 refine cut (fun a' k'=>Bs noF k0 58 a' k'∧(IsV a_) (a'.get 0) k'∧(IsV b_) (a'.get 1) k'∧(IsFn2 Tryz.prog keep_) (a'.get 2) k'∧(IsV x4) (a'.get 8) k'∧(IsV x5) (a'.get 9) k'∧True) ?_ hQ ?_
 ·intro Q3 W3 w3
  refine gS 8 (_::⟨some (IsV (α:=(List (List Rect))) ([a_])),[(21,some 0)]⟩::_::_::⟨some (IsV (α:=(List (List Rect))) ([b_])),[(24,some 3)]⟩::_::_::_::[]) hs (by kernel_rfl) ⟨mu rfl i0,ob1 rfl fun _ _ h n=>ok_buildSlice rfl Tryz.underlying151 eo31 rfl (by decide) (by decide) ⟨rfl,n.1,trivial⟩,o1 [(22,some 1)] rfl fun _ _ h n=>ok_call rfl Tryz.call68 (region_strips_ok n.1 hx4),mu rfl i1,ob1 rfl fun _ _ h n=>ok_buildSlice rfl Tryz.underlying151 eo31 rfl (by decide) (by decide) ⟨rfl,n.1,trivial⟩,o1 [(25,some 4)] rfl fun _ _ h n=>ok_call rfl Tryz.call68 (region_strips_ok n.1 hx5),cp 2 rfl rfl,cp 5 rfl rfl,trivial⟩ W3 fun b q p=>?_
  exact tail_done (k:=q) (w3 _ _ ⟨Bs.post ⟨hg,hs,hd⟩ p,p.ke 0 rfl i0,p.ke 1 rfl i1,p.ke 2 rfl i2,p.ou 6 8 rfl,p.ou 7 9 rfl,trivial⟩)
 rintro a k ⟨⟨hg,hs,hd⟩,i0,i1,i2,i8,i9,_⟩
 refine wp_seq ?_
 obtain ⟨x6,hx6,hr⟩:=bind_some hr
 refine cut (fun a' k'=>Bs noF k0 58 a' k'∧(IsFn2 Tryz.prog keep_) (a'.get 2) k'∧(IsV x4) (a'.get 8) k'∧(IsV x5) (a'.get 9) k'∧IsOwn 0 150 x6 (a'.get 10) k'∧Lo k0 (obF (a'.get 10))∧True) ?_ hQ ?_
 ·intro Q4 W4 w4
  refine gS 5 (_::_::⟨some (IsV (α:=(List (List Rect))) ([a_,b_])),[(27,some 0),(28,some 1)]⟩::_::_::[]) hs (by kernel_rfl) ⟨mu rfl i0,mu rfl i1,ob1 rfl fun _ _ h n=>ok_buildSlice rfl Tryz.underlying151 eo31 rfl (by decide) (by decide) ⟨rfl,n.1,rfl,n.2.1,trivial⟩,o1 [(29,some 2)] rfl fun _ _ h n=>ok_call rfl Tryz.call68 (ret_weaken h.size (region_strips_okO n.1 hx6)),cp 3 rfl rfl,trivial⟩ W4 fun b q p=>?_
  have hgq:=hg.then p.grow
  have hsb:=p.size.trans hs
  have hdb:=p.defers.trans hd
  have j2:=p.ke 2 rfl i2
  have j8:=p.ke 8 rfl i8
  have j9:=p.ke 9 rfl i9
  have j10:(IsOwn k.w.heap.size 150 x6) (b.get 10) q:=p.ou 4 10 rfl
  have x10:Lo k (obF (b.get 10)):=j10.loF
  have y10:=x10.chg hg
  replace j10:=j10.weaken (Nat.zero_le _)
  exact tail_done (k:=q) (w4 _ _ ⟨⟨hgq,hsb,hdb⟩,j2,j8,j9,j10,y10,trivial⟩)
 rintro a k ⟨⟨hg,hs,hd⟩,i2,i8,i9,i10,n10,_⟩
 refine wp_seq ?_
 refine cutS (fun c l=>Bs noF k0 58 c l∧IsFn2 Tryz.prog keep_ (c.get 2) l∧IsV x4 (c.get 8) l∧IsV x5 (c.get 9) l∧IsOwn 0 150 x6 (c.get 10) l∧Lo k0 (obF (c.get 10))∧c.get 31 = c.get 10∧IsL x6 (c.get 32) l∧IsI 0 (c.get 33) l∧True) ?_ ?_
 ·intro Q5 W5 w5
  refine gS 3 (⟨some (OwnAt (a.get 10) 0 150 x6),[(10,none)]⟩::_::⟨some (IsI 0),[]⟩::[]) hs (by kernel_rfl) ⟨ob1 rfl fun _ _ h n=>ok_moveOA (.inl rfl) (ownAt n.1 (up i10 h n.1)),o1 [(31,some 0)] rfl fun _ _ h n=>ok_len rfl rfl Tryz.underlying116 (IsOwn.rd (n.1).2),ob1 rfl fun _ _ h n=>ok_move rfl (cI rfl),trivial⟩ W5 fun b q p=>?_
  have hgq:=hg.then p.grow
  have hsb:=p.size.trans hs
  have hdb:=p.defers.trans hd
  have j2:=p.ke 2 rfl i2
  have j8:=p.ke 8 rfl i8
  have j9:=p.ke 9 rfl i9
  have j10:=p.ke 10 rfl i10
  have y10:Lo k0 (obF (b.get 10)):=by rw [p.old 10 rfl]; exact n10
  have j31:b.get 31 = b.get 10:=(show b.get 31 = a.get 10 from (p.ou 0 31 rfl).1).trans (p.old 10 rfl).symm
  have j32:(IsL x6) (b.get 32) q:=p.ou 1 32 rfl
  have j33:(IsI 0) (b.get 33) q:=p.ou 2 33 rfl
  exact tail_done (k:=q) (w5 _ _ ⟨⟨hgq,hsb,hdb⟩,j2,j8,j9,j10,y10,j31,j32,j33,trivial⟩)
 rintro a k ⟨⟨hg,hs,hd⟩,i2,i8,i9,i10,n10,i31,i32,i33,_⟩
 refine wp_block ?_
 obtain ⟨f1,hf1,hr⟩:=bind_some hr
 refine cutFe f1 (fun s' c l=>Bs noF k0 58 c l∧IsFn2 Tryz.prog keep_ (c.get 2) l∧IsV x4 (c.get 8) l∧IsV x5 (c.get 9) l∧IsOwn 0 150 s'.1 (c.get 10) l∧Lo k0 (obF (c.get 10))∧c.get 31 = c.get 10∧IsL x6 (c.get 32) l∧IsV s'.2 (c.get 33) l∧True) (fun i' s' c l=>(i' = 0∧Bs noF k0 58 c l∧IsV s'.1 (c.get 10) l∧True)) (fun r' c l=>bodyPost Tryz.prog Tryz.f110 (RetC noF k0 (IsTup2 (IsV r'.1) (IsV r'.2))) .ret c l.w) ?_ hQ ?_ ?_ ?_
 ·intro Q6 W6 hgo hex hret
  refine sim_loop ?_ _ _ _ _ _ hf1 ⟨⟨hg,hs,hd⟩,i2,i8,i9,i10,n10,i31,i32,i33,trivial⟩ Q6 W6 hgo hex hret
  clear hr hf1 hgo hex hret W6 hQ hg hs hd i10 i2 i31 i32 i33 i8 i9 n10
  intro s1 fl_ a k hr hS Q hQ hgo2498 hex2499 hret2500
  obtain ⟨⟨hg,hs,hd⟩,i2,i8,i9,i10,n10,i31,i32,i33,_⟩:=hS
  unfold region_combine_L0 at hr
  refine cutS (fun c l=>Bs noF k0 58 c l∧IsFn2 Tryz.prog keep_ (c.get 2) l∧IsV x4 (c.get 8) l∧IsV x5 (c.get 9) l∧IsOwn 0 150 s1.1 (c.get 10) l∧Lo k0 (obF (c.get 10))∧c.get 31 = c.get 10∧IsL x6 (c.get 32) l∧IsV s1.2 (c.get 33) l∧(IsV (decide (s1.2 < (x6.length:Int)))) (c.get 34) l∧True) ?_ ?_
  ·intro Q7 W7 w6
   refine gS 1 (_::[]) hs (by kernel_rfl) ⟨o1 [(33,none),(32,none)] rfl fun _ _ h n=>ok_lss rfl (up i33 h n.1) (up i32 h n.2.1),trivial⟩ W7 fun b q p=>?_
   exact tail_done (k:=q) (w6 _ _ ⟨Bs.post ⟨hg,hs,hd⟩ p,p.ke 2 rfl i2,p.ke 8 rfl i8,p.ke 9 rfl i9,p.ke 10 rfl i10,(by rw [p.old 10 rfl]; exact n10),((p.old 31 rfl).trans (i31.trans (p.old 10 rfl).symm)),p.ke 32 rfl i32,p.ke 33 rfl i33,p.ou 0 34 rfl,trivial⟩)
  rintro a k ⟨⟨hg,hs,hd⟩,i2,i8,i9,i10,n10,i31,i32,i33,i34,_⟩
  refine wp_seq ?_
  refine wp_cond_split (isBool i34) (fun hc2512=>?_) (fun hc2512=>?_)
  ·rw [if_pos hc2512] at hr
   refine wp_skip ?_
   refine wp_seq ?_
   refine wp_block ?_
   refine wp_seq ?_
   obtain ⟨x7,hx7,hr⟩:=bind_some hr
   refine cut (fun a' k'=>Bs noF k0 58 a' k'∧(IsFn2 Tryz.prog keep_) (a'.get 2) k'∧(IsV x4) (a'.get 8) k'∧(IsV x5) (a'.get 9) k'∧IsOwn 0 150 s1.1 (a'.get 10) k'∧Lo k0 (obF (a'.get 10))∧(IsV s1.2) (a'.get 11) k'∧(IsRef x7) (a'.get 12) k'∧a'.get 31 = a'.get 10∧(IsL x6) (a'.get 32) k'∧(IsV s1.2) (a'.get 33) k'∧True) ?_ hQ ?_
   ·intro Q8 W8 w7
    refine gS 5 (_::_::_::⟨some (IsBox k.w.heap.size (⟨0,0,[]⟩:RegionStrip)),[]⟩::_::[]) hs (by kernel_rfl) ⟨mu rfl i33,o1 [(31,none),(33,none)] rfl fun _ _ h n=>ok_indexAddr rfl Tryz.underlying116 ty150 (IsOwn.rd ((ownAt ((n.1).trans i31) (upT i10 h ((n.1).trans i31)))).2) (up i33 h n.2.1) hx7,o1 [(36,some 1)] rfl fun _ _ h n=>ok_load rfl ty150 n.1,ob1 rfl fun _ _ h n=>ok_alloc _ h.size rfl z150,cp 0 rfl rfl,trivial⟩ W8 fun b q p=>?_
    have hgq:=hg.then p.grow
    have hsb:=p.size.trans hs
    have hdb:=p.defers.trans hd
    have j2:=p.ke 2 rfl i2
    have j8:=p.ke 8 rfl i8
    have j9:=p.ke 9 rfl i9
    have j10:=p.ke 10 rfl i10
    have y10:Lo k0 (obF (b.get 10)):=by rw [p.old 10 rfl]; exact n10
    have j11:(IsV s1.2) (b.get 11) q:=p.ou 4 11 rfl
    obtain ⟨b12,j12,x12,z12⟩:(IsBox k.w.heap.size (⟨0,0,[]⟩:RegionStrip)) (b.get 12) q:=p.ou 3 12 rfl
    replace x12:Lo k (Eq b12):=Lo.eq x12
    have y12:Lo k0 (Eq b12):=x12.chg hg
    have j31:b.get 31 = b.get 10:=(p.old 31 rfl).trans (i31.trans (p.old 10 rfl).symm)
    have j32:=p.ke 32 rfl i32
    have j33:=p.ke 33 rfl i33
    have j37:(IsV x7) (b.get 37) q:=p.ou 2 37 rfl
    have w10_12:Apart (obF (b.get 10)) (Eq b12):=Apart.new (by rw [p.old 10 rfl]; exact i10.ltF) x12
    have hns:=z12.nshF
    refine tail_storeB (i:=5) rfl rfl rfl rfl szf150 (Upd.self (α:=RegionStrip)) j12 z12 j37 fun q2 hch hz=>?_
    replace hgq:=hgq.step hch y12.wr
    have hle:=hch.le hns
    replace j2:=Pers.pers hle j2
    replace j8:=Pers.pers hle j8
    replace j9:=Pers.pers hle j9
    replace j10:=j10.keep hch w10_12 hns
    replace j11:=Pers.pers hle j11
    replace j32:=Pers.pers hle j32
    replace j33:=Pers.pers hle j33
    replace j37:=Pers.pers hle j37
    replace z12:=hz
    clear hns hle hch
    obtain ⟨q,hqq⟩ : ∃ q,q = q2:=⟨q2,rfl⟩
    subst hqq
    obtain ⟨q2,hsh,jn⟩:=z12.give
    replace j2:=Pers.pers hsh.le j2
    replace j8:=Pers.pers hsh.le j8
    replace j9:=Pers.pers hsh.le j9
    replace j10:=j10.handed hsh w10_12
    replace j11:=Pers.pers hsh.le j11
    replace j32:=Pers.pers hsh.le j32
    replace j33:=Pers.pers hsh.le j33
    rw [← j12] at jn
    replace j12:=jn
    replace hgq:=hgq.hand hsh y12.wr
    rw [← hsh.w]
    clear hsh
    obtain ⟨q,hqq⟩ : ∃ q,q = q2:=⟨q2,rfl⟩
    subst hqq
    exact tail_done (k:=q) (w7 _ _ ⟨⟨hgq,hsb,hdb⟩,j2,j8,j9,j10,y10,j11,j12,j31,j32,j33,trivial⟩)
   rintro a k ⟨⟨hg,hs,hd⟩,i2,i8,i9,i10,n10,i11,i12,i31,i32,i33,_⟩
   obtain ⟨x8,hx8,hr⟩:=bind_some hr
   obtain ⟨x9,hx9,hr⟩:=bind_some hr
   obtain ⟨x11,hx11,hr⟩:=bind_some hr
   obtain ⟨x13,hx13,hr⟩:=bind_some hr
   obtain ⟨x14,hx14,hr⟩:=bind_some hr
   refine cut (fun a' k'=>Bs noF k0 58 a' k'∧(IsFn2 Tryz.prog keep_) (a'.get 2) k'∧(IsV x4) (a'.get 8) k'∧(IsV x5) (a'.get 9) k'∧IsOwn 0 150 x14 (a'.get 10) k'∧Lo k0 (obF (a'.get 10))∧a'.get 31 = a'.get 10∧(IsL x6) (a'.get 32) k'∧(IsV s1.2) (a'.get 33) k'∧True) ?_ hQ ?_
   ·intro Q9 W9 w8
    refine region (m:=14) (⟨some (OwnAt (a.get 10) 0 150 s1.1),[(10,none)]⟩::_::_::_::_::_::_::_::_::_::_::_::⟨some (IsAdrO (a.get 10) ((s1.2).toNat * Enc.sz RegionStrip)),[(38,some 0),(39,some 1)]⟩::_::[]) hmix hs (by kernel_rfl) ⟨ob1 rfl fun _ _ h n=>ok_moveOA (.inl rfl) (ownAt n.1 (up i10 h n.1)),mu rfl i11,mu rfl i8,o1 [(12,none)] rfl fun _ _ h n=>ok_fieldAddr rfl fo150_0 (at_RegionStrip_0 _) ((up i12 h n.1)).ptr,o1 [(41,some 3)] rfl fun _ _ h n=>ok_load rfl ty3 n.1,o1 [(40,some 2),(42,some 4)] rfl fun _ _ h n=>ok_call rfl Tryz.call137 (region_at_ok n.1 n.2.1 hx8),mu rfl i9,o1 [(12,none)] rfl fun _ _ h n=>ok_fieldAddr rfl fo150_0 (at_RegionStrip_0 _) ((up i12 h n.1)).ptr,o1 [(45,some 7)] rfl fun _ _ h n=>ok_load rfl ty3 n.1,o1 [(44,some 6),(46,some 8)] rfl fun _ _ h n=>ok_call rfl Tryz.call137 (region_at_ok n.1 n.2.1 hx9),mu rfl i2,o1 [(43,some 5),(47,some 9),(48,some 10)] rfl fun _ _ h n=>ok_call rfl Tryz.call136 (region_merge_ok n.1 n.2.1 n.2.2.1 hx11),ob1 rfl fun _ _ h n=>ok_indexO rfl Tryz.underlying116 ty150 n.1 n.2.1 hx13,o1 [(50,some 12)] rfl fun _ _ h n=>ok_fieldAdrO rfl fo150_2 n.1,trivial⟩ W9 fun b q p=>?_
    have hgq:=hg.then p.grow
    have hsb:=p.size.trans hs
    have hdb:=p.defers.trans hd
    have j2:=p.ke 2 rfl i2
    have j8:=p.ke 8 rfl i8
    have j9:=p.ke 9 rfl i9
    have j10:=p.ke 10 rfl i10
    have y10:Lo k0 (obF (b.get 10)):=by rw [p.old 10 rfl]; exact n10
    have j31:b.get 31 = b.get 10:=(p.old 31 rfl).trans (i31.trans (p.old 10 rfl).symm)
    have j32:=p.ke 32 rfl i32
    have j33:=p.ke 33 rfl i33
    have j49:(IsV x11) (b.get 49) q:=p.ou 11 49 rfl
    have j51:IsAdrO (a.get 10) ((s1.2).toNat * Enc.sz RegionStrip + 2) (b.get 51) q:=p.ou 13 51 rfl
    have eo:b.get 10 = a.get 10:=p.old 10 rfl
    have hns:=j10.nshF
    refine tail_storeS (i:=14) (u:=b.get 10) (m:=(s1.2).toNat) (off:=0 + 2) rfl rfl rfl rfl szf146 upd_F150_2 (by rw [eo]; exact j51) j10 (getI_spec hx13).2.1 j49 fun q2 hch hz=>?_
    replace hgq:=hgq.step hch y10.wr
    have hle:=hch.le hns
    replace j2:=Pers.pers hle j2
    replace j8:=Pers.pers hle j8
    replace j9:=Pers.pers hle j9
    replace j32:=Pers.pers hle j32
    replace j33:=Pers.pers hle j33
    replace j49:=Pers.pers hle j49
    replace j51:=Pers.pers hle j51
    replace j10:=hz
    rw [Option.some.inj hx14] at j10
    clear hns hle hch eo hz
    obtain ⟨q,hqq⟩ : ∃ q,q = q2:=⟨q2,rfl⟩
    subst hqq
    exact tail_done (k:=q) (w8 _ _ ⟨⟨hgq,hsb,hdb⟩,j2,j8,j9,j10,y10,j31,j32,j33,trivial⟩)
   rintro a k ⟨⟨hg,hs,hd⟩,i2,i8,i9,i10,n10,i31,i32,i33,_⟩
   obtain ⟨x15,hx15,hr⟩:=bind_some hr
   refine cut (fun a' k'=>Bs noF k0 58 a' k'∧(IsFn2 Tryz.prog keep_) (a'.get 2) k'∧(IsV x4) (a'.get 8) k'∧(IsV x5) (a'.get 9) k'∧IsOwn 0 150 x14 (a'.get 10) k'∧Lo k0 (obF (a'.get 10))∧a'.get 31 = a'.get 10∧(IsL x6) (a'.get 32) k'∧(IsV x15) (a'.get 33) k'∧True) ?_ hQ ?_
   ·intro Q10 W10 w9
    refine gS 2 (_::_::[]) hs (by kernel_rfl) ⟨o1 [(33,none)] rfl fun _ _ h n=>ok_add rfl (up i33 h n.1) (cI rfl) hx15,cm 0 rfl rfl,trivial⟩ W10 fun b q p=>?_
    exact tail_done (k:=q) (w9 _ _ ⟨Bs.post ⟨hg,hs,hd⟩ p,p.ke 2 rfl i2,p.ke 8 rfl i8,p.ke 9 rfl i9,p.ke 10 rfl i10,(by rw [p.old 10 rfl]; exact n10),((p.old 31 rfl).trans (i31.trans (p.old 10 rfl).symm)),p.ke 32 rfl i32,p.ou 1 33 rfl,trivial⟩)
   rintro a k ⟨⟨hg,hs,hd⟩,i2,i8,i9,i10,n10,i31,i32,i33,_⟩
   exact hgo2498 _ _ _ (Option.some.inj hr).symm ⟨⟨hg,hs,hd⟩,i2,i8,i9,i10,n10,i31,i32,i33,trivial⟩
  rw [if_neg (by rw [hc2512]; decide)] at hr
  refine wp_exit ?_
  obtain ⟨kk,sh2511,ii10⟩:=i10.give
  replace i10:=ii10
  replace hg:=hg.hand sh2511 n10.wr
  rw [← sh2511.w]
  clear sh2511
  obtain ⟨k,hkk⟩ : ∃ k,k = kk:=⟨kk,rfl⟩
  subst hkk
  exact hex2499 _ _ _ _ (Option.some.inj hr).symm ⟨rfl,⟨hg,hs,hd⟩,i10,trivial⟩
 ·rintro r1 a k rfl hR
  dsimp only at hr
  obtain rfl:=Option.some.inj hr
  exact hR
 ·rintro _ _ _ rfl _
  simp at hr
 clear hf1
 rintro _ s2 a k rfl ⟨rfl,⟨hg,hs,hd⟩,i10,_⟩
 dsimp only at hr
 refine wp_seq ?_
 obtain ⟨x16,hx16,hr⟩:=bind_some hr
 obtain ⟨x17,hx17,hr⟩:=bind_some hr
 refine cut (fun a' k'=>Bs noF k0 58 a' k'∧(IsV x17.1) (a'.get 6) k'∧(IsV x17.2) (a'.get 7) k'∧True) ?_ hQ ?_
 ·intro Q11 W11 w10
  refine gS 7 (_::_::_::_::_::_::_::[]) hs (by kernel_rfl) ⟨mu rfl i10,o1 [(53,some 0)] rfl fun _ _ h n=>ok_call rfl Tryz.call67 (region_write_ok n.1 hx16),o1 [(54,some 1)] rfl fun _ _ h n=>ok_call rfl Tryz.call66 (region_limited_ok n.1 hx17),o1 [(55,some 2)] rfl fun _ _ h n=>ok_ext2_0 rfl n.1,o1 [(55,some 2)] rfl fun _ _ h n=>ok_ext2_1 rfl n.1,cp 3 rfl rfl,cp 4 rfl rfl,trivial⟩ W11 fun b q p=>?_
  exact tail_done (k:=q) (w10 _ _ ⟨Bs.post ⟨hg,hs,hd⟩ p,p.ou 5 6 rfl,p.ou 6 7 rfl,trivial⟩)
 rintro a k ⟨⟨hg,hs,hd⟩,i6,i7,_⟩
 refine wp_ret ?_
 obtain rfl:=Option.some.inj hr
 exact retC2 rfl hd hg i6 i7
noncomputable def k110:=mkO 110 [.list (.st 0),.list (.st 0),.f2 .bool .bool .bool] [.list (.st 0),.int] (fun x=>region_combine x.1 x.2.1 x.2.2) Tryz.call110 fun k0 vs x r hG h hr=>by obtain ⟨v0,vs,rfl,i0,h⟩:=h.cons; obtain ⟨v1,vs,rfl,i1,h⟩:=h.cons; obtain ⟨v2,rfl,i2⟩:=h.one; exact ret2F (T:=tb) (region_combine_ok i0 i1 (isV_f2T.1 i2) hr)
def region_Common_1 (a_:Bool) (b_:Bool):Option (Bool):=
 some (a_ && b_)
noncomputable def k111:=mk 111 [.bool,.bool] [.bool] (fun x=>region_Common_1 x.1 x.2) [] [] Tryz.f111 (.n) Tryz.func111 Tryz.call111 rfl rfl fun x=>by kernel_rfl
def region_Common (a_:(List Rect)) (b_:(List Rect)):Option ((List Rect) × Int):=
 (region_combine a_ b_ region_Common_1).bind fun x1=>
 some (x1.1,x1.2)
noncomputable def k72:=mk 72 [.list (.st 0),.list (.st 0)] [.list (.st 0),.int] (fun x=>region_Common x.1 x.2) [k110,k111] [] Tryz.f72 (.n) Tryz.func72 Tryz.call72 rfl rfl fun x=>by kernel_rfl
def slices_IndexFunc_Cap_L0 (s_:(List Cap)) (f_:(Cap → Option (Bool))) (s1:Int):Option (Flow (Int) (Int)):=
 if (decide (s1 < (s_.length:Int))) then
  (getI s_ s1).bind fun x1=>
  (f_ x1).bind fun x2=>
  if x2 then
   some (.ret s1)
  else
   (addI s1 1).bind fun x3=>
   some (.go x3)
 else
  some (.ex 0 s1)
def slices_IndexFunc_Cap (s_:(List Cap)) (f_:(Cap → Option (Bool))):Option (Int):=
 (iterL (slices_IndexFunc_Cap_L0 s_ f_) (s_.length + 1) 0).bind fun f1=>match f1 with
  | .go _=>none
  | .ex _ _=>
   some (-1)
  | .ret r1=>some r1
noncomputable def k112:=mk 112 [.list (.st 19),.f1 (.st 19) .bool] [.int] (fun x=>slices_IndexFunc_Cap x.1 x.2) [] [] Tryz.f112 (.s .n (.s (.s .n (.l [] [(8,.v .int)] [(0,[8],[])] (fI 7) .n)) .n)) Tryz.func112 Tryz.call112 rfl rfl fun x=>by kernel_rfl
def slices_ContainsFunc_Cap (s_:(List Cap)) (f_:(Cap → Option (Bool))):Option (Bool):=
 (slices_IndexFunc_Cap s_ f_).bind fun x1=>
 some (decide (0 ≤ x1))
noncomputable def k73:=mk 73 [.list (.st 19),.f1 (.st 19) .bool] [.bool] (fun x=>slices_ContainsFunc_Cap x.1 x.2) [k112] [] Tryz.f73 (.n) Tryz.func73 Tryz.call73 rfl rfl fun x=>by kernel_rfl
def drawing_Right_1 (c_:Cap) (p1_:Entry):Option (Bool):=
 some ((c_.Name.toList == p1_.Name.toList))
noncomputable def k74:=mk 74 [.st 19,.rf (.st 10)] [.bool] (fun x=>drawing_Right_1 x.1 x.2) [] [] Tryz.f74 (.n) Tryz.func74 Tryz.call74 rfl rfl fun x=>by kernel_rfl
def drawing_Right_L0 (lot_:Lot) (x1:(List Volume)) (s1:Int):Option (Flow (Int) (Bool)):=
 if (decide (s1 < (x1.length:Int))) then
  (getI x1 s1).bind fun x2=>
  (region_Common lot_.Area ([x2.Box.Base])).bind fun x3=>
  (if (x3.2 != 0) then
   some true
  else
   (region_Area x3.1).bind fun x4=>
   (rect_Area x2.Box.Base).bind fun x5=>
   some (decide (x4 < x5))).bind fun x6=>
  if x6 then
   some (.ret false)
  else
   (addI s1 1).bind fun x7=>
   some (.go x7)
 else
  some (.ex 0 s1)
def drawing_Right_L2 (p_:Plan) (x1:Phase) (s1:Int):Option (Flow (Int) (Bool)):=
 if (decide (s1 < (x1.Gives.length:Int))) then
  (getI x1.Gives s1).bind fun x2=>
  (slices_ContainsFunc_Cap p_.Caps (fun y0=>drawing_Right_1 y0 x2)).bind fun x3=>
  if (!x3) then
   some (.ret false)
  else
   (addI s1 1).bind fun x4=>
   some (.go x4)
 else
  some (.ex 4 s1)
def drawing_Right_L1 (p_:Plan) (d_:Drawing) (s1:Int):Option (Flow (Int) (Bool)):=
 if (decide (s1 < (d_.Phases.length:Int))) then
  (getI d_.Phases s1).bind fun x1=>
  (iterL (drawing_Right_L2 p_ x1) (x1.Gives.length + 1) 0).bind fun f1=>match f1 with
   | .go _=>none
   | .ex _ _=>
    (addI s1 1).bind fun x2=>
    some (.go x2)
   | .ret r1=>some (.ret r1)
 else
  some (.ex 2 s1)
def drawing_Right (p_:Plan) (lot_:Lot) (d_:Drawing):Option (Bool):=
 (drawing_Form d_).bind fun x1=>
 (if ((!x1) || (lot_.Id != d_.Lot)) then
  some true
 else
  (region_Right lot_.Area).bind fun x2=>
  some (!x2)).bind fun x3=>
 if x3 then
  some false
 else
  (drawing_all d_).bind fun x4=>
  (iterL (drawing_Right_L0 lot_ x4) (x4.length + 1) 0).bind fun f1=>match f1 with
   | .go _=>none
   | .ex _ _ =>
    (iterL (drawing_Right_L1 p_ d_) (d_.Phases.length + 1) 0).bind fun f2=>match f2 with
     | .go _=>none
     | .ex _ _=>
      some true
     | .ret r1=>some r1
   | .ret r2=>some r2
noncomputable def k31:=mkg 31 [.st 12,.st 23,.st 8] [.bool] (fun x=>drawing_Right x.1 x.2.1 x.2.2) [k22,k43.lift glv giv gl0,k56.lift glv giv gl0,k72.lift glv giv gl0,k30.lift glv giv gl0,k33.lift glv giv gl0,k74.lift glv giv gl0,k73.lift glv giv gl0] [] Tryz.f31 (.s .n (.s .n (.s (.s .n (.l [] [(34,.v .int)] [(0,[34],[])] (fI 33) .n)) (.s (.s .n (.l [] [(63,.v .int)] [(2,[63],[])] (fI 62) (.s .n (.s .n (.s (.s .n (.s .n (.l [] [(70,.v .int)] [(4,[70],[])] (fI 69) .n))) .n))))) .n)))) Tryz.func31 Tryz.call31 rfl rfl fun x=>by kernel_rfl
def law20_MeasureSolids_L0 (x1:(List Entry)) (x2:(List Volume)) (s1:(List Rect) × Int × Int):Option (Flow ((List Rect) × Int × Int) (Bool)):=
 if (decide (s1.2.2 < (x2.length:Int))) then
  (getI x2 s1.2.2).bind fun x3=>
  (appI s1.1 ([x3.Box.Base])).bind fun x4=>
  (getI x2 s1.2.2).bind fun x5=>
  (measure_Floor x5).bind fun x6=>
  (getI x2 s1.2.2).bind fun x7=>
  (measure_Storeys x7).bind fun x8=>
  (getI x2 s1.2.2).bind fun x9=>
  (getI x2 s1.2.2).bind fun x10=>
  (subI x9.Box.Z1 x10.Box.Z0).bind fun x11=>
  (getI x2 s1.2.2).bind fun x12=>
  (if (x12.Extra && (x8 != 0)) then
   some true
  else
   (getI x2 s1.2.2).bind fun x13=>
   (if (!x13.Extra) then
    (mulI 3 x8).bind fun x14=>
    (if (decide (x14 < x11)) then
     some true
    else
     (mulI 3 x8).bind fun x15=>
     (addI x11 2).bind fun x16=>
     some (decide (x16 < x15))).bind fun x17=>
    some x17
   else
    some false).bind fun x18=>
   some x18).bind fun x19=>
  if x19 then
   some (.ret false)
  else
   (addI s1.2.1 x6).bind fun x20=>
   (getI x2 s1.2.2).bind fun x21=>
   (getI x2 s1.2.2).bind fun x22=>
   (subI x21.Box.Base.X1 x22.Box.Base.X0).bind fun x23=>
   (mulI x8 x23).bind fun x24=>
   (getI x2 s1.2.2).bind fun x25=>
   (getI x2 s1.2.2).bind fun x26=>
   (subI x25.Box.Base.Y1 x26.Box.Base.Y0).bind fun x27=>
   (mulI x24 x27).bind fun x28=>
   (if (x6 != x28) then
    some true
   else
    (law20_number x1 (⟨#[102,108,111,111,114,115]⟩:ByteArray)).bind fun x29=>
    some (decide (x29 < x8))).bind fun x30=>
   if x30 then
    some (.ret false)
   else
    (addI s1.2.2 1).bind fun x31=>
    some (.go (x4,x20,x31))
 else
  some (.ex 0 (s1.1,s1.2.1,s1.2.2))
def law20_MeasureSolids (p_:Plan) (lot_:Lot) (d_:Drawing):Option (Bool):=
 (law20_small).bind fun x1=>
 (ref20_Few p_ lot_ d_).bind fun x2=>
 (if (!x2) then
  some true
 else
  (drawing_Form d_).bind fun x3=>
  some (!x3)).bind fun x4=>
 if x4 then
  some x1
 else
  (measure_Of p_ lot_ d_).bind fun x5=>
  (drawing_Volumes d_ 0 (d_.Phases.length:Int)).bind fun x6=>
  (iterL (law20_MeasureSolids_L0 x5 x6) (x5.length + x6.length + ([]:List Rect).length + 1) (([]:List Rect),0,0)).bind fun f1=>match f1 with
   | .go _=>none
   | .ex _ s1 =>
    (region_Of s1.1).bind fun x7=>
    (law20_boxes x6).bind fun x8=>
    (solid_Of x8).bind fun x9=>
    (if (x7.2 == 0) then
     (law20_number x5 (⟨#[99,111,118,101,114]⟩:ByteArray)).bind fun x10=>
     (region_Area x7.1).bind fun x11=>
     some (x10 != x11)
    else
     some false).bind fun x12=>
    (if x12 then
     some true
    else
     (if ((x9.2 == 0) && (decide (0 < (x9.1.length:Int)))) then
      (law20_number x5 (⟨#[104,101,105,103,104,116]⟩:ByteArray)).bind fun x13=>
      (subI (x9.1.length:Int) 1).bind fun x14=>
      (getI x9.1 x14).bind fun x15=>
      some (x13 != x15.Z1)
     else
      some false).bind fun x16=>
     some x16).bind fun x17=>
    if x17 then
     some false
    else
     (if ((x9.2 == 0) && ((x9.1.length:Int) == 0)) then
      some true
     else
      (law20_number x5 (⟨#[102,108,111,111,114]⟩:ByteArray)).bind fun x18=>
      some (x18 != s1.2.1)).bind fun x19=>
     (if x19 then
      some true
     else
      (law20_number x5 (⟨#[114,117,110,111,102,102]⟩:ByteArray)).bind fun x20=>
      (law20_number x5 (⟨#[99,111,118,101,114]⟩:ByteArray)).bind fun x21=>
      some (x20 != x21)).bind fun x22=>
     if x22 then
      some false
     else
      (if x1 then
       (drawing_Right p_ lot_ d_).bind fun x23=>
       (if (!x23) then
        some true
       else
        (law20_number x5 (⟨#[99,111,118,101,114]⟩:ByteArray)).bind fun x24=>
        (law20_number x5 (⟨#[97,114,101,97]⟩:ByteArray)).bind fun x25=>
        some (decide (x24 ≤ x25))).bind fun x26=>
       some x26
      else
       some false).bind fun x27=>
      (if x27 then
       (law20_number x5 (⟨#[97,114,101,97]⟩:ByteArray)).bind fun x28=>
       (region_Area lot_.Area).bind fun x29=>
       some (x28 == x29)
      else
       some false).bind fun x30=>
      some x30
   | .ret r1=>some r1
noncomputable def k7:=mkg 7 [.st 12,.st 23,.st 8] [.bool] (fun x=>law20_MeasureSolids x.1 x.2.1 x.2.2) [k8.lift glv giv gl0,k9.lift glv giv gl0,k22,k18.lift glv giv gl0,k10.lift glv giv gl0,k13.lift glv giv gl0,k11.lift glv giv gl0,k25.lift glv giv gl0,k27.lift glv giv gl0,k29.lift glv giv gl0,k28.lift glv giv gl0,k30.lift glv giv gl0,k31] [10,47,55] Tryz.f7 (.s .n (.s .n (.s .n (.s .n (.s .n (.s .n (.s .n (.s (.s .n (.l [] [(10,.o 47 (.st 0)),(11,.v .int),(12,.v .int)] [(0,[12],[])] (fL [8,9,10]) .n)) (.s (.f [10] .n) .n))))))))) Tryz.func7 Tryz.call7 rfl rfl fun x=>by kernel_rfl
theorem law20_MeasureSolids_ok {k0:K} {v0 v1 v2:Value} {x0:Plan} {x1:Lot} {x2:Drawing} {r:Bool} (hG:GOk tbg k0) (i0:(IsV x0) v0 k0) (i1:(IsV x1) v1 k0) (i2:(IsV x2) v2 k0) (hr:law20_MeasureSolids x0 x1 x2 = some r):Calls Tryz.prog 7 #[v0,v1,v2] k0.w (Ret k0 (IsV r)):=(k7.ok.ok k0 [v0,v1,v2] (x0,x1,x2) r hG ⟨i0,i1,i2⟩ hr)
end Go.Proofs.YtagkmlkhaekldaaGreat
