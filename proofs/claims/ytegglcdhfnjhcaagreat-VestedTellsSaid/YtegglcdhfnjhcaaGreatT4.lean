/- What the functions compute that the law reaches, part 4 -/
import Derived.Test.YtegglcdhfnjhcaaGreatT3
set_option linter.unusedVariables false
set_option linter.unusedSimpArgs false
set_option linter.unusedSectionVars false
namespace Go.Proofs.YtegglcdhfnjhcaaGreat
open Go.Gb
set_option maxRecDepth 100000
def eD (rights_:(List ax)) (s1:(List aq) × Int) (x1:(List Phase)) (s2:(List aq) × Int × aq):Option (aN ((List aq) × Int × aq) ((List aq) × Int)):=
 if (decide (s2.2.1 < (x1.length:Int))) then
  (au rights_ s1.2).bind fun x2=>
  (au x1 s2.2.1).bind fun x3=>
  (hZ s2.2.2 x2.aE.Lot x3).bind fun x4=>
  (cg s2.1 ([x4])).bind fun x5=>
  (aD s2.2.1 1).bind fun x6=>
  some (.go (x5,x6,x4))
 else
  some (.ex 4 (s2.1,s2.2.1,s2.2.2))
def eN (rights_:(List ax)) (s1:(List aq) × Int) (x1:(List Phase)) (s2:(List aq) × Int):Option (aN ((List aq) × Int) ((List aq) × Int)):=
 if (decide (s2.2 < (s1.1.length:Int))) then
  (au s1.1 s2.2).bind fun x2=>
  (cg s2.1 ([x2])).bind fun x3=>
  (ah (eD rights_ s1 x1) (rights_.length + s1.1.length + x1.length + x3.length + 1) (x3,0,x2)).bind fun f1=>match f1 with
   | .go _=>none
   | .ex _ s3=>
    (aD s2.2 1).bind fun x4=>
    some (.go (s3.1,x4))
   | .ret r1=>some (.ret r1)
 else
  some (.ex 2 (s2.1,s2.2))
def gv (rights_:(List ax)) (s1:(List aq) × Int):Option (aN ((List aq) × Int) ((List aq) × Int)):=
 if (decide (s1.2 < (rights_.length:Int))) then
  (au rights_ s1.2).bind fun x1=>
  (ju x1).bind fun x2=>
  (aD (x2.length:Int) 1).bind fun x3=>
  (qs (s1.1.length:Int) x3).bind fun x4=>
  if (decide (1024 < x4)) then
   some (.ret (([]:List aq),6))
  else
   (ah (eN rights_ s1 x2) (rights_.length + s1.1.length + x2.length + ([]:List aq).length + 1) (([]:List aq),0)).bind fun f1=>match f1 with
    | .go _=>none
    | .ex _ s2=>
     (aD s1.2 1).bind fun x5=>
     some (.go (s2.1,x5))
    | .ret r1=>some (.ret r1)
 else
  some (.ex 0 (s1.1,s1.2))
def iF (t_:aq) (rights_:(List ax)):Option ((List aq) × Int):=
 (ah (gv rights_) (rights_.length + ([t_]).length + 1) ([t_],0)).bind fun f1=>match f1 with
  | .go _=>none
  | .ex _ s1=>
   some (s1.1,0)
  | .ret r1=>some r1
theorem tQ {k0:K} {v0 v1:Value} {t_:aq} {rights_:(List ax)} {r:(List aq) × Int} (i0:(IsV t_) v0 k0) (i1:(IsV rights_) v1 k0) (hr:iF t_ rights_ = some r) :
  Calls Tryz.prog 24 #[v0,v1] k0.w (Ret k0 (dv (IsV r.1) (IsV r.2))):=by
 unfold iF at hr
 refine Ret.ofC ?_
 refine iN Tryz.func24 rfl Tryz.ntmps24 (show 2 ≤ 71 by decide) fun a k hk0 hs hd ha=>?_
 obtain ⟨e0,e1,_⟩:=ha
 replace i0:(IsV t_) (a.get 0) k:=by rw [e0,hk0]; exact i0
 replace i1:(IsV rights_) (a.get 1) k:=by rw [e1,hk0]; exact i1
 have hQ:Gb.LetsOut (bodyPost Tryz.prog Tryz.f24 (dw noF k0 (dv (IsV r.1) (IsV r.2)))):=fc
 have hg:Chg noF k0 k:=by rw [hk0]; exact Chg.refl _ k0
 refine dr 3 (⟨some (aL t_),[(0,none)]⟩::⟨some cO,[]⟩::⟨some (IsI 0),[]⟩::[]) rfl ⟨hg,hs,hd⟩ (by kernel_rfl) ⟨ob1 rfl fun _ _ h n=>js rfl (up i0 h n.1),ob1 rfl fun b q h n=>bL rfl dp,aI rfl rfl,trivial⟩ [⟨_,_⟩,⟨_,_⟩] (fun b q p=>⟨p.ke 1 rfl i1,p.ou 0 2 rfl,trivial⟩) ?_
 rintro a k ⟨⟨hg,hs,hd⟩,i1,i2,_⟩
 refine dr 3 (_::⟨some (IsV (α:=(List aq)) ([t_])),[(13,some 0)]⟩::_::[]) rfl ⟨hg,hs,hd⟩ (by kernel_rfl) ⟨o1 [(2,none)] rfl fun _ _ h n=>aM rfl pP ((up i2 h n.1)).ptr,ob1 rfl fun _ _ h n=>cG rfl Tryz.underlying59 Bg rfl (by decide) (by decide) ⟨rfl,n.1,trivial⟩,cp 1 rfl rfl,trivial⟩ [⟨_,_⟩,⟨_,_⟩] (fun b q p=>⟨p.ke 1 rfl i1,p.ou 2 6 rfl,trivial⟩) ?_
 rintro a k ⟨⟨hg,hs,hd⟩,i1,i6,_⟩
 refine wp_seq ?_
 refine dr 1 (⟨some (IsI 0),[]⟩::[]) rfl ⟨hg,hs,hd⟩ (by kernel_rfl) ⟨aI rfl rfl,trivial⟩ [⟨_,_⟩,⟨_,_⟩,⟨_,_⟩] (fun b q p=>⟨p.ke 1 rfl i1,p.ke 6 rfl i6,p.ou 0 7 rfl,trivial⟩) ?_
 rintro a k ⟨⟨hg,hs,hd⟩,i1,i6,i7,_⟩
 refine wp_block ?_
 obtain ⟨f1,hf1,hr⟩:=bind_some hr
 refine nM f1 (fun s' c l=>Bs noF k0 71 c l∧IsV rights_ (c.get 1) l∧IsV s'.1 (c.get 6) l∧IsV s'.2 (c.get 7) l∧True) (fun i' s' c l=>(i' = 0∧Bs noF k0 71 c l∧IsV s'.1 (c.get 6) l∧True)) (fun r' c l=>bodyPost Tryz.prog Tryz.f24 (dw noF k0 (dv (IsV r'.1) (IsV r'.2))) .ret c l.w) ?_ hQ ?_ ?_ ?_
 ·intro Q1 W1 hgo hex hret
  refine ek ?_ _ _ _ _ _ hf1 ⟨⟨hg,hs,hd⟩,i1,i6,i7,trivial⟩ Q1 W1 hgo hex hret
  clear hr hf1 hgo hex hret W1 hQ hg hs hd i1 i6 i7
  intro s1 fl_ a k hr hS Q hQ hgo4908 hex4909 hret4910
  obtain ⟨⟨hg,hs,hd⟩,i1,i6,i7,_⟩:=hS
  unfold gv at hr
  refine wp_seq ?_
  refine dr 4 (_::_::_::_::[]) rfl ⟨hg,hs,hd⟩ (by kernel_rfl) ⟨mu rfl i7,mu rfl i1,o1 [(16,some 1)] rfl fun _ _ h n=>ep rfl rfl Tryz.underlying38 (IsV.rd n.1),o1 [(15,some 0),(17,some 2)] rfl fun _ _ h n=>gU rfl n.1 n.2.1,trivial⟩ [⟨_,_⟩,⟨_,_⟩,⟨_,_⟩,⟨_,_⟩] (fun b q p=>⟨p.ke 1 rfl i1,p.ke 6 rfl i6,p.ke 7 rfl i7,p.ou 3 18 rfl,trivial⟩) ?_
  rintro a k ⟨⟨hg,hs,hd⟩,i1,i6,i7,i18,_⟩
  refine wp_cond_split (isBool i18) (fun hc4980=>?_) (fun hc4980=>?_)
  ·rw [if_pos hc4980] at hr
   refine wp_skip ?_
   refine wp_seq ?_
   refine wp_block ?_
   refine wp_seq ?_
   obtain ⟨x1,hx1,hr⟩:=bind_some hr
   obtain ⟨x2,hx2,hr⟩:=bind_some hr
   refine cut (fun a' k'=>Bs noF k0 71 a' k'∧(IsV rights_) (a'.get 1) k'∧(IsV s1.1) (a'.get 6) k'∧(IsV s1.2) (a'.get 7) k'∧(IsV x2) (a'.get 8) k'∧True) ?_ hQ ?_
   ·intro Q2 W2 w1
    refine gS 6 (_::_::_::_::_::_::[]) hs (by kernel_rfl) ⟨mu rfl i1,mu rfl i7,o1 [(21,some 0),(22,some 1)] rfl fun _ _ h n=>bs rfl Tryz.underlying38 oN (IsV.rd n.1) n.2.1 hx1,o1 [(23,some 2)] rfl fun _ _ h n=>aM rfl oN n.1,o1 [(24,some 3)] rfl fun _ _ h n=>cN rfl Tryz.call37 (wy n.1 hx2),cp 4 rfl rfl,trivial⟩ W2 fun b q p=>?_
    exact aj (k:=q) (w1 _ _ ⟨Bs.post ⟨hg,hs,hd⟩ p,p.ke 1 rfl i1,p.ke 6 rfl i6,p.ke 7 rfl i7,p.ou 5 8 rfl,trivial⟩)
   rintro a k ⟨⟨hg,hs,hd⟩,i1,i6,i7,i8,_⟩
   refine wp_seq ?_
   refine wp_seq ?_
   obtain ⟨x3,hx3,hr⟩:=bind_some hr
   obtain ⟨x4,hx4,hr⟩:=bind_some hr
   refine cut (fun a' k'=>Bs noF k0 71 a' k'∧(IsV rights_) (a'.get 1) k'∧(IsV s1.1) (a'.get 6) k'∧(IsV s1.2) (a'.get 7) k'∧(IsV x2) (a'.get 8) k'∧(IsV (decide (1024 < x4))) (a'.get 32) k'∧True) ?_ hQ ?_
   ·intro Q3 W3 w2
    refine gS 7 (_::_::_::_::_::_::_::[]) hs (by kernel_rfl) ⟨mu rfl i6,o1 [(26,some 0)] rfl fun _ _ h n=>ep rfl rfl Tryz.underlying59 (IsV.rd n.1),mu rfl i8,o1 [(28,some 2)] rfl fun _ _ h n=>ep rfl rfl Tryz.underlying39 (IsV.rd n.1),o1 [(29,some 3)] rfl fun _ _ h n=>gV rfl n.1 (cI rfl) hx3,o1 [(27,some 1),(30,some 4)] rfl fun _ _ h n=>BI rfl n.1 n.2.1 hx4,o1 [(31,some 5)] rfl fun _ _ h n=>Cb rfl n.1 (cI rfl),trivial⟩ W3 fun b q p=>?_
    exact aj (k:=q) (w2 _ _ ⟨Bs.post ⟨hg,hs,hd⟩ p,p.ke 1 rfl i1,p.ke 6 rfl i6,p.ke 7 rfl i7,p.ke 8 rfl i8,p.ou 6 32 rfl,trivial⟩)
   rintro a k ⟨⟨hg,hs,hd⟩,i1,i6,i7,i8,i32,_⟩
   refine wp_cond_split (isBool i32) (fun hc4975=>?_) (fun hc4975=>?_)
   ·rw [if_pos hc4975] at hr
    refine GC noF k0 71 [⟨4,IsV ([]:List aq)⟩,⟨5,IsI 6⟩] ?_ ?_
    ·intro Q4 W4 w3
     refine gS 2 (⟨some cO,[]⟩::⟨some (IsI 6),[]⟩::[]) hs (by kernel_rfl) ⟨ob1 rfl fun b q h n=>bL rfl dp,aI rfl rfl,trivial⟩ W4 fun b q p=>?_
     have hgq:=hg.then p.grow
     have hsb:=p.size.trans hs
     have hdb:=p.defers.trans hd
     have j4:cO (b.get 4) q:=p.ou 0 4 rfl
     have j5:(IsI 6) (b.get 5) q:=p.ou 1 5 rfl
     replace j4:IsV ([]:List aq) (b.get 4) q:=j4.isV
     exact aj (k:=q) (w3 _ _ ⟨⟨hgq,hsb,hdb⟩,j4,j5,trivial⟩)
    rintro a k ⟨⟨hg,hs,hd⟩,i4,i5,_⟩
    refine wp_ret ?_
    exact hret4910 _ _ _ (Option.some.inj hr).symm (CN rfl hd hg i4 i5)
   rw [if_neg (by rw [hc4975]; decide)] at hr
   refine wp_skip ?_
   refine gP (fun c l=>Bs noF k0 71 c l∧IsV rights_ (c.get 1) l∧IsV s1.1 (c.get 6) l∧IsV s1.2 (c.get 7) l∧IsV x2 (c.get 8) l∧ay 0 37 ([]:List aq) (c.get 9) l∧Lo k0 (obF (c.get 9))∧True) ?_ ?_
   ·intro Q5 W5 w4
    refine gS 1 (⟨some cO,[]⟩::[]) hs (by kernel_rfl) ⟨ob1 rfl fun b q h n=>bL rfl dp,trivial⟩ W5 fun b q p=>?_
    have hgq:=hg.then p.grow
    have hsb:=p.size.trans hs
    have hdb:=p.defers.trans hd
    have j1:=p.ke 1 rfl i1
    have j6:=p.ke 6 rfl i6
    have j7:=p.ke 7 rfl i7
    have j8:=p.ke 8 rfl i8
    have j9:cO (b.get 9) q:=p.ou 0 9 rfl
    have y9:Lo k0 (obF (b.get 9)):=j9.lo
    replace j9:ay 0 37 ([]:List aq) (b.get 9) q:=j9.DS
    exact aj (k:=q) (w4 _ _ ⟨⟨hgq,hsb,hdb⟩,j1,j6,j7,j8,j9,y9,trivial⟩)
   rintro a k ⟨⟨hg,hs,hd⟩,i1,i6,i7,i8,i9,n9,_⟩
   refine wp_seq ?_
   refine gP (fun c l=>Bs noF k0 71 c l∧IsV rights_ (c.get 1) l∧IsV s1.1 (c.get 6) l∧IsV s1.2 (c.get 7) l∧IsV x2 (c.get 8) l∧ay 0 37 ([]:List aq) (c.get 9) l∧Lo k0 (obF (c.get 9))∧IsI 0 (c.get 10) l∧True) ?_ ?_
   ·intro Q6 W6 w5
    refine gS 1 (⟨some (IsI 0),[]⟩::[]) hs (by kernel_rfl) ⟨aI rfl rfl,trivial⟩ W6 fun b q p=>?_
    exact aj (k:=q) (w5 _ _ ⟨Bs.post ⟨hg,hs,hd⟩ p,p.ke 1 rfl i1,p.ke 6 rfl i6,p.ke 7 rfl i7,p.ke 8 rfl i8,p.ke 9 rfl i9,(by rw [p.old 9 rfl]; exact n9),p.ou 0 10 rfl,trivial⟩)
   rintro a k ⟨⟨hg,hs,hd⟩,i1,i6,i7,i8,i9,n9,i10,_⟩
   refine wp_block ?_
   obtain ⟨f2,hf2,hr⟩:=bind_some hr
   refine nM f2 (fun s' c l=>Bs noF k0 71 c l∧IsV rights_ (c.get 1) l∧IsV s1.1 (c.get 6) l∧IsV s1.2 (c.get 7) l∧IsV x2 (c.get 8) l∧ay 0 37 s'.1 (c.get 9) l∧Lo k0 (obF (c.get 9))∧IsV s'.2 (c.get 10) l∧True) (fun i' s' c l=>(i' = 2∧Bs noF k0 71 c l∧IsV rights_ (c.get 1) l∧IsV s1.2 (c.get 7) l∧IsV s'.1 (c.get 9) l∧True)) (fun r' c l=>bodyPost Tryz.prog Tryz.f24 (dw noF k0 (dv (IsV r'.1) (IsV r'.2))) .ret c l.w) ?_ hQ ?_ ?_ ?_
   ·intro Q7 W7 hgo hex hret
    refine ek ?_ _ _ _ _ _ hf2 ⟨⟨hg,hs,hd⟩,i1,i6,i7,i8,i9,n9,i10,trivial⟩ Q7 W7 hgo hex hret
    clear hr hf2 hgo hex hret W7 hQ hg hs hd i1 i10 i6 i7 i8 i9 n9
    intro s2 fl_ a k hr hS Q hQ hgo4920 hex4921 hret4922
    obtain ⟨⟨hg,hs,hd⟩,i1,i6,i7,i8,i9,n9,i10,_⟩:=hS
    unfold eN at hr
    refine wp_seq ?_
    refine gP (fun c l=>Bs noF k0 71 c l∧IsV rights_ (c.get 1) l∧IsV s1.1 (c.get 6) l∧IsV s1.2 (c.get 7) l∧IsV x2 (c.get 8) l∧ay 0 37 s2.1 (c.get 9) l∧Lo k0 (obF (c.get 9))∧IsV s2.2 (c.get 10) l∧(IsV (decide (s2.2 < (s1.1.length:Int)))) (c.get 36) l∧True) ?_ ?_
    ·intro Q8 W8 w6
     refine gS 4 (_::_::_::_::[]) hs (by kernel_rfl) ⟨mu rfl i10,mu rfl i6,o1 [(34,some 1)] rfl fun _ _ h n=>ep rfl rfl Tryz.underlying59 (IsV.rd n.1),o1 [(33,some 0),(35,some 2)] rfl fun _ _ h n=>gU rfl n.1 n.2.1,trivial⟩ W8 fun b q p=>?_
     exact aj (k:=q) (w6 _ _ ⟨Bs.post ⟨hg,hs,hd⟩ p,p.ke 1 rfl i1,p.ke 6 rfl i6,p.ke 7 rfl i7,p.ke 8 rfl i8,p.ke 9 rfl i9,(by rw [p.old 9 rfl]; exact n9),p.ke 10 rfl i10,p.ou 3 36 rfl,trivial⟩)
    rintro a k ⟨⟨hg,hs,hd⟩,i1,i6,i7,i8,i9,n9,i10,i36,_⟩
    refine wp_cond_split (isBool i36) (fun hc4958=>?_) (fun hc4958=>?_)
    ·rw [if_pos hc4958] at hr
     refine wp_skip ?_
     refine wp_seq ?_
     refine wp_block ?_
     refine wp_seq ?_
     obtain ⟨x5,hx5,hr⟩:=bind_some hr
     refine cut (fun a' k'=>Bs noF k0 71 a' k'∧(IsV rights_) (a'.get 1) k'∧(IsV s1.1) (a'.get 6) k'∧(IsV s1.2) (a'.get 7) k'∧(IsV x2) (a'.get 8) k'∧ay 0 37 s2.1 (a'.get 9) k'∧Lo k0 (obF (a'.get 9))∧(IsV s2.2) (a'.get 10) k'∧(∃ b11,a'.get 11 = .pointer (some ⟨b11,0,none⟩)∧Lo k0 (Eq b11)∧Gb.Box b11 x5 k'∧ai (obF (a'.get 9)) (Eq b11)∧True)) ?_ hQ ?_
     ·intro Q9 W9 w7
      refine gS 5 (_::_::_::_::⟨some (dR k.w.heap.size (⟨(⟨[],[],[],[],[],[],[],0⟩:an),[],[],[],[],[]⟩:aq)),[]⟩::[]) hs (by kernel_rfl) ⟨mu rfl i6,mu rfl i10,o1 [(39,some 0),(40,some 1)] rfl fun _ _ h n=>bs rfl Tryz.underlying59 pP (IsV.rd n.1) n.2.1 hx5,o1 [(41,some 2)] rfl fun _ _ h n=>aM rfl pP n.1,ob1 rfl fun _ _ h n=>dQ _ h.size rfl z37,trivial⟩ W9 fun b q p=>?_
      have hgq:=hg.then p.grow
      have hsb:=p.size.trans hs
      have hdb:=p.defers.trans hd
      have j1:=p.ke 1 rfl i1
      have j6:=p.ke 6 rfl i6
      have j7:=p.ke 7 rfl i7
      have j8:=p.ke 8 rfl i8
      have j9:=p.ke 9 rfl i9
      have y9:Lo k0 (obF (b.get 9)):=by rw [p.old 9 rfl]; exact n9
      have j10:=p.ke 10 rfl i10
      obtain ⟨b11,j11,x11,z11⟩:(dR k.w.heap.size (⟨(⟨[],[],[],[],[],[],[],0⟩:an),[],[],[],[],[]⟩:aq)) (b.get 11) q:=p.ou 4 11 rfl
      replace x11:Lo k (Eq b11):=Lo.eq x11
      have y11:Lo k0 (Eq b11):=x11.chg hg
      have j42:(IsV x5) (b.get 42) q:=p.ou 3 42 rfl
      have w9_11:ai (obF (b.get 9)) (Eq b11):=ai.new (by rw [p.old 9 rfl]; exact i9.ltF) x11
      have hns:=z11.kN
      refine bC (i:=5) rfl rfl rfl rfl C6 (Upd.self (α:=aq)) j11 z11 j42 fun q2 hch hz=>?_
      replace hgq:=hgq.step hch y11.wr
      have hle:=hch.le hns
      replace j1:=aA.pers hle j1
      replace j6:=aA.pers hle j6
      replace j7:=aA.pers hle j7
      replace j8:=aA.pers hle j8
      replace j9:=j9.keep hch w9_11 hns
      replace j10:=aA.pers hle j10
      replace j42:=aA.pers hle j42
      replace z11:=hz
      clear hns hle hch
      obtain ⟨q,hqq⟩ : ∃ q,q = q2:=⟨q2,rfl⟩
      subst hqq
      exact aj (k:=q) (w7 _ _ ⟨⟨hgq,hsb,hdb⟩,j1,j6,j7,j8,j9,y9,j10,b11,j11,y11,z11,w9_11,trivial⟩)
     rintro a k ⟨⟨hg,hs,hd⟩,i1,i6,i7,i8,i9,n9,i10,b11,i11,n11,c11,d9_11,_⟩
     refine wp_seq ?_
     obtain ⟨x6,hx6,hr⟩:=bind_some hr
     refine cut (fun a' k'=>Bs noF k0 71 a' k'∧(IsV rights_) (a'.get 1) k'∧(IsV s1.1) (a'.get 6) k'∧(IsV s1.2) (a'.get 7) k'∧(IsV x2) (a'.get 8) k'∧ay 0 37 x6 (a'.get 9) k'∧Lo k0 (obF (a'.get 9))∧(IsV s2.2) (a'.get 10) k'∧a'.get 11 = .pointer (some ⟨b11,0,none⟩)∧Lo k0 (Eq b11)∧Gb.Box b11 x5 k'∧ai (obF (a'.get 9)) (Eq b11)∧True) ?_ hQ ?_
     ·intro Q10 W10 w8
      refine gS 3 (⟨some (qy (a.get 9) 0 37 s2.1),[(9,none)]⟩::_::⟨some (IsV (α:=(List aq)) ([x5])),[(44,some 1)]⟩::[]) hs (by kernel_rfl) ⟨ob1 rfl fun _ _ h n=>oz (.inl rfl) (Cj n.1 (up i9 h n.1)),o1 [(11,none)] rfl fun _ _ h n=>aM rfl pP ⟨_,(upE i11 n.1),(c11.grow h).at⟩,ob1 rfl fun _ _ h n=>cG rfl Tryz.underlying59 Bg rfl (by decide) (by decide) ⟨rfl,n.1,trivial⟩,trivial⟩ W10 fun b q p=>?_
      have hgq:=hg.then p.grow
      have hsb:=p.size.trans hs
      have hdb:=p.defers.trans hd
      have j1:=p.ke 1 rfl i1
      have j6:=p.ke 6 rfl i6
      have j7:=p.ke 7 rfl i7
      have j8:=p.ke 8 rfl i8
      have j10:=p.ke 10 rfl i10
      have j11:=upE i11 (p.old 11 rfl)
      have z11:=Gb.Box.grow c11 p.grow
      have y11:=n11
      have e43:b.get 43 = a.get 9:=(p.ou 0 43 rfl).1
      have j43:ay 0 37 s2.1 (b.get 43) q:=(p.ou 0 43 rfl).2
      have y43:Lo k0 (obF (b.get 43)):=by rw [e43]; exact n9
      have j45:(IsV (α:=(List aq)) ([x5])) (b.get 45) q:=p.ou 2 45 rfl
      have w11_43:ai (Eq b11) (obF (b.get 43)):=by rw [e43]; exact (d9_11.symm)
      have hns:=j43.kN
      refine cX (i:=3) (d:=46) rfl rfl rfl rfl (by rw [hsb]; decide) (e:=37) Tryz.underlying59 Bg j43 (IsV.rd j45) hx6 fun b2 q2 hsz hdf hoth hch hown hob=>?_
      have hle:=hch.le hns
      have yn:Lo k0 (obF (b2.get 46)):=y43.app hgq hob
      have v11:ai (Eq b11) (obF (b2.get 46)):=ai.app w11_43 z11.ltF hob
      replace j1:=aA.pers hle j1
      replace j6:=aA.pers hle j6
      replace j7:=aA.pers hle j7
      replace j8:=aA.pers hle j8
      replace j10:=aA.pers hle j10
      replace z11:=z11.keep hch (w11_43 _ rfl) hns
      replace j45:=aA.pers hle j45
      replace hgq:=hgq.step hch y43.wr
      rw [← hoth 1 (by decide)] at j1
      rw [← hoth 6 (by decide)] at j6
      rw [← hoth 7 (by decide)] at j7
      rw [← hoth 8 (by decide)] at j8
      rw [← hoth 10 (by decide)] at j10
      rw [← hoth 11 (by decide)] at j11
      rw [← hoth 45 (by decide)] at j45
      have w11_46:=v11
      have j46:=hown
      have y46:=yn
      replace hsb:=hsz.trans hsb
      replace hdb:=hdf.trans hdb
      clear hle hch hown hob hns yn hsz hdf hoth
      obtain ⟨b,hbb⟩ : ∃ b,b = b2:=⟨b2,rfl⟩
      subst hbb
      obtain ⟨q,hqq⟩ : ∃ q,q = q2:=⟨q2,rfl⟩
      subst hqq
      refine lL (i:=4) (d:=9) rfl rfl (.inl rfl) rfl (by rw [hsb]; decide) fun b2 hsz hdf hnew hoth=>?_
      have jn:(ay 0 37 x6) (b2.get 9) q:=by rw [hnew]; exact j46
      have yn:Lo k0 (obF (b2.get 9)):=by rw [hnew]; exact y46
      have v11:ai (Eq b11) (obF (b2.get 9)):=by rw [hnew]; exact w11_46
      rw [← hoth 1 (by decide)] at j1
      rw [← hoth 6 (by decide)] at j6
      rw [← hoth 7 (by decide)] at j7
      rw [← hoth 8 (by decide)] at j8
      rw [← hoth 10 (by decide)] at j10
      rw [← hoth 11 (by decide)] at j11
      rw [← hoth 45 (by decide)] at j45
      have w9_11:=v11.symm
      have j9:=jn
      have y9:=yn
      replace hsb:=hsz.trans hsb
      replace hdb:=hdf.trans hdb
      clear hsz hdf hoth
      obtain ⟨b,hbb⟩ : ∃ b,b = b2:=⟨b2,rfl⟩
      subst hbb
      exact aj (k:=q) (w8 _ _ ⟨⟨hgq,hsb,hdb⟩,j1,j6,j7,j8,j9,y9,j10,j11,y11,z11,w9_11,trivial⟩)
     rintro a k ⟨⟨hg,hs,hd⟩,i1,i6,i7,i8,i9,n9,i10,i11,n11,c11,d9_11,_⟩
     refine gP (fun c l=>Bs noF k0 71 c l∧IsV rights_ (c.get 1) l∧IsV s1.1 (c.get 6) l∧IsV s1.2 (c.get 7) l∧IsV x2 (c.get 8) l∧ay 0 37 x6 (c.get 9) l∧Lo k0 (obF (c.get 9))∧IsV s2.2 (c.get 10) l∧c.get 11 = .pointer (some ⟨b11,0,none⟩)∧Lo k0 (Eq b11)∧Gb.Box b11 x5 l∧IsI 0 (c.get 12) l∧ai (obF (c.get 9)) (Eq b11)∧True) ?_ ?_
     ·intro Q11 W11 w9
      refine gS 1 (⟨some (IsI 0),[]⟩::[]) hs (by kernel_rfl) ⟨aI rfl rfl,trivial⟩ W11 fun b q p=>?_
      exact aj (k:=q) (w9 _ _ ⟨Bs.post ⟨hg,hs,hd⟩ p,p.ke 1 rfl i1,p.ke 6 rfl i6,p.ke 7 rfl i7,p.ke 8 rfl i8,p.ke 9 rfl i9,(by rw [p.old 9 rfl]; exact n9),p.ke 10 rfl i10,upE i11 (p.old 11 rfl),n11,Gb.Box.grow c11 p.grow,p.ou 0 12 rfl,(by rw [p.old 9 rfl]; exact d9_11),trivial⟩)
     rintro a k ⟨⟨hg,hs,hd⟩,i1,i6,i7,i8,i9,n9,i10,i11,n11,c11,i12,d9_11,_⟩
     refine wp_block ?_
     obtain ⟨f3,hf3,hr⟩:=bind_some hr
     refine nM f3 (fun s' c l=>Bs noF k0 71 c l∧IsV rights_ (c.get 1) l∧IsV s1.1 (c.get 6) l∧IsV s1.2 (c.get 7) l∧IsV x2 (c.get 8) l∧ay 0 37 s'.1 (c.get 9) l∧Lo k0 (obF (c.get 9))∧IsV s2.2 (c.get 10) l∧c.get 11 = .pointer (some ⟨b11,0,none⟩)∧Lo k0 (Eq b11)∧Gb.Box b11 s'.2.2 l∧IsV s'.2.1 (c.get 12) l∧ai (obF (c.get 9)) (Eq b11)∧True) (fun i' s' c l=>(i' = 4∧Bs noF k0 71 c l∧IsV rights_ (c.get 1) l∧IsV s1.1 (c.get 6) l∧IsV s1.2 (c.get 7) l∧IsV x2 (c.get 8) l∧ay 0 37 s'.1 (c.get 9) l∧Lo k0 (obF (c.get 9))∧IsV s2.2 (c.get 10) l∧True)) (fun r' c l=>bodyPost Tryz.prog Tryz.f24 (dw noF k0 (dv (IsV r'.1) (IsV r'.2))) .ret c l.w) ?_ hQ ?_ ?_ ?_
     ·intro Q12 W12 hgo hex hret
      refine ek ?_ _ _ _ _ _ hf3 ⟨⟨hg,hs,hd⟩,i1,i6,i7,i8,i9,n9,i10,i11,n11,c11,i12,d9_11,trivial⟩ Q12 W12 hgo hex hret
      clear hr hf3 hgo hex hret W12 hQ hg hs hd c11 d9_11 i1 i10 i11 i12 i6 i7 i8 i9 n11 n9
      intro s3 fl_ a k hr hS Q hQ hgo4928 hex4929 hret4930
      obtain ⟨⟨hg,hs,hd⟩,i1,i6,i7,i8,i9,n9,i10,i11,n11,c11,i12,d9_11,_⟩:=hS
      unfold eD at hr
      refine wp_seq ?_
      refine gP (fun c l=>Bs noF k0 71 c l∧IsV rights_ (c.get 1) l∧IsV s1.1 (c.get 6) l∧IsV s1.2 (c.get 7) l∧IsV x2 (c.get 8) l∧ay 0 37 s3.1 (c.get 9) l∧Lo k0 (obF (c.get 9))∧IsV s2.2 (c.get 10) l∧c.get 11 = .pointer (some ⟨b11,0,none⟩)∧Lo k0 (Eq b11)∧Gb.Box b11 s3.2.2 l∧IsV s3.2.1 (c.get 12) l∧(IsV (decide (s3.2.1 < (x2.length:Int)))) (c.get 50) l∧ai (obF (c.get 9)) (Eq b11)∧True) ?_ ?_
      ·intro Q13 W13 w10
       refine gS 4 (_::_::_::_::[]) hs (by kernel_rfl) ⟨mu rfl i12,mu rfl i8,o1 [(48,some 1)] rfl fun _ _ h n=>ep rfl rfl Tryz.underlying39 (IsV.rd n.1),o1 [(47,some 0),(49,some 2)] rfl fun _ _ h n=>gU rfl n.1 n.2.1,trivial⟩ W13 fun b q p=>?_
       exact aj (k:=q) (w10 _ _ ⟨Bs.post ⟨hg,hs,hd⟩ p,p.ke 1 rfl i1,p.ke 6 rfl i6,p.ke 7 rfl i7,p.ke 8 rfl i8,p.ke 9 rfl i9,(by rw [p.old 9 rfl]; exact n9),p.ke 10 rfl i10,upE i11 (p.old 11 rfl),n11,Gb.Box.grow c11 p.grow,p.ke 12 rfl i12,p.ou 3 50 rfl,(by rw [p.old 9 rfl]; exact d9_11),trivial⟩)
      rintro a k ⟨⟨hg,hs,hd⟩,i1,i6,i7,i8,i9,n9,i10,i11,n11,c11,i12,i50,d9_11,_⟩
      refine wp_cond_split (isBool i50) (fun hc4941=>?_) (fun hc4941=>?_)
      ·rw [if_pos hc4941] at hr
       refine wp_skip ?_
       refine wp_seq ?_
       refine wp_block ?_
       refine wp_seq ?_
       obtain ⟨x7,hx7,hr⟩:=bind_some hr
       obtain ⟨x8,hx8,hr⟩:=bind_some hr
       obtain ⟨x9,hx9,hr⟩:=bind_some hr
       refine cut (fun a' k'=>Bs noF k0 71 a' k'∧(IsV rights_) (a'.get 1) k'∧(IsV s1.1) (a'.get 6) k'∧(IsV s1.2) (a'.get 7) k'∧(IsV x2) (a'.get 8) k'∧ay 0 37 s3.1 (a'.get 9) k'∧Lo k0 (obF (a'.get 9))∧(IsV s2.2) (a'.get 10) k'∧a'.get 11 = .pointer (some ⟨b11,0,none⟩)∧Lo k0 (Eq b11)∧Gb.Box b11 x9 k'∧(IsV s3.2.1) (a'.get 12) k'∧ai (obF (a'.get 9)) (Eq b11)∧True) ?_ hQ ?_
       ·intro Q14 W14 w11
        refine region (m:=12) (_::_::_::_::_::_::_::_::_::_::_::_::[]) oH hs (by kernel_rfl) ⟨o1 [(11,none)] rfl fun _ _ h n=>aM rfl pP ⟨_,(upE i11 n.1),(c11.grow h).at⟩,mu rfl i1,mu rfl i7,o1 [(54,some 1),(55,some 2)] rfl fun _ _ h n=>bs rfl Tryz.underlying38 oN (IsV.rd n.1) n.2.1 hx7,o1 [(56,some 3)] rfl fun _ _ h n=>bB rfl D8 (uD _) n.1,o1 [(57,some 4)] rfl fun _ _ h n=>bB rfl Ef (ru _) n.1,o1 [(58,some 5)] rfl fun _ _ h n=>aM rfl ty3 n.1,mu rfl i8,mu rfl i12,o1 [(60,some 7),(61,some 8)] rfl fun _ _ h n=>bs rfl Tryz.underlying39 El (IsV.rd n.1) n.2.1 hx8,o1 [(62,some 9)] rfl fun _ _ h n=>aM rfl El n.1,o1 [(53,some 0),(59,some 6),(63,some 10)] rfl fun _ _ h n=>cN rfl Tryz.call16 (vu n.1 n.2.1 n.2.2.1 hx9),trivial⟩ W14 fun b q p=>?_
        have hgq:=hg.then p.grow
        have hsb:=p.size.trans hs
        have hdb:=p.defers.trans hd
        have j1:=p.ke 1 rfl i1
        have j6:=p.ke 6 rfl i6
        have j7:=p.ke 7 rfl i7
        have j8:=p.ke 8 rfl i8
        have j9:=p.ke 9 rfl i9
        have y9:Lo k0 (obF (b.get 9)):=by rw [p.old 9 rfl]; exact n9
        have j10:=p.ke 10 rfl i10
        have j11:=upE i11 (p.old 11 rfl)
        have z11:=Gb.Box.grow c11 p.grow
        have y11:=n11
        have j12:=p.ke 12 rfl i12
        have j64:(IsV x9) (b.get 64) q:=p.ou 11 64 rfl
        have w9_11:ai (obF (b.get 9)) (Eq b11):=by rw [p.old 9 rfl]; exact d9_11
        have hns:=z11.kN
        refine bC (i:=12) rfl rfl rfl rfl C6 (Upd.self (α:=aq)) j11 z11 j64 fun q2 hch hz=>?_
        replace hgq:=hgq.step hch y11.wr
        have hle:=hch.le hns
        replace j1:=aA.pers hle j1
        replace j6:=aA.pers hle j6
        replace j7:=aA.pers hle j7
        replace j8:=aA.pers hle j8
        replace j9:=j9.keep hch w9_11 hns
        replace j10:=aA.pers hle j10
        replace j12:=aA.pers hle j12
        replace j64:=aA.pers hle j64
        replace z11:=hz
        clear hns hle hch
        obtain ⟨q,hqq⟩ : ∃ q,q = q2:=⟨q2,rfl⟩
        subst hqq
        exact aj (k:=q) (w11 _ _ ⟨⟨hgq,hsb,hdb⟩,j1,j6,j7,j8,j9,y9,j10,j11,y11,z11,j12,w9_11,trivial⟩)
       rintro a k ⟨⟨hg,hs,hd⟩,i1,i6,i7,i8,i9,n9,i10,i11,n11,c11,i12,d9_11,_⟩
       obtain ⟨x10,hx10,hr⟩:=bind_some hr
       refine cut (fun a' k'=>Bs noF k0 71 a' k'∧(IsV rights_) (a'.get 1) k'∧(IsV s1.1) (a'.get 6) k'∧(IsV s1.2) (a'.get 7) k'∧(IsV x2) (a'.get 8) k'∧ay 0 37 x10 (a'.get 9) k'∧Lo k0 (obF (a'.get 9))∧(IsV s2.2) (a'.get 10) k'∧a'.get 11 = .pointer (some ⟨b11,0,none⟩)∧Lo k0 (Eq b11)∧Gb.Box b11 x9 k'∧(IsV s3.2.1) (a'.get 12) k'∧ai (obF (a'.get 9)) (Eq b11)∧True) ?_ hQ ?_
       ·intro Q15 W15 w12
        refine gS 3 (⟨some (qy (a.get 9) 0 37 s3.1),[(9,none)]⟩::_::⟨some (IsV (α:=(List aq)) ([x9])),[(66,some 1)]⟩::[]) hs (by kernel_rfl) ⟨ob1 rfl fun _ _ h n=>oz (.inl rfl) (Cj n.1 (up i9 h n.1)),o1 [(11,none)] rfl fun _ _ h n=>aM rfl pP ⟨_,(upE i11 n.1),(c11.grow h).at⟩,ob1 rfl fun _ _ h n=>cG rfl Tryz.underlying59 Bg rfl (by decide) (by decide) ⟨rfl,n.1,trivial⟩,trivial⟩ W15 fun b q p=>?_
        have hgq:=hg.then p.grow
        have hsb:=p.size.trans hs
        have hdb:=p.defers.trans hd
        have j1:=p.ke 1 rfl i1
        have j6:=p.ke 6 rfl i6
        have j7:=p.ke 7 rfl i7
        have j8:=p.ke 8 rfl i8
        have j10:=p.ke 10 rfl i10
        have j11:=upE i11 (p.old 11 rfl)
        have z11:=Gb.Box.grow c11 p.grow
        have y11:=n11
        have j12:=p.ke 12 rfl i12
        have e65:b.get 65 = a.get 9:=(p.ou 0 65 rfl).1
        have j65:ay 0 37 s3.1 (b.get 65) q:=(p.ou 0 65 rfl).2
        have y65:Lo k0 (obF (b.get 65)):=by rw [e65]; exact n9
        have j67:(IsV (α:=(List aq)) ([x9])) (b.get 67) q:=p.ou 2 67 rfl
        have w11_65:ai (Eq b11) (obF (b.get 65)):=by rw [e65]; exact (d9_11.symm)
        have hns:=j65.kN
        refine cX (i:=3) (d:=68) rfl rfl rfl rfl (by rw [hsb]; decide) (e:=37) Tryz.underlying59 Bg j65 (IsV.rd j67) hx10 fun b2 q2 hsz hdf hoth hch hown hob=>?_
        have hle:=hch.le hns
        have yn:Lo k0 (obF (b2.get 68)):=y65.app hgq hob
        have v11:ai (Eq b11) (obF (b2.get 68)):=ai.app w11_65 z11.ltF hob
        replace j1:=aA.pers hle j1
        replace j6:=aA.pers hle j6
        replace j7:=aA.pers hle j7
        replace j8:=aA.pers hle j8
        replace j10:=aA.pers hle j10
        replace z11:=z11.keep hch (w11_65 _ rfl) hns
        replace j12:=aA.pers hle j12
        replace j67:=aA.pers hle j67
        replace hgq:=hgq.step hch y65.wr
        rw [← hoth 1 (by decide)] at j1
        rw [← hoth 6 (by decide)] at j6
        rw [← hoth 7 (by decide)] at j7
        rw [← hoth 8 (by decide)] at j8
        rw [← hoth 10 (by decide)] at j10
        rw [← hoth 11 (by decide)] at j11
        rw [← hoth 12 (by decide)] at j12
        rw [← hoth 67 (by decide)] at j67
        have w11_68:=v11
        have j68:=hown
        have y68:=yn
        replace hsb:=hsz.trans hsb
        replace hdb:=hdf.trans hdb
        clear hle hch hown hob hns yn hsz hdf hoth
        obtain ⟨b,hbb⟩ : ∃ b,b = b2:=⟨b2,rfl⟩
        subst hbb
        obtain ⟨q,hqq⟩ : ∃ q,q = q2:=⟨q2,rfl⟩
        subst hqq
        refine lL (i:=4) (d:=9) rfl rfl (.inl rfl) rfl (by rw [hsb]; decide) fun b2 hsz hdf hnew hoth=>?_
        have jn:(ay 0 37 x10) (b2.get 9) q:=by rw [hnew]; exact j68
        have yn:Lo k0 (obF (b2.get 9)):=by rw [hnew]; exact y68
        have v11:ai (Eq b11) (obF (b2.get 9)):=by rw [hnew]; exact w11_68
        rw [← hoth 1 (by decide)] at j1
        rw [← hoth 6 (by decide)] at j6
        rw [← hoth 7 (by decide)] at j7
        rw [← hoth 8 (by decide)] at j8
        rw [← hoth 10 (by decide)] at j10
        rw [← hoth 11 (by decide)] at j11
        rw [← hoth 12 (by decide)] at j12
        rw [← hoth 67 (by decide)] at j67
        have w9_11:=v11.symm
        have j9:=jn
        have y9:=yn
        replace hsb:=hsz.trans hsb
        replace hdb:=hdf.trans hdb
        clear hsz hdf hoth
        obtain ⟨b,hbb⟩ : ∃ b,b = b2:=⟨b2,rfl⟩
        subst hbb
        exact aj (k:=q) (w12 _ _ ⟨⟨hgq,hsb,hdb⟩,j1,j6,j7,j8,j9,y9,j10,j11,y11,z11,j12,w9_11,trivial⟩)
       rintro a k ⟨⟨hg,hs,hd⟩,i1,i6,i7,i8,i9,n9,i10,i11,n11,c11,i12,d9_11,_⟩
       obtain ⟨x12,hx12,hr⟩:=bind_some hr
       refine cut (fun a' k'=>Bs noF k0 71 a' k'∧(IsV rights_) (a'.get 1) k'∧(IsV s1.1) (a'.get 6) k'∧(IsV s1.2) (a'.get 7) k'∧(IsV x2) (a'.get 8) k'∧ay 0 37 x10 (a'.get 9) k'∧Lo k0 (obF (a'.get 9))∧(IsV s2.2) (a'.get 10) k'∧a'.get 11 = .pointer (some ⟨b11,0,none⟩)∧Lo k0 (Eq b11)∧Gb.Box b11 x9 k'∧(IsV x12) (a'.get 12) k'∧ai (obF (a'.get 9)) (Eq b11)∧True) ?_ hQ ?_
       ·intro Q16 W16 w13
        refine gS 3 (_::_::_::[]) hs (by kernel_rfl) ⟨mu rfl i12,o1 [(51,some 0)] rfl fun _ _ h n=>gV rfl n.1 (cI rfl) hx12,cp 1 rfl rfl,trivial⟩ W16 fun b q p=>?_
        exact aj (k:=q) (w13 _ _ ⟨Bs.post ⟨hg,hs,hd⟩ p,p.ke 1 rfl i1,p.ke 6 rfl i6,p.ke 7 rfl i7,p.ke 8 rfl i8,p.ke 9 rfl i9,(by rw [p.old 9 rfl]; exact n9),p.ke 10 rfl i10,upE i11 (p.old 11 rfl),n11,Gb.Box.grow c11 p.grow,p.ou 2 12 rfl,(by rw [p.old 9 rfl]; exact d9_11),trivial⟩)
       rintro a k ⟨⟨hg,hs,hd⟩,i1,i6,i7,i8,i9,n9,i10,i11,n11,c11,i12,d9_11,_⟩
       exact hgo4928 _ _ _ (Option.some.inj hr).symm ⟨⟨hg,hs,hd⟩,i1,i6,i7,i8,i9,n9,i10,i11,n11,c11,i12,d9_11,trivial⟩
      rw [if_neg (by rw [hc4941]; decide)] at hr
      refine wp_exit ?_
      exact hex4929 _ _ _ _ (Option.some.inj hr).symm ⟨rfl,⟨hg,hs,hd⟩,i1,i6,i7,i8,i9,n9,i10,trivial⟩
     ·rintro r1 a k rfl hR
      dsimp only at hr
      exact hret4922 _ _ _ (Option.some.inj hr).symm hR
     ·rintro _ _ _ rfl _
      simp at hr
     clear hf3
     rintro _ s4 a k rfl ⟨rfl,⟨hg,hs,hd⟩,i1,i6,i7,i8,i9,n9,i10,_⟩
     dsimp only at hr
     obtain ⟨x13,hx13,hr⟩:=bind_some hr
     refine cut (fun a' k'=>Bs noF k0 71 a' k'∧(IsV rights_) (a'.get 1) k'∧(IsV s1.1) (a'.get 6) k'∧(IsV s1.2) (a'.get 7) k'∧(IsV x2) (a'.get 8) k'∧ay 0 37 s4.1 (a'.get 9) k'∧Lo k0 (obF (a'.get 9))∧(IsV x13) (a'.get 10) k'∧True) ?_ hQ ?_
     ·intro Q17 W17 w14
      refine gS 3 (_::_::_::[]) hs (by kernel_rfl) ⟨mu rfl i10,o1 [(37,some 0)] rfl fun _ _ h n=>gV rfl n.1 (cI rfl) hx13,cp 1 rfl rfl,trivial⟩ W17 fun b q p=>?_
      exact aj (k:=q) (w14 _ _ ⟨Bs.post ⟨hg,hs,hd⟩ p,p.ke 1 rfl i1,p.ke 6 rfl i6,p.ke 7 rfl i7,p.ke 8 rfl i8,p.ke 9 rfl i9,(by rw [p.old 9 rfl]; exact n9),p.ou 2 10 rfl,trivial⟩)
     rintro a k ⟨⟨hg,hs,hd⟩,i1,i6,i7,i8,i9,n9,i10,_⟩
     exact hgo4920 _ _ _ (Option.some.inj hr).symm ⟨⟨hg,hs,hd⟩,i1,i6,i7,i8,i9,n9,i10,trivial⟩
    rw [if_neg (by rw [hc4958]; decide)] at hr
    refine wp_exit ?_
    obtain ⟨kk,sh4957,ii9⟩:=i9.fZ
    replace i1:=aA.pers sh4957.le i1
    replace i7:=aA.pers sh4957.le i7
    replace i9:=ii9
    replace hg:=hg.hand sh4957 n9.wr
    rw [← sh4957.w]
    clear sh4957
    obtain ⟨k,hkk⟩ : ∃ k,k = kk:=⟨kk,rfl⟩
    subst hkk
    exact hex4921 _ _ _ _ (Option.some.inj hr).symm ⟨rfl,⟨hg,hs,hd⟩,i1,i7,i9,trivial⟩
   ·rintro r2 a k rfl hR
    dsimp only at hr
    exact hret4910 _ _ _ (Option.some.inj hr).symm hR
   ·rintro _ _ _ rfl _
    simp at hr
   clear hf2
   rintro _ s5 a k rfl ⟨rfl,⟨hg,hs,hd⟩,i1,i7,i9,_⟩
   dsimp only at hr
   refine cut (fun a' k'=>Bs noF k0 71 a' k'∧(IsV rights_) (a'.get 1) k'∧(IsV s5.1) (a'.get 6) k'∧(IsV s1.2) (a'.get 7) k'∧True) ?_ hQ ?_
   ·intro Q18 W18 w15
    refine gS 2 (_::_::[]) hs (by kernel_rfl) ⟨mu rfl i9,cp 0 rfl rfl,trivial⟩ W18 fun b q p=>?_
    exact aj (k:=q) (w15 _ _ ⟨Bs.post ⟨hg,hs,hd⟩ p,p.ke 1 rfl i1,p.ou 1 6 rfl,p.ke 7 rfl i7,trivial⟩)
   rintro a k ⟨⟨hg,hs,hd⟩,i1,i6,i7,_⟩
   obtain ⟨x14,hx14,hr⟩:=bind_some hr
   refine cut (fun a' k'=>Bs noF k0 71 a' k'∧(IsV rights_) (a'.get 1) k'∧(IsV s5.1) (a'.get 6) k'∧(IsV x14) (a'.get 7) k'∧True) ?_ hQ ?_
   ·intro Q19 W19 w16
    refine gS 3 (_::_::_::[]) hs (by kernel_rfl) ⟨mu rfl i7,o1 [(19,some 0)] rfl fun _ _ h n=>gV rfl n.1 (cI rfl) hx14,cp 1 rfl rfl,trivial⟩ W19 fun b q p=>?_
    exact aj (k:=q) (w16 _ _ ⟨Bs.post ⟨hg,hs,hd⟩ p,p.ke 1 rfl i1,p.ke 6 rfl i6,p.ou 2 7 rfl,trivial⟩)
   rintro a k ⟨⟨hg,hs,hd⟩,i1,i6,i7,_⟩
   exact hgo4908 _ _ _ (Option.some.inj hr).symm ⟨⟨hg,hs,hd⟩,i1,i6,i7,trivial⟩
  rw [if_neg (by rw [hc4980]; decide)] at hr
  refine wp_exit ?_
  exact hex4909 _ _ _ _ (Option.some.inj hr).symm ⟨rfl,⟨hg,hs,hd⟩,i6,trivial⟩
 ·rintro r3 a k rfl hR
  dsimp only at hr
  obtain rfl:=Option.some.inj hr
  exact hR
 ·rintro _ _ _ rfl _
  simp at hr
 clear hf1
 rintro _ s6 a k rfl ⟨rfl,⟨hg,hs,hd⟩,i6,_⟩
 dsimp only at hr
 refine dr 3 (_::_::⟨some (IsI 0),[]⟩::[]) rfl ⟨hg,hs,hd⟩ (by kernel_rfl) ⟨mu rfl i6,cp 0 rfl rfl,aI rfl rfl,trivial⟩ [⟨_,_⟩,⟨_,_⟩] (fun b q p=>⟨p.ou 1 4 rfl,p.ou 2 5 rfl,trivial⟩) ?_
 rintro a k ⟨⟨hg,hs,hd⟩,i4,i5,_⟩
 refine wp_ret ?_
 obtain rfl:=Option.some.inj hr
 exact CN rfl hd hg i4 i5
noncomputable def k24:=mkO 24 [.st 7,.list (.st 30)] [.list (.st 7),.int] (fun x=>iF x.1 x.2) Tryz.call24 fun k0 vs x r hG h hr=>by obtain ⟨v0,vs,rfl,i0,h⟩:=h.cons; obtain ⟨v1,rfl,i1⟩:=h.one; exact Hh (T:=tb) (tQ i0 i1 hr)
def ir (rights_:(List ax)) (r_:ax) (s1:Int):Option (aN (Int) (Int)):=
 if (decide (s1 < (rights_.length:Int))) then
  (au rights_ s1).bind fun x1=>
  if (x1.Id == r_.Id) then
   some (.ret 5)
  else
   (aD s1 1).bind fun x2=>
   some (.go x2)
 else
  some (.ex 0 s1)
def jK (t_:aq) (rights_:(List ax)) (r_:ax):Option (Int):=
 (iz r_).bind fun x1=>
 if (!x1) then
  some 1
 else
  (ah (ir rights_ r_) (rights_.length + 1) 0).bind fun f1=>match f1 with
   | .go _=>none
   | .ex _ _ =>
    (cg [] rights_).bind fun x2=>
    (cg x2 ([r_])).bind fun x3=>
    (kQ t_ x3).bind fun x4=>
    if (!x4.2) then
     some 21
    else
     some 0
   | .ret r1=>some r1
theorem va {k0:K} {v0 v1 v2:Value} {t_:aq} {rights_:(List ax)} {r_:ax} {r:Int} (i0:(IsV t_) v0 k0) (i1:(IsV rights_) v1 k0) (i2:(IsV r_) v2 k0) (hr:jK t_ rights_ r_ = some r) :
  Calls Tryz.prog 26 #[v0,v1,v2] k0.w (Ret k0 (IsV r)):=by
 unfold jK at hr
 refine Ret.ofC ?_
 refine iN Tryz.func26 rfl Tryz.ntmps26 (show 3 ≤ 40 by decide) fun a k hk0 hs hd ha=>?_
 obtain ⟨e0,e1,e2,_⟩:=ha
 replace i0:(IsV t_) (a.get 0) k:=by rw [e0,hk0]; exact i0
 replace i1:(IsV rights_) (a.get 1) k:=by rw [e1,hk0]; exact i1
 replace i2:(IsV r_) (a.get 2) k:=by rw [e2,hk0]; exact i2
 have hQ:Gb.LetsOut (bodyPost Tryz.prog Tryz.f26 (dw noF k0 (IsV r))):=fc
 have hg:Chg noF k0 k:=by rw [hk0]; exact Chg.refl _ k0
 refine dr 3 (⟨some (aL t_),[(0,none)]⟩::⟨some (aL r_),[(2,none)]⟩::⟨some (IsI 0),[]⟩::[]) rfl ⟨hg,hs,hd⟩ (by kernel_rfl) ⟨ob1 rfl fun _ _ h n=>js rfl (up i0 h n.1),ob1 rfl fun _ _ h n=>js rfl (up i2 h n.1),aI rfl rfl,trivial⟩ [⟨_,_⟩,⟨_,_⟩,⟨_,_⟩] (fun b q p=>⟨p.ke 1 rfl i1,p.ou 0 3 rfl,p.ou 1 5 rfl,trivial⟩) ?_
 rintro a k ⟨⟨hg,hs,hd⟩,i1,i3,i5,_⟩
 refine wp_seq ?_
 refine wp_seq ?_
 obtain ⟨x1,hx1,hr⟩:=bind_some hr
 refine cut (fun a' k'=>Bs noF k0 40 a' k'∧(IsV rights_) (a'.get 1) k'∧(aL t_) (a'.get 3) k'∧(aL r_) (a'.get 5) k'∧(IsV (!x1)) (a'.get 12) k'∧True) ?_ hQ ?_
 ·intro Q1 W1 w1
  refine gS 3 (_::_::_::[]) hs (by kernel_rfl) ⟨o1 [(5,none)] rfl fun _ _ h n=>aM rfl oN ((up i5 h n.1)).ptr,o1 [(10,some 0)] rfl fun _ _ h n=>cN rfl Tryz.call46 (tP n.1 hx1),o1 [(11,some 1)] rfl fun _ _ h n=>vS rfl n.1,trivial⟩ W1 fun b q p=>?_
  exact aj (k:=q) (w1 _ _ ⟨Bs.post ⟨hg,hs,hd⟩ p,p.ke 1 rfl i1,p.ke 3 rfl i3,p.ke 5 rfl i5,p.ou 2 12 rfl,trivial⟩)
 rintro a k ⟨⟨hg,hs,hd⟩,i1,i3,i5,i12,_⟩
 refine wp_cond_split (isBool i12) (fun hc5039=>?_) (fun hc5039=>?_)
 ·rw [if_pos hc5039] at hr
  refine dr 1 (⟨some (IsI 1),[]⟩::[]) rfl ⟨hg,hs,hd⟩ (by kernel_rfl) ⟨aI rfl rfl,trivial⟩ [⟨_,_⟩] (fun b q p=>⟨p.ou 0 6 rfl,trivial⟩) ?_
  rintro a k ⟨⟨hg,hs,hd⟩,i6,_⟩
  refine wp_ret ?_
  obtain rfl:=Option.some.inj hr
  exact iT rfl hd hg i6
 rw [if_neg (by rw [hc5039]; decide)] at hr
 refine wp_skip ?_
 refine wp_seq ?_
 refine dr 1 (⟨some (IsI 0),[]⟩::[]) rfl ⟨hg,hs,hd⟩ (by kernel_rfl) ⟨aI rfl rfl,trivial⟩ [⟨_,_⟩,⟨_,_⟩,⟨_,_⟩,⟨_,_⟩] (fun b q p=>⟨p.ke 1 rfl i1,p.ke 3 rfl i3,p.ke 5 rfl i5,p.ou 0 7 rfl,trivial⟩) ?_
 rintro a k ⟨⟨hg,hs,hd⟩,i1,i3,i5,i7,_⟩
 refine wp_block ?_
 obtain ⟨f1,hf1,hr⟩:=bind_some hr
 refine nM f1 (fun s' c l=>Bs noF k0 40 c l∧IsV rights_ (c.get 1) l∧aL t_ (c.get 3) l∧aL r_ (c.get 5) l∧IsV s' (c.get 7) l∧True) (fun i' s' c l=>(i' = 0∧Bs noF k0 40 c l∧IsV rights_ (c.get 1) l∧aL t_ (c.get 3) l∧aL r_ (c.get 5) l∧True)) (fun r' c l=>bodyPost Tryz.prog Tryz.f26 (dw noF k0 (IsV r')) .ret c l.w) ?_ hQ ?_ ?_ ?_
 ·intro Q2 W2 hgo hex hret
  refine ek ?_ _ _ _ _ _ hf1 ⟨⟨hg,hs,hd⟩,i1,i3,i5,i7,trivial⟩ Q2 W2 hgo hex hret
  clear hr hf1 hgo hex hret W2 hQ hg hs hd i1 i3 i5 i7
  intro s1 fl_ a k hr hS Q hQ hgo5003 hex5004 hret5005
  obtain ⟨⟨hg,hs,hd⟩,i1,i3,i5,i7,_⟩:=hS
  unfold ir at hr
  refine wp_seq ?_
  refine dr 4 (_::_::_::_::[]) rfl ⟨hg,hs,hd⟩ (by kernel_rfl) ⟨mu rfl i7,mu rfl i1,o1 [(14,some 1)] rfl fun _ _ h n=>ep rfl rfl Tryz.underlying38 (IsV.rd n.1),o1 [(13,some 0),(15,some 2)] rfl fun _ _ h n=>gU rfl n.1 n.2.1,trivial⟩ [⟨_,_⟩,⟨_,_⟩,⟨_,_⟩,⟨_,_⟩,⟨_,_⟩] (fun b q p=>⟨p.ke 1 rfl i1,p.ke 3 rfl i3,p.ke 5 rfl i5,p.ke 7 rfl i7,p.ou 3 16 rfl,trivial⟩) ?_
  rintro a k ⟨⟨hg,hs,hd⟩,i1,i3,i5,i7,i16,_⟩
  refine wp_cond_split (isBool i16) (fun hc5017=>?_) (fun hc5017=>?_)
  ·rw [if_pos hc5017] at hr
   refine wp_skip ?_
   refine wp_seq ?_
   refine wp_block ?_
   refine wp_seq ?_
   obtain ⟨x2,hx2,hr⟩:=bind_some hr
   refine cut (fun a' k'=>Bs noF k0 40 a' k'∧(IsV rights_) (a'.get 1) k'∧(aL t_) (a'.get 3) k'∧(aL r_) (a'.get 5) k'∧(IsV s1) (a'.get 7) k'∧(IsV (x2.Id == r_.Id)) (a'.get 26) k'∧True) ?_ hQ ?_
   ·intro Q3 W3 w2
    refine region (m:=8) (_::_::_::_::_::_::_::_::[]) oH hs (by kernel_rfl) ⟨mu rfl i1,mu rfl i7,o1 [(19,some 0),(20,some 1)] rfl fun _ _ h n=>bs rfl Tryz.underlying38 oN (IsV.rd n.1) n.2.1 hx2,o1 [(21,some 2)] rfl fun _ _ h n=>bB rfl Ee (vc _) n.1,o1 [(22,some 3)] rfl fun _ _ h n=>aM rfl ty3 n.1,o1 [(5,none)] rfl fun _ _ h n=>bB rfl Ee (vc _) ((up i5 h n.1)).ptr,o1 [(24,some 5)] rfl fun _ _ h n=>aM rfl ty3 n.1,o1 [(23,some 4),(25,some 6)] rfl fun _ _ h n=>yG rfl n.1 n.2.1,trivial⟩ W3 fun b q p=>?_
    exact aj (k:=q) (w2 _ _ ⟨Bs.post ⟨hg,hs,hd⟩ p,p.ke 1 rfl i1,p.ke 3 rfl i3,p.ke 5 rfl i5,p.ke 7 rfl i7,p.ou 7 26 rfl,trivial⟩)
   rintro a k ⟨⟨hg,hs,hd⟩,i1,i3,i5,i7,i26,_⟩
   refine wp_cond_split (isBool i26) (fun hc5014=>?_) (fun hc5014=>?_)
   ·rw [if_pos hc5014] at hr
    refine dr 1 (⟨some (IsI 5),[]⟩::[]) rfl ⟨hg,hs,hd⟩ (by kernel_rfl) ⟨aI rfl rfl,trivial⟩ [⟨_,_⟩] (fun b q p=>⟨p.ou 0 6 rfl,trivial⟩) ?_
    rintro a k ⟨⟨hg,hs,hd⟩,i6,_⟩
    refine wp_ret ?_
    exact hret5005 _ _ _ (Option.some.inj hr).symm (iT rfl hd hg i6)
   rw [if_neg (by rw [hc5014]; decide)] at hr
   refine wp_skip ?_
   obtain ⟨x3,hx3,hr⟩:=bind_some hr
   refine cut (fun a' k'=>Bs noF k0 40 a' k'∧(IsV rights_) (a'.get 1) k'∧(aL t_) (a'.get 3) k'∧(aL r_) (a'.get 5) k'∧(IsV x3) (a'.get 7) k'∧True) ?_ hQ ?_
   ·intro Q4 W4 w3
    refine gS 3 (_::_::_::[]) hs (by kernel_rfl) ⟨mu rfl i7,o1 [(17,some 0)] rfl fun _ _ h n=>gV rfl n.1 (cI rfl) hx3,cp 1 rfl rfl,trivial⟩ W4 fun b q p=>?_
    exact aj (k:=q) (w3 _ _ ⟨Bs.post ⟨hg,hs,hd⟩ p,p.ke 1 rfl i1,p.ke 3 rfl i3,p.ke 5 rfl i5,p.ou 2 7 rfl,trivial⟩)
   rintro a k ⟨⟨hg,hs,hd⟩,i1,i3,i5,i7,_⟩
   exact hgo5003 _ _ _ (Option.some.inj hr).symm ⟨⟨hg,hs,hd⟩,i1,i3,i5,i7,trivial⟩
  rw [if_neg (by rw [hc5017]; decide)] at hr
  refine wp_exit ?_
  exact hex5004 _ _ _ _ (Option.some.inj hr).symm ⟨rfl,⟨hg,hs,hd⟩,i1,i3,i5,trivial⟩
 ·rintro r1 a k rfl hR
  dsimp only at hr
  obtain rfl:=Option.some.inj hr
  exact hR
 ·rintro _ _ _ rfl _
  simp at hr
 clear hf1
 rintro _ s2 a k rfl ⟨rfl,⟨hg,hs,hd⟩,i1,i3,i5,_⟩
 dsimp only at hr
 refine wp_seq ?_
 obtain ⟨x4,hx4,hr⟩:=bind_some hr
 obtain ⟨x5,hx5,hr⟩:=bind_some hr
 obtain ⟨x6,hx6,hr⟩:=bind_some hr
 refine cut (fun a' k'=>Bs noF k0 40 a' k'∧(IsV x6.2) (a'.get 9) k'∧True) ?_ hQ ?_
 ·intro Q5 W5 w4
  refine uZ (a0:=a) (k0:=k) (n:=40) (⟨(aP (IsV t_)),28,[(3,none)],[]⟩::⟨(aP cO),29,[],[]⟩::⟨(aP (IsV rights_)),30,[(1,none)],[]⟩::⟨(rI 43 x4),31,[(29,some 1),(30,some 2)],[]⟩::⟨(aP (IsV r_)),32,[(5,none)],[]⟩::⟨(aP (IsV (α:=(List ax)) ([r_]))),33,[(32,some 4)],[]⟩::⟨(aP (IsV x5)),34,[(33,some 5)],[3]⟩::⟨(aP (dv (IsV x6.1) (IsV x6.2))),35,[(28,some 0),(34,some 6)],[]⟩::⟨(aP (dv (IsV x6.1) (IsV x6.2))),27,[(35,some 7)],[]⟩::⟨(aP (IsV x6.1)),36,[(27,some 8)],[]⟩::⟨(aP (IsV x6.2)),37,[(27,some 8)],[]⟩::⟨(sL (⟨0,(⟨#[]⟩:ByteArray),0⟩:aK)),8,[],[]⟩::⟨(sL x6.1),8,[(36,some 9)],[11]⟩::⟨(aP (IsV x6.2)),9,[(37,some 10)],[]⟩::[]) oH hs (by kernel_rfl) ⟨⟨inferInstanceAs (eB _ (aP (IsV t_))),fun b q G hz hk hn ht=>by obtain ⟨m0,_⟩:=hn; obtain rfl:=cd ht; exact aQ rfl (by rw [hz,hs]; show 28 < 40; decide) (aM rfl pP ((up i3 hk m0)).ptr)⟩,⟨inferInstanceAs (eB _ (aP cO)),fun b q G hz hk hn ht=>by obtain rfl:=cd ht; exact aQ rfl (by rw [hz,hs]; show 29 < 40; decide) (fO rfl Tryz.underlying38 zG)⟩,⟨inferInstanceAs (eB _ (aP (IsV rights_))),fun b q G hz hk hn ht=>by obtain ⟨m0,_⟩:=hn; obtain rfl:=cd ht; exact aQ rfl (by rw [hz,hs]; show 30 < 40; decide) (cV rfl (up i1 hk m0))⟩,⟨inferInstanceAs (eB _ (rI 43 x4)),fun b q G hz hk hn ht=>by obtain ⟨⟨_,_,m0⟩,⟨_,_,m1⟩,_⟩:=hn; obtain rfl:=cd ht; exact sC rfl (by rw [hz,hs]; show 31 < 40; decide) (kO rfl Tryz.underlying38 zG (Nat.le_refl _) m0 (IsV.rd m1) hx4)⟩,⟨inferInstanceAs (eB _ (aP (IsV r_))),fun b q G hz hk hn ht=>by obtain ⟨m0,_⟩:=hn; obtain rfl:=cd ht; exact aQ rfl (by rw [hz,hs]; show 32 < 40; decide) (aM rfl oN ((up i5 hk m0)).ptr)⟩,⟨inferInstanceAs (eB _ (aP (IsV (α:=(List ax)) ([r_])))),fun b q G hz hk hn ht=>by obtain ⟨⟨_,_,m0⟩,_⟩:=hn; obtain rfl:=cd ht; exact aQ rfl (by rw [hz,hs]; show 33 < 40; decide) (cG rfl Tryz.underlying38 zG rfl (by decide) (by decide) ⟨rfl,m0,trivial⟩)⟩,⟨inferInstanceAs (eB _ (aP (IsV x5))),fun b q G hz hk hn ht=>by obtain ⟨⟨_,_,m0⟩,_⟩:=hn; exact sy rfl (by rw [hz,hs]; show 34 < 40; decide) rfl rfl Tryz.underlying38 zG (sU ht rfl) (IsV.rd m0) hx5⟩,⟨inferInstanceAs (eB _ (aP (dv (IsV x6.1) (IsV x6.2)))),fun b q G hz hk hn ht=>by obtain ⟨⟨_,_,m0⟩,⟨_,_,m1⟩,_⟩:=hn; obtain rfl:=cd ht; exact aQ rfl (by rw [hz,hs]; show 35 < 40; decide) (cN rfl Tryz.call22 (wu m0 m1 hx6))⟩,⟨inferInstanceAs (eB _ (aP (dv (IsV x6.1) (IsV x6.2)))),fun b q G hz hk hn ht=>by obtain ⟨⟨_,_,m0⟩,_⟩:=hn; obtain rfl:=cd ht; exact aQ rfl (by rw [hz,hs]; show 27 < 40; decide) (cV rfl m0)⟩,⟨inferInstanceAs (eB _ (aP (IsV x6.1))),fun b q G hz hk hn ht=>by obtain ⟨⟨_,_,m0⟩,_⟩:=hn; obtain rfl:=cd ht; exact aQ rfl (by rw [hz,hs]; show 36 < 40; decide) (sQ rfl m0)⟩,⟨inferInstanceAs (eB _ (aP (IsV x6.2))),fun b q G hz hk hn ht=>by obtain ⟨⟨_,_,m0⟩,_⟩:=hn; obtain rfl:=cd ht; exact aQ rfl (by rw [hz,hs]; show 37 < 40; decide) (sF rfl m0)⟩,⟨inferInstanceAs (eB _ (sL (⟨0,(⟨#[]⟩:ByteArray),0⟩:aK))),fun b q G hz hk hn ht=>by obtain rfl:=cd ht; exact xM rfl (by rw [hz,hs]; show 8 < 40; decide) (dQ _ (Nat.le_refl _) rfl z55)⟩,⟨inferInstanceAs (eB _ (sL x6.1)),fun b q G hz hk hn ht=>by obtain ⟨⟨_,_,m0⟩,_⟩:=hn; exact s9 rfl rfl rfl Ha (sU ht rfl) m0⟩,⟨inferInstanceAs (eB _ (aP (IsV x6.2))),fun b q G hz hk hn ht=>by obtain ⟨⟨_,_,m0⟩,_⟩:=hn; obtain rfl:=cd ht; exact aQ rfl (by rw [hz,hs]; show 9 < 40; decide) (bL rfl m0)⟩,trivial⟩ W5 fun FL b q p=>?_
  have hgq:=hg.then p.grow
  have hsb:=p.size.trans hs
  have hdb:=p.defers.trans hd
  have j9:(IsV x6.2) (b.get 9) q:=p.plain 13 rfl rfl
  exact w4 _ _ ⟨⟨hgq,hsb,hdb⟩,j9,trivial⟩
 rintro a k ⟨⟨hg,hs,hd⟩,i9,_⟩
 refine wp_seq ?_
 refine dr 2 (_::_::[]) rfl ⟨hg,hs,hd⟩ (by kernel_rfl) ⟨mu rfl i9,o1 [(38,some 0)] rfl fun _ _ h n=>vS rfl n.1,trivial⟩ [⟨_,_⟩] (fun b q p=>⟨p.ou 1 39 rfl,trivial⟩) ?_
 rintro a k ⟨⟨hg,hs,hd⟩,i39,_⟩
 refine wp_cond_split (isBool i39) (fun hc5030=>?_) (fun hc5030=>?_)
 ·rw [if_pos hc5030] at hr
  refine dr 1 (⟨some (IsI 21),[]⟩::[]) rfl ⟨hg,hs,hd⟩ (by kernel_rfl) ⟨aI rfl rfl,trivial⟩ [⟨_,_⟩] (fun b q p=>⟨p.ou 0 6 rfl,trivial⟩) ?_
  rintro a k ⟨⟨hg,hs,hd⟩,i6,_⟩
  refine wp_ret ?_
  obtain rfl:=Option.some.inj hr
  exact iT rfl hd hg i6
 rw [if_neg (by rw [hc5030]; decide)] at hr
 refine wp_skip ?_
 refine dr 1 (⟨some (IsI 0),[]⟩::[]) rfl ⟨hg,hs,hd⟩ (by kernel_rfl) ⟨aI rfl rfl,trivial⟩ [⟨_,_⟩] (fun b q p=>⟨p.ou 0 6 rfl,trivial⟩) ?_
 rintro a k ⟨⟨hg,hs,hd⟩,i6,_⟩
 refine wp_ret ?_
 obtain rfl:=Option.some.inj hr
 exact iT rfl hd hg i6
noncomputable def k26:=mkO 26 [.st 7,.list (.st 30),.st 30] [.int] (fun x=>jK x.1 x.2.1 x.2.2) Tryz.call26 fun k0 vs x r hG h hr=>by obtain ⟨v0,vs,rfl,i0,h⟩:=h.cons; obtain ⟨v1,vs,rfl,i1,h⟩:=h.cons; obtain ⟨v2,rfl,i2⟩:=h.one; exact va i0 i1 i2 hr
def ff (x1:(List aq) × Int) (x2:(List aq) × Int) (s1:Int):Option (aN (Int) (Bool)):=
 if (decide (s1 < (x1.1.length:Int))) then
  (au x1.1 s1).bind fun x3=>
  (au x2.1 s1).bind fun x4=>
  (k7 x3 x4).bind fun x5=>
  if (!x5) then
   some (.ret false)
  else
   (aD s1 1).bind fun x6=>
   some (.go x6)
 else
  some (.ex 0 s1)
def dI (t_:aq) (rights_:(List ax)) (r_:ax) (lot_:Int) (ph_:Phase):Option (Bool):=
 (ny).bind fun x1=>
 (oG t_ rights_ 2).bind fun x2=>
 (if (!x2) then
  some true
 else
  (mL r_).bind fun x3=>
  some (!x3)).bind fun x4=>
 (if x4 then
  some true
 else
  (db ph_).bind fun x5=>
  some (!x5)).bind fun x6=>
 if x6 then
  some x1
 else
  (eX t_ lot_ ph_).bind fun x7=>
  (hZ t_ lot_ ph_).bind fun x8=>
  (k7 x7 x8).bind fun x9=>
  (if (!x9) then
   some true
  else
   (l6 t_ rights_).bind fun x10=>
   (mZ t_ rights_).bind fun x11=>
   (k7 x10 x11).bind fun x12=>
   some (!x12)).bind fun x13=>
  if x13 then
   some false
  else
   (dW t_).bind fun x14=>
   (nH t_).bind fun x15=>
   (bU t_ rights_).bind fun x16=>
   (kQ t_ rights_).bind fun x17=>
   (fg t_ rights_).bind fun x18=>
   (iF t_ rights_).bind fun x19=>
   if ((((((!decide (x14.1 = x15.1)) || (x14.2 != x15.2)) || (!decide (x16.1 = x17.1))) || (x16.2 != x17.2)) || (x18.2 != x19.2)) || ((x18.1.length:Int) != (x19.1.length:Int))) then
    some false
   else
    (ah (ff x18 x19) (rights_.length + x18.1.length + x19.1.length + 1) 0).bind fun f1=>match f1 with
     | .go _=>none
     | .ex _ _ =>
      (if x1 then
       (dC t_ rights_ r_).bind fun x20=>
       (jK t_ rights_ r_).bind fun x21=>
       some (x20 == x21)
      else
       some false).bind fun x22=>
      some x22
     | .ret r1=>some r1
noncomputable def k3:=mk 3 [.st 7,.list (.st 30),.st 30,.int,.st 3] [.bool] (fun x=>dI x.1 x.2.1 x.2.2.1 x.2.2.2.1 x.2.2.2.2) [k10,k11,k12,k13,k15,k16,k14,k17,k18,k19,k20,k21,k22,k23,k24,k25,k26] [] Tryz.f3 (.s .n (.s .n (.s .n (.s .n (.s .n (.s .n (.s .n (.s .n (.s .n (.s .n (.s .n (.s (.s .n (.l [] [(24,.v .int)] [(0,[24],[])] (fL [1,20,22]) .n)) .n)))))))))))) Tryz.func3 Tryz.call3 rfl rfl fun x=>by kernel_rfl
theorem pA {k0:K} {v0 v1 v2 v3 v4:Value} {x0:aq} {x1:(List ax)} {x2:ax} {x3:Int} {x4:Phase} {r:Bool} (i0:(IsV x0) v0 k0) (i1:(IsV x1) v1 k0) (i2:(IsV x2) v2 k0) (i3:(IsV x3) v3 k0) (i4:(IsV x4) v4 k0) (hr:dI x0 x1 x2 x3 x4 = some r):Calls Tryz.prog 3 #[v0,v1,v2,v3,v4] k0.w (Ret k0 (IsV r)):=(k3.ok.ok k0 [v0,v1,v2,v3,v4] (x0,x1,x2,x3,x4) r (GOk.none (fun _=>rfl) fun _ e=>by cases e) ⟨i0,i1,i2,i3,i4⟩ hr)
end Go.Proofs.YtegglcdhfnjhcaaGreat
