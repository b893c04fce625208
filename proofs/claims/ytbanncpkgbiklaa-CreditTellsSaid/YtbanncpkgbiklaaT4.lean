/- What the functions compute that the law reaches, part 4 -/
import Derived.Test.YtbanncpkgbiklaaT3
namespace Go.Proofs.Ytbanncpkgbiklaa
open Go.Gb
set_option linter.unusedVariables false
set_option linter.unusedSimpArgs false
set_option maxRecDepth 100000
def cDo (l_ : (List Account)) (m_ : Move) : Option ((List Account) × Int) :=
 (cRight l_).bind fun x1 =>
 (if (!x1) then
  some true
 else
  (cValid m_).bind fun x2 =>
  some (!x2)).bind fun x3 =>
 if x3 then
  some (([] : List Account), 1)
 else
  (clone l_).bind fun x4 =>
  if (m_.Kind == 0) then
   (cOpen x4 m_).bind fun x5 =>
   some (x5.1, x5.2)
  else
   (cFind x4 m_.From).bind fun x6 =>
   (cFind x4 m_.To).bind fun x7 =>
   (if (x6.isNone) then
    some (x6.isNone)
   else
    some ((m_.Kind == 1) && (x7.isNone))).bind fun s1 =>
   if s1 then
    some (([] : List Account), 4)
   else
    (if (m_.Kind == 1) then
     (atI x4 x7).bind fun x8 =>
     some (!x8.Receives)
    else
     some false).bind fun x9 =>
    if x9 then
     some (([] : List Account), 24)
    else
     (atI x4 x6).bind fun x10 =>
     if (decide (x10.Units < m_.N)) then
      some (([] : List Account), 23)
     else
      (if (m_.Kind == 1) then
       (atI x4 x7).bind fun x11 =>
       (addI x11.Units m_.N).bind fun x12 =>
       some (decide (1073741824 < x12))
      else
       some false).bind fun x13 =>
      if x13 then
       some (([] : List Account), 6)
      else
       (atI x4 x6).bind fun x14 =>
       (subI x14.Units m_.N).bind fun x15 =>
       (atI x4 x6).bind fun x16 =>
       (some (x4.set ((x6.getD 0)).toNat ({ x16 with Units := x15 }))).bind fun x17 =>
       (if (m_.Kind == 1) then
        (atI x17 x7).bind fun x18 =>
        (addI x18.Units m_.N).bind fun x19 =>
        (atI x17 x7).bind fun x20 =>
        (some (x17.set ((x7.getD 0)).toNat ({ x20 with Units := x19 }))).bind fun x21 =>
        some x21
       else
        some x17).bind fun s2 =>
       some (s2, 0)
theorem cDo_ok {k0 : K} {v0 v1 : Value} {l_ : (List Account)} {m_ : Move} {r : (List Account) × Int} (i0 : (IsV l_) v0 k0) (i1 : (IsV m_) v1 k0) (hr : cDo l_ m_ = some r) :
  Calls Try.prog 13 #[v0, v1] k0.w (Ret k0 (IsTup2 (IsV r.1) (IsV r.2))) := by
 unfold cDo at hr
 refine Ret.ofC ?_
 refine enterK Try.func13 rfl Try.ntmps13 (show 2 ≤ 96 by decide) fun a k hk0 hs hd ha => ?_
 obtain ⟨e0, e1, _⟩ := ha
 replace i0 : (IsV l_) (a.get 0) k := by rw [e0, hk0]; exact i0
 replace i1 : (IsV m_) (a.get 1) k := by rw [e1, hk0]; exact i1
 have hQ : Gb.LetsOut (bodyPost Try.prog Try.f13 (RetC noF k0 (IsTup2 (IsV r.1) (IsV r.2)))) := letsOutC
 have hg : Chg noF k0 k := by rw [hk0]; exact Chg.refl _ k0
 refine stepL 3 (⟨some (IsRef m_), [(1, none)]⟩ :: ⟨some IsE0, []⟩ :: ⟨some (IsI 0), []⟩ :: []) rfl ⟨hg, hs, hd⟩ (by kernel_rfl) ⟨ob1 rfl fun _ _ h n => ok_boxR rfl (up i1 h n.1), ob1 rfl fun b q h n => ok_assign rfl isE0_nil, aI rfl rfl, trivial⟩ [⟨_, _⟩, ⟨_, _⟩] (fun b q p => ⟨p.ke 0 rfl i0, p.ou 0 3 rfl, trivial⟩) ?_
 rintro a k ⟨⟨hg, hs, hd⟩, i0, i3, _⟩
 refine wp_seq ?_
 refine wp_seq ?_
 obtain ⟨x1, hx1, hr⟩ := bind_some hr
 obtain ⟨x2, hx2, hr⟩ := bind_some hr
 obtain ⟨x3, hx3, hx2⟩ := ite_bindF hx2
 refine cut (fun a' k' => Bs noF k0 96 a' k' ∧ (IsV l_) (a'.get 0) k' ∧ (IsRef m_) (a'.get 3) k' ∧ (IsV x2) (a'.get 17) k' ∧ True) ?_ hQ ?_
 ·intro Q1 W1 w1
  refine gS 8 (_ :: _ :: _ :: _ :: _ :: _ :: _ :: _ :: []) hs (by kernel_rfl) ⟨mu rfl i0, o1 [(10, some 0)] rfl fun _ _ h n => ok_call rfl Try.call17 (cRight_ok n.1 hx1), o1 [(11, some 1)] rfl fun _ _ h n => ok_not rfl n.1, cm 2 rfl rfl, gF [(3, none)] rfl rfl fun hp _ _ h n => ok_load rfl ty33 ((up i3 h n.1)).ptr, gF [(14, some 4)] rfl rfl fun hp _ _ h n => ok_call rfl Try.call28 (cValid_ok (Gd.get n.1 hp) (hx3 hp)), gF [(15, some 5)] rfl rfl fun hp _ _ h n => ok_not rfl (Gd.get n.1 hp), o1 [(13, some 3), (16, some 6)] rfl fun _ _ h n => ok_pickM rfl n.1 hx2 (cB rfl) (Gd.get n.2.1), trivial⟩ W1 fun b q p => ?_
  exact tail_done (k := q) (w1 _ _ ⟨Bs.post ⟨hg, hs, hd⟩ p, p.ke 0 rfl i0, p.ke 3 rfl i3, p.ou 7 17 rfl, trivial⟩)
 rintro a k ⟨⟨hg, hs, hd⟩, i0, i3, i17, _⟩
 refine wp_cond_split (isBool i17) (fun hc721 => ?_) (fun hc721 => ?_)
 ·rw [if_pos hc721] at hr
  refine cutL noF k0 96 [⟨4, IsV ([] : List Account)⟩, ⟨5, IsI 1⟩] ?_ ?_
  ·intro Q2 W2 w2
   refine gS 2 (⟨some IsE0, []⟩ :: ⟨some (IsI 1), []⟩ :: []) hs (by kernel_rfl) ⟨ob1 rfl fun b q h n => ok_assign rfl isE0_nil, aI rfl rfl, trivial⟩ W2 fun b q p => ?_
   have hgq := hg.then p.grow
   have hsb := p.size.trans hs
   have hdb := p.defers.trans hd
   have j4 : IsE0 (b.get 4) q := p.ou 0 4 rfl
   have j5 : (IsI 1) (b.get 5) q := p.ou 1 5 rfl
   replace j4 : IsV ([] : List Account) (b.get 4) q := j4.isV
   exact tail_done (k := q) (w2 _ _ ⟨⟨hgq, hsb, hdb⟩, j4, j5, trivial⟩)
  rintro a k ⟨⟨hg, hs, hd⟩, i4, i5, _⟩
  refine wp_ret ?_
  obtain rfl := Option.some.inj hr
  exact retC2 rfl hd hg i4 i5
 rw [if_neg (by rw [hc721]; decide)] at hr
 refine wp_skip ?_
 refine wp_seq ?_
 obtain ⟨x4, hx4, hr⟩ := bind_some hr
 refine cut (fun a' k' => Bs noF k0 96 a' k' ∧ (IsRef m_) (a'.get 3) k' ∧ IsOwn 0 35 x4 (a'.get 6) k' ∧ Lo k0 (obF (a'.get 6)) ∧ True) ?_ hQ ?_
 ·intro Q3 W3 w3
  refine gS 3 (_ :: _ :: _ :: []) hs (by kernel_rfl) ⟨mu rfl i0, o1 [(18, some 0)] rfl fun _ _ h n => ok_call rfl Try.call25 (ret_weaken h.size (clone_okO n.1 hx4)), cp 1 rfl rfl, trivial⟩ W3 fun b q p => ?_
  have hgq := hg.then p.grow
  have hsb := p.size.trans hs
  have hdb := p.defers.trans hd
  have j3 := p.ke 3 rfl i3
  have j6 : (IsOwn k.w.heap.size 35 x4) (b.get 6) q := p.ou 2 6 rfl
  have x6 : Lo k (obF (b.get 6)) := j6.loF
  have y6 := x6.chg hg
  replace j6 := j6.weaken (Nat.zero_le _)
  exact tail_done (k := q) (w3 _ _ ⟨⟨hgq, hsb, hdb⟩, j3, j6, y6, trivial⟩)
 rintro a k ⟨⟨hg, hs, hd⟩, i3, i6, n6, _⟩
 refine wp_seq ?_
 refine cutS (fun c l => Bs noF k0 96 c l ∧ IsRef m_ (c.get 3) l ∧ IsOwn 0 35 x4 (c.get 6) l ∧ Lo k0 (obF (c.get 6)) ∧ IsV (m_.Kind == 0) (c.get 22) l ∧ True) ?_ ?_
 ·intro Q4 W4 w4
  refine gS 3 (_ :: _ :: _ :: []) hs (by kernel_rfl) ⟨o1 [(3, none)] rfl fun _ _ h n => ok_fieldAddr rfl fo33_0 (at_Move_0 _) ((up i3 h n.1)).ptr, o1 [(20, some 0)] rfl fun _ _ h n => ok_load rfl ty3 n.1, o1 [(21, some 1)] rfl fun _ _ h n => ok_eqI rfl n.1 (cI rfl), trivial⟩ W4 fun b q p => ?_
  exact tail_done (k := q) (w4 _ _ ⟨Bs.post ⟨hg, hs, hd⟩ p, p.ke 3 rfl i3, p.ke 6 rfl i6, (by rw [p.old 6 rfl]; exact n6), p.ou 2 22 rfl, trivial⟩)
 rintro a k ⟨⟨hg, hs, hd⟩, i3, i6, n6, i22, _⟩
 refine wp_cond_split (isBool i22) (fun hc716 => ?_) (fun hc716 => ?_)
 ·rw [if_pos hc716] at hr
  refine wp_seq ?_
  obtain ⟨x5, hx5, hr⟩ := bind_some hr
  refine cut (fun a' k' => Bs noF k0 96 a' k' ∧ (IsV x5.1) (a'.get 4) k' ∧ (IsV x5.2) (a'.get 5) k' ∧ True) ?_ hQ ?_
  ·intro Q5 W5 w5
   refine gS 2 (⟨some (OwnAt (a.get 6) 0 35 x4), [(6, none)]⟩ :: _ :: []) hs (by kernel_rfl) ⟨ob1 rfl fun _ _ h n => ok_moveOA (.inl rfl) (ownAt n.1 (up i6 h n.1)), o1 [(3, none)] rfl fun _ _ h n => ok_load rfl ty33 ((up i3 h n.1)).ptr, trivial⟩ W5 fun b q p => ?_
   have hgq := hg.then p.grow
   have hsb := p.size.trans hs
   have hdb := p.defers.trans hd
   have e23 : b.get 23 = a.get 6 := (p.ou 0 23 rfl).1
   have j23 : IsOwn 0 35 x4 (b.get 23) q := (p.ou 0 23 rfl).2
   have y23 : Lo k0 (obF (b.get 23)) := by rw [e23]; exact n6
   have j24 : (IsV m_) (b.get 24) q := p.ou 1 24 rfl
   have hns := j23.nshF
   refine tail_call (F := obF (b.get 23)) (i := 2) (d := 25) rfl rfl rfl rfl (by rw [hsb]; decide) Try.call29 W5 (cOpen_ok j23 j24 hx5) fun b2 q2 hsz hdf hoth hch hres => ?_
   have hle := hch.le hns
   replace j24 := Pers.pers hle j24
   replace hgq := hgq.step hch y23.wr
   rw [← hoth 24 (by decide)] at j24
   have j25 : (IsTup2 (IsV x5.1) (IsV x5.2)) (b2.get 25) q2 := hres
   replace hsb := hsz.trans hsb
   replace hdb := hdf.trans hdb
   clear hle hch hres hns hsz hdf hoth
   obtain ⟨b, hbb⟩ : ∃ b, b = b2 := ⟨b2, rfl⟩
   subst hbb
   obtain ⟨q, hqq⟩ : ∃ q, q = q2 := ⟨q2, rfl⟩
   subst hqq
   have jx : (IsTup2 (IsV x5.1) (IsV x5.2)) (b.get 25) q := j25
   obtain ⟨y0_, y1_, hxt, jy0_, jy1_⟩ := jx
   refine tail_ext (i := 3) (d := 26) rfl rfl rfl rfl (by rw [hsb]; decide) hxt rfl fun b2 hsz hdf hnew hoth => ?_
   have jn : (IsV x5.1) (b2.get 26) q := by rw [hnew]; exact jy0_
   rw [← hoth 24 (by decide)] at j24
   rw [← hoth 25 (by decide)] at j25
   have j26 := jn
   replace hsb := hsz.trans hsb
   replace hdb := hdf.trans hdb
   clear hsz hdf hoth jn hnew hxt
   obtain ⟨b, hbb⟩ : ∃ b, b = b2 := ⟨b2, rfl⟩
   subst hbb
   have jx : (IsTup2 (IsV x5.1) (IsV x5.2)) (b.get 25) q := j25
   obtain ⟨y0_, y1_, hxt, jy0_, jy1_⟩ := jx
   refine tail_ext (i := 4) (d := 27) rfl rfl rfl rfl (by rw [hsb]; decide) hxt rfl fun b2 hsz hdf hnew hoth => ?_
   have jn : (IsV x5.2) (b2.get 27) q := by rw [hnew]; exact jy1_
   rw [← hoth 24 (by decide)] at j24
   rw [← hoth 25 (by decide)] at j25
   rw [← hoth 26 (by decide)] at j26
   have j27 := jn
   replace hsb := hsz.trans hsb
   replace hdb := hdf.trans hdb
   clear hsz hdf hoth jn hnew hxt
   obtain ⟨b, hbb⟩ : ∃ b, b = b2 := ⟨b2, rfl⟩
   subst hbb
   refine tail_assign (i := 5) (d := 4) rfl rfl (.inl rfl) rfl (by rw [hsb]; decide) fun b2 hsz hdf hnew hoth => ?_
   have jn : (IsV x5.1) (b2.get 4) q := by rw [hnew]; exact j26
   rw [← hoth 24 (by decide)] at j24
   rw [← hoth 25 (by decide)] at j25
   rw [← hoth 26 (by decide)] at j26
   rw [← hoth 27 (by decide)] at j27
   have j4 := jn
   replace hsb := hsz.trans hsb
   replace hdb := hdf.trans hdb
   clear hsz hdf hoth
   obtain ⟨b, hbb⟩ : ∃ b, b = b2 := ⟨b2, rfl⟩
   subst hbb
   refine tail_assign (i := 6) (d := 5) rfl rfl (.inl rfl) rfl (by rw [hsb]; decide) fun b2 hsz hdf hnew hoth => ?_
   have jn : (IsV x5.2) (b2.get 5) q := by rw [hnew]; exact j27
   rw [← hoth 4 (by decide)] at j4
   rw [← hoth 24 (by decide)] at j24
   rw [← hoth 25 (by decide)] at j25
   rw [← hoth 26 (by decide)] at j26
   rw [← hoth 27 (by decide)] at j27
   have j5 := jn
   replace hsb := hsz.trans hsb
   replace hdb := hdf.trans hdb
   clear hsz hdf hoth
   obtain ⟨b, hbb⟩ : ∃ b, b = b2 := ⟨b2, rfl⟩
   subst hbb
   exact tail_done (k := q) (w5 _ _ ⟨⟨hgq, hsb, hdb⟩, j4, j5, trivial⟩)
  rintro a k ⟨⟨hg, hs, hd⟩, i4, i5, _⟩
  refine wp_ret ?_
  obtain rfl := Option.some.inj hr
  exact retC2 rfl hd hg i4 i5
 rw [if_neg (by rw [hc716]; decide)] at hr
 refine wp_skip ?_
 refine wp_seq ?_
 obtain ⟨u656, q6⟩ : ∃ u, a.get 6 = u := ⟨_, rfl⟩
 obtain ⟨x7, hx7, hr⟩ := bind_some hr
 obtain ⟨x8, hx8, hr⟩ := bind_some hr
 refine cut (fun a' k' => Bs noF k0 96 a' k' ∧ (IsRef m_) (a'.get 3) k' ∧ a'.get 6 = u656 ∧ IsOwn 0 35 x4 (a'.get 6) k' ∧ Lo k0 (obF (a'.get 6)) ∧ (IsEP u656 (Enc.sz Account) x7) (a'.get 7) k' ∧ (IsEP u656 (Enc.sz Account) x8) (a'.get 8) k' ∧ True) ?_ hQ ?_
 ·intro Q6 W6 w6
  refine region (m := 10) (⟨some (OwnAt (a.get 6) 0 35 x4), [(6, none)]⟩ :: _ :: _ :: _ :: ⟨some (OwnAt (a.get 6) 0 35 x4), [(6, none)]⟩ :: _ :: _ :: _ :: _ :: _ :: []) hmix hs (by kernel_rfl) ⟨ob1 rfl fun _ _ h n => ok_moveOA (.inl rfl) (ownAt n.1 (up i6 h n.1)), o1 [(3, none)] rfl fun _ _ h n => ok_fieldAddr rfl fo33_1 (at_Move_1 _) ((up i3 h n.1)).ptr, o1 [(29, some 1)] rfl fun _ _ h n => ok_load rfl ty3 n.1, o1 [(28, some 0), (30, some 2)] rfl fun _ _ h n => ok_call rfl Try.call30 (ret_ep (by obtain ⟨kb9, hb9, hv9⟩ := IsOwn.give (n.1).2; exact borrow hb9 (cFind_ok hv9 (Pers.pers hb9.le n.2.1) hx7)) ((n.1).1.trans q6)), ob1 rfl fun _ _ h n => ok_moveOA (.inl rfl) (ownAt n.1 (up i6 h n.1)), o1 [(3, none)] rfl fun _ _ h n => ok_fieldAddr rfl fo33_2 (at_Move_2 _) ((up i3 h n.1)).ptr, o1 [(33, some 5)] rfl fun _ _ h n => ok_load rfl ty3 n.1, o1 [(32, some 4), (34, some 6)] rfl fun _ _ h n => ok_call rfl Try.call30 (ret_ep (by obtain ⟨kb9, hb9, hv9⟩ := IsOwn.give (n.1).2; exact borrow hb9 (cFind_ok hv9 (Pers.pers hb9.le n.2.1) hx8)) ((n.1).1.trans q6)), cp 3 rfl rfl, cp 7 rfl rfl, trivial⟩ W6 fun b q p => ?_
  exact tail_done (k := q) (w6 _ _ ⟨Bs.post ⟨hg, hs, hd⟩ p, p.ke 3 rfl i3, (p.old 6 rfl).trans q6, p.ke 6 rfl i6, (by rw [p.old 6 rfl]; exact n6), p.ou 8 7 rfl, p.ou 9 8 rfl, trivial⟩)
 rintro a k ⟨⟨hg, hs, hd⟩, i3, q6, i6, n6, i7, i8, _⟩
 refine cutS (fun c l => Bs noF k0 96 c l ∧ IsRef m_ (c.get 3) l ∧ c.get 6 = u656 ∧ IsOwn 0 35 x4 (c.get 6) l ∧ Lo k0 (obF (c.get 6)) ∧ IsEP u656 (Enc.sz Account) x7 (c.get 7) l ∧ IsEP u656 (Enc.sz Account) x8 (c.get 8) l ∧ IsV (m_.Kind == 1) (c.get 9) l ∧ True) ?_ ?_
 ·intro Q7 W7 w7
  refine gS 4 (_ :: _ :: _ :: _ :: []) hs (by kernel_rfl) ⟨o1 [(3, none)] rfl fun _ _ h n => ok_fieldAddr rfl fo33_0 (at_Move_0 _) ((up i3 h n.1)).ptr, o1 [(36, some 0)] rfl fun _ _ h n => ok_load rfl ty3 n.1, o1 [(37, some 1)] rfl fun _ _ h n => ok_eqI rfl n.1 (cI rfl), cp 2 rfl rfl, trivial⟩ W7 fun b q p => ?_
  exact tail_done (k := q) (w7 _ _ ⟨Bs.post ⟨hg, hs, hd⟩ p, p.ke 3 rfl i3, (p.old 6 rfl).trans q6, p.ke 6 rfl i6, (by rw [p.old 6 rfl]; exact n6), p.ke 7 rfl i7, p.ke 8 rfl i8, p.ou 3 9 rfl, trivial⟩)
 rintro a k ⟨⟨hg, hs, hd⟩, i3, q6, i6, n6, i7, i8, i9, _⟩
 refine wp_seq ?_
 refine wp_block ?_
 refine wp_seq ?_
 refine cutS (fun c l => Bs noF k0 96 c l ∧ IsRef m_ (c.get 3) l ∧ c.get 6 = u656 ∧ IsOwn 0 35 x4 (c.get 6) l ∧ Lo k0 (obF (c.get 6)) ∧ IsEP u656 (Enc.sz Account) x7 (c.get 7) l ∧ IsEP u656 (Enc.sz Account) x8 (c.get 8) l ∧ IsV (m_.Kind == 1) (c.get 9) l ∧ IsV (x7.isNone) (c.get 39) l ∧ True) ?_ ?_
 ·intro Q8 W8 w8
  refine gS 3 (_ :: ⟨some (IsV (x7.isNone)), [(40, some 0)]⟩ :: _ :: []) hs (by kernel_rfl) ⟨mu rfl i7, ob1 rfl fun _ _ h n => ok_eqEP rfl Try.underlying52 n.1, cp 1 rfl rfl, trivial⟩ W8 fun b q p => ?_
  exact tail_done (k := q) (w8 _ _ ⟨Bs.post ⟨hg, hs, hd⟩ p, p.ke 3 rfl i3, (p.old 6 rfl).trans q6, p.ke 6 rfl i6, (by rw [p.old 6 rfl]; exact n6), p.ke 7 rfl i7, p.ke 8 rfl i8, p.ke 9 rfl i9, p.ou 2 39 rfl, trivial⟩)
 rintro a k ⟨⟨hg, hs, hd⟩, i3, q6, i6, n6, i7, i8, i9, i39, _⟩
 obtain ⟨s1, hs1, hr⟩ := bind_some hr
 refine cut (fun a' k' => Bs noF k0 96 a' k' ∧ (IsRef m_) (a'.get 3) k' ∧ a'.get 6 = u656 ∧ IsOwn 0 35 x4 (a'.get 6) k' ∧ Lo k0 (obF (a'.get 6)) ∧ (IsEP u656 (Enc.sz Account) x7) (a'.get 7) k' ∧ (IsEP u656 (Enc.sz Account) x8) (a'.get 8) k' ∧ (IsV (m_.Kind == 1)) (a'.get 9) k' ∧ (IsV s1) (a'.get 39) k' ∧ True) ?_ hQ ?_
 ·intro Q9 W9 w9
  replace hr := hs1
  clear hQ
  have hQ := W9
  refine wp_cond_split (isBool i39) (fun hc665 => ?_) (fun hc665 => ?_)
  ·rw [if_pos hc665] at hr
   refine wp_skip ?_
   obtain rfl := Option.some.inj hr
   exact w9 _ _ ⟨⟨hg, hs, hd⟩, i3, q6, i6, n6, i7, i8, i9, i39, trivial⟩
  rw [if_neg (by rw [hc665]; decide)] at hr
  refine cut (fun a' k' => Bs noF k0 96 a' k' ∧ (IsRef m_) (a'.get 3) k' ∧ a'.get 6 = u656 ∧ IsOwn 0 35 x4 (a'.get 6) k' ∧ Lo k0 (obF (a'.get 6)) ∧ (IsEP u656 (Enc.sz Account) x7) (a'.get 7) k' ∧ (IsEP u656 (Enc.sz Account) x8) (a'.get 8) k' ∧ (IsV (m_.Kind == 1)) (a'.get 9) k' ∧ (IsV ((m_.Kind == 1) && (x8.isNone))) (a'.get 39) k' ∧ True) ?_ hQ ?_
  ·intro Q10 W10 w10
   refine gS 6 (_ :: _ :: _ :: ⟨some (Gd ((m_.Kind == 1) = true) (IsV (x8.isNone))), [(44, some 2)]⟩ :: _ :: _ :: []) hs (by kernel_rfl) ⟨mu rfl i9, cm 0 rfl rfl, mT rfl rfl i8, gdT rfl rfl fun hp _ _ h n => ok_eqEP rfl Try.underlying52 (Gd.get n.1 hp), o1 [(43, some 1), (45, some 3)] rfl fun _ _ h n => ok_pickAnd rfl n.1 (Gd.get n.2.1) (cB rfl), cp 4 rfl rfl, trivial⟩ W10 fun b q p => ?_
   exact tail_done (k := q) (w10 _ _ ⟨Bs.post ⟨hg, hs, hd⟩ p, p.ke 3 rfl i3, (p.old 6 rfl).trans q6, p.ke 6 rfl i6, (by rw [p.old 6 rfl]; exact n6), p.ke 7 rfl i7, p.ke 8 rfl i8, p.ke 9 rfl i9, p.ou 5 39 rfl, trivial⟩)
  rintro a k ⟨⟨hg, hs, hd⟩, i3, q6, i6, n6, i7, i8, i9, i39, _⟩
  obtain rfl := Option.some.inj hr
  exact w9 _ _ ⟨⟨hg, hs, hd⟩, i3, q6, i6, n6, i7, i8, i9, i39, trivial⟩
 clear hs1
 rintro a k ⟨⟨hg, hs, hd⟩, i3, q6, i6, n6, i7, i8, i9, i39, _⟩
 refine wp_cond_split (isBool i39) (fun hc708 => ?_) (fun hc708 => ?_)
 ·rw [if_pos hc708] at hr
  refine cutL noF k0 96 [⟨4, IsV ([] : List Account)⟩, ⟨5, IsI 4⟩] ?_ ?_
  ·intro Q11 W11 w11
   refine gS 2 (⟨some IsE0, []⟩ :: ⟨some (IsI 4), []⟩ :: []) hs (by kernel_rfl) ⟨ob1 rfl fun b q h n => ok_assign rfl isE0_nil, aI rfl rfl, trivial⟩ W11 fun b q p => ?_
   have hgq := hg.then p.grow
   have hsb := p.size.trans hs
   have hdb := p.defers.trans hd
   have j4 : IsE0 (b.get 4) q := p.ou 0 4 rfl
   have j5 : (IsI 4) (b.get 5) q := p.ou 1 5 rfl
   replace j4 : IsV ([] : List Account) (b.get 4) q := j4.isV
   exact tail_done (k := q) (w11 _ _ ⟨⟨hgq, hsb, hdb⟩, j4, j5, trivial⟩)
  rintro a k ⟨⟨hg, hs, hd⟩, i4, i5, _⟩
  refine wp_ret ?_
  obtain rfl := Option.some.inj hr
  exact retC2 rfl hd hg i4 i5
 rw [if_neg (by rw [hc708]; decide)] at hr
 refine wp_seq ?_
 obtain ⟨x9, hx9, hr⟩ := bind_some hr
 obtain ⟨x10, hx10, hx9⟩ := ite_bind hx9
 refine cut (fun a' k' => Bs noF k0 96 a' k' ∧ (IsRef m_) (a'.get 3) k' ∧ a'.get 6 = u656 ∧ IsOwn 0 35 x4 (a'.get 6) k' ∧ Lo k0 (obF (a'.get 6)) ∧ (IsEP u656 (Enc.sz Account) x7) (a'.get 7) k' ∧ (IsEP u656 (Enc.sz Account) x8) (a'.get 8) k' ∧ (IsV (m_.Kind == 1)) (a'.get 9) k' ∧ (IsV x9) (a'.get 47) k' ∧ True) ?_ hQ ?_
 ·intro Q12 W12 w12
  refine gS 9 (_ :: _ :: _ :: ⟨some (Gd ((m_.Kind == 1) = true) (IsPtr x10)), [(50, some 2)]⟩ :: _ :: _ :: _ :: _ :: _ :: []) hs (by kernel_rfl) ⟨mu rfl i9, cm 0 rfl rfl, mT rfl rfl i8, gdT rfl rfl fun hp _ _ h n => ok_nilCheckP rfl (Gd.get n.1 hp) (rdO i6 h q6) (hx10 hp), gT [(51, some 3)] rfl rfl fun hp _ _ h n => ok_fieldAddr rfl fo35_2 (at_Account_2 _) (Gd.get n.1 hp), gT [(52, some 4)] rfl rfl fun hp _ _ h n => ok_load rfl ty4 (Gd.get n.1 hp), gT [(53, some 5)] rfl rfl fun hp _ _ h n => ok_not rfl (Gd.get n.1 hp), o1 [(49, some 1), (54, some 6)] rfl fun _ _ h n => ok_pickM rfl n.1 hx9 (Gd.get n.2.1) (cB rfl), cp 7 rfl rfl, trivial⟩ W12 fun b q p => ?_
  exact tail_done (k := q) (w12 _ _ ⟨Bs.post ⟨hg, hs, hd⟩ p, p.ke 3 rfl i3, (p.old 6 rfl).trans q6, p.ke 6 rfl i6, (by rw [p.old 6 rfl]; exact n6), p.ke 7 rfl i7, p.ke 8 rfl i8, p.ke 9 rfl i9, p.ou 8 47 rfl, trivial⟩)
 rintro a k ⟨⟨hg, hs, hd⟩, i3, q6, i6, n6, i7, i8, i9, i47, _⟩
 refine wp_cond_split (isBool i47) (fun hc705 => ?_) (fun hc705 => ?_)
 ·rw [if_pos hc705] at hr
  refine cutL noF k0 96 [⟨4, IsV ([] : List Account)⟩, ⟨5, IsI 24⟩] ?_ ?_
  ·intro Q13 W13 w13
   refine gS 2 (⟨some IsE0, []⟩ :: ⟨some (IsI 24), []⟩ :: []) hs (by kernel_rfl) ⟨ob1 rfl fun b q h n => ok_assign rfl isE0_nil, aI rfl rfl, trivial⟩ W13 fun b q p => ?_
   have hgq := hg.then p.grow
   have hsb := p.size.trans hs
   have hdb := p.defers.trans hd
   have j4 : IsE0 (b.get 4) q := p.ou 0 4 rfl
   have j5 : (IsI 24) (b.get 5) q := p.ou 1 5 rfl
   replace j4 : IsV ([] : List Account) (b.get 4) q := j4.isV
   exact tail_done (k := q) (w13 _ _ ⟨⟨hgq, hsb, hdb⟩, j4, j5, trivial⟩)
  rintro a k ⟨⟨hg, hs, hd⟩, i4, i5, _⟩
  refine wp_ret ?_
  obtain rfl := Option.some.inj hr
  exact retC2 rfl hd hg i4 i5
 rw [if_neg (by rw [hc705]; decide)] at hr
 refine wp_seq ?_
 obtain ⟨x11, hx11, hr⟩ := bind_some hr
 refine cut (fun a' k' => Bs noF k0 96 a' k' ∧ (IsRef m_) (a'.get 3) k' ∧ a'.get 6 = u656 ∧ IsOwn 0 35 x4 (a'.get 6) k' ∧ Lo k0 (obF (a'.get 6)) ∧ (IsEP u656 (Enc.sz Account) x7) (a'.get 7) k' ∧ (IsEP u656 (Enc.sz Account) x8) (a'.get 8) k' ∧ (IsV (m_.Kind == 1)) (a'.get 9) k' ∧ (IsV (decide (x11.Units < m_.N))) (a'.get 56) k' ∧ True) ?_ hQ ?_
 ·intro Q14 W14 w14
  refine region (m := 8) (_ :: ⟨some (IsPtr x11), [(57, some 0)]⟩ :: _ :: _ :: _ :: _ :: _ :: _ :: []) hmix hs (by kernel_rfl) ⟨mu rfl i7, ob1 rfl fun _ _ h n => ok_nilCheckP rfl n.1 (rdO i6 h q6) hx11, o1 [(58, some 1)] rfl fun _ _ h n => ok_fieldAddr rfl fo35_1 (at_Account_1 _) n.1, o1 [(59, some 2)] rfl fun _ _ h n => ok_load rfl ty3 n.1, o1 [(3, none)] rfl fun _ _ h n => ok_fieldAddr rfl fo33_3 (at_Move_3 _) ((up i3 h n.1)).ptr, o1 [(61, some 4)] rfl fun _ _ h n => ok_load rfl ty3 n.1, o1 [(60, some 3), (62, some 5)] rfl fun _ _ h n => ok_lss rfl n.1 n.2.1, cp 6 rfl rfl, trivial⟩ W14 fun b q p => ?_
  exact tail_done (k := q) (w14 _ _ ⟨Bs.post ⟨hg, hs, hd⟩ p, p.ke 3 rfl i3, (p.old 6 rfl).trans q6, p.ke 6 rfl i6, (by rw [p.old 6 rfl]; exact n6), p.ke 7 rfl i7, p.ke 8 rfl i8, p.ke 9 rfl i9, p.ou 7 56 rfl, trivial⟩)
 rintro a k ⟨⟨hg, hs, hd⟩, i3, q6, i6, n6, i7, i8, i9, i56, _⟩
 refine wp_cond_split (isBool i56) (fun hc702 => ?_) (fun hc702 => ?_)
 ·rw [if_pos hc702] at hr
  refine cutL noF k0 96 [⟨4, IsV ([] : List Account)⟩, ⟨5, IsI 23⟩] ?_ ?_
  ·intro Q15 W15 w15
   refine gS 2 (⟨some IsE0, []⟩ :: ⟨some (IsI 23), []⟩ :: []) hs (by kernel_rfl) ⟨ob1 rfl fun b q h n => ok_assign rfl isE0_nil, aI rfl rfl, trivial⟩ W15 fun b q p => ?_
   have hgq := hg.then p.grow
   have hsb := p.size.trans hs
   have hdb := p.defers.trans hd
   have j4 : IsE0 (b.get 4) q := p.ou 0 4 rfl
   have j5 : (IsI 23) (b.get 5) q := p.ou 1 5 rfl
   replace j4 : IsV ([] : List Account) (b.get 4) q := j4.isV
   exact tail_done (k := q) (w15 _ _ ⟨⟨hgq, hsb, hdb⟩, j4, j5, trivial⟩)
  rintro a k ⟨⟨hg, hs, hd⟩, i4, i5, _⟩
  refine wp_ret ?_
  obtain rfl := Option.some.inj hr
  exact retC2 rfl hd hg i4 i5
 rw [if_neg (by rw [hc702]; decide)] at hr
 refine wp_seq ?_
 obtain ⟨x12, hx12, hr⟩ := bind_some hr
 obtain ⟨x13, hx13, hx12⟩ := ite_bind hx12
 obtain ⟨x14, hx14, hx12⟩ := ite_bind hx12
 refine cut (fun a' k' => Bs noF k0 96 a' k' ∧ (IsRef m_) (a'.get 3) k' ∧ a'.get 6 = u656 ∧ IsOwn 0 35 x4 (a'.get 6) k' ∧ Lo k0 (obF (a'.get 6)) ∧ (IsEP u656 (Enc.sz Account) x7) (a'.get 7) k' ∧ (IsEP u656 (Enc.sz Account) x8) (a'.get 8) k' ∧ (IsV (m_.Kind == 1)) (a'.get 9) k' ∧ (IsV x12) (a'.get 64) k' ∧ True) ?_ hQ ?_
 ·intro Q16 W16 w16
  refine region (m := 12) (_ :: _ :: _ :: ⟨some (Gd ((m_.Kind == 1) = true) (IsPtr x13)), [(67, some 2)]⟩ :: _ :: _ :: _ :: _ :: _ :: _ :: _ :: _ :: []) hmix hs (by kernel_rfl) ⟨mu rfl i9, cm 0 rfl rfl, mT rfl rfl i8, gdT rfl rfl fun hp _ _ h n => ok_nilCheckP rfl (Gd.get n.1 hp) (rdO i6 h q6) (hx13 hp), gT [(68, some 3)] rfl rfl fun hp _ _ h n => ok_fieldAddr rfl fo35_1 (at_Account_1 _) (Gd.get n.1 hp), gT [(69, some 4)] rfl rfl fun hp _ _ h n => ok_load rfl ty3 (Gd.get n.1 hp), gT [(3, none)] rfl rfl fun hp _ _ h n => ok_fieldAddr rfl fo33_3 (at_Move_3 _) ((up i3 h n.1)).ptr, gT [(71, some 6)] rfl rfl fun hp _ _ h n => ok_load rfl ty3 (Gd.get n.1 hp), gT [(70, some 5), (72, some 7)] rfl rfl fun hp _ _ h n => ok_add rfl (Gd.get n.1 hp) (Gd.get n.2.1 hp) (hx14 hp), gT [(73, some 8)] rfl rfl fun hp _ _ h n => ok_gtr rfl (Gd.get n.1 hp) (cI rfl), o1 [(66, some 1), (74, some 9)] rfl fun _ _ h n => ok_pickM rfl n.1 hx12 (Gd.get n.2.1) (cB rfl), cp 10 rfl rfl, trivial⟩ W16 fun b q p => ?_
  exact tail_done (k := q) (w16 _ _ ⟨Bs.post ⟨hg, hs, hd⟩ p, p.ke 3 rfl i3, (p.old 6 rfl).trans q6, p.ke 6 rfl i6, (by rw [p.old 6 rfl]; exact n6), p.ke 7 rfl i7, p.ke 8 rfl i8, p.ke 9 rfl i9, p.ou 11 64 rfl, trivial⟩)
 rintro a k ⟨⟨hg, hs, hd⟩, i3, q6, i6, n6, i7, i8, i9, i64, _⟩
 refine wp_cond_split (isBool i64) (fun hc699 => ?_) (fun hc699 => ?_)
 ·rw [if_pos hc699] at hr
  refine cutL noF k0 96 [⟨4, IsV ([] : List Account)⟩, ⟨5, IsI 6⟩] ?_ ?_
  ·intro Q17 W17 w17
   refine gS 2 (⟨some IsE0, []⟩ :: ⟨some (IsI 6), []⟩ :: []) hs (by kernel_rfl) ⟨ob1 rfl fun b q h n => ok_assign rfl isE0_nil, aI rfl rfl, trivial⟩ W17 fun b q p => ?_
   have hgq := hg.then p.grow
   have hsb := p.size.trans hs
   have hdb := p.defers.trans hd
   have j4 : IsE0 (b.get 4) q := p.ou 0 4 rfl
   have j5 : (IsI 6) (b.get 5) q := p.ou 1 5 rfl
   replace j4 : IsV ([] : List Account) (b.get 4) q := j4.isV
   exact tail_done (k := q) (w17 _ _ ⟨⟨hgq, hsb, hdb⟩, j4, j5, trivial⟩)
  rintro a k ⟨⟨hg, hs, hd⟩, i4, i5, _⟩
  refine wp_ret ?_
  obtain rfl := Option.some.inj hr
  exact retC2 rfl hd hg i4 i5
 rw [if_neg (by rw [hc699]; decide)] at hr
 refine wp_skip ?_
 refine wp_seq ?_
 obtain ⟨x15, hx15, hr⟩ := bind_some hr
 obtain ⟨x16, hx16, hr⟩ := bind_some hr
 obtain ⟨x17, hx17, hr⟩ := bind_some hr
 obtain ⟨x18, hx18, hr⟩ := bind_some hr
 refine cut (fun a' k' => Bs noF k0 96 a' k' ∧ (IsRef m_) (a'.get 3) k' ∧ a'.get 6 = u656 ∧ IsOwn 0 35 x18 (a'.get 6) k' ∧ Lo k0 (obF (a'.get 6)) ∧ (IsEP u656 (Enc.sz Account) x8) (a'.get 8) k' ∧ (IsV (m_.Kind == 1)) (a'.get 9) k' ∧ True) ?_ hQ ?_
 ·intro Q18 W18 w18
  refine region (m := 9) (_ :: ⟨some (IsPtr x15), [(76, some 0)]⟩ :: _ :: _ :: _ :: _ :: _ :: ⟨some (IsAdrO (a.get 6) (((x7.getD 0)).toNat * Enc.sz Account)), [(76, some 0)]⟩ :: _ :: []) hmix hs (by kernel_rfl) ⟨mu rfl i7, ob1 rfl fun _ _ h n => ok_nilCheckP rfl n.1 (rdO i6 h q6) hx15, o1 [(77, some 1)] rfl fun _ _ h n => ok_fieldAddr rfl fo35_1 (at_Account_1 _) n.1, o1 [(78, some 2)] rfl fun _ _ h n => ok_load rfl ty3 n.1, o1 [(3, none)] rfl fun _ _ h n => ok_fieldAddr rfl fo33_3 (at_Move_3 _) ((up i3 h n.1)).ptr, o1 [(80, some 4)] rfl fun _ _ h n => ok_load rfl ty3 n.1, o1 [(79, some 3), (81, some 5)] rfl fun _ _ h n => ok_sub rfl n.1 n.2.1 hx16, ob1 rfl fun _ _ h n => ok_nilCheckO rfl (by rw [q6]; exact n.1) (atI_spec hx17).1, o1 [(83, some 7)] rfl fun _ _ h n => ok_fieldAdrO rfl fo35_1 n.1, trivial⟩ W18 fun b q p => ?_
  have hgq := hg.then p.grow
  have hsb := p.size.trans hs
  have hdb := p.defers.trans hd
  have j3 := p.ke 3 rfl i3
  have j6 := p.ke 6 rfl i6
  have y6 : Lo k0 (obF (b.get 6)) := by rw [p.old 6 rfl]; exact n6
  have j7 := p.ke 7 rfl i7
  have j8 := p.ke 8 rfl i8
  have j9 := p.ke 9 rfl i9
  have j82 : (IsV x16) (b.get 82) q := p.ou 6 82 rfl
  have j84 : IsAdrO (a.get 6) (((x7.getD 0)).toNat * Enc.sz Account + 1) (b.get 84) q := p.ou 8 84 rfl
  have qb6 := (p.old 6 rfl).trans q6
  have eo : b.get 6 = a.get 6 := p.old 6 rfl
  have hns := j6.nshF
  refine tail_storeS (i := 9) (u := b.get 6) (m := ((x7.getD 0)).toNat) (off := 0 + 1) rfl rfl rfl rfl szf3 upd_F35_1 (by rw [eo]; exact j84) j6 (getI_spec (atI_spec hx17).2).2.1 j82 fun q2 hch hz => ?_
  replace hgq := hgq.step hch y6.wr
  have hle := hch.le hns
  replace j3 := Pers.pers hle j3
  replace j7 := Pers.pers hle j7
  replace j8 := Pers.pers hle j8
  replace j9 := Pers.pers hle j9
  replace j82 := Pers.pers hle j82
  replace j84 := Pers.pers hle j84
  replace j6 := hz
  rw [Option.some.inj hx18] at j6
  clear hns hle hch eo hz
  obtain ⟨q, hqq⟩ : ∃ q, q = q2 := ⟨q2, rfl⟩
  subst hqq
  exact tail_done (k := q) (w18 _ _ ⟨⟨hgq, hsb, hdb⟩, j3, qb6, j6, y6, j8, j9, trivial⟩)
 rintro a k ⟨⟨hg, hs, hd⟩, i3, q6, i6, n6, i8, i9, _⟩
 refine wp_seq ?_
 refine cutS (fun c l => Bs noF k0 96 c l ∧ IsRef m_ (c.get 3) l ∧ c.get 6 = u656 ∧ IsOwn 0 35 x18 (c.get 6) l ∧ Lo k0 (obF (c.get 6)) ∧ IsEP u656 (Enc.sz Account) x8 (c.get 8) l ∧ IsV (m_.Kind == 1) (c.get 85) l ∧ True) ?_ ?_
 ·intro Q19 W19 w19
  refine gS 1 (_ :: []) hs (by kernel_rfl) ⟨mu rfl i9, trivial⟩ W19 fun b q p => ?_
  exact tail_done (k := q) (w19 _ _ ⟨Bs.post ⟨hg, hs, hd⟩ p, p.ke 3 rfl i3, (p.old 6 rfl).trans q6, p.ke 6 rfl i6, (by rw [p.old 6 rfl]; exact n6), p.ke 8 rfl i8, p.ou 0 85 rfl, trivial⟩)
 rintro a k ⟨⟨hg, hs, hd⟩, i3, q6, i6, n6, i8, i85, _⟩
 obtain ⟨s2, hs2, hr⟩ := bind_some hr
 refine cut (fun a' k' => Bs noF k0 96 a' k' ∧ a'.get 6 = u656 ∧ (IsV s2) (a'.get 6) k' ∧ True) ?_ hQ ?_
 ·intro Q20 W20 w20
  replace hr := hs2
  clear hQ
  have hQ := W20
  refine wp_cond_split (isBool i85) (fun hc690 => ?_) (fun hc690 => ?_)
  ·rw [if_pos hc690] at hr
   obtain ⟨x19, hx19, hr⟩ := bind_some hr
   obtain ⟨x20, hx20, hr⟩ := bind_some hr
   obtain ⟨x21, hx21, hr⟩ := bind_some hr
   obtain ⟨x22, hx22, hr⟩ := bind_some hr
   refine cut (fun a' k' => Bs noF k0 96 a' k' ∧ a'.get 6 = u656 ∧ IsOwn 0 35 x22 (a'.get 6) k' ∧ Lo k0 (obF (a'.get 6)) ∧ True) ?_ hQ ?_
   ·intro Q21 W21 w21
    refine region (m := 9) (_ :: ⟨some (IsPtr x19), [(86, some 0)]⟩ :: _ :: _ :: _ :: _ :: _ :: ⟨some (IsAdrO (a.get 6) (((x8.getD 0)).toNat * Enc.sz Account)), [(86, some 0)]⟩ :: _ :: []) hmix hs (by kernel_rfl) ⟨mu rfl i8, ob1 rfl fun _ _ h n => ok_nilCheckP rfl n.1 (rdO i6 h q6) hx19, o1 [(87, some 1)] rfl fun _ _ h n => ok_fieldAddr rfl fo35_1 (at_Account_1 _) n.1, o1 [(88, some 2)] rfl fun _ _ h n => ok_load rfl ty3 n.1, o1 [(3, none)] rfl fun _ _ h n => ok_fieldAddr rfl fo33_3 (at_Move_3 _) ((up i3 h n.1)).ptr, o1 [(90, some 4)] rfl fun _ _ h n => ok_load rfl ty3 n.1, o1 [(89, some 3), (91, some 5)] rfl fun _ _ h n => ok_add rfl n.1 n.2.1 hx20, ob1 rfl fun _ _ h n => ok_nilCheckO rfl (by rw [q6]; exact n.1) (atI_spec hx21).1, o1 [(93, some 7)] rfl fun _ _ h n => ok_fieldAdrO rfl fo35_1 n.1, trivial⟩ W21 fun b q p => ?_
    have hgq := hg.then p.grow
    have hsb := p.size.trans hs
    have hdb := p.defers.trans hd
    have j6 := p.ke 6 rfl i6
    have y6 : Lo k0 (obF (b.get 6)) := by rw [p.old 6 rfl]; exact n6
    have j8 := p.ke 8 rfl i8
    have j92 : (IsV x20) (b.get 92) q := p.ou 6 92 rfl
    have j94 : IsAdrO (a.get 6) (((x8.getD 0)).toNat * Enc.sz Account + 1) (b.get 94) q := p.ou 8 94 rfl
    have qb6 := (p.old 6 rfl).trans q6
    have eo : b.get 6 = a.get 6 := p.old 6 rfl
    have hns := j6.nshF
    refine tail_storeS (i := 9) (u := b.get 6) (m := ((x8.getD 0)).toNat) (off := 0 + 1) rfl rfl rfl rfl szf3 upd_F35_1 (by rw [eo]; exact j94) j6 (getI_spec (atI_spec hx21).2).2.1 j92 fun q2 hch hz => ?_
    replace hgq := hgq.step hch y6.wr
    have hle := hch.le hns
    replace j8 := Pers.pers hle j8
    replace j92 := Pers.pers hle j92
    replace j94 := Pers.pers hle j94
    replace j6 := hz
    rw [Option.some.inj hx22] at j6
    clear hns hle hch eo hz
    obtain ⟨q, hqq⟩ : ∃ q, q = q2 := ⟨q2, rfl⟩
    subst hqq
    exact tail_done (k := q) (w21 _ _ ⟨⟨hgq, hsb, hdb⟩, qb6, j6, y6, trivial⟩)
   rintro a k ⟨⟨hg, hs, hd⟩, q6, i6, n6, _⟩
   obtain ⟨kk, sh686, ii6⟩ := i6.give
   replace i6 := ii6
   replace hg := hg.hand sh686 n6.wr
   rw [← sh686.w]
   clear sh686
   obtain ⟨k, hkk⟩ : ∃ k, k = kk := ⟨kk, rfl⟩
   subst hkk
   obtain rfl := Option.some.inj hr
   exact w20 _ _ ⟨⟨hg, hs, hd⟩, q6, i6, trivial⟩
  rw [if_neg (by rw [hc690]; decide)] at hr
  refine wp_skip ?_
  obtain ⟨kk, sh689, ii6⟩ := i6.give
  replace i6 := ii6
  replace hg := hg.hand sh689 n6.wr
  rw [← sh689.w]
  clear sh689
  obtain ⟨k, hkk⟩ : ∃ k, k = kk := ⟨kk, rfl⟩
  subst hkk
  obtain rfl := Option.some.inj hr
  exact w20 _ _ ⟨⟨hg, hs, hd⟩, q6, i6, trivial⟩
 clear hs2
 rintro a k ⟨⟨hg, hs, hd⟩, q6, i6, _⟩
 refine stepL 3 (_ :: _ :: ⟨some (IsI 0), []⟩ :: []) rfl ⟨hg, hs, hd⟩ (by kernel_rfl) ⟨mu rfl i6, cp 0 rfl rfl, aI rfl rfl, trivial⟩ [⟨_, _⟩, ⟨_, _⟩] (fun b q p => ⟨p.ou 1 4 rfl, p.ou 2 5 rfl, trivial⟩) ?_
 rintro a k ⟨⟨hg, hs, hd⟩, i4, i5, _⟩
 refine wp_ret ?_
 obtain rfl := Option.some.inj hr
 exact retC2 rfl hd hg i4 i5
def cRun_L0 (moves_ : (List Move)) (s1 : (List Account) × Int) : Option (Flow ((List Account) × Int) ((List Account) × Int × Int)) :=
 if (decide (s1.2 < (moves_.length : Int))) then
  (getI moves_ s1.2).bind fun x1 =>
  (cDo s1.1 x1).bind fun x2 =>
  if (x2.2 != 0) then
   some (.ret (s1.1, s1.2, x2.2))
  else
   (addI s1.2 1).bind fun x3 =>
   some (.go (x2.1, x3))
 else
  some (.ex 0 (s1.1, s1.2))
def cRun (l_ : (List Account)) (moves_ : (List Move)) : Option ((List Account) × Int × Int) :=
 (cRight l_).bind fun x1 =>
 if (!x1) then
  some (([] : List Account), 0, 1)
 else
  (clone l_).bind fun x2 =>
  (iterL (cRun_L0 moves_) (moves_.length + 1) (x2, 0)).bind fun f1 => match f1 with
   | .go _ => none
   | .ex _ s1 =>
    some (s1.1, (moves_.length : Int), 0)
   | .ret r1 => some r1
theorem cRun_ok {k0 : K} {v0 v1 : Value} {l_ : (List Account)} {moves_ : (List Move)} {r : (List Account) × Int × Int} (i0 : (IsV l_) v0 k0) (i1 : (IsV moves_) v1 k0) (hr : cRun l_ moves_ = some r) :
  Calls Try.prog 10 #[v0, v1] k0.w (Ret k0 (IsTup3 (IsV r.1) (IsV r.2.1) (IsV r.2.2))) := by
 unfold cRun at hr
 refine Ret.ofC ?_
 refine enterK Try.func10 rfl Try.ntmps10 (show 2 ≤ 40 by decide) fun a k hk0 hs hd ha => ?_
 obtain ⟨e0, e1, _⟩ := ha
 replace i0 : (IsV l_) (a.get 0) k := by rw [e0, hk0]; exact i0
 replace i1 : (IsV moves_) (a.get 1) k := by rw [e1, hk0]; exact i1
 have hQ : Gb.LetsOut (bodyPost Try.prog Try.f10 (RetC noF k0 (IsTup3 (IsV r.1) (IsV r.2.1) (IsV r.2.2)))) := letsOutC
 have hg : Chg noF k0 k := by rw [hk0]; exact Chg.refl _ k0
 refine stepL 3 (⟨some IsE0, []⟩ :: ⟨some (IsI 0), []⟩ :: ⟨some (IsI 0), []⟩ :: []) rfl ⟨hg, hs, hd⟩ (by kernel_rfl) ⟨ob1 rfl fun b q h n => ok_assign rfl isE0_nil, aI rfl rfl, aI rfl rfl, trivial⟩ [⟨_, _⟩, ⟨_, _⟩] (fun b q p => ⟨p.ke 0 rfl i0, p.ke 1 rfl i1, trivial⟩) ?_
 rintro a k ⟨⟨hg, hs, hd⟩, i0, i1, _⟩
 refine wp_seq ?_
 refine wp_seq ?_
 obtain ⟨x1, hx1, hr⟩ := bind_some hr
 refine cut (fun a' k' => Bs noF k0 40 a' k' ∧ (IsV l_) (a'.get 0) k' ∧ (IsV moves_) (a'.get 1) k' ∧ (IsV (!x1)) (a'.get 14) k' ∧ True) ?_ hQ ?_
 ·intro Q1 W1 w1
  refine gS 3 (_ :: _ :: _ :: []) hs (by kernel_rfl) ⟨mu rfl i0, o1 [(12, some 0)] rfl fun _ _ h n => ok_call rfl Try.call17 (cRight_ok n.1 hx1), o1 [(13, some 1)] rfl fun _ _ h n => ok_not rfl n.1, trivial⟩ W1 fun b q p => ?_
  exact tail_done (k := q) (w1 _ _ ⟨Bs.post ⟨hg, hs, hd⟩ p, p.ke 0 rfl i0, p.ke 1 rfl i1, p.ou 2 14 rfl, trivial⟩)
 rintro a k ⟨⟨hg, hs, hd⟩, i0, i1, i14, _⟩
 refine wp_cond_split (isBool i14) (fun hc771 => ?_) (fun hc771 => ?_)
 ·rw [if_pos hc771] at hr
  refine cutL noF k0 40 [⟨4, IsV ([] : List Account)⟩, ⟨5, IsI 0⟩, ⟨6, IsI 1⟩] ?_ ?_
  ·intro Q2 W2 w2
   refine gS 3 (⟨some IsE0, []⟩ :: ⟨some (IsI 0), []⟩ :: ⟨some (IsI 1), []⟩ :: []) hs (by kernel_rfl) ⟨ob1 rfl fun b q h n => ok_assign rfl isE0_nil, aI rfl rfl, aI rfl rfl, trivial⟩ W2 fun b q p => ?_
   have hgq := hg.then p.grow
   have hsb := p.size.trans hs
   have hdb := p.defers.trans hd
   have j4 : IsE0 (b.get 4) q := p.ou 0 4 rfl
   have j5 : (IsI 0) (b.get 5) q := p.ou 1 5 rfl
   have j6 : (IsI 1) (b.get 6) q := p.ou 2 6 rfl
   replace j4 : IsV ([] : List Account) (b.get 4) q := j4.isV
   exact tail_done (k := q) (w2 _ _ ⟨⟨hgq, hsb, hdb⟩, j4, j5, j6, trivial⟩)
  rintro a k ⟨⟨hg, hs, hd⟩, i4, i5, i6, _⟩
  refine wp_ret ?_
  obtain rfl := Option.some.inj hr
  exact retC3 rfl hd hg i4 i5 i6
 rw [if_neg (by rw [hc771]; decide)] at hr
 refine wp_skip ?_
 refine wp_seq ?_
 obtain ⟨x2, hx2, hr⟩ := bind_some hr
 refine cut (fun a' k' => Bs noF k0 40 a' k' ∧ (IsV moves_) (a'.get 1) k' ∧ (IsV x2) (a'.get 7) k' ∧ True) ?_ hQ ?_
 ·intro Q3 W3 w3
  refine gS 3 (_ :: _ :: _ :: []) hs (by kernel_rfl) ⟨mu rfl i0, o1 [(15, some 0)] rfl fun _ _ h n => ok_call rfl Try.call25 (clone_ok n.1 hx2), cp 1 rfl rfl, trivial⟩ W3 fun b q p => ?_
  exact tail_done (k := q) (w3 _ _ ⟨Bs.post ⟨hg, hs, hd⟩ p, p.ke 1 rfl i1, p.ou 2 7 rfl, trivial⟩)
 rintro a k ⟨⟨hg, hs, hd⟩, i1, i7, _⟩
 refine wp_seq ?_
 refine stepL 3 (_ :: _ :: ⟨some (IsI 0), []⟩ :: []) rfl ⟨hg, hs, hd⟩ (by kernel_rfl) ⟨mu rfl i1, o1 [(17, some 0)] rfl fun _ _ h n => ok_len rfl rfl Try.underlying23 (IsV.rd n.1), ob1 rfl fun _ _ h n => ok_move rfl (cI rfl), trivial⟩ [⟨_, _⟩, ⟨_, _⟩, ⟨_, _⟩, ⟨_, _⟩, ⟨_, _⟩] (fun b q p => ⟨p.ke 1 rfl i1, p.ke 7 rfl i7, p.ou 0 17 rfl, p.ou 1 18 rfl, p.ou 2 19 rfl, trivial⟩) ?_
 rintro a k ⟨⟨hg, hs, hd⟩, i1, i7, i17, i18, i19, _⟩
 refine wp_block ?_
 obtain ⟨f1, hf1, hr⟩ := bind_some hr
 refine cutFe f1 (fun s' c l => Bs noF k0 40 c l ∧ IsV moves_ (c.get 1) l ∧ IsV s'.1 (c.get 7) l ∧ IsV moves_ (c.get 17) l ∧ IsL moves_ (c.get 18) l ∧ IsV s'.2 (c.get 19) l ∧ True) (fun i' s' c l => (i' = 0 ∧ Bs noF k0 40 c l ∧ IsV moves_ (c.get 1) l ∧ IsV s'.1 (c.get 7) l ∧ True)) (fun r' c l => bodyPost Try.prog Try.f10 (RetC noF k0 (IsTup3 (IsV r'.1) (IsV r'.2.1) (IsV r'.2.2))) .ret c l.w) ?_ hQ ?_ ?_ ?_
 ·intro Q4 W4 hgo hex hret
  refine sim_loop ?_ _ _ _ _ _ hf1 ⟨⟨hg, hs, hd⟩, i1, i7, i17, i18, i19, trivial⟩ Q4 W4 hgo hex hret
  clear hr hf1 hgo hex hret W4 hQ hg hs hd i1 i17 i18 i19 i7
  intro s1 fl_ a k hr hS Q hQ hgo734 hex735 hret736
  obtain ⟨⟨hg, hs, hd⟩, i1, i7, i17, i18, i19, _⟩ := hS
  unfold cRun_L0 at hr
  refine stepL 1 (_ :: []) rfl ⟨hg, hs, hd⟩ (by kernel_rfl) ⟨o1 [(19, none), (18, none)] rfl fun _ _ h n => ok_lss rfl (up i19 h n.1) (up i18 h n.2.1), trivial⟩ [⟨_, _⟩, ⟨_, _⟩, ⟨_, _⟩, ⟨_, _⟩, ⟨_, _⟩, ⟨_, _⟩] (fun b q p => ⟨p.ke 1 rfl i1, p.ke 7 rfl i7, p.ke 17 rfl i17, p.ke 18 rfl i18, p.ke 19 rfl i19, p.ou 0 20 rfl, trivial⟩) ?_
  rintro a k ⟨⟨hg, hs, hd⟩, i1, i7, i17, i18, i19, i20, _⟩
  refine wp_seq ?_
  refine wp_cond_split (isBool i20) (fun hc757 => ?_) (fun hc757 => ?_)
  ·rw [if_pos hc757] at hr
   refine wp_skip ?_
   refine wp_seq ?_
   refine wp_block ?_
   refine wp_seq ?_
   obtain ⟨x3, hx3, hr⟩ := bind_some hr
   refine cut (fun a' k' => Bs noF k0 40 a' k' ∧ (IsV moves_) (a'.get 1) k' ∧ (IsV s1.1) (a'.get 7) k' ∧ (IsV s1.2) (a'.get 8) k' ∧ (IsRef x3) (a'.get 9) k' ∧ (IsV moves_) (a'.get 17) k' ∧ (IsL moves_) (a'.get 18) k' ∧ (IsV s1.2) (a'.get 19) k' ∧ True) ?_ hQ ?_
   ·intro Q5 W5 w4
    refine gS 5 (_ :: _ :: _ :: ⟨some (IsBox k.w.heap.size (⟨0, 0, 0, 0⟩ : Move)), []⟩ :: _ :: []) hs (by kernel_rfl) ⟨mu rfl i19, o1 [(17, none), (19, none)] rfl fun _ _ h n => ok_indexAddr rfl Try.underlying23 ty33 (IsV.rd (up i17 h n.1)) (up i19 h n.2.1) hx3, o1 [(22, some 1)] rfl fun _ _ h n => ok_load rfl ty33 n.1, ob1 rfl fun _ _ h n => ok_alloc _ h.size rfl z33, cp 0 rfl rfl, trivial⟩ W5 fun b q p => ?_
    have hgq := hg.then p.grow
    have hsb := p.size.trans hs
    have hdb := p.defers.trans hd
    have j1 := p.ke 1 rfl i1
    have j7 := p.ke 7 rfl i7
    have j8 : (IsV s1.2) (b.get 8) q := p.ou 4 8 rfl
    obtain ⟨b9, j9, x9, z9⟩ : (IsBox k.w.heap.size (⟨0, 0, 0, 0⟩ : Move)) (b.get 9) q := p.ou 3 9 rfl
    replace x9 : Lo k (Eq b9) := Lo.eq x9
    have y9 : Lo k0 (Eq b9) := x9.chg hg
    have j17 := p.ke 17 rfl i17
    have j18 := p.ke 18 rfl i18
    have j19 := p.ke 19 rfl i19
    have j23 : (IsV x3) (b.get 23) q := p.ou 2 23 rfl
    have hns := z9.nshF
    refine tail_storeB (i := 5) rfl rfl rfl rfl szf33 (Upd.self (α := Move)) j9 z9 j23 fun q2 hch hz => ?_
    replace hgq := hgq.step hch y9.wr
    have hle := hch.le hns
    replace j1 := Pers.pers hle j1
    replace j7 := Pers.pers hle j7
    replace j8 := Pers.pers hle j8
    replace j17 := Pers.pers hle j17
    replace j18 := Pers.pers hle j18
    replace j19 := Pers.pers hle j19
    replace j23 := Pers.pers hle j23
    replace z9 := hz
    clear hns hle hch
    obtain ⟨q, hqq⟩ : ∃ q, q = q2 := ⟨q2, rfl⟩
    subst hqq
    obtain ⟨q2, hsh, jn⟩ := z9.give
    replace j1 := Pers.pers hsh.le j1
    replace j7 := Pers.pers hsh.le j7
    replace j8 := Pers.pers hsh.le j8
    replace j17 := Pers.pers hsh.le j17
    replace j18 := Pers.pers hsh.le j18
    replace j19 := Pers.pers hsh.le j19
    rw [← j9] at jn
    replace j9 := jn
    replace hgq := hgq.hand hsh y9.wr
    rw [← hsh.w]
    clear hsh
    obtain ⟨q, hqq⟩ : ∃ q, q = q2 := ⟨q2, rfl⟩
    subst hqq
    exact tail_done (k := q) (w4 _ _ ⟨⟨hgq, hsb, hdb⟩, j1, j7, j8, j9, j17, j18, j19, trivial⟩)
   rintro a k ⟨⟨hg, hs, hd⟩, i1, i7, i8, i9, i17, i18, i19, _⟩
   refine wp_seq ?_
   obtain ⟨x4, hx4, hr⟩ := bind_some hr
   refine cut (fun a' k' => Bs noF k0 40 a' k' ∧ (IsV moves_) (a'.get 1) k' ∧ (IsV s1.1) (a'.get 7) k' ∧ (IsV s1.2) (a'.get 8) k' ∧ (IsV x4.1) (a'.get 10) k' ∧ (IsV x4.2) (a'.get 11) k' ∧ (IsV moves_) (a'.get 17) k' ∧ (IsL moves_) (a'.get 18) k' ∧ (IsV s1.2) (a'.get 19) k' ∧ True) ?_ hQ ?_
   ·intro Q6 W6 w5
    refine gS 8 (_ :: _ :: _ :: _ :: _ :: _ :: _ :: _ :: []) hs (by kernel_rfl) ⟨mu rfl i7, o1 [(9, none)] rfl fun _ _ h n => ok_load rfl ty33 ((up i9 h n.1)).ptr, o1 [(25, some 0), (26, some 1)] rfl fun _ _ h n => ok_call rfl Try.call13 (cDo_ok n.1 n.2.1 hx4), cm 2 rfl rfl, o1 [(24, some 3)] rfl fun _ _ h n => ok_ext2_0 rfl n.1, o1 [(24, some 3)] rfl fun _ _ h n => ok_ext2_1 rfl n.1, cp 4 rfl rfl, cp 5 rfl rfl, trivial⟩ W6 fun b q p => ?_
    exact tail_done (k := q) (w5 _ _ ⟨Bs.post ⟨hg, hs, hd⟩ p, p.ke 1 rfl i1, p.ke 7 rfl i7, p.ke 8 rfl i8, p.ou 6 10 rfl, p.ou 7 11 rfl, p.ke 17 rfl i17, p.ke 18 rfl i18, p.ke 19 rfl i19, trivial⟩)
   rintro a k ⟨⟨hg, hs, hd⟩, i1, i7, i8, i10, i11, i17, i18, i19, _⟩
   refine wp_seq ?_
   refine stepL 2 (_ :: ⟨some (IsV (x4.2 != 0)), [(30, some 0)]⟩ :: []) rfl ⟨hg, hs, hd⟩ (by kernel_rfl) ⟨mu rfl i11, ob1 rfl fun _ _ h n => ok_neI rfl n.1 (cI rfl), trivial⟩ [⟨_, _⟩, ⟨_, _⟩, ⟨_, _⟩, ⟨_, _⟩, ⟨_, _⟩, ⟨_, _⟩, ⟨_, _⟩, ⟨_, _⟩, ⟨_, _⟩] (fun b q p => ⟨p.ke 1 rfl i1, p.ke 7 rfl i7, p.ke 8 rfl i8, p.ke 10 rfl i10, p.ke 11 rfl i11, p.ke 17 rfl i17, p.ke 18 rfl i18, p.ke 19 rfl i19, p.ou 1 31 rfl, trivial⟩) ?_
   rintro a k ⟨⟨hg, hs, hd⟩, i1, i7, i8, i10, i11, i17, i18, i19, i31, _⟩
   refine wp_cond_split (isBool i31) (fun hc750 => ?_) (fun hc750 => ?_)
   ·rw [if_pos hc750] at hr
    refine stepL 6 (_ :: _ :: _ :: _ :: _ :: _ :: []) rfl ⟨hg, hs, hd⟩ (by kernel_rfl) ⟨mu rfl i7, mu rfl i8, mu rfl i11, cp 0 rfl rfl, cp 1 rfl rfl, cp 2 rfl rfl, trivial⟩ [⟨_, _⟩, ⟨_, _⟩, ⟨_, _⟩] (fun b q p => ⟨p.ou 3 4 rfl, p.ou 4 5 rfl, p.ou 5 6 rfl, trivial⟩) ?_
    rintro a k ⟨⟨hg, hs, hd⟩, i4, i5, i6, _⟩
    refine wp_ret ?_
    exact hret736 _ _ _ (Option.some.inj hr).symm (retC3 rfl hd hg i4 i5 i6)
   rw [if_neg (by rw [hc750]; decide)] at hr
   refine wp_skip ?_
   refine cut (fun a' k' => Bs noF k0 40 a' k' ∧ (IsV moves_) (a'.get 1) k' ∧ (IsV x4.1) (a'.get 7) k' ∧ (IsV moves_) (a'.get 17) k' ∧ (IsL moves_) (a'.get 18) k' ∧ (IsV s1.2) (a'.get 19) k' ∧ True) ?_ hQ ?_
   ·intro Q7 W7 w6
    refine gS 2 (_ :: _ :: []) hs (by kernel_rfl) ⟨mu rfl i10, cp 0 rfl rfl, trivial⟩ W7 fun b q p => ?_
    exact tail_done (k := q) (w6 _ _ ⟨Bs.post ⟨hg, hs, hd⟩ p, p.ke 1 rfl i1, p.ou 1 7 rfl, p.ke 17 rfl i17, p.ke 18 rfl i18, p.ke 19 rfl i19, trivial⟩)
   rintro a k ⟨⟨hg, hs, hd⟩, i1, i7, i17, i18, i19, _⟩
   obtain ⟨x5, hx5, hr⟩ := bind_some hr
   refine cut (fun a' k' => Bs noF k0 40 a' k' ∧ (IsV moves_) (a'.get 1) k' ∧ (IsV x4.1) (a'.get 7) k' ∧ (IsV moves_) (a'.get 17) k' ∧ (IsL moves_) (a'.get 18) k' ∧ (IsV x5) (a'.get 19) k' ∧ True) ?_ hQ ?_
   ·intro Q8 W8 w7
    refine gS 2 (_ :: _ :: []) hs (by kernel_rfl) ⟨o1 [(19, none)] rfl fun _ _ h n => ok_add rfl (up i19 h n.1) (cI rfl) hx5, cm 0 rfl rfl, trivial⟩ W8 fun b q p => ?_
    exact tail_done (k := q) (w7 _ _ ⟨Bs.post ⟨hg, hs, hd⟩ p, p.ke 1 rfl i1, p.ke 7 rfl i7, p.ke 17 rfl i17, p.ke 18 rfl i18, p.ou 1 19 rfl, trivial⟩)
   rintro a k ⟨⟨hg, hs, hd⟩, i1, i7, i17, i18, i19, _⟩
   exact hgo734 _ _ _ (Option.some.inj hr).symm ⟨⟨hg, hs, hd⟩, i1, i7, i17, i18, i19, trivial⟩
  rw [if_neg (by rw [hc757]; decide)] at hr
  refine wp_exit ?_
  exact hex735 _ _ _ _ (Option.some.inj hr).symm ⟨rfl, ⟨hg, hs, hd⟩, i1, i7, trivial⟩
 ·rintro r1 a k rfl hR
  dsimp only at hr
  obtain rfl := Option.some.inj hr
  exact hR
 ·rintro _ _ _ rfl _
  simp at hr
 clear hf1
 rintro _ s2 a k rfl ⟨rfl, ⟨hg, hs, hd⟩, i1, i7, _⟩
 dsimp only at hr
 refine stepL 6 (_ :: _ :: _ :: _ :: _ :: ⟨some (IsI 0), []⟩ :: []) rfl ⟨hg, hs, hd⟩ (by kernel_rfl) ⟨mu rfl i7, mu rfl i1, o1 [(38, some 1)] rfl fun _ _ h n => ok_len rfl rfl Try.underlying23 (IsV.rd n.1), cp 0 rfl rfl, cp 2 rfl rfl, aI rfl rfl, trivial⟩ [⟨_, _⟩, ⟨_, _⟩, ⟨_, _⟩] (fun b q p => ⟨p.ou 3 4 rfl, p.ou 4 5 rfl, p.ou 5 6 rfl, trivial⟩) ?_
 rintro a k ⟨⟨hg, hs, hd⟩, i4, i5, i6, _⟩
 refine wp_ret ?_
 obtain rfl := Option.some.inj hr
 exact retC3 rfl hd hg i4 i5 i6
def cTrace_L0 (l_ : (List Account)) (s1 : (GMap Int (List (Int × Int))) × Int) : Option (Flow ((GMap Int (List (Int × Int))) × Int) ((List (Int × Int)) × Int)) :=
 if (decide (s1.2 < (l_.length : Int))) then
  (getI l_ s1.2).bind fun x1 =>
  (cPut s1.1 x1.Lot x1.Lot x1.Units).bind fun x2 =>
  (addI s1.2 1).bind fun x3 =>
  some (.go (x2, x3))
 else
  some (.ex 0 (s1.1, s1.2))
def cTrace_L1 (moves_ : (List Move)) (s1 : (GMap Int (List (Int × Int))) × Int) : Option (Flow ((GMap Int (List (Int × Int))) × Int) ((List (Int × Int)) × Int)) :=
 if (decide (s1.2 < (moves_.length : Int))) then
  (getI moves_ s1.2).bind fun x1 =>
  (if (x1.Kind == 0) then
   (cPut s1.1 x1.To x1.To x1.N).bind fun x2 =>
   some x2
  else
   (if (x1.Kind == 1) then
    (cTake s1.1 x1.From x1.To x1.N).bind fun x3 =>
    some x3
   else
    (if (x1.Kind == 2) then
     (cTake s1.1 x1.From 0 x1.N).bind fun x4 =>
     some x4
    else
     (if (x1.Kind == 3) then
      (cTake s1.1 x1.From (-1) x1.N).bind fun x5 =>
      some x5
     else
      some s1.1).bind fun s2 =>
     some s2).bind fun s3 =>
    some s3).bind fun s4 =>
   some s4).bind fun s5 =>
  (addI s1.2 1).bind fun x6 =>
  some (.go (s5, x6))
 else
  some (.ex 2 (s1.1, s1.2))
def cTrace (l_ : (List Account)) (moves_ : (List Move)) (lot_ : Int) : Option ((List (Int × Int)) × Int) :=
 (cRun l_ moves_).bind fun x1 =>
 if (x1.2.2 != 0) then
  some (([] : List (Int × Int)), x1.2.2)
 else
  (iterL (cTrace_L0 l_) (l_.length + 1) ((⟨[]⟩ : (GMap Int (List (Int × Int)))), 0)).bind fun f1 => match f1 with
   | .go _ => none
   | .ex _ s1 =>
    (iterL (cTrace_L1 moves_) (moves_.length + 1) (s1.1, 0)).bind fun f2 => match f2 with
     | .go _ => none
     | .ex _ s2 =>
      some ((((s2.1).get lot_).getD ([])), 0)
     | .ret r1 => some r1
   | .ret r2 => some r2
theorem cTrace_ok {k0 : K} {v0 v1 v2 : Value} {l_ : (List Account)} {moves_ : (List Move)} {lot_ : Int} {r : (List (Int × Int)) × Int} (i0 : (IsV l_) v0 k0) (i1 : (IsV moves_) v1 k0) (i2 : (IsV lot_) v2 k0) (hr : cTrace l_ moves_ lot_ = some r) :
  Calls Try.prog 11 #[v0, v1, v2] k0.w (Ret k0 (IsTup2 (IsV r.1) (IsV r.2))) := by
 unfold cTrace at hr
 refine Ret.ofC ?_
 refine enterK Try.func11 rfl Try.ntmps11 (show 3 ≤ 90 by decide) fun a k hk0 hs hd ha => ?_
 obtain ⟨e0, e1, e2, _⟩ := ha
 replace i0 : (IsV l_) (a.get 0) k := by rw [e0, hk0]; exact i0
 replace i1 : (IsV moves_) (a.get 1) k := by rw [e1, hk0]; exact i1
 replace i2 : (IsV lot_) (a.get 2) k := by rw [e2, hk0]; exact i2
 have hQ : Gb.LetsOut (bodyPost Try.prog Try.f11 (RetC noF k0 (IsTup2 (IsV r.1) (IsV r.2)))) := letsOutC
 have hg : Chg noF k0 k := by rw [hk0]; exact Chg.refl _ k0
 refine stepL 2 (⟨some IsE0, []⟩ :: ⟨some (IsI 0), []⟩ :: []) rfl ⟨hg, hs, hd⟩ (by kernel_rfl) ⟨ob1 rfl fun b q h n => ok_assign rfl isE0_nil, aI rfl rfl, trivial⟩ [⟨_, _⟩, ⟨_, _⟩, ⟨_, _⟩] (fun b q p => ⟨p.ke 0 rfl i0, p.ke 1 rfl i1, p.ke 2 rfl i2, trivial⟩) ?_
 rintro a k ⟨⟨hg, hs, hd⟩, i0, i1, i2, _⟩
 refine wp_seq ?_
 refine wp_seq ?_
 obtain ⟨x1, hx1, hr⟩ := bind_some hr
 refine cut (fun a' k' => Bs noF k0 90 a' k' ∧ (IsV l_) (a'.get 0) k' ∧ (IsV moves_) (a'.get 1) k' ∧ (IsV lot_) (a'.get 2) k' ∧ (IsV x1.2.2) (a'.get 10) k' ∧ True) ?_ hQ ?_
 ·intro Q1 W1 w1
  refine gS 10 (_ :: _ :: _ :: _ :: _ :: _ :: _ :: _ :: _ :: _ :: []) hs (by kernel_rfl) ⟨mu rfl i0, mu rfl i1, o1 [(17, some 0), (18, some 1)] rfl fun _ _ h n => ok_call rfl Try.call10 (cRun_ok n.1 n.2.1 hx1), cm 2 rfl rfl, o1 [(16, some 3)] rfl fun _ _ h n => ok_ext3_0 rfl n.1, o1 [(16, some 3)] rfl fun _ _ h n => ok_ext3_1 rfl n.1, o1 [(16, some 3)] rfl fun _ _ h n => ok_ext3_2 rfl n.1, cp 4 rfl rfl, cp 5 rfl rfl, cp 6 rfl rfl, trivial⟩ W1 fun b q p => ?_
  exact tail_done (k := q) (w1 _ _ ⟨Bs.post ⟨hg, hs, hd⟩ p, p.ke 0 rfl i0, p.ke 1 rfl i1, p.ke 2 rfl i2, p.ou 9 10 rfl, trivial⟩)
 rintro a k ⟨⟨hg, hs, hd⟩, i0, i1, i2, i10, _⟩
 refine stepL 2 (_ :: ⟨some (IsV (x1.2.2 != 0)), [(23, some 0)]⟩ :: []) rfl ⟨hg, hs, hd⟩ (by kernel_rfl) ⟨mu rfl i10, ob1 rfl fun _ _ h n => ok_neI rfl n.1 (cI rfl), trivial⟩ [⟨_, _⟩, ⟨_, _⟩, ⟨_, _⟩, ⟨_, _⟩, ⟨_, _⟩] (fun b q p => ⟨p.ke 0 rfl i0, p.ke 1 rfl i1, p.ke 2 rfl i2, p.ke 10 rfl i10, p.ou 1 24 rfl, trivial⟩) ?_
 rintro a k ⟨⟨hg, hs, hd⟩, i0, i1, i2, i10, i24, _⟩
 refine wp_cond_split (isBool i24) (fun hc877 => ?_) (fun hc877 => ?_)
 ·rw [if_pos hc877] at hr
  refine cutL noF k0 90 [⟨6, IsV ([] : List (Int × Int))⟩, ⟨7, IsV x1.2.2⟩] ?_ ?_
  ·intro Q2 W2 w2
   refine gS 3 (_ :: ⟨some IsE0, []⟩ :: _ :: []) hs (by kernel_rfl) ⟨mu rfl i10, ob1 rfl fun b q h n => ok_assign rfl isE0_nil, cp 0 rfl rfl, trivial⟩ W2 fun b q p => ?_
   have hgq := hg.then p.grow
   have hsb := p.size.trans hs
   have hdb := p.defers.trans hd
   have j6 : IsE0 (b.get 6) q := p.ou 1 6 rfl
   have j7 : (IsV x1.2.2) (b.get 7) q := p.ou 2 7 rfl
   replace j6 : IsV ([] : List (Int × Int)) (b.get 6) q := j6.isV
   exact tail_done (k := q) (w2 _ _ ⟨⟨hgq, hsb, hdb⟩, j6, j7, trivial⟩)
  rintro a k ⟨⟨hg, hs, hd⟩, i6, i7, _⟩
  refine wp_ret ?_
  obtain rfl := Option.some.inj hr
  exact retC2 rfl hd hg i6 i7
 rw [if_neg (by rw [hc877]; decide)] at hr
 refine wp_skip ?_
 refine cutS (fun c l => ∃ F11, Bs noF k0 90 c l ∧ IsV l_ (c.get 0) l ∧ IsV moves_ (c.get 1) l ∧ IsV lot_ (c.get 2) l ∧ (SlR (KeyV.kv (κ := Int)) 37 ((⟨[]⟩ : (GMap Int (List (Int × Int))))).l) F11 (c.get 11) l ∧ Lo k0 F11 ∧ True) ?_ ?_
 ·intro Q3 W3 w3
  refine gS 2 (⟨some (IsNewMap (KeyV.kv (κ := Int)) k.w.heap.size), []⟩ :: _ :: []) hs (by kernel_rfl) ⟨ob1 rfl fun _ _ h n => ok_makeMap h.size rfl, cp 0 rfl rfl, trivial⟩ W3 fun b q p => ?_
  have hgq := hg.then p.grow
  have hsb := p.size.trans hs
  have hdb := p.defers.trans hd
  have j0 := p.ke 0 rfl i0
  have j1 := p.ke 1 rfl i1
  have j2 := p.ke 2 rfl i2
  obtain ⟨F11, j11, x11⟩ : ∃ F, (SlR (KeyV.kv (κ := Int)) 37 ((⟨[]⟩ : (GMap Int (List (Int × Int))))).l) F (b.get 11) q ∧ Lo k F := SlR.new (p.ou 1 11 rfl)
  have y11 : Lo k0 F11 := x11.chg hg
  exact tail_done (k := q) (w3 _ _ ⟨F11, ⟨hgq, hsb, hdb⟩, j0, j1, j2, j11, y11, trivial⟩)
 rintro a k ⟨F11, ⟨hg, hs, hd⟩, i0, i1, i2, i11, n11, _⟩
 refine wp_seq ?_
 refine cutS (fun c l => ∃ F11, Bs noF k0 90 c l ∧ IsV moves_ (c.get 1) l ∧ IsV lot_ (c.get 2) l ∧ (SlR (KeyV.kv (κ := Int)) 37 ((⟨[]⟩ : (GMap Int (List (Int × Int))))).l) F11 (c.get 11) l ∧ Lo k0 F11 ∧ IsV l_ (c.get 27) l ∧ IsL l_ (c.get 28) l ∧ IsI 0 (c.get 29) l ∧ True) ?_ ?_
 ·intro Q4 W4 w4
  refine gS 3 (_ :: _ :: ⟨some (IsI 0), []⟩ :: []) hs (by kernel_rfl) ⟨mu rfl i0, o1 [(27, some 0)] rfl fun _ _ h n => ok_len rfl rfl Try.underlying22 (IsV.rd n.1), ob1 rfl fun _ _ h n => ok_move rfl (cI rfl), trivial⟩ W4 fun b q p => ?_
  exact tail_done (k := q) (w4 _ _ ⟨F11, Bs.post ⟨hg, hs, hd⟩ p, p.ke 1 rfl i1, p.ke 2 rfl i2, p.ke 11 rfl i11, n11, p.ou 0 27 rfl, p.ou 1 28 rfl, p.ou 2 29 rfl, trivial⟩)
 rintro a k ⟨F11, ⟨hg, hs, hd⟩, i1, i2, i11, n11, i27, i28, i29, _⟩
 refine wp_block ?_
 obtain ⟨f1, hf1, hr⟩ := bind_some hr
 refine cutFe f1 (fun s' c l => ∃ F11, Bs noF k0 90 c l ∧ IsV moves_ (c.get 1) l ∧ IsV lot_ (c.get 2) l ∧ (SlR (KeyV.kv (κ := Int)) 37 (s'.1).l) F11 (c.get 11) l ∧ Lo k0 F11 ∧ IsV l_ (c.get 27) l ∧ IsL l_ (c.get 28) l ∧ IsV s'.2 (c.get 29) l ∧ True) (fun i' s' c l => (i' = 0 ∧ ∃ F11, Bs noF k0 90 c l ∧ IsV moves_ (c.get 1) l ∧ IsV lot_ (c.get 2) l ∧ (SlR (KeyV.kv (κ := Int)) 37 (s'.1).l) F11 (c.get 11) l ∧ Lo k0 F11 ∧ True)) (fun r' c l => bodyPost Try.prog Try.f11 (RetC noF k0 (IsTup2 (IsV r'.1) (IsV r'.2))) .ret c l.w) ?_ hQ ?_ ?_ ?_
 ·intro Q5 W5 hgo hex hret
  refine sim_loop ?_ _ _ _ _ _ hf1 ⟨F11, ⟨hg, hs, hd⟩, i1, i2, i11, n11, i27, i28, i29, trivial⟩ Q5 W5 hgo hex hret
  clear hr hf1 hgo hex hret W5 hQ hg hs hd F11 i1 i11 i2 i27 i28 i29 n11
  intro s1 fl_ a k hr hS Q hQ hgo785 hex786 hret787
  obtain ⟨F11, ⟨hg, hs, hd⟩, i1, i2, i11, n11, i27, i28, i29, _⟩ := hS
  unfold cTrace_L0 at hr
  refine cutS (fun c l => ∃ F11, Bs noF k0 90 c l ∧ IsV moves_ (c.get 1) l ∧ IsV lot_ (c.get 2) l ∧ (SlR (KeyV.kv (κ := Int)) 37 (s1.1).l) F11 (c.get 11) l ∧ Lo k0 F11 ∧ IsV l_ (c.get 27) l ∧ IsL l_ (c.get 28) l ∧ IsV s1.2 (c.get 29) l ∧ (IsV (decide (s1.2 < (l_.length : Int)))) (c.get 30) l ∧ True) ?_ ?_
  ·intro Q6 W6 w5
   refine gS 1 (_ :: []) hs (by kernel_rfl) ⟨o1 [(29, none), (28, none)] rfl fun _ _ h n => ok_lss rfl (up i29 h n.1) (up i28 h n.2.1), trivial⟩ W6 fun b q p => ?_
   exact tail_done (k := q) (w5 _ _ ⟨F11, Bs.post ⟨hg, hs, hd⟩ p, p.ke 1 rfl i1, p.ke 2 rfl i2, p.ke 11 rfl i11, n11, p.ke 27 rfl i27, p.ke 28 rfl i28, p.ke 29 rfl i29, p.ou 0 30 rfl, trivial⟩)
  rintro a k ⟨F11, ⟨hg, hs, hd⟩, i1, i2, i11, n11, i27, i28, i29, i30, _⟩
  refine wp_seq ?_
  refine wp_cond_split (isBool i30) (fun hc798 => ?_) (fun hc798 => ?_)
  ·rw [if_pos hc798] at hr
   refine wp_skip ?_
   refine wp_seq ?_
   refine wp_block ?_
   refine wp_seq ?_
   obtain ⟨x2, hx2, hr⟩ := bind_some hr
   refine cut (fun a' k' => ∃ F11, Bs noF k0 90 a' k' ∧ (IsV moves_) (a'.get 1) k' ∧ (IsV lot_) (a'.get 2) k' ∧ (SlR (KeyV.kv (κ := Int)) 37 (s1.1).l) F11 (a'.get 11) k' ∧ Lo k0 F11 ∧ (IsRef x2) (a'.get 13) k' ∧ (IsV l_) (a'.get 27) k' ∧ (IsL l_) (a'.get 28) k' ∧ (IsV s1.2) (a'.get 29) k' ∧ True) ?_ hQ ?_
   ·intro Q7 W7 w6
    refine gS 3 (_ :: _ :: ⟨some (IsBox k.w.heap.size (⟨0, 0, false⟩ : Account)), []⟩ :: []) hs (by kernel_rfl) ⟨o1 [(27, none), (29, none)] rfl fun _ _ h n => ok_indexAddr rfl Try.underlying22 ty35 (IsV.rd (up i27 h n.1)) (up i29 h n.2.1) hx2, o1 [(31, some 0)] rfl fun _ _ h n => ok_load rfl ty35 n.1, ob1 rfl fun _ _ h n => ok_alloc _ h.size rfl z35, trivial⟩ W7 fun b q p => ?_
    have hgq := hg.then p.grow
    have hsb := p.size.trans hs
    have hdb := p.defers.trans hd
    have j1 := p.ke 1 rfl i1
    have j2 := p.ke 2 rfl i2
    have j11 : (SlR (KeyV.kv (κ := Int)) 37 (s1.1).l) F11 (b.get 11) q := p.ke 11 rfl i11
    have y11 := n11
    obtain ⟨b13, j13, x13, z13⟩ : (IsBox k.w.heap.size (⟨0, 0, false⟩ : Account)) (b.get 13) q := p.ou 2 13 rfl
    replace x13 : Lo k (Eq b13) := Lo.eq x13
    have y13 : Lo k0 (Eq b13) := x13.chg hg
    have j27 := p.ke 27 rfl i27
    have j28 := p.ke 28 rfl i28
    have j29 := p.ke 29 rfl i29
    have j32 : (IsV x2) (b.get 32) q := p.ou 1 32 rfl
    have w11_13 : Apart F11 (Eq b13) := Apart.new (Rsc.lt i11) x13
    have hns := z13.nshF
    refine tail_storeB (i := 3) rfl rfl rfl rfl szf35 (Upd.self (α := Account)) j13 z13 j32 fun q2 hch hz => ?_
    replace hgq := hgq.step hch y13.wr
    have hle := hch.le hns
    replace j1 := Pers.pers hle j1
    replace j2 := Pers.pers hle j2
    replace j11 := Rsc.keep j11 hch w11_13 hns
    replace j27 := Pers.pers hle j27
    replace j28 := Pers.pers hle j28
    replace j29 := Pers.pers hle j29
    replace j32 := Pers.pers hle j32
    replace z13 := hz
    clear hns hle hch
    obtain ⟨q, hqq⟩ : ∃ q, q = q2 := ⟨q2, rfl⟩
    subst hqq
    obtain ⟨q2, hsh, jn⟩ := z13.give
    replace j1 := Pers.pers hsh.le j1
    replace j2 := Pers.pers hsh.le j2
    replace j11 := Rsc.handed j11 hsh w11_13
    replace j27 := Pers.pers hsh.le j27
    replace j28 := Pers.pers hsh.le j28
    replace j29 := Pers.pers hsh.le j29
    rw [← j13] at jn
    replace j13 := jn
    replace hgq := hgq.hand hsh y13.wr
    rw [← hsh.w]
    clear hsh
    obtain ⟨q, hqq⟩ : ∃ q, q = q2 := ⟨q2, rfl⟩
    subst hqq
    exact tail_done (k := q) (w6 _ _ ⟨F11, ⟨hgq, hsb, hdb⟩, j1, j2, j11, y11, j13, j27, j28, j29, trivial⟩)
   rintro a k ⟨F11, ⟨hg, hs, hd⟩, i1, i2, i11, n11, i13, i27, i28, i29, _⟩
   obtain ⟨x3, hx3, hr⟩ := bind_some hr
   refine cut (fun a' k' => ∃ F11, Bs noF k0 90 a' k' ∧ (IsV moves_) (a'.get 1) k' ∧ (IsV lot_) (a'.get 2) k' ∧ (SlR (KeyV.kv (κ := Int)) 37 (x3).l) F11 (a'.get 11) k' ∧ Lo k0 F11 ∧ (IsV l_) (a'.get 27) k' ∧ (IsL l_) (a'.get 28) k' ∧ (IsV s1.2) (a'.get 29) k' ∧ True) ?_ hQ ?_
   ·intro Q8 W8 w7
    refine gS 7 (⟨some (Is (a.get 11)), [(11, none)]⟩ :: _ :: _ :: _ :: _ :: _ :: _ :: []) hs (by kernel_rfl) ⟨ob1 rfl fun _ _ h n => ok_move rfl n.1, o1 [(13, none)] rfl fun _ _ h n => ok_fieldAddr rfl fo35_0 (at_Account_0 _) ((up i13 h n.1)).ptr, o1 [(34, some 1)] rfl fun _ _ h n => ok_load rfl ty3 n.1, o1 [(13, none)] rfl fun _ _ h n => ok_fieldAddr rfl fo35_0 (at_Account_0 _) ((up i13 h n.1)).ptr, o1 [(36, some 3)] rfl fun _ _ h n => ok_load rfl ty3 n.1, o1 [(13, none)] rfl fun _ _ h n => ok_fieldAddr rfl fo35_1 (at_Account_1 _) ((up i13 h n.1)).ptr, o1 [(38, some 5)] rfl fun _ _ h n => ok_load rfl ty3 n.1, trivial⟩ W8 fun b q p => ?_
    have hgq := hg.then p.grow
    have hsb := p.size.trans hs
    have hdb := p.defers.trans hd
    have j1 := p.ke 1 rfl i1
    have j2 := p.ke 2 rfl i2
    have j11 : (SlR (KeyV.kv (κ := Int)) 37 (s1.1).l) F11 (b.get 11) q := p.ke 11 rfl i11
    have y11 := n11
    have j27 := p.ke 27 rfl i27
    have j28 := p.ke 28 rfl i28
    have j29 := p.ke 29 rfl i29
    have j33 : b.get 33 = b.get 11 := (show b.get 33 = a.get 11 from p.ou 0 33 rfl).trans (p.old 11 rfl).symm
    have j35 : (IsV x2.Lot) (b.get 35) q := p.ou 2 35 rfl
    have j37 : (IsV x2.Lot) (b.get 37) q := p.ou 4 37 rfl
    have j39 : (IsV x2.Units) (b.get 39) q := p.ou 6 39 rfl
    have hns := Rsc.nsh j11
    refine tail_call (F := F11) (i := 7) (d := 40) rfl rfl rfl rfl (by rw [hsb]; decide) Try.call26 W8 (cPut_ok (show (SlR (KeyV.kv (κ := Int)) 37 (s1.1).l) F11 (b.get 33) q by rw [j33]; exact j11) j35 j37 j39 hx3) fun b2 q2 hsz hdf hoth hch hres => ?_
    have hle := hch.le hns
    obtain ⟨G11, hown, hob⟩ := hres
    rw [show b.eval (.tmp 33) = b.get 11 from j33] at hown
    have yn : Lo k0 G11 := fun c hc => (hob c hc).elim (y11 c) (fun h => Nat.le_trans hgq.size h)
    replace j1 := Pers.pers hle j1
    replace j2 := Pers.pers hle j2
    replace j27 := Pers.pers hle j27
    replace j28 := Pers.pers hle j28
    replace j29 := Pers.pers hle j29
    replace j35 := Pers.pers hle j35
    replace j37 := Pers.pers hle j37
    replace j39 := Pers.pers hle j39
    replace hgq := hgq.step hch y11.wr
    rw [← hoth 1 (by decide)] at j1
    rw [← hoth 2 (by decide)] at j2
    rw [← hoth 27 (by decide)] at j27
    rw [← hoth 28 (by decide)] at j28
    rw [← hoth 29 (by decide)] at j29
    rw [← hoth 35 (by decide)] at j35
    rw [← hoth 37 (by decide)] at j37
    rw [← hoth 39 (by decide)] at j39
    rw [← hoth 11 (by decide)] at hown
    replace j11 := hown
    replace y11 := yn
    clear hown hob yn hle hch hns
    obtain ⟨F11, hFF⟩ : ∃ F, F = G11 := ⟨_, rfl⟩
    subst hFF
    replace hsb := hsz.trans hsb
    replace hdb := hdf.trans hdb
    clear hsz hdf hoth
    obtain ⟨b, hbb⟩ : ∃ b, b = b2 := ⟨b2, rfl⟩
    subst hbb
    obtain ⟨q, hqq⟩ : ∃ q, q = q2 := ⟨q2, rfl⟩
    subst hqq
    exact tail_done (k := q) (w7 _ _ ⟨F11, ⟨hgq, hsb, hdb⟩, j1, j2, j11, y11, j27, j28, j29, trivial⟩)
   rintro a k ⟨F11, ⟨hg, hs, hd⟩, i1, i2, i11, n11, i27, i28, i29, _⟩
   obtain ⟨x4, hx4, hr⟩ := bind_some hr
   refine cut (fun a' k' => ∃ F11, Bs noF k0 90 a' k' ∧ (IsV moves_) (a'.get 1) k' ∧ (IsV lot_) (a'.get 2) k' ∧ (SlR (KeyV.kv (κ := Int)) 37 (x3).l) F11 (a'.get 11) k' ∧ Lo k0 F11 ∧ (IsV l_) (a'.get 27) k' ∧ (IsL l_) (a'.get 28) k' ∧ (IsV x4) (a'.get 29) k' ∧ True) ?_ hQ ?_
   ·intro Q9 W9 w8
    refine gS 2 (_ :: _ :: []) hs (by kernel_rfl) ⟨o1 [(29, none)] rfl fun _ _ h n => ok_add rfl (up i29 h n.1) (cI rfl) hx4, cm 0 rfl rfl, trivial⟩ W9 fun b q p => ?_
    exact tail_done (k := q) (w8 _ _ ⟨F11, Bs.post ⟨hg, hs, hd⟩ p, p.ke 1 rfl i1, p.ke 2 rfl i2, p.ke 11 rfl i11, n11, p.ke 27 rfl i27, p.ke 28 rfl i28, p.ou 1 29 rfl, trivial⟩)
   rintro a k ⟨F11, ⟨hg, hs, hd⟩, i1, i2, i11, n11, i27, i28, i29, _⟩
   exact hgo785 _ _ _ (Option.some.inj hr).symm ⟨F11, ⟨hg, hs, hd⟩, i1, i2, i11, n11, i27, i28, i29, trivial⟩
  rw [if_neg (by rw [hc798]; decide)] at hr
  refine wp_exit ?_
  exact hex786 _ _ _ _ (Option.some.inj hr).symm ⟨rfl, F11, ⟨hg, hs, hd⟩, i1, i2, i11, n11, trivial⟩
 ·rintro r1 a k rfl hR
  dsimp only at hr
  obtain rfl := Option.some.inj hr
  exact hR
 ·rintro _ _ _ rfl _
  simp at hr
 clear hf1
 rintro _ s2 a k rfl ⟨rfl, F11, ⟨hg, hs, hd⟩, i1, i2, i11, n11, _⟩
 dsimp only at hr
 refine wp_seq ?_
 refine cutS (fun c l => ∃ F11, Bs noF k0 90 c l ∧ IsV lot_ (c.get 2) l ∧ (SlR (KeyV.kv (κ := Int)) 37 (s2.1).l) F11 (c.get 11) l ∧ Lo k0 F11 ∧ IsV moves_ (c.get 42) l ∧ IsL moves_ (c.get 43) l ∧ IsI 0 (c.get 44) l ∧ True) ?_ ?_
 ·intro Q10 W10 w9
  refine gS 3 (_ :: _ :: ⟨some (IsI 0), []⟩ :: []) hs (by kernel_rfl) ⟨mu rfl i1, o1 [(42, some 0)] rfl fun _ _ h n => ok_len rfl rfl Try.underlying23 (IsV.rd n.1), ob1 rfl fun _ _ h n => ok_move rfl (cI rfl), trivial⟩ W10 fun b q p => ?_
  exact tail_done (k := q) (w9 _ _ ⟨F11, Bs.post ⟨hg, hs, hd⟩ p, p.ke 2 rfl i2, p.ke 11 rfl i11, n11, p.ou 0 42 rfl, p.ou 1 43 rfl, p.ou 2 44 rfl, trivial⟩)
 rintro a k ⟨F11, ⟨hg, hs, hd⟩, i2, i11, n11, i42, i43, i44, _⟩
 refine wp_block ?_
 obtain ⟨f2, hf2, hr⟩ := bind_some hr
 refine cutFe f2 (fun s' c l => ∃ F11, Bs noF k0 90 c l ∧ IsV lot_ (c.get 2) l ∧ (SlR (KeyV.kv (κ := Int)) 37 (s'.1).l) F11 (c.get 11) l ∧ Lo k0 F11 ∧ IsV moves_ (c.get 42) l ∧ IsL moves_ (c.get 43) l ∧ IsV s'.2 (c.get 44) l ∧ True) (fun i' s' c l => (i' = 2 ∧ Bs noF k0 90 c l ∧ IsV lot_ (c.get 2) l ∧ IsV s'.1 (c.get 11) l ∧ True)) (fun r' c l => bodyPost Try.prog Try.f11 (RetC noF k0 (IsTup2 (IsV r'.1) (IsV r'.2))) .ret c l.w) ?_ hQ ?_ ?_ ?_
 ·intro Q11 W11 hgo hex hret
  refine sim_loop ?_ _ _ _ _ _ hf2 ⟨F11, ⟨hg, hs, hd⟩, i2, i11, n11, i42, i43, i44, trivial⟩ Q11 W11 hgo hex hret
  clear hr hf2 hgo hex hret W11 hQ hg hs hd F11 i11 i2 i42 i43 i44 n11
  intro s3 fl_ a k hr hS Q hQ hgo805 hex806 hret807
  obtain ⟨F11, ⟨hg, hs, hd⟩, i2, i11, n11, i42, i43, i44, _⟩ := hS
  unfold cTrace_L1 at hr
  refine cutS (fun c l => ∃ F11, Bs noF k0 90 c l ∧ IsV lot_ (c.get 2) l ∧ (SlR (KeyV.kv (κ := Int)) 37 (s3.1).l) F11 (c.get 11) l ∧ Lo k0 F11 ∧ IsV moves_ (c.get 42) l ∧ IsL moves_ (c.get 43) l ∧ IsV s3.2 (c.get 44) l ∧ (IsV (decide (s3.2 < (moves_.length : Int)))) (c.get 45) l ∧ True) ?_ ?_
  ·intro Q12 W12 w10
   refine gS 1 (_ :: []) hs (by kernel_rfl) ⟨o1 [(44, none), (43, none)] rfl fun _ _ h n => ok_lss rfl (up i44 h n.1) (up i43 h n.2.1), trivial⟩ W12 fun b q p => ?_
   exact tail_done (k := q) (w10 _ _ ⟨F11, Bs.post ⟨hg, hs, hd⟩ p, p.ke 2 rfl i2, p.ke 11 rfl i11, n11, p.ke 42 rfl i42, p.ke 43 rfl i43, p.ke 44 rfl i44, p.ou 0 45 rfl, trivial⟩)
  rintro a k ⟨F11, ⟨hg, hs, hd⟩, i2, i11, n11, i42, i43, i44, i45, _⟩
  refine wp_seq ?_
  refine wp_cond_split (isBool i45) (fun hc859 => ?_) (fun hc859 => ?_)
  ·rw [if_pos hc859] at hr
   refine wp_skip ?_
   refine wp_seq ?_
   refine wp_block ?_
   refine wp_seq ?_
   obtain ⟨x5, hx5, hr⟩ := bind_some hr
   refine cut (fun a' k' => ∃ F11, Bs noF k0 90 a' k' ∧ (IsV lot_) (a'.get 2) k' ∧ (SlR (KeyV.kv (κ := Int)) 37 (s3.1).l) F11 (a'.get 11) k' ∧ Lo k0 F11 ∧ (IsRef x5) (a'.get 15) k' ∧ (IsV moves_) (a'.get 42) k' ∧ (IsL moves_) (a'.get 43) k' ∧ (IsV s3.2) (a'.get 44) k' ∧ True) ?_ hQ ?_
   ·intro Q13 W13 w11
    refine gS 3 (_ :: _ :: ⟨some (IsBox k.w.heap.size (⟨0, 0, 0, 0⟩ : Move)), []⟩ :: []) hs (by kernel_rfl) ⟨o1 [(42, none), (44, none)] rfl fun _ _ h n => ok_indexAddr rfl Try.underlying23 ty33 (IsV.rd (up i42 h n.1)) (up i44 h n.2.1) hx5, o1 [(46, some 0)] rfl fun _ _ h n => ok_load rfl ty33 n.1, ob1 rfl fun _ _ h n => ok_alloc _ h.size rfl z33, trivial⟩ W13 fun b q p => ?_
    have hgq := hg.then p.grow
    have hsb := p.size.trans hs
    have hdb := p.defers.trans hd
    have j2 := p.ke 2 rfl i2
    have j11 : (SlR (KeyV.kv (κ := Int)) 37 (s3.1).l) F11 (b.get 11) q := p.ke 11 rfl i11
    have y11 := n11
    obtain ⟨b15, j15, x15, z15⟩ : (IsBox k.w.heap.size (⟨0, 0, 0, 0⟩ : Move)) (b.get 15) q := p.ou 2 15 rfl
    replace x15 : Lo k (Eq b15) := Lo.eq x15
    have y15 : Lo k0 (Eq b15) := x15.chg hg
    have j42 := p.ke 42 rfl i42
    have j43 := p.ke 43 rfl i43
    have j44 := p.ke 44 rfl i44
    have j47 : (IsV x5) (b.get 47) q := p.ou 1 47 rfl
    have w11_15 : Apart F11 (Eq b15) := Apart.new (Rsc.lt i11) x15
    have hns := z15.nshF
    refine tail_storeB (i := 3) rfl rfl rfl rfl szf33 (Upd.self (α := Move)) j15 z15 j47 fun q2 hch hz => ?_
    replace hgq := hgq.step hch y15.wr
    have hle := hch.le hns
    replace j2 := Pers.pers hle j2
    replace j11 := Rsc.keep j11 hch w11_15 hns
    replace j42 := Pers.pers hle j42
    replace j43 := Pers.pers hle j43
    replace j44 := Pers.pers hle j44
    replace j47 := Pers.pers hle j47
    replace z15 := hz
    clear hns hle hch
    obtain ⟨q, hqq⟩ : ∃ q, q = q2 := ⟨q2, rfl⟩
    subst hqq
    obtain ⟨q2, hsh, jn⟩ := z15.give
    replace j2 := Pers.pers hsh.le j2
    replace j11 := Rsc.handed j11 hsh w11_15
    replace j42 := Pers.pers hsh.le j42
    replace j43 := Pers.pers hsh.le j43
    replace j44 := Pers.pers hsh.le j44
    rw [← j15] at jn
    replace j15 := jn
    replace hgq := hgq.hand hsh y15.wr
    rw [← hsh.w]
    clear hsh
    obtain ⟨q, hqq⟩ : ∃ q, q = q2 := ⟨q2, rfl⟩
    subst hqq
    exact tail_done (k := q) (w11 _ _ ⟨F11, ⟨hgq, hsb, hdb⟩, j2, j11, y11, j15, j42, j43, j44, trivial⟩)
   rintro a k ⟨F11, ⟨hg, hs, hd⟩, i2, i11, n11, i15, i42, i43, i44, _⟩
   refine cutS (fun c l => ∃ F11, Bs noF k0 90 c l ∧ IsV lot_ (c.get 2) l ∧ (SlR (KeyV.kv (κ := Int)) 37 (s3.1).l) F11 (c.get 11) l ∧ Lo k0 F11 ∧ IsRef x5 (c.get 15) l ∧ IsV moves_ (c.get 42) l ∧ IsL moves_ (c.get 43) l ∧ IsV s3.2 (c.get 44) l ∧ IsV x5.Kind (c.get 49) l ∧ True) ?_ ?_
   ·intro Q14 W14 w12
    refine gS 2 (_ :: _ :: []) hs (by kernel_rfl) ⟨o1 [(15, none)] rfl fun _ _ h n => ok_fieldAddr rfl fo33_0 (at_Move_0 _) ((up i15 h n.1)).ptr, o1 [(48, some 0)] rfl fun _ _ h n => ok_load rfl ty3 n.1, trivial⟩ W14 fun b q p => ?_
    exact tail_done (k := q) (w12 _ _ ⟨F11, Bs.post ⟨hg, hs, hd⟩ p, p.ke 2 rfl i2, p.ke 11 rfl i11, n11, p.ke 15 rfl i15, p.ke 42 rfl i42, p.ke 43 rfl i43, p.ke 44 rfl i44, p.ou 1 49 rfl, trivial⟩)
   rintro a k ⟨F11, ⟨hg, hs, hd⟩, i2, i11, n11, i15, i42, i43, i44, i49, _⟩
   refine wp_block ?_
   refine cutS (fun c l => ∃ F11, Bs noF k0 90 c l ∧ IsV lot_ (c.get 2) l ∧ (SlR (KeyV.kv (κ := Int)) 37 (s3.1).l) F11 (c.get 11) l ∧ Lo k0 F11 ∧ IsRef x5 (c.get 15) l ∧ IsV moves_ (c.get 42) l ∧ IsL moves_ (c.get 43) l ∧ IsV s3.2 (c.get 44) l ∧ IsV x5.Kind (c.get 49) l ∧ IsV (x5.Kind == 0) (c.get 50) l ∧ True) ?_ ?_
   ·intro Q15 W15 w13
    refine gS 2 (_ :: _ :: []) hs (by kernel_rfl) ⟨o1 [(49, none)] rfl fun _ _ h n => ok_eqI rfl (up i49 h n.1) (cI rfl), cp 0 rfl rfl, trivial⟩ W15 fun b q p => ?_
    exact tail_done (k := q) (w13 _ _ ⟨F11, Bs.post ⟨hg, hs, hd⟩ p, p.ke 2 rfl i2, p.ke 11 rfl i11, n11, p.ke 15 rfl i15, p.ke 42 rfl i42, p.ke 43 rfl i43, p.ke 44 rfl i44, p.ke 49 rfl i49, p.ou 1 50 rfl, trivial⟩)
   rintro a k ⟨F11, ⟨hg, hs, hd⟩, i2, i11, n11, i15, i42, i43, i44, i49, i50, _⟩
   obtain ⟨s4, hs4, hr⟩ := bind_some hr
   refine cut (fun a' k' => ∃ F11, Bs noF k0 90 a' k' ∧ (IsV lot_) (a'.get 2) k' ∧ (SlR (KeyV.kv (κ := Int)) 37 (s4).l) F11 (a'.get 11) k' ∧ Lo k0 F11 ∧ (IsV moves_) (a'.get 42) k' ∧ (IsL moves_) (a'.get 43) k' ∧ (IsV s3.2) (a'.get 44) k' ∧ True) ?_ hQ ?_
   ·intro Q16 W16 w14
    replace hr := hs4
    clear hQ
    have hQ := W16
    refine wp_cond_split (isBool i50) (fun hc847 => ?_) (fun hc847 => ?_)
    ·rw [if_pos hc847] at hr
     obtain ⟨x6, hx6, hr⟩ := bind_some hr
     refine cut (fun a' k' => ∃ F11, Bs noF k0 90 a' k' ∧ (IsV lot_) (a'.get 2) k' ∧ (SlR (KeyV.kv (κ := Int)) 37 (x6).l) F11 (a'.get 11) k' ∧ Lo k0 F11 ∧ (IsV moves_) (a'.get 42) k' ∧ (IsL moves_) (a'.get 43) k' ∧ (IsV s3.2) (a'.get 44) k' ∧ True) ?_ hQ ?_
     ·intro Q17 W17 w15
      refine gS 7 (⟨some (Is (a.get 11)), [(11, none)]⟩ :: _ :: _ :: _ :: _ :: _ :: _ :: []) hs (by kernel_rfl) ⟨ob1 rfl fun _ _ h n => ok_move rfl n.1, o1 [(15, none)] rfl fun _ _ h n => ok_fieldAddr rfl fo33_2 (at_Move_2 _) ((up i15 h n.1)).ptr, o1 [(53, some 1)] rfl fun _ _ h n => ok_load rfl ty3 n.1, o1 [(15, none)] rfl fun _ _ h n => ok_fieldAddr rfl fo33_2 (at_Move_2 _) ((up i15 h n.1)).ptr, o1 [(55, some 3)] rfl fun _ _ h n => ok_load rfl ty3 n.1, o1 [(15, none)] rfl fun _ _ h n => ok_fieldAddr rfl fo33_3 (at_Move_3 _) ((up i15 h n.1)).ptr, o1 [(57, some 5)] rfl fun _ _ h n => ok_load rfl ty3 n.1, trivial⟩ W17 fun b q p => ?_
      have hgq := hg.then p.grow
      have hsb := p.size.trans hs
      have hdb := p.defers.trans hd
      have j2 := p.ke 2 rfl i2
      have j11 : (SlR (KeyV.kv (κ := Int)) 37 (s3.1).l) F11 (b.get 11) q := p.ke 11 rfl i11
      have y11 := n11
      have j42 := p.ke 42 rfl i42
      have j43 := p.ke 43 rfl i43
      have j44 := p.ke 44 rfl i44
      have j52 : b.get 52 = b.get 11 := (show b.get 52 = a.get 11 from p.ou 0 52 rfl).trans (p.old 11 rfl).symm
      have j54 : (IsV x5.To) (b.get 54) q := p.ou 2 54 rfl
      have j56 : (IsV x5.To) (b.get 56) q := p.ou 4 56 rfl
      have j58 : (IsV x5.N) (b.get 58) q := p.ou 6 58 rfl
      have hns := Rsc.nsh j11
      refine tail_call (F := F11) (i := 7) (d := 59) rfl rfl rfl rfl (by rw [hsb]; decide) Try.call26 W17 (cPut_ok (show (SlR (KeyV.kv (κ := Int)) 37 (s3.1).l) F11 (b.get 52) q by rw [j52]; exact j11) j54 j56 j58 hx6) fun b2 q2 hsz hdf hoth hch hres => ?_
      have hle := hch.le hns
      obtain ⟨G11, hown, hob⟩ := hres
      rw [show b.eval (.tmp 52) = b.get 11 from j52] at hown
      have yn : Lo k0 G11 := fun c hc => (hob c hc).elim (y11 c) (fun h => Nat.le_trans hgq.size h)
      replace j2 := Pers.pers hle j2
      replace j42 := Pers.pers hle j42
      replace j43 := Pers.pers hle j43
      replace j44 := Pers.pers hle j44
      replace j54 := Pers.pers hle j54
      replace j56 := Pers.pers hle j56
      replace j58 := Pers.pers hle j58
      replace hgq := hgq.step hch y11.wr
      rw [← hoth 2 (by decide)] at j2
      rw [← hoth 42 (by decide)] at j42
      rw [← hoth 43 (by decide)] at j43
      rw [← hoth 44 (by decide)] at j44
      rw [← hoth 54 (by decide)] at j54
      rw [← hoth 56 (by decide)] at j56
      rw [← hoth 58 (by decide)] at j58
      rw [← hoth 11 (by decide)] at hown
      replace j11 := hown
      replace y11 := yn
      clear hown hob yn hle hch hns
      obtain ⟨F11, hFF⟩ : ∃ F, F = G11 := ⟨_, rfl⟩
      subst hFF
      replace hsb := hsz.trans hsb
      replace hdb := hdf.trans hdb
      clear hsz hdf hoth
      obtain ⟨b, hbb⟩ : ∃ b, b = b2 := ⟨b2, rfl⟩
      subst hbb
      obtain ⟨q, hqq⟩ : ∃ q, q = q2 := ⟨q2, rfl⟩
      subst hqq
      exact tail_done (k := q) (w15 _ _ ⟨F11, ⟨hgq, hsb, hdb⟩, j2, j11, y11, j42, j43, j44, trivial⟩)
     rintro a k ⟨F11, ⟨hg, hs, hd⟩, i2, i11, n11, i42, i43, i44, _⟩
     obtain rfl := Option.some.inj hr
     exact w14 _ _ ⟨F11, ⟨hg, hs, hd⟩, i2, i11, n11, i42, i43, i44, trivial⟩
    rw [if_neg (by rw [hc847]; decide)] at hr
    refine cutS (fun c l => ∃ F11, Bs noF k0 90 c l ∧ IsV lot_ (c.get 2) l ∧ (SlR (KeyV.kv (κ := Int)) 37 (s3.1).l) F11 (c.get 11) l ∧ Lo k0 F11 ∧ IsRef x5 (c.get 15) l ∧ IsV moves_ (c.get 42) l ∧ IsL moves_ (c.get 43) l ∧ IsV s3.2 (c.get 44) l ∧ IsV x5.Kind (c.get 49) l ∧ IsV (x5.Kind == 1) (c.get 60) l ∧ True) ?_ ?_
    ·intro Q18 W18 w16
     refine gS 2 (_ :: _ :: []) hs (by kernel_rfl) ⟨o1 [(49, none)] rfl fun _ _ h n => ok_eqI rfl (up i49 h n.1) (cI rfl), cp 0 rfl rfl, trivial⟩ W18 fun b q p => ?_
     exact tail_done (k := q) (w16 _ _ ⟨F11, Bs.post ⟨hg, hs, hd⟩ p, p.ke 2 rfl i2, p.ke 11 rfl i11, n11, p.ke 15 rfl i15, p.ke 42 rfl i42, p.ke 43 rfl i43, p.ke 44 rfl i44, p.ke 49 rfl i49, p.ou 1 60 rfl, trivial⟩)
    rintro a k ⟨F11, ⟨hg, hs, hd⟩, i2, i11, n11, i15, i42, i43, i44, i49, i60, _⟩
    obtain ⟨s5, hs5, hr⟩ := bind_some hr
    refine cut (fun a' k' => ∃ F11, Bs noF k0 90 a' k' ∧ (IsV lot_) (a'.get 2) k' ∧ (SlR (KeyV.kv (κ := Int)) 37 (s5).l) F11 (a'.get 11) k' ∧ Lo k0 F11 ∧ (IsV moves_) (a'.get 42) k' ∧ (IsL moves_) (a'.get 43) k' ∧ (IsV s3.2) (a'.get 44) k' ∧ True) ?_ hQ ?_
    ·intro Q19 W19 w17
     replace hr := hs5
     clear hQ
     have hQ := W19
     refine wp_cond_split (isBool i60) (fun hc843 => ?_) (fun hc843 => ?_)
     ·rw [if_pos hc843] at hr
      obtain ⟨x7, hx7, hr⟩ := bind_some hr
      refine cut (fun a' k' => ∃ F11, Bs noF k0 90 a' k' ∧ (IsV lot_) (a'.get 2) k' ∧ (SlR (KeyV.kv (κ := Int)) 37 (x7).l) F11 (a'.get 11) k' ∧ Lo k0 F11 ∧ (IsV moves_) (a'.get 42) k' ∧ (IsL moves_) (a'.get 43) k' ∧ (IsV s3.2) (a'.get 44) k' ∧ True) ?_ hQ ?_
      ·intro Q20 W20 w18
       refine gS 7 (⟨some (Is (a.get 11)), [(11, none)]⟩ :: _ :: _ :: _ :: _ :: _ :: _ :: []) hs (by kernel_rfl) ⟨ob1 rfl fun _ _ h n => ok_move rfl n.1, o1 [(15, none)] rfl fun _ _ h n => ok_fieldAddr rfl fo33_1 (at_Move_1 _) ((up i15 h n.1)).ptr, o1 [(63, some 1)] rfl fun _ _ h n => ok_load rfl ty3 n.1, o1 [(15, none)] rfl fun _ _ h n => ok_fieldAddr rfl fo33_2 (at_Move_2 _) ((up i15 h n.1)).ptr, o1 [(65, some 3)] rfl fun _ _ h n => ok_load rfl ty3 n.1, o1 [(15, none)] rfl fun _ _ h n => ok_fieldAddr rfl fo33_3 (at_Move_3 _) ((up i15 h n.1)).ptr, o1 [(67, some 5)] rfl fun _ _ h n => ok_load rfl ty3 n.1, trivial⟩ W20 fun b q p => ?_
       have hgq := hg.then p.grow
       have hsb := p.size.trans hs
       have hdb := p.defers.trans hd
       have j2 := p.ke 2 rfl i2
       have j11 : (SlR (KeyV.kv (κ := Int)) 37 (s3.1).l) F11 (b.get 11) q := p.ke 11 rfl i11
       have y11 := n11
       have j42 := p.ke 42 rfl i42
       have j43 := p.ke 43 rfl i43
       have j44 := p.ke 44 rfl i44
       have j62 : b.get 62 = b.get 11 := (show b.get 62 = a.get 11 from p.ou 0 62 rfl).trans (p.old 11 rfl).symm
       have j64 : (IsV x5.From) (b.get 64) q := p.ou 2 64 rfl
       have j66 : (IsV x5.To) (b.get 66) q := p.ou 4 66 rfl
       have j68 : (IsV x5.N) (b.get 68) q := p.ou 6 68 rfl
       have hns := Rsc.nsh j11
       refine tail_call (F := F11) (i := 7) (d := 69) rfl rfl rfl rfl (by rw [hsb]; decide) Try.call27 W20 (cTake_ok (show (SlR (KeyV.kv (κ := Int)) 37 (s3.1).l) F11 (b.get 62) q by rw [j62]; exact j11) j64 j66 j68 hx7) fun b2 q2 hsz hdf hoth hch hres => ?_
       have hle := hch.le hns
       obtain ⟨G11, hown, hob⟩ := hres
       rw [show b.eval (.tmp 62) = b.get 11 from j62] at hown
       have yn : Lo k0 G11 := fun c hc => (hob c hc).elim (y11 c) (fun h => Nat.le_trans hgq.size h)
       replace j2 := Pers.pers hle j2
       replace j42 := Pers.pers hle j42
       replace j43 := Pers.pers hle j43
       replace j44 := Pers.pers hle j44
       replace j64 := Pers.pers hle j64
       replace j66 := Pers.pers hle j66
       replace j68 := Pers.pers hle j68
       replace hgq := hgq.step hch y11.wr
       rw [← hoth 2 (by decide)] at j2
       rw [← hoth 42 (by decide)] at j42
       rw [← hoth 43 (by decide)] at j43
       rw [← hoth 44 (by decide)] at j44
       rw [← hoth 64 (by decide)] at j64
       rw [← hoth 66 (by decide)] at j66
       rw [← hoth 68 (by decide)] at j68
       rw [← hoth 11 (by decide)] at hown
       replace j11 := hown
       replace y11 := yn
       clear hown hob yn hle hch hns
       obtain ⟨F11, hFF⟩ : ∃ F, F = G11 := ⟨_, rfl⟩
       subst hFF
       replace hsb := hsz.trans hsb
       replace hdb := hdf.trans hdb
       clear hsz hdf hoth
       obtain ⟨b, hbb⟩ : ∃ b, b = b2 := ⟨b2, rfl⟩
       subst hbb
       obtain ⟨q, hqq⟩ : ∃ q, q = q2 := ⟨q2, rfl⟩
       subst hqq
       exact tail_done (k := q) (w18 _ _ ⟨F11, ⟨hgq, hsb, hdb⟩, j2, j11, y11, j42, j43, j44, trivial⟩)
      rintro a k ⟨F11, ⟨hg, hs, hd⟩, i2, i11, n11, i42, i43, i44, _⟩
      obtain rfl := Option.some.inj hr
      exact w17 _ _ ⟨F11, ⟨hg, hs, hd⟩, i2, i11, n11, i42, i43, i44, trivial⟩
     rw [if_neg (by rw [hc843]; decide)] at hr
     refine cutS (fun c l => ∃ F11, Bs noF k0 90 c l ∧ IsV lot_ (c.get 2) l ∧ (SlR (KeyV.kv (κ := Int)) 37 (s3.1).l) F11 (c.get 11) l ∧ Lo k0 F11 ∧ IsRef x5 (c.get 15) l ∧ IsV moves_ (c.get 42) l ∧ IsL moves_ (c.get 43) l ∧ IsV s3.2 (c.get 44) l ∧ IsV x5.Kind (c.get 49) l ∧ IsV (x5.Kind == 2) (c.get 70) l ∧ True) ?_ ?_
     ·intro Q21 W21 w19
      refine gS 2 (_ :: _ :: []) hs (by kernel_rfl) ⟨o1 [(49, none)] rfl fun _ _ h n => ok_eqI rfl (up i49 h n.1) (cI rfl), cp 0 rfl rfl, trivial⟩ W21 fun b q p => ?_
      exact tail_done (k := q) (w19 _ _ ⟨F11, Bs.post ⟨hg, hs, hd⟩ p, p.ke 2 rfl i2, p.ke 11 rfl i11, n11, p.ke 15 rfl i15, p.ke 42 rfl i42, p.ke 43 rfl i43, p.ke 44 rfl i44, p.ke 49 rfl i49, p.ou 1 70 rfl, trivial⟩)
     rintro a k ⟨F11, ⟨hg, hs, hd⟩, i2, i11, n11, i15, i42, i43, i44, i49, i70, _⟩
     obtain ⟨s6, hs6, hr⟩ := bind_some hr
     refine cut (fun a' k' => ∃ F11, Bs noF k0 90 a' k' ∧ (IsV lot_) (a'.get 2) k' ∧ (SlR (KeyV.kv (κ := Int)) 37 (s6).l) F11 (a'.get 11) k' ∧ Lo k0 F11 ∧ (IsV moves_) (a'.get 42) k' ∧ (IsL moves_) (a'.get 43) k' ∧ (IsV s3.2) (a'.get 44) k' ∧ True) ?_ hQ ?_
     ·intro Q22 W22 w20
      replace hr := hs6
      clear hQ
      have hQ := W22
      refine wp_cond_split (isBool i70) (fun hc839 => ?_) (fun hc839 => ?_)
      ·rw [if_pos hc839] at hr
       obtain ⟨x8, hx8, hr⟩ := bind_some hr
       refine cut (fun a' k' => ∃ F11, Bs noF k0 90 a' k' ∧ (IsV lot_) (a'.get 2) k' ∧ (SlR (KeyV.kv (κ := Int)) 37 (x8).l) F11 (a'.get 11) k' ∧ Lo k0 F11 ∧ (IsV moves_) (a'.get 42) k' ∧ (IsL moves_) (a'.get 43) k' ∧ (IsV s3.2) (a'.get 44) k' ∧ True) ?_ hQ ?_
       ·intro Q23 W23 w21
        refine gS 5 (⟨some (Is (a.get 11)), [(11, none)]⟩ :: _ :: _ :: _ :: _ :: []) hs (by kernel_rfl) ⟨ob1 rfl fun _ _ h n => ok_move rfl n.1, o1 [(15, none)] rfl fun _ _ h n => ok_fieldAddr rfl fo33_1 (at_Move_1 _) ((up i15 h n.1)).ptr, o1 [(73, some 1)] rfl fun _ _ h n => ok_load rfl ty3 n.1, o1 [(15, none)] rfl fun _ _ h n => ok_fieldAddr rfl fo33_3 (at_Move_3 _) ((up i15 h n.1)).ptr, o1 [(75, some 3)] rfl fun _ _ h n => ok_load rfl ty3 n.1, trivial⟩ W23 fun b q p => ?_
        have hgq := hg.then p.grow
        have hsb := p.size.trans hs
        have hdb := p.defers.trans hd
        have j2 := p.ke 2 rfl i2
        have j11 : (SlR (KeyV.kv (κ := Int)) 37 (s3.1).l) F11 (b.get 11) q := p.ke 11 rfl i11
        have y11 := n11
        have j42 := p.ke 42 rfl i42
        have j43 := p.ke 43 rfl i43
        have j44 := p.ke 44 rfl i44
        have j72 : b.get 72 = b.get 11 := (show b.get 72 = a.get 11 from p.ou 0 72 rfl).trans (p.old 11 rfl).symm
        have j74 : (IsV x5.From) (b.get 74) q := p.ou 2 74 rfl
        have j76 : (IsV x5.N) (b.get 76) q := p.ou 4 76 rfl
        have hns := Rsc.nsh j11
        refine tail_call (F := F11) (i := 5) (d := 77) rfl rfl rfl rfl (by rw [hsb]; decide) Try.call27 W23 (cTake_ok (show (SlR (KeyV.kv (κ := Int)) 37 (s3.1).l) F11 (b.get 72) q by rw [j72]; exact j11) j74 (isV_int.2 rfl) j76 hx8) fun b2 q2 hsz hdf hoth hch hres => ?_
        have hle := hch.le hns
        obtain ⟨G11, hown, hob⟩ := hres
        rw [show b.eval (.tmp 72) = b.get 11 from j72] at hown
        have yn : Lo k0 G11 := fun c hc => (hob c hc).elim (y11 c) (fun h => Nat.le_trans hgq.size h)
        replace j2 := Pers.pers hle j2
        replace j42 := Pers.pers hle j42
        replace j43 := Pers.pers hle j43
        replace j44 := Pers.pers hle j44
        replace j74 := Pers.pers hle j74
        replace j76 := Pers.pers hle j76
        replace hgq := hgq.step hch y11.wr
        rw [← hoth 2 (by decide)] at j2
        rw [← hoth 42 (by decide)] at j42
        rw [← hoth 43 (by decide)] at j43
        rw [← hoth 44 (by decide)] at j44
        rw [← hoth 74 (by decide)] at j74
        rw [← hoth 76 (by decide)] at j76
        rw [← hoth 11 (by decide)] at hown
        replace j11 := hown
        replace y11 := yn
        clear hown hob yn hle hch hns
        obtain ⟨F11, hFF⟩ : ∃ F, F = G11 := ⟨_, rfl⟩
        subst hFF
        replace hsb := hsz.trans hsb
        replace hdb := hdf.trans hdb
        clear hsz hdf hoth
        obtain ⟨b, hbb⟩ : ∃ b, b = b2 := ⟨b2, rfl⟩
        subst hbb
        obtain ⟨q, hqq⟩ : ∃ q, q = q2 := ⟨q2, rfl⟩
        subst hqq
        exact tail_done (k := q) (w21 _ _ ⟨F11, ⟨hgq, hsb, hdb⟩, j2, j11, y11, j42, j43, j44, trivial⟩)
       rintro a k ⟨F11, ⟨hg, hs, hd⟩, i2, i11, n11, i42, i43, i44, _⟩
       obtain rfl := Option.some.inj hr
       exact w20 _ _ ⟨F11, ⟨hg, hs, hd⟩, i2, i11, n11, i42, i43, i44, trivial⟩
      rw [if_neg (by rw [hc839]; decide)] at hr
      refine cutS (fun c l => ∃ F11, Bs noF k0 90 c l ∧ IsV lot_ (c.get 2) l ∧ (SlR (KeyV.kv (κ := Int)) 37 (s3.1).l) F11 (c.get 11) l ∧ Lo k0 F11 ∧ IsRef x5 (c.get 15) l ∧ IsV moves_ (c.get 42) l ∧ IsL moves_ (c.get 43) l ∧ IsV s3.2 (c.get 44) l ∧ IsV (x5.Kind == 3) (c.get 78) l ∧ True) ?_ ?_
      ·intro Q24 W24 w22
       refine gS 2 (_ :: _ :: []) hs (by kernel_rfl) ⟨o1 [(49, none)] rfl fun _ _ h n => ok_eqI rfl (up i49 h n.1) (cI rfl), cp 0 rfl rfl, trivial⟩ W24 fun b q p => ?_
       exact tail_done (k := q) (w22 _ _ ⟨F11, Bs.post ⟨hg, hs, hd⟩ p, p.ke 2 rfl i2, p.ke 11 rfl i11, n11, p.ke 15 rfl i15, p.ke 42 rfl i42, p.ke 43 rfl i43, p.ke 44 rfl i44, p.ou 1 78 rfl, trivial⟩)
      rintro a k ⟨F11, ⟨hg, hs, hd⟩, i2, i11, n11, i15, i42, i43, i44, i78, _⟩
      obtain ⟨s7, hs7, hr⟩ := bind_some hr
      refine cut (fun a' k' => ∃ F11, Bs noF k0 90 a' k' ∧ (IsV lot_) (a'.get 2) k' ∧ (SlR (KeyV.kv (κ := Int)) 37 (s7).l) F11 (a'.get 11) k' ∧ Lo k0 F11 ∧ (IsV moves_) (a'.get 42) k' ∧ (IsL moves_) (a'.get 43) k' ∧ (IsV s3.2) (a'.get 44) k' ∧ True) ?_ hQ ?_
      ·intro Q25 W25 w23
       replace hr := hs7
       clear hQ
       have hQ := W25
       refine wp_cond_split (isBool i78) (fun hc835 => ?_) (fun hc835 => ?_)
       ·rw [if_pos hc835] at hr
        obtain ⟨x9, hx9, hr⟩ := bind_some hr
        refine cut (fun a' k' => ∃ F11, Bs noF k0 90 a' k' ∧ (IsV lot_) (a'.get 2) k' ∧ (SlR (KeyV.kv (κ := Int)) 37 (x9).l) F11 (a'.get 11) k' ∧ Lo k0 F11 ∧ (IsV moves_) (a'.get 42) k' ∧ (IsL moves_) (a'.get 43) k' ∧ (IsV s3.2) (a'.get 44) k' ∧ True) ?_ hQ ?_
        ·intro Q26 W26 w24
         refine gS 5 (⟨some (Is (a.get 11)), [(11, none)]⟩ :: _ :: _ :: _ :: _ :: []) hs (by kernel_rfl) ⟨ob1 rfl fun _ _ h n => ok_move rfl n.1, o1 [(15, none)] rfl fun _ _ h n => ok_fieldAddr rfl fo33_1 (at_Move_1 _) ((up i15 h n.1)).ptr, o1 [(81, some 1)] rfl fun _ _ h n => ok_load rfl ty3 n.1, o1 [(15, none)] rfl fun _ _ h n => ok_fieldAddr rfl fo33_3 (at_Move_3 _) ((up i15 h n.1)).ptr, o1 [(83, some 3)] rfl fun _ _ h n => ok_load rfl ty3 n.1, trivial⟩ W26 fun b q p => ?_
         have hgq := hg.then p.grow
         have hsb := p.size.trans hs
         have hdb := p.defers.trans hd
         have j2 := p.ke 2 rfl i2
         have j11 : (SlR (KeyV.kv (κ := Int)) 37 (s3.1).l) F11 (b.get 11) q := p.ke 11 rfl i11
         have y11 := n11
         have j42 := p.ke 42 rfl i42
         have j43 := p.ke 43 rfl i43
         have j44 := p.ke 44 rfl i44
         have j80 : b.get 80 = b.get 11 := (show b.get 80 = a.get 11 from p.ou 0 80 rfl).trans (p.old 11 rfl).symm
         have j82 : (IsV x5.From) (b.get 82) q := p.ou 2 82 rfl
         have j84 : (IsV x5.N) (b.get 84) q := p.ou 4 84 rfl
         have hns := Rsc.nsh j11
         refine tail_call (F := F11) (i := 5) (d := 85) rfl rfl rfl rfl (by rw [hsb]; decide) Try.call27 W26 (cTake_ok (show (SlR (KeyV.kv (κ := Int)) 37 (s3.1).l) F11 (b.get 80) q by rw [j80]; exact j11) j82 (isV_int.2 rfl) j84 hx9) fun b2 q2 hsz hdf hoth hch hres => ?_
         have hle := hch.le hns
         obtain ⟨G11, hown, hob⟩ := hres
         rw [show b.eval (.tmp 80) = b.get 11 from j80] at hown
         have yn : Lo k0 G11 := fun c hc => (hob c hc).elim (y11 c) (fun h => Nat.le_trans hgq.size h)
         replace j2 := Pers.pers hle j2
         replace j42 := Pers.pers hle j42
         replace j43 := Pers.pers hle j43
         replace j44 := Pers.pers hle j44
         replace j82 := Pers.pers hle j82
         replace j84 := Pers.pers hle j84
         replace hgq := hgq.step hch y11.wr
         rw [← hoth 2 (by decide)] at j2
         rw [← hoth 42 (by decide)] at j42
         rw [← hoth 43 (by decide)] at j43
         rw [← hoth 44 (by decide)] at j44
         rw [← hoth 82 (by decide)] at j82
         rw [← hoth 84 (by decide)] at j84
         rw [← hoth 11 (by decide)] at hown
         replace j11 := hown
         replace y11 := yn
         clear hown hob yn hle hch hns
         obtain ⟨F11, hFF⟩ : ∃ F, F = G11 := ⟨_, rfl⟩
         subst hFF
         replace hsb := hsz.trans hsb
         replace hdb := hdf.trans hdb
         clear hsz hdf hoth
         obtain ⟨b, hbb⟩ : ∃ b, b = b2 := ⟨b2, rfl⟩
         subst hbb
         obtain ⟨q, hqq⟩ : ∃ q, q = q2 := ⟨q2, rfl⟩
         subst hqq
         exact tail_done (k := q) (w24 _ _ ⟨F11, ⟨hgq, hsb, hdb⟩, j2, j11, y11, j42, j43, j44, trivial⟩)
        rintro a k ⟨F11, ⟨hg, hs, hd⟩, i2, i11, n11, i42, i43, i44, _⟩
        obtain rfl := Option.some.inj hr
        exact w23 _ _ ⟨F11, ⟨hg, hs, hd⟩, i2, i11, n11, i42, i43, i44, trivial⟩
       rw [if_neg (by rw [hc835]; decide)] at hr
       refine wp_skip ?_
       obtain rfl := Option.some.inj hr
       exact w23 _ _ ⟨F11, ⟨hg, hs, hd⟩, i2, i11, n11, i42, i43, i44, trivial⟩
      clear hs7
      rintro a k ⟨F11, ⟨hg, hs, hd⟩, i2, i11, n11, i42, i43, i44, _⟩
      obtain rfl := Option.some.inj hr
      exact w20 _ _ ⟨F11, ⟨hg, hs, hd⟩, i2, i11, n11, i42, i43, i44, trivial⟩
     clear hs6
     rintro a k ⟨F11, ⟨hg, hs, hd⟩, i2, i11, n11, i42, i43, i44, _⟩
     obtain rfl := Option.some.inj hr
     exact w17 _ _ ⟨F11, ⟨hg, hs, hd⟩, i2, i11, n11, i42, i43, i44, trivial⟩
    clear hs5
    rintro a k ⟨F11, ⟨hg, hs, hd⟩, i2, i11, n11, i42, i43, i44, _⟩
    obtain rfl := Option.some.inj hr
    exact w14 _ _ ⟨F11, ⟨hg, hs, hd⟩, i2, i11, n11, i42, i43, i44, trivial⟩
   clear hs4
   rintro a k ⟨F11, ⟨hg, hs, hd⟩, i2, i11, n11, i42, i43, i44, _⟩
   obtain ⟨x10, hx10, hr⟩ := bind_some hr
   refine cut (fun a' k' => ∃ F11, Bs noF k0 90 a' k' ∧ (IsV lot_) (a'.get 2) k' ∧ (SlR (KeyV.kv (κ := Int)) 37 (s4).l) F11 (a'.get 11) k' ∧ Lo k0 F11 ∧ (IsV moves_) (a'.get 42) k' ∧ (IsL moves_) (a'.get 43) k' ∧ (IsV x10) (a'.get 44) k' ∧ True) ?_ hQ ?_
   ·intro Q27 W27 w25
    refine gS 2 (_ :: _ :: []) hs (by kernel_rfl) ⟨o1 [(44, none)] rfl fun _ _ h n => ok_add rfl (up i44 h n.1) (cI rfl) hx10, cm 0 rfl rfl, trivial⟩ W27 fun b q p => ?_
    exact tail_done (k := q) (w25 _ _ ⟨F11, Bs.post ⟨hg, hs, hd⟩ p, p.ke 2 rfl i2, p.ke 11 rfl i11, n11, p.ke 42 rfl i42, p.ke 43 rfl i43, p.ou 1 44 rfl, trivial⟩)
   rintro a k ⟨F11, ⟨hg, hs, hd⟩, i2, i11, n11, i42, i43, i44, _⟩
   exact hgo805 _ _ _ (Option.some.inj hr).symm ⟨F11, ⟨hg, hs, hd⟩, i2, i11, n11, i42, i43, i44, trivial⟩
  rw [if_neg (by rw [hc859]; decide)] at hr
  refine wp_exit ?_
  obtain ⟨kk, sh858, ii11⟩ := SlR.give i11
  replace i2 := Pers.pers sh858.le i2
  replace i11 := ii11
  replace hg := hg.hand sh858 n11.wr
  rw [← sh858.w]
  clear sh858
  obtain ⟨k, hkk⟩ : ∃ k, k = kk := ⟨kk, rfl⟩
  subst hkk
  exact hex806 _ _ _ _ (Option.some.inj hr).symm ⟨rfl, ⟨hg, hs, hd⟩, i2, i11, trivial⟩
 ·rintro r2 a k rfl hR
  dsimp only at hr
  obtain rfl := Option.some.inj hr
  exact hR
 ·rintro _ _ _ rfl _
  simp at hr
 clear hf2
 rintro _ s8 a k rfl ⟨rfl, ⟨hg, hs, hd⟩, i2, i11, _⟩
 dsimp only at hr
 refine stepL 5 (_ :: _ :: ⟨some (IsV (((s8.1).get lot_).getD ([]))), [(87, some 0), (88, some 1)]⟩ :: _ :: ⟨some (IsI 0), []⟩ :: []) rfl ⟨hg, hs, hd⟩ (by kernel_rfl) ⟨mu rfl i11, mu rfl i2, ob1 rfl fun _ _ h n => ok_lookupV rfl key3 Try.underlying49 z29 n.1 (isV_int.1 n.2.1), cp 2 rfl rfl, aI rfl rfl, trivial⟩ [⟨_, _⟩, ⟨_, _⟩] (fun b q p => ⟨p.ou 3 6 rfl, p.ou 4 7 rfl, trivial⟩) ?_
 rintro a k ⟨⟨hg, hs, hd⟩, i6, i7, _⟩
 refine wp_ret ?_
 obtain rfl := Option.some.inj hr
 exact retC2 rfl hd hg i6 i7
def small  : Option (Bool) :=
 (cDo ([(⟨1, 10, false⟩ : Account), (⟨2, 3, true⟩ : Account)]) (⟨1, 1, 2, 4⟩ : Move)).bind fun x1 =>
 (cRun ([(⟨1, 10, false⟩ : Account), (⟨2, 3, true⟩ : Account)]) ([(⟨1, 1, 2, 4⟩ : Move), (⟨2, 2, 0, 5⟩ : Move)])).bind fun x2 =>
 (cTrace ([(⟨1, 10, false⟩ : Account), (⟨2, 3, true⟩ : Account)]) ([(⟨1, 1, 2, 4⟩ : Move)]) 2).bind fun x3 =>
 (cTrace ([(⟨1, 10, false⟩ : Account), (⟨2, 3, true⟩ : Account)]) ([(⟨1, 1, 2, 4⟩ : Move), (⟨2, 2, 0, 5⟩ : Move)]) 0).bind fun x4 =>
 (cDo ([(⟨1, 10, false⟩ : Account), (⟨2, 3, true⟩ : Account)]) (⟨1, 2, 1, 1⟩ : Move)).bind fun x5 =>
 (cDo ([(⟨1, 10, false⟩ : Account), (⟨2, 3, true⟩ : Account)]) (⟨1, 1, 2, 11⟩ : Move)).bind fun x6 =>
 (if (((((((x1.2 == 0) && (x2.2.2 == 0)) && (x3.2 == 0)) && (x4.2 == 0)) && (x5.2 == 24)) && (x6.2 == 23)) && (x2.2.1 == 2)) then
  (cUnits x1.1 1).bind fun x7 =>
  some (x7 == 6)
 else
  some false).bind fun x8 =>
 (if x8 then
  (cUnits x1.1 2).bind fun x9 =>
  some (x9 == 7)
 else
  some false).bind fun x10 =>
 (if x10 then
  (cUnits x2.1 2).bind fun x11 =>
  some (x11 == 2)
 else
  some false).bind fun x12 =>
 (if x12 then
  (rSameTrace x3.1 ([((2, 3) : (Int × Int)), ((1, 4) : (Int × Int))])).bind fun x13 =>
  some x13
 else
  some false).bind fun x14 =>
 (if x14 then
  (rSameTrace x4.1 ([((2, 3) : (Int × Int)), ((1, 2) : (Int × Int))])).bind fun x15 =>
  some x15
 else
  some false).bind fun x16 =>
 some x16
theorem small_ok {k0 : K} {r : Bool} (hr : small = some r) :
  Calls Try.prog 8 #[] k0.w (Ret k0 (IsV r)) := by
 unfold small at hr
 refine Ret.ofC ?_
 refine enterK Try.func8 rfl Try.ntmps8 (show 0 ≤ 121 by decide) fun a k hk0 hs hd ha => ?_
 have hQ : Gb.LetsOut (bodyPost Try.prog Try.f8 (RetC noF k0 (IsV r))) := letsOutC
 have hg : Chg noF k0 k := by rw [hk0]; exact Chg.refl _ k0
 refine cutL noF k0 121 [] ?_ ?_
 ·intro Q1 W1 w1
  refine gS 1 (⟨some (IsV false), []⟩ :: []) hs (by kernel_rfl) ⟨ob1 rfl fun _ _ h n => ok_assign rfl (isV_bool.2 rfl), trivial⟩ W1 fun b q p => ?_
  exact tail_done (k := q) (w1 _ _ ⟨Bs.post ⟨hg, hs, hd⟩ p, trivial⟩)
 rintro a k ⟨⟨hg, hs, hd⟩, _⟩
 refine stepL 4 (⟨some (IsV (⟨1, 10, false⟩ : Account)), []⟩ :: ⟨some (IsV (⟨2, 3, true⟩ : Account)), []⟩ :: ⟨some (IsV (α := (List Account)) ([(⟨1, 10, false⟩ : Account), (⟨2, 3, true⟩ : Account)])), [(18, some 0), (19, some 1)]⟩ :: _ :: []) rfl ⟨hg, hs, hd⟩ (by kernel_rfl) ⟨ob1 rfl fun _ _ h n => ok_build rfl (bld35_0_1 (cI rfl) (cI rfl)), ob1 rfl fun _ _ h n => ok_build rfl (bld35_0_1_2 (cI rfl) (cI rfl) (isV_bool.2 rfl)), ob1 rfl fun _ _ h n => ok_buildSlice rfl Try.underlying22 eo35 rfl (by decide) (by decide) ⟨rfl, n.1, rfl, n.2.1, trivial⟩, cp 2 rfl rfl, trivial⟩ [⟨_, _⟩] (fun b q p => ⟨p.ou 3 1 rfl, trivial⟩) ?_
 rintro a k ⟨⟨hg, hs, hd⟩, i1, _⟩
 refine cutL noF k0 121 [⟨1, IsV (α := (List Account)) ([(⟨1, 10, false⟩ : Account), (⟨2, 3, true⟩ : Account)])⟩, ⟨2, IsRef (⟨1, 1, 2, 4⟩ : Move)⟩] ?_ ?_
 ·intro Q2 W2 w2
  refine gS 2 (⟨some (IsV (⟨1, 1, 2, 4⟩ : Move)), []⟩ :: ⟨some (IsBox k.w.heap.size (⟨0, 0, 0, 0⟩ : Move)), []⟩ :: []) hs (by kernel_rfl) ⟨ob1 rfl fun _ _ h n => ok_build rfl (bld33_0_1_2_3 (cI rfl) (cI rfl) (cI rfl) (cI rfl)), ob1 rfl fun _ _ h n => ok_alloc _ h.size rfl z33, trivial⟩ W2 fun b q p => ?_
  have hgq := hg.then p.grow
  have hsb := p.size.trans hs
  have hdb := p.defers.trans hd
  have j1 := p.ke 1 rfl i1
  obtain ⟨b2, j2, x2, z2⟩ : (IsBox k.w.heap.size (⟨0, 0, 0, 0⟩ : Move)) (b.get 2) q := p.ou 1 2 rfl
  replace x2 : Lo k (Eq b2) := Lo.eq x2
  have y2 : Lo k0 (Eq b2) := x2.chg hg
  have j21 : (IsV (⟨1, 1, 2, 4⟩ : Move)) (b.get 21) q := p.ou 0 21 rfl
  have hns := z2.nshF
  refine tail_storeB (i := 2) rfl rfl rfl rfl szf33 (Upd.self (α := Move)) j2 z2 j21 fun q2 hch hz => ?_
  replace hgq := hgq.step hch y2.wr
  have hle := hch.le hns
  replace j1 := Pers.pers hle j1
  replace j21 := Pers.pers hle j21
  replace z2 := hz
  clear hns hle hch
  obtain ⟨q, hqq⟩ : ∃ q, q = q2 := ⟨q2, rfl⟩
  subst hqq
  obtain ⟨q2, hsh, jn⟩ := z2.give
  replace j1 := Pers.pers hsh.le j1
  rw [← j2] at jn
  replace j2 := jn
  replace hgq := hgq.hand hsh y2.wr
  rw [← hsh.w]
  clear hsh
  obtain ⟨q, hqq⟩ : ∃ q, q = q2 := ⟨q2, rfl⟩
  subst hqq
  exact tail_done (k := q) (w2 _ _ ⟨⟨hgq, hsb, hdb⟩, j1, j2, trivial⟩)
 rintro a k ⟨⟨hg, hs, hd⟩, i1, i2, _⟩
 refine cutL noF k0 121 [⟨1, IsV (α := (List Account)) ([(⟨1, 10, false⟩ : Account), (⟨2, 3, true⟩ : Account)])⟩, ⟨2, IsRef (⟨1, 1, 2, 4⟩ : Move)⟩, ⟨3, IsRef (⟨2, 2, 0, 5⟩ : Move)⟩] ?_ ?_
 ·intro Q3 W3 w3
  refine gS 2 (⟨some (IsV (⟨2, 2, 0, 5⟩ : Move)), []⟩ :: ⟨some (IsBox k.w.heap.size (⟨0, 0, 0, 0⟩ : Move)), []⟩ :: []) hs (by kernel_rfl) ⟨ob1 rfl fun _ _ h n => ok_build rfl (bld33_0_1_3 (cI rfl) (cI rfl) (cI rfl)), ob1 rfl fun _ _ h n => ok_alloc _ h.size rfl z33, trivial⟩ W3 fun b q p => ?_
  have hgq := hg.then p.grow
  have hsb := p.size.trans hs
  have hdb := p.defers.trans hd
  have j1 := p.ke 1 rfl i1
  have j2 := p.ke 2 rfl i2
  obtain ⟨b3, j3, x3, z3⟩ : (IsBox k.w.heap.size (⟨0, 0, 0, 0⟩ : Move)) (b.get 3) q := p.ou 1 3 rfl
  replace x3 : Lo k (Eq b3) := Lo.eq x3
  have y3 : Lo k0 (Eq b3) := x3.chg hg
  have j22 : (IsV (⟨2, 2, 0, 5⟩ : Move)) (b.get 22) q := p.ou 0 22 rfl
  have hns := z3.nshF
  refine tail_storeB (i := 2) rfl rfl rfl rfl szf33 (Upd.self (α := Move)) j3 z3 j22 fun q2 hch hz => ?_
  replace hgq := hgq.step hch y3.wr
  have hle := hch.le hns
  replace j1 := Pers.pers hle j1
  replace j2 := Pers.pers hle j2
  replace j22 := Pers.pers hle j22
  replace z3 := hz
  clear hns hle hch
  obtain ⟨q, hqq⟩ : ∃ q, q = q2 := ⟨q2, rfl⟩
  subst hqq
  obtain ⟨q2, hsh, jn⟩ := z3.give
  replace j1 := Pers.pers hsh.le j1
  replace j2 := Pers.pers hsh.le j2
  rw [← j3] at jn
  replace j3 := jn
  replace hgq := hgq.hand hsh y3.wr
  rw [← hsh.w]
  clear hsh
  obtain ⟨q, hqq⟩ : ∃ q, q = q2 := ⟨q2, rfl⟩
  subst hqq
  exact tail_done (k := q) (w3 _ _ ⟨⟨hgq, hsb, hdb⟩, j1, j2, j3, trivial⟩)
 rintro a k ⟨⟨hg, hs, hd⟩, i1, i2, i3, _⟩
 refine wp_seq ?_
 obtain ⟨x1, hx1, hr⟩ := bind_some hr
 refine cut (fun a' k' => Bs noF k0 121 a' k' ∧ (IsV (α := (List Account)) ([(⟨1, 10, false⟩ : Account), (⟨2, 3, true⟩ : Account)])) (a'.get 1) k' ∧ (IsRef (⟨1, 1, 2, 4⟩ : Move)) (a'.get 2) k' ∧ (IsRef (⟨2, 2, 0, 5⟩ : Move)) (a'.get 3) k' ∧ (IsV x1.1) (a'.get 4) k' ∧ (IsV x1.2) (a'.get 5) k' ∧ True) ?_ hQ ?_
 ·intro Q4 W4 w4
  refine gS 8 (_ :: _ :: _ :: _ :: _ :: _ :: _ :: _ :: []) hs (by kernel_rfl) ⟨mu rfl i1, o1 [(2, none)] rfl fun _ _ h n => ok_load rfl ty33 ((up i2 h n.1)).ptr, o1 [(24, some 0), (25, some 1)] rfl fun _ _ h n => ok_call rfl Try.call13 (cDo_ok n.1 n.2.1 hx1), cm 2 rfl rfl, o1 [(23, some 3)] rfl fun _ _ h n => ok_ext2_0 rfl n.1, o1 [(23, some 3)] rfl fun _ _ h n => ok_ext2_1 rfl n.1, cp 4 rfl rfl, cp 5 rfl rfl, trivial⟩ W4 fun b q p => ?_
  exact tail_done (k := q) (w4 _ _ ⟨Bs.post ⟨hg, hs, hd⟩ p, p.ke 1 rfl i1, p.ke 2 rfl i2, p.ke 3 rfl i3, p.ou 6 4 rfl, p.ou 7 5 rfl, trivial⟩)
 rintro a k ⟨⟨hg, hs, hd⟩, i1, i2, i3, i4, i5, _⟩
 refine wp_seq ?_
 obtain ⟨x4, hx4, hr⟩ := bind_some hr
 refine cut (fun a' k' => Bs noF k0 121 a' k' ∧ (IsV (α := (List Account)) ([(⟨1, 10, false⟩ : Account), (⟨2, 3, true⟩ : Account)])) (a'.get 1) k' ∧ (IsRef (⟨1, 1, 2, 4⟩ : Move)) (a'.get 2) k' ∧ (IsRef (⟨2, 2, 0, 5⟩ : Move)) (a'.get 3) k' ∧ (IsV x1.1) (a'.get 4) k' ∧ (IsV x1.2) (a'.get 5) k' ∧ (IsV x4.1) (a'.get 6) k' ∧ (IsV x4.2.1) (a'.get 7) k' ∧ (IsV x4.2.2) (a'.get 8) k' ∧ True) ?_ hQ ?_
 ·intro Q5 W5 w5
  refine gS 12 (_ :: _ :: _ :: ⟨some (IsV (α := (List Move)) ([(⟨1, 1, 2, 4⟩ : Move), (⟨2, 2, 0, 5⟩ : Move)])), [(31, some 1), (32, some 2)]⟩ :: _ :: _ :: _ :: _ :: _ :: _ :: _ :: _ :: []) hs (by kernel_rfl) ⟨mu rfl i1, o1 [(2, none)] rfl fun _ _ h n => ok_load rfl ty33 ((up i2 h n.1)).ptr, o1 [(3, none)] rfl fun _ _ h n => ok_load rfl ty33 ((up i3 h n.1)).ptr, ob1 rfl fun _ _ h n => ok_buildSlice rfl Try.underlying23 eo33 rfl (by decide) (by decide) ⟨rfl, n.1, rfl, n.2.1, trivial⟩, o1 [(30, some 0), (33, some 3)] rfl fun _ _ h n => ok_call rfl Try.call10 (cRun_ok n.1 n.2.1 hx4), cm 4 rfl rfl, o1 [(29, some 5)] rfl fun _ _ h n => ok_ext3_0 rfl n.1, o1 [(29, some 5)] rfl fun _ _ h n => ok_ext3_1 rfl n.1, o1 [(29, some 5)] rfl fun _ _ h n => ok_ext3_2 rfl n.1, cp 6 rfl rfl, cp 7 rfl rfl, cp 8 rfl rfl, trivial⟩ W5 fun b q p => ?_
  exact tail_done (k := q) (w5 _ _ ⟨Bs.post ⟨hg, hs, hd⟩ p, p.ke 1 rfl i1, p.ke 2 rfl i2, p.ke 3 rfl i3, p.ke 4 rfl i4, p.ke 5 rfl i5, p.ou 9 6 rfl, p.ou 10 7 rfl, p.ou 11 8 rfl, trivial⟩)
 rintro a k ⟨⟨hg, hs, hd⟩, i1, i2, i3, i4, i5, i6, i7, i8, _⟩
 refine wp_seq ?_
 obtain ⟨x5, hx5, hr⟩ := bind_some hr
 refine cut (fun a' k' => Bs noF k0 121 a' k' ∧ (IsV (α := (List Account)) ([(⟨1, 10, false⟩ : Account), (⟨2, 3, true⟩ : Account)])) (a'.get 1) k' ∧ (IsRef (⟨1, 1, 2, 4⟩ : Move)) (a'.get 2) k' ∧ (IsRef (⟨2, 2, 0, 5⟩ : Move)) (a'.get 3) k' ∧ (IsV x1.1) (a'.get 4) k' ∧ (IsV x1.2) (a'.get 5) k' ∧ (IsV x4.1) (a'.get 6) k' ∧ (IsV x4.2.1) (a'.get 7) k' ∧ (IsV x4.2.2) (a'.get 8) k' ∧ (IsV x5.1) (a'.get 9) k' ∧ (IsV x5.2) (a'.get 10) k' ∧ True) ?_ hQ ?_
 ·intro Q6 W6 w6
  refine gS 9 (_ :: _ :: ⟨some (IsV (α := (List Move)) ([(⟨1, 1, 2, 4⟩ : Move)])), [(40, some 1)]⟩ :: _ :: _ :: _ :: _ :: _ :: _ :: []) hs (by kernel_rfl) ⟨mu rfl i1, o1 [(2, none)] rfl fun _ _ h n => ok_load rfl ty33 ((up i2 h n.1)).ptr, ob1 rfl fun _ _ h n => ok_buildSlice rfl Try.underlying23 eo33 rfl (by decide) (by decide) ⟨rfl, n.1, trivial⟩, o1 [(39, some 0), (41, some 2)] rfl fun _ _ h n => ok_call rfl Try.call11 (cTrace_ok n.1 n.2.1 (cI rfl) hx5), cm 3 rfl rfl, o1 [(38, some 4)] rfl fun _ _ h n => ok_ext2_0 rfl n.1, o1 [(38, some 4)] rfl fun _ _ h n => ok_ext2_1 rfl n.1, cp 5 rfl rfl, cp 6 rfl rfl, trivial⟩ W6 fun b q p => ?_
  exact tail_done (k := q) (w6 _ _ ⟨Bs.post ⟨hg, hs, hd⟩ p, p.ke 1 rfl i1, p.ke 2 rfl i2, p.ke 3 rfl i3, p.ke 4 rfl i4, p.ke 5 rfl i5, p.ke 6 rfl i6, p.ke 7 rfl i7, p.ke 8 rfl i8, p.ou 7 9 rfl, p.ou 8 10 rfl, trivial⟩)
 rintro a k ⟨⟨hg, hs, hd⟩, i1, i2, i3, i4, i5, i6, i7, i8, i9, i10, _⟩
 refine wp_seq ?_
 obtain ⟨x6, hx6, hr⟩ := bind_some hr
 refine cut (fun a' k' => Bs noF k0 121 a' k' ∧ (IsV (α := (List Account)) ([(⟨1, 10, false⟩ : Account), (⟨2, 3, true⟩ : Account)])) (a'.get 1) k' ∧ (IsV x1.1) (a'.get 4) k' ∧ (IsV x1.2) (a'.get 5) k' ∧ (IsV x4.1) (a'.get 6) k' ∧ (IsV x4.2.1) (a'.get 7) k' ∧ (IsV x4.2.2) (a'.get 8) k' ∧ (IsV x5.1) (a'.get 9) k' ∧ (IsV x5.2) (a'.get 10) k' ∧ (IsV x6.1) (a'.get 11) k' ∧ (IsV x6.2) (a'.get 12) k' ∧ True) ?_ hQ ?_
 ·intro Q7 W7 w7
  refine gS 10 (_ :: _ :: _ :: ⟨some (IsV (α := (List Move)) ([(⟨1, 1, 2, 4⟩ : Move), (⟨2, 2, 0, 5⟩ : Move)])), [(47, some 1), (48, some 2)]⟩ :: _ :: _ :: _ :: _ :: _ :: _ :: []) hs (by kernel_rfl) ⟨mu rfl i1, o1 [(2, none)] rfl fun _ _ h n => ok_load rfl ty33 ((up i2 h n.1)).ptr, o1 [(3, none)] rfl fun _ _ h n => ok_load rfl ty33 ((up i3 h n.1)).ptr, ob1 rfl fun _ _ h n => ok_buildSlice rfl Try.underlying23 eo33 rfl (by decide) (by decide) ⟨rfl, n.1, rfl, n.2.1, trivial⟩, o1 [(46, some 0), (49, some 3)] rfl fun _ _ h n => ok_call rfl Try.call11 (cTrace_ok n.1 n.2.1 (cI rfl) hx6), cm 4 rfl rfl, o1 [(45, some 5)] rfl fun _ _ h n => ok_ext2_0 rfl n.1, o1 [(45, some 5)] rfl fun _ _ h n => ok_ext2_1 rfl n.1, cp 6 rfl rfl, cp 7 rfl rfl, trivial⟩ W7 fun b q p => ?_
  exact tail_done (k := q) (w7 _ _ ⟨Bs.post ⟨hg, hs, hd⟩ p, p.ke 1 rfl i1, p.ke 4 rfl i4, p.ke 5 rfl i5, p.ke 6 rfl i6, p.ke 7 rfl i7, p.ke 8 rfl i8, p.ke 9 rfl i9, p.ke 10 rfl i10, p.ou 8 11 rfl, p.ou 9 12 rfl, trivial⟩)
 rintro a k ⟨⟨hg, hs, hd⟩, i1, i4, i5, i6, i7, i8, i9, i10, i11, i12, _⟩
 refine wp_seq ?_
 obtain ⟨x7, hx7, hr⟩ := bind_some hr
 refine cut (fun a' k' => Bs noF k0 121 a' k' ∧ (IsV (α := (List Account)) ([(⟨1, 10, false⟩ : Account), (⟨2, 3, true⟩ : Account)])) (a'.get 1) k' ∧ (IsV x1.1) (a'.get 4) k' ∧ (IsV x1.2) (a'.get 5) k' ∧ (IsV x4.1) (a'.get 6) k' ∧ (IsV x4.2.1) (a'.get 7) k' ∧ (IsV x4.2.2) (a'.get 8) k' ∧ (IsV x5.1) (a'.get 9) k' ∧ (IsV x5.2) (a'.get 10) k' ∧ (IsV x6.1) (a'.get 11) k' ∧ (IsV x6.2) (a'.get 12) k' ∧ (IsV x7.2) (a'.get 14) k' ∧ True) ?_ hQ ?_
 ·intro Q8 W8 w8
  refine gS 8 (_ :: ⟨some (IsV (⟨1, 2, 1, 1⟩ : Move)), []⟩ :: _ :: _ :: _ :: _ :: _ :: _ :: []) hs (by kernel_rfl) ⟨mu rfl i1, ob1 rfl fun _ _ h n => ok_build rfl (bld33_0_1_2_3 (cI rfl) (cI rfl) (cI rfl) (cI rfl)), o1 [(54, some 0), (55, some 1)] rfl fun _ _ h n => ok_call rfl Try.call13 (cDo_ok n.1 n.2.1 hx7), cm 2 rfl rfl, o1 [(53, some 3)] rfl fun _ _ h n => ok_ext2_0 rfl n.1, o1 [(53, some 3)] rfl fun _ _ h n => ok_ext2_1 rfl n.1, cp 4 rfl rfl, cp 5 rfl rfl, trivial⟩ W8 fun b q p => ?_
  exact tail_done (k := q) (w8 _ _ ⟨Bs.post ⟨hg, hs, hd⟩ p, p.ke 1 rfl i1, p.ke 4 rfl i4, p.ke 5 rfl i5, p.ke 6 rfl i6, p.ke 7 rfl i7, p.ke 8 rfl i8, p.ke 9 rfl i9, p.ke 10 rfl i10, p.ke 11 rfl i11, p.ke 12 rfl i12, p.ou 7 14 rfl, trivial⟩)
 rintro a k ⟨⟨hg, hs, hd⟩, i1, i4, i5, i6, i7, i8, i9, i10, i11, i12, i14, _⟩
 refine wp_seq ?_
 obtain ⟨x8, hx8, hr⟩ := bind_some hr
 refine cut (fun a' k' => Bs noF k0 121 a' k' ∧ (IsV x1.1) (a'.get 4) k' ∧ (IsV x1.2) (a'.get 5) k' ∧ (IsV x4.1) (a'.get 6) k' ∧ (IsV x4.2.1) (a'.get 7) k' ∧ (IsV x4.2.2) (a'.get 8) k' ∧ (IsV x5.1) (a'.get 9) k' ∧ (IsV x5.2) (a'.get 10) k' ∧ (IsV x6.1) (a'.get 11) k' ∧ (IsV x6.2) (a'.get 12) k' ∧ (IsV x7.2) (a'.get 14) k' ∧ (IsV x8.2) (a'.get 16) k' ∧ True) ?_ hQ ?_
 ·intro Q9 W9 w9
  refine gS 8 (_ :: ⟨some (IsV (⟨1, 1, 2, 11⟩ : Move)), []⟩ :: _ :: _ :: _ :: _ :: _ :: _ :: []) hs (by kernel_rfl) ⟨mu rfl i1, ob1 rfl fun _ _ h n => ok_build rfl (bld33_0_1_2_3 (cI rfl) (cI rfl) (cI rfl) (cI rfl)), o1 [(60, some 0), (61, some 1)] rfl fun _ _ h n => ok_call rfl Try.call13 (cDo_ok n.1 n.2.1 hx8), cm 2 rfl rfl, o1 [(59, some 3)] rfl fun _ _ h n => ok_ext2_0 rfl n.1, o1 [(59, some 3)] rfl fun _ _ h n => ok_ext2_1 rfl n.1, cp 4 rfl rfl, cp 5 rfl rfl, trivial⟩ W9 fun b q p => ?_
  exact tail_done (k := q) (w9 _ _ ⟨Bs.post ⟨hg, hs, hd⟩ p, p.ke 4 rfl i4, p.ke 5 rfl i5, p.ke 6 rfl i6, p.ke 7 rfl i7, p.ke 8 rfl i8, p.ke 9 rfl i9, p.ke 10 rfl i10, p.ke 11 rfl i11, p.ke 12 rfl i12, p.ke 14 rfl i14, p.ou 7 16 rfl, trivial⟩)
 rintro a k ⟨⟨hg, hs, hd⟩, i4, i5, i6, i7, i8, i9, i10, i11, i12, i14, i16, _⟩
 refine stepL 27 (_ :: _ :: _ :: _ :: _ :: _ :: _ :: _ :: _ :: _ :: _ :: _ :: _ :: _ :: _ :: _ :: _ :: _ :: _ :: _ :: _ :: _ :: _ :: _ :: _ :: _ :: _ :: []) rfl ⟨hg, hs, hd⟩ (by kernel_rfl) ⟨mu rfl i5, o1 [(65, some 0)] rfl fun _ _ h n => ok_eqI rfl n.1 (cI rfl), cm 1 rfl rfl, mT rfl rfl i8, gT [(68, some 3)] rfl rfl fun hp _ _ h n => ok_eqI rfl (Gd.get n.1 hp) (cI rfl), o1 [(67, some 2), (69, some 4)] rfl fun _ _ h n => ok_pickAnd rfl n.1 (Gd.get n.2.1) (cB rfl), cm 5 rfl rfl, mT rfl rfl i10, gT [(72, some 7)] rfl rfl fun hp _ _ h n => ok_eqI rfl (Gd.get n.1 hp) (cI rfl), o1 [(71, some 6), (73, some 8)] rfl fun _ _ h n => ok_pickAnd rfl n.1 (Gd.get n.2.1) (cB rfl), cm 9 rfl rfl, mT rfl rfl i12, gT [(76, some 11)] rfl rfl fun hp _ _ h n => ok_eqI rfl (Gd.get n.1 hp) (cI rfl), o1 [(75, some 10), (77, some 12)] rfl fun _ _ h n => ok_pickAnd rfl n.1 (Gd.get n.2.1) (cB rfl), cm 13 rfl rfl, mT rfl rfl i14, gT [(80, some 15)] rfl rfl fun hp _ _ h n => ok_eqI rfl (Gd.get n.1 hp) (cI rfl), o1 [(79, some 14), (81, some 16)] rfl fun _ _ h n => ok_pickAnd rfl n.1 (Gd.get n.2.1) (cB rfl), cm 17 rfl rfl, mT rfl rfl i16, gT [(84, some 19)] rfl rfl fun hp _ _ h n => ok_eqI rfl (Gd.get n.1 hp) (cI rfl), o1 [(83, some 18), (85, some 20)] rfl fun _ _ h n => ok_pickAnd rfl n.1 (Gd.get n.2.1) (cB rfl), cm 21 rfl rfl, mT rfl rfl i7, gT [(88, some 23)] rfl rfl fun hp _ _ h n => ok_eqI rfl (Gd.get n.1 hp) (cI rfl), o1 [(87, some 22), (89, some 24)] rfl fun _ _ h n => ok_pickAnd rfl n.1 (Gd.get n.2.1) (cB rfl), cp 25 rfl rfl, trivial⟩ [⟨_, _⟩, ⟨_, _⟩, ⟨_, _⟩, ⟨_, _⟩, ⟨_, _⟩] (fun b q p => ⟨p.ke 4 rfl i4, p.ke 6 rfl i6, p.ke 9 rfl i9, p.ke 11 rfl i11, p.ou 26 17 rfl, trivial⟩) ?_
 rintro a k ⟨⟨hg, hs, hd⟩, i4, i6, i9, i11, i17, _⟩
 refine wp_seq ?_
 obtain ⟨x9, hx9, hr⟩ := bind_some hr
 obtain ⟨x10, hx10, hx9⟩ := ite_bind hx9
 obtain ⟨x11, hx11, hr⟩ := bind_some hr
 obtain ⟨x12, hx12, hx11⟩ := ite_bind hx11
 obtain ⟨x13, hx13, hr⟩ := bind_some hr
 obtain ⟨x14, hx14, hx13⟩ := ite_bind hx13
 obtain ⟨x15, hx15, hr⟩ := bind_some hr
 obtain ⟨x16, hx16, hx15⟩ := ite_bind hx15
 obtain ⟨x17, hx17, hr⟩ := bind_some hr
 obtain ⟨x18, hx18, hx17⟩ := ite_bind hx17
 refine cut (fun a' k' => Bs noF k0 121 a' k' ∧ (IsV x17) (a'.get 0) k' ∧ True) ?_ hQ ?_
 ·intro Q10 W10 w10
  refine gS 31 (_ :: _ :: _ :: _ :: _ :: _ :: _ :: _ :: _ :: _ :: _ :: _ :: _ :: _ :: _ :: _ :: _ :: _ :: ⟨some (Gd (x13 = true) (IsV ((2, 3) : (Int × Int)))), []⟩ :: ⟨some (Gd (x13 = true) (IsV ((1, 4) : (Int × Int)))), []⟩ :: ⟨some (Gd (x13 = true) (IsV (α := (List (Int × Int))) ([((2, 3) : (Int × Int)), ((1, 4) : (Int × Int))]))), [(109, some 18), (110, some 19)]⟩ :: _ :: _ :: _ :: _ :: ⟨some (Gd (x15 = true) (IsV ((2, 3) : (Int × Int)))), []⟩ :: ⟨some (Gd (x15 = true) (IsV ((1, 2) : (Int × Int)))), []⟩ :: ⟨some (Gd (x15 = true) (IsV (α := (List (Int × Int))) ([((2, 3) : (Int × Int)), ((1, 2) : (Int × Int))]))), [(116, some 25), (117, some 26)]⟩ :: _ :: _ :: _ :: []) hs (by kernel_rfl) ⟨mu rfl i17, cm 0 rfl rfl, mT rfl rfl i4, gT [(93, some 2)] rfl rfl fun hp _ _ h n => ok_call rfl Try.call19 (cUnits_ok (Gd.get n.1 hp) (cI rfl) (hx10 hp)), gT [(94, some 3)] rfl rfl fun hp _ _ h n => ok_eqI rfl (Gd.get n.1 hp) (cI rfl), o1 [(92, some 1), (95, some 4)] rfl fun _ _ h n => ok_pickM rfl n.1 hx9 (Gd.get n.2.1) (cB rfl), cm 5 rfl rfl, mT rfl rfl i4, gT [(98, some 7)] rfl rfl fun hp _ _ h n => ok_call rfl Try.call19 (cUnits_ok (Gd.get n.1 hp) (cI rfl) (hx12 hp)), gT [(99, some 8)] rfl rfl fun hp _ _ h n => ok_eqI rfl (Gd.get n.1 hp) (cI rfl), o1 [(97, some 6), (100, some 9)] rfl fun _ _ h n => ok_pickM rfl n.1 hx11 (Gd.get n.2.1) (cB rfl), cm 10 rfl rfl, mT rfl rfl i6, gT [(103, some 12)] rfl rfl fun hp _ _ h n => ok_call rfl Try.call19 (cUnits_ok (Gd.get n.1 hp) (cI rfl) (hx14 hp)), gT [(104, some 13)] rfl rfl fun hp _ _ h n => ok_eqI rfl (Gd.get n.1 hp) (cI rfl), o1 [(102, some 11), (105, some 14)] rfl fun _ _ h n => ok_pickM rfl n.1 hx13 (Gd.get n.2.1) (cB rfl), cm 15 rfl rfl, mT rfl rfl i9, gdT rfl rfl fun hp _ _ h n => ok_build rfl (bld37_0_1 (cI rfl) (cI rfl)), gdT rfl rfl fun hp _ _ h n => ok_build rfl (bld37_0_1 (cI rfl) (cI rfl)), gdT rfl rfl fun hp _ _ h n => ok_buildSlice rfl Try.underlying29 eo37 rfl (by decide) (by decide) ⟨rfl, (Gd.get n.1 hp), rfl, (Gd.get n.2.1 hp), trivial⟩, gT [(108, some 17), (111, some 20)] rfl rfl fun hp _ _ h n => ok_call rfl Try.call15 (rSameTrace_ok (Gd.get n.1 hp) (Gd.get n.2.1 hp) (hx16 hp)), o1 [(107, some 16), (112, some 21)] rfl fun _ _ h n => ok_pickM rfl n.1 hx15 (Gd.get n.2.1) (cB rfl), cm 22 rfl rfl, mT rfl rfl i11, gdT rfl rfl fun hp _ _ h n => ok_build rfl (bld37_0_1 (cI rfl) (cI rfl)), gdT rfl rfl fun hp _ _ h n => ok_build rfl (bld37_0_1 (cI rfl) (cI rfl)), gdT rfl rfl fun hp _ _ h n => ok_buildSlice rfl Try.underlying29 eo37 rfl (by decide) (by decide) ⟨rfl, (Gd.get n.1 hp), rfl, (Gd.get n.2.1 hp), trivial⟩, gT [(115, some 24), (118, some 27)] rfl rfl fun hp _ _ h n => ok_call rfl Try.call15 (rSameTrace_ok (Gd.get n.1 hp) (Gd.get n.2.1 hp) (hx18 hp)), o1 [(114, some 23), (119, some 28)] rfl fun _ _ h n => ok_pickM rfl n.1 hx17 (Gd.get n.2.1) (cB rfl), cp 29 rfl rfl, trivial⟩ W10 fun b q p => ?_
  exact tail_done (k := q) (w10 _ _ ⟨Bs.post ⟨hg, hs, hd⟩ p, p.ou 30 0 rfl, trivial⟩)
 rintro a k ⟨⟨hg, hs, hd⟩, i0, _⟩
 refine wp_ret ?_
 obtain rfl := Option.some.inj hr
 exact retC1 rfl hd hg i0
def lawTells_L0 (l_ : (List Account)) (m_ : (List Move)) (s1 : Int) : Option (Flow (Int) (Bool)) :=
 if (decide (s1 < (m_.length : Int))) then
  (getI m_ s1).bind fun x1 =>
  (cDo l_ x1).bind fun x2 =>
  (getI m_ s1).bind fun x3 =>
  (rDo l_ x3).bind fun x4 =>
  (if (x2.2 != x4.2) then
   some true
  else
   (rSame x2.1 x4.1).bind fun x5 =>
   some (!x5)).bind fun x6 =>
  if x6 then
   some (.ret false)
  else
   (addI s1 1).bind fun x7 =>
   some (.go x7)
 else
  some (.ex 0 s1)
def lawTells_L1 (l_ : (List Account)) (m_ : (List Move)) (lot_ : Int) (x1 : (List Account) × Int × Int) (s1 : Int) : Option (Flow (Int) (Bool)) :=
 if ((decide (s1 ≤ x1.2.1)) && (decide (s1 < (m_.length : Int)))) then
  (addI s1 1).bind fun x2 =>
  (sliceI m_ 0 x2).bind fun x3 =>
  (cTrace l_ x3 lot_).bind fun x4 =>
  (addI s1 1).bind fun x5 =>
  (sliceI m_ 0 x5).bind fun x6 =>
  (rTrace l_ x6 lot_).bind fun x7 =>
  (if (x4.2 != x7.2) then
   some true
  else
   (rSameTrace x4.1 x7.1).bind fun x8 =>
   some (!x8)).bind fun x9 =>
  if x9 then
   some (.ret false)
  else
   (addI s1 1).bind fun x10 =>
   some (.go x10)
 else
  some (.ex 2 s1)
def lawTells (l_ : (List Account)) (m_ : (List Move)) (lot_ : Int) : Option (Bool) :=
 (small).bind fun x1 =>
 (few l_ m_).bind fun x2 =>
 if (!x2) then
  some x1
 else
  (cRun l_ m_).bind fun x3 =>
  (rRun l_ m_).bind fun x4 =>
  (rSame x3.1 x4.1).bind fun x5 =>
  (if (((!x5) || (x3.2.1 != x4.2.1)) || (x3.2.2 != x4.2.2)) then
   some true
  else
   (cRight l_).bind fun x6 =>
   (rRight l_).bind fun x7 =>
   some (x6 != x7)).bind fun x8 =>
  (if x8 then
   some true
  else
   (cUnits l_ lot_).bind fun x9 =>
   (rUnits l_ lot_).bind fun x10 =>
   some (x9 != x10)).bind fun x11 =>
  (if x11 then
   some true
  else
   (cTotal l_).bind fun x12 =>
   (rTotal l_).bind fun x13 =>
   some (x12 != x13)).bind fun x14 =>
  if x14 then
   some false
  else
   (iterL (lawTells_L0 l_ m_) (l_.length + m_.length + 1) 0).bind fun f1 => match f1 with
    | .go _ => none
    | .ex _ _ =>
     (iterL (lawTells_L1 l_ m_ lot_ x3) (l_.length + m_.length + 2) (-1)).bind fun f2 => match f2 with
      | .go _ => none
      | .ex _ _ =>
       some x1
      | .ret r1 => some r1
    | .ret r2 => some r2
theorem lawTells_ok {k0 : K} {v0 v1 v2 : Value} {l_ : (List Account)} {m_ : (List Move)} {lot_ : Int} {r : Bool} (i0 : (IsV l_) v0 k0) (i1 : (IsV m_) v1 k0) (i2 : (IsV lot_) v2 k0) (hr : lawTells l_ m_ lot_ = some r) :
  Calls Try.prog 6 #[v0, v1, v2] k0.w (Ret k0 (IsV r)) := by
 unfold lawTells at hr
 refine Ret.ofC ?_
 refine enterK Try.func6 rfl Try.ntmps6 (show 3 ≤ 155 by decide) fun a k hk0 hs hd ha => ?_
 obtain ⟨e0, e1, e2, _⟩ := ha
 replace i0 : (IsV l_) (a.get 0) k := by rw [e0, hk0]; exact i0
 replace i1 : (IsV m_) (a.get 1) k := by rw [e1, hk0]; exact i1
 replace i2 : (IsV lot_) (a.get 2) k := by rw [e2, hk0]; exact i2
 have hQ : Gb.LetsOut (bodyPost Try.prog Try.f6 (RetC noF k0 (IsV r))) := letsOutC
 have hg : Chg noF k0 k := by rw [hk0]; exact Chg.refl _ k0
 refine stepL 1 (⟨some (IsV false), []⟩ :: []) rfl ⟨hg, hs, hd⟩ (by kernel_rfl) ⟨ob1 rfl fun _ _ h n => ok_assign rfl (isV_bool.2 rfl), trivial⟩ [⟨_, _⟩, ⟨_, _⟩, ⟨_, _⟩] (fun b q p => ⟨p.ke 0 rfl i0, p.ke 1 rfl i1, p.ke 2 rfl i2, trivial⟩) ?_
 rintro a k ⟨⟨hg, hs, hd⟩, i0, i1, i2, _⟩
 refine wp_seq ?_
 obtain ⟨x1, hx1, hr⟩ := bind_some hr
 refine cut (fun a' k' => Bs noF k0 155 a' k' ∧ (IsV l_) (a'.get 0) k' ∧ (IsV m_) (a'.get 1) k' ∧ (IsV lot_) (a'.get 2) k' ∧ (IsV x1) (a'.get 7) k' ∧ True) ?_ hQ ?_
 ·intro Q1 W1 w1
  refine gS 2 (_ :: _ :: []) hs (by kernel_rfl) ⟨o1 [] rfl fun _ _ h n => ok_call rfl Try.call8 (small_ok hx1), cp 0 rfl rfl, trivial⟩ W1 fun b q p => ?_
  exact tail_done (k := q) (w1 _ _ ⟨Bs.post ⟨hg, hs, hd⟩ p, p.ke 0 rfl i0, p.ke 1 rfl i1, p.ke 2 rfl i2, p.ou 1 7 rfl, trivial⟩)
 rintro a k ⟨⟨hg, hs, hd⟩, i0, i1, i2, i7, _⟩
 refine wp_seq ?_
 refine wp_seq ?_
 obtain ⟨x2, hx2, hr⟩ := bind_some hr
 refine cut (fun a' k' => Bs noF k0 155 a' k' ∧ (IsV l_) (a'.get 0) k' ∧ (IsV m_) (a'.get 1) k' ∧ (IsV lot_) (a'.get 2) k' ∧ (IsV x1) (a'.get 7) k' ∧ (IsV (!x2)) (a'.get 28) k' ∧ True) ?_ hQ ?_
 ·intro Q2 W2 w2
  refine gS 4 (_ :: _ :: _ :: _ :: []) hs (by kernel_rfl) ⟨mu rfl i0, mu rfl i1, o1 [(25, some 0), (26, some 1)] rfl fun _ _ h n => ok_call rfl Try.call9 (few_ok n.1 n.2.1 hx2), o1 [(27, some 2)] rfl fun _ _ h n => ok_not rfl n.1, trivial⟩ W2 fun b q p => ?_
  exact tail_done (k := q) (w2 _ _ ⟨Bs.post ⟨hg, hs, hd⟩ p, p.ke 0 rfl i0, p.ke 1 rfl i1, p.ke 2 rfl i2, p.ke 7 rfl i7, p.ou 3 28 rfl, trivial⟩)
 rintro a k ⟨⟨hg, hs, hd⟩, i0, i1, i2, i7, i28, _⟩
 refine wp_cond_split (isBool i28) (fun hc1004 => ?_) (fun hc1004 => ?_)
 ·rw [if_pos hc1004] at hr
  refine stepL 2 (_ :: _ :: []) rfl ⟨hg, hs, hd⟩ (by kernel_rfl) ⟨mu rfl i7, cp 0 rfl rfl, trivial⟩ [⟨_, _⟩] (fun b q p => ⟨p.ou 1 6 rfl, trivial⟩) ?_
  rintro a k ⟨⟨hg, hs, hd⟩, i6, _⟩
  refine wp_ret ?_
  obtain rfl := Option.some.inj hr
  exact retC1 rfl hd hg i6
 rw [if_neg (by rw [hc1004]; decide)] at hr
 refine wp_skip ?_
 refine wp_seq ?_
 obtain ⟨x3, hx3, hr⟩ := bind_some hr
 refine cut (fun a' k' => Bs noF k0 155 a' k' ∧ (IsV l_) (a'.get 0) k' ∧ (IsV m_) (a'.get 1) k' ∧ (IsV lot_) (a'.get 2) k' ∧ (IsV x1) (a'.get 7) k' ∧ (IsV x3.1) (a'.get 8) k' ∧ (IsV x3.2.1) (a'.get 9) k' ∧ (IsV x3.2.2) (a'.get 10) k' ∧ True) ?_ hQ ?_
 ·intro Q3 W3 w3
  refine gS 10 (_ :: _ :: _ :: _ :: _ :: _ :: _ :: _ :: _ :: _ :: []) hs (by kernel_rfl) ⟨mu rfl i0, mu rfl i1, o1 [(31, some 0), (32, some 1)] rfl fun _ _ h n => ok_call rfl Try.call10 (cRun_ok n.1 n.2.1 hx3), cm 2 rfl rfl, o1 [(30, some 3)] rfl fun _ _ h n => ok_ext3_0 rfl n.1, o1 [(30, some 3)] rfl fun _ _ h n => ok_ext3_1 rfl n.1, o1 [(30, some 3)] rfl fun _ _ h n => ok_ext3_2 rfl n.1, cp 4 rfl rfl, cp 5 rfl rfl, cp 6 rfl rfl, trivial⟩ W3 fun b q p => ?_
  exact tail_done (k := q) (w3 _ _ ⟨Bs.post ⟨hg, hs, hd⟩ p, p.ke 0 rfl i0, p.ke 1 rfl i1, p.ke 2 rfl i2, p.ke 7 rfl i7, p.ou 7 8 rfl, p.ou 8 9 rfl, p.ou 9 10 rfl, trivial⟩)
 rintro a k ⟨⟨hg, hs, hd⟩, i0, i1, i2, i7, i8, i9, i10, _⟩
 refine wp_seq ?_
 obtain ⟨x4, hx4, hr⟩ := bind_some hr
 refine cut (fun a' k' => Bs noF k0 155 a' k' ∧ (IsV l_) (a'.get 0) k' ∧ (IsV m_) (a'.get 1) k' ∧ (IsV lot_) (a'.get 2) k' ∧ (IsV x1) (a'.get 7) k' ∧ (IsV x3.1) (a'.get 8) k' ∧ (IsV x3.2.1) (a'.get 9) k' ∧ (IsV x3.2.2) (a'.get 10) k' ∧ (IsV x4.1) (a'.get 11) k' ∧ (IsV x4.2.1) (a'.get 12) k' ∧ (IsV x4.2.2) (a'.get 13) k' ∧ True) ?_ hQ ?_
 ·intro Q4 W4 w4
  refine gS 10 (_ :: _ :: _ :: _ :: _ :: _ :: _ :: _ :: _ :: _ :: []) hs (by kernel_rfl) ⟨mu rfl i0, mu rfl i1, o1 [(38, some 0), (39, some 1)] rfl fun _ _ h n => ok_call rfl Try.call16 (rRun_ok n.1 n.2.1 hx4), cm 2 rfl rfl, o1 [(37, some 3)] rfl fun _ _ h n => ok_ext3_0 rfl n.1, o1 [(37, some 3)] rfl fun _ _ h n => ok_ext3_1 rfl n.1, o1 [(37, some 3)] rfl fun _ _ h n => ok_ext3_2 rfl n.1, cp 4 rfl rfl, cp 5 rfl rfl, cp 6 rfl rfl, trivial⟩ W4 fun b q p => ?_
  exact tail_done (k := q) (w4 _ _ ⟨Bs.post ⟨hg, hs, hd⟩ p, p.ke 0 rfl i0, p.ke 1 rfl i1, p.ke 2 rfl i2, p.ke 7 rfl i7, p.ke 8 rfl i8, p.ke 9 rfl i9, p.ke 10 rfl i10, p.ou 7 11 rfl, p.ou 8 12 rfl, p.ou 9 13 rfl, trivial⟩)
 rintro a k ⟨⟨hg, hs, hd⟩, i0, i1, i2, i7, i8, i9, i10, i11, i12, i13, _⟩
 refine wp_seq ?_
 refine wp_seq ?_
 obtain ⟨x5, hx5, hr⟩ := bind_some hr
 obtain ⟨x6, hx6, hr⟩ := bind_some hr
 obtain ⟨x7, hx7, hx6⟩ := ite_bindF hx6
 obtain ⟨x8, hx8, hx6⟩ := ite_bindF hx6
 obtain ⟨x9, hx9, hr⟩ := bind_some hr
 obtain ⟨x10, hx10, hx9⟩ := ite_bindF hx9
 obtain ⟨x11, hx11, hx9⟩ := ite_bindF hx9
 obtain ⟨x12, hx12, hr⟩ := bind_some hr
 obtain ⟨x13, hx13, hx12⟩ := ite_bindF hx12
 obtain ⟨x14, hx14, hx12⟩ := ite_bindF hx12
 refine cut (fun a' k' => Bs noF k0 155 a' k' ∧ (IsV l_) (a'.get 0) k' ∧ (IsV m_) (a'.get 1) k' ∧ (IsV lot_) (a'.get 2) k' ∧ (IsV x1) (a'.get 7) k' ∧ (IsV x3.2.1) (a'.get 9) k' ∧ (IsV x12) (a'.get 80) k' ∧ True) ?_ hQ ?_
 ·intro Q5 W5 w5
  refine gS 37 (_ :: _ :: _ :: _ :: _ :: _ :: _ :: ⟨some (Gd ((!x5) = false) (IsV (x3.2.1 != x4.2.1))), [(49, some 5), (50, some 6)]⟩ :: _ :: _ :: _ :: _ :: ⟨some (Gd (((!x5) || (x3.2.1 != x4.2.1)) = false) (IsV (x3.2.2 != x4.2.2))), [(54, some 10), (55, some 11)]⟩ :: _ :: _ :: _ :: _ :: _ :: _ :: ⟨some (Gd ((((!x5) || (x3.2.1 != x4.2.1)) || (x3.2.2 != x4.2.2)) = false) (IsV (x7 != x8))), [(60, some 16), (62, some 18)]⟩ :: _ :: _ :: _ :: _ :: _ :: _ :: _ :: _ :: ⟨some (Gd (x6 = false) (IsV (x10 != x11))), [(68, some 24), (71, some 27)]⟩ :: _ :: _ :: _ :: _ :: _ :: _ :: ⟨some (Gd (x9 = false) (IsV (x13 != x14))), [(76, some 32), (78, some 34)]⟩ :: _ :: []) hs (by kernel_rfl) ⟨mu rfl i8, mu rfl i11, o1 [(44, some 0), (45, some 1)] rfl fun _ _ h n => ok_call rfl Try.call14 (rSame_ok n.1 n.2.1 hx5), o1 [(46, some 2)] rfl fun _ _ h n => ok_not rfl n.1, cm 3 rfl rfl, mF rfl rfl i9, mF rfl rfl i12, gdF rfl rfl fun hp _ _ h n => ok_neI rfl (Gd.get n.1 hp) (Gd.get n.2.1 hp), o1 [(48, some 4), (51, some 7)] rfl fun _ _ h n => ok_pickOr rfl n.1 (cB rfl) (Gd.get n.2.1), cm 8 rfl rfl, mF rfl rfl i10, mF rfl rfl i13, gdF rfl rfl fun hp _ _ h n => ok_neI rfl (Gd.get n.1 hp) (Gd.get n.2.1 hp), o1 [(53, some 9), (56, some 12)] rfl fun _ _ h n => ok_pickOr rfl n.1 (cB rfl) (Gd.get n.2.1), cm 13 rfl rfl, mF rfl rfl i0, gF [(59, some 15)] rfl rfl fun hp _ _ h n => ok_call rfl Try.call17 (cRight_ok (Gd.get n.1 hp) (hx7 hp)), mF rfl rfl i0, gF [(61, some 17)] rfl rfl fun hp _ _ h n => ok_call rfl Try.call18 (rRight_ok (Gd.get n.1 hp) (hx8 hp)), gdF rfl rfl fun hp _ _ h n => ok_neB rfl Try.underlying4 (Gd.get n.1 hp) (Gd.get n.2.1 hp), o1 [(58, some 14), (63, some 19)] rfl fun _ _ h n => ok_pickM rfl n.1 hx6 (cB rfl) (Gd.get n.2.1), cm 20 rfl rfl, mF rfl rfl i0, mF rfl rfl i2, gF [(66, some 22), (67, some 23)] rfl rfl fun hp _ _ h n => ok_call rfl Try.call19 (cUnits_ok (Gd.get n.1 hp) (Gd.get n.2.1 hp) (hx10 hp)), mF rfl rfl i0, mF rfl rfl i2, gF [(69, some 25), (70, some 26)] rfl rfl fun hp _ _ h n => ok_call rfl Try.call20 (rUnits_ok (Gd.get n.1 hp) (Gd.get n.2.1 hp) (hx11 hp)), gdF rfl rfl fun hp _ _ h n => ok_neI rfl (Gd.get n.1 hp) (Gd.get n.2.1 hp), o1 [(65, some 21), (72, some 28)] rfl fun _ _ h n => ok_pickM rfl n.1 hx9 (cB rfl) (Gd.get n.2.1), cm 29 rfl rfl, mF rfl rfl i0, gF [(75, some 31)] rfl rfl fun hp _ _ h n => ok_call rfl Try.call21 (cTotal_ok (Gd.get n.1 hp) (hx13 hp)), mF rfl rfl i0, gF [(77, some 33)] rfl rfl fun hp _ _ h n => ok_call rfl Try.call22 (rTotal_ok (Gd.get n.1 hp) (hx14 hp)), gdF rfl rfl fun hp _ _ h n => ok_neI rfl (Gd.get n.1 hp) (Gd.get n.2.1 hp), o1 [(74, some 30), (79, some 35)] rfl fun _ _ h n => ok_pickM rfl n.1 hx12 (cB rfl) (Gd.get n.2.1), trivial⟩ W5 fun b q p => ?_
  exact tail_done (k := q) (w5 _ _ ⟨Bs.post ⟨hg, hs, hd⟩ p, p.ke 0 rfl i0, p.ke 1 rfl i1, p.ke 2 rfl i2, p.ke 7 rfl i7, p.ke 9 rfl i9, p.ou 36 80 rfl, trivial⟩)
 rintro a k ⟨⟨hg, hs, hd⟩, i0, i1, i2, i7, i9, i80, _⟩
 refine wp_cond_split (isBool i80) (fun hc997 => ?_) (fun hc997 => ?_)
 ·rw [if_pos hc997] at hr
  refine stepL 1 (⟨some (IsV false), []⟩ :: []) rfl ⟨hg, hs, hd⟩ (by kernel_rfl) ⟨ob1 rfl fun _ _ h n => ok_assign rfl (isV_bool.2 rfl), trivial⟩ [⟨_, _⟩] (fun b q p => ⟨p.ou 0 6 rfl, trivial⟩) ?_
  rintro a k ⟨⟨hg, hs, hd⟩, i6, _⟩
  refine wp_ret ?_
  obtain rfl := Option.some.inj hr
  exact retC1 rfl hd hg i6
 rw [if_neg (by rw [hc997]; decide)] at hr
 refine wp_skip ?_
 refine wp_seq ?_
 refine stepL 1 (⟨some (IsI 0), []⟩ :: []) rfl ⟨hg, hs, hd⟩ (by kernel_rfl) ⟨aI rfl rfl, trivial⟩ [⟨_, _⟩, ⟨_, _⟩, ⟨_, _⟩, ⟨_, _⟩, ⟨_, _⟩, ⟨_, _⟩] (fun b q p => ⟨p.ke 0 rfl i0, p.ke 1 rfl i1, p.ke 2 rfl i2, p.ke 7 rfl i7, p.ke 9 rfl i9, p.ou 0 14 rfl, trivial⟩) ?_
 rintro a k ⟨⟨hg, hs, hd⟩, i0, i1, i2, i7, i9, i14, _⟩
 refine wp_block ?_
 obtain ⟨f1, hf1, hr⟩ := bind_some hr
 refine cutFe f1 (fun s' c l => Bs noF k0 155 c l ∧ IsV l_ (c.get 0) l ∧ IsV m_ (c.get 1) l ∧ IsV lot_ (c.get 2) l ∧ IsV x1 (c.get 7) l ∧ IsV x3.2.1 (c.get 9) l ∧ IsV s' (c.get 14) l ∧ True) (fun i' s' c l => (i' = 0 ∧ Bs noF k0 155 c l ∧ IsV l_ (c.get 0) l ∧ IsV m_ (c.get 1) l ∧ IsV lot_ (c.get 2) l ∧ IsV x1 (c.get 7) l ∧ IsV x3.2.1 (c.get 9) l ∧ True)) (fun r' c l => bodyPost Try.prog Try.f6 (RetC noF k0 (IsV r')) .ret c l.w) ?_ hQ ?_ ?_ ?_
 ·intro Q6 W6 hgo hex hret
  refine sim_loop ?_ _ _ _ _ _ hf1 ⟨⟨hg, hs, hd⟩, i0, i1, i2, i7, i9, i14, trivial⟩ Q6 W6 hgo hex hret
  clear hr hf1 hgo hex hret W6 hQ hg hs hd i0 i1 i14 i2 i7 i9
  intro s1 fl_ a k hr hS Q hQ hgo934 hex935 hret936
  obtain ⟨⟨hg, hs, hd⟩, i0, i1, i2, i7, i9, i14, _⟩ := hS
  unfold lawTells_L0 at hr
  refine wp_seq ?_
  refine stepL 4 (_ :: _ :: _ :: _ :: []) rfl ⟨hg, hs, hd⟩ (by kernel_rfl) ⟨mu rfl i14, mu rfl i1, o1 [(82, some 1)] rfl fun _ _ h n => ok_len rfl rfl Try.underlying23 (IsV.rd n.1), o1 [(81, some 0), (83, some 2)] rfl fun _ _ h n => ok_lss rfl n.1 n.2.1, trivial⟩ [⟨_, _⟩, ⟨_, _⟩, ⟨_, _⟩, ⟨_, _⟩, ⟨_, _⟩, ⟨_, _⟩, ⟨_, _⟩] (fun b q p => ⟨p.ke 0 rfl i0, p.ke 1 rfl i1, p.ke 2 rfl i2, p.ke 7 rfl i7, p.ke 9 rfl i9, p.ke 14 rfl i14, p.ou 3 84 rfl, trivial⟩) ?_
  rintro a k ⟨⟨hg, hs, hd⟩, i0, i1, i2, i7, i9, i14, i84, _⟩
  refine wp_cond_split (isBool i84) (fun hc954 => ?_) (fun hc954 => ?_)
  ·rw [if_pos hc954] at hr
   refine wp_skip ?_
   refine wp_seq ?_
   refine wp_block ?_
   refine wp_seq ?_
   obtain ⟨x15, hx15, hr⟩ := bind_some hr
   obtain ⟨x16, hx16, hr⟩ := bind_some hr
   refine cut (fun a' k' => Bs noF k0 155 a' k' ∧ (IsV l_) (a'.get 0) k' ∧ (IsV m_) (a'.get 1) k' ∧ (IsV lot_) (a'.get 2) k' ∧ (IsV x1) (a'.get 7) k' ∧ (IsV x3.2.1) (a'.get 9) k' ∧ (IsV s1) (a'.get 14) k' ∧ (IsV x16.1) (a'.get 15) k' ∧ (IsV x16.2) (a'.get 16) k' ∧ True) ?_ hQ ?_
   ·intro Q7 W7 w6
    refine gS 11 (_ :: _ :: _ :: _ :: _ :: _ :: _ :: _ :: _ :: _ :: _ :: []) hs (by kernel_rfl) ⟨mu rfl i0, mu rfl i1, mu rfl i14, o1 [(89, some 1), (90, some 2)] rfl fun _ _ h n => ok_indexAddr rfl Try.underlying23 ty33 (IsV.rd n.1) n.2.1 hx15, o1 [(91, some 3)] rfl fun _ _ h n => ok_load rfl ty33 n.1, o1 [(88, some 0), (92, some 4)] rfl fun _ _ h n => ok_call rfl Try.call13 (cDo_ok n.1 n.2.1 hx16), cm 5 rfl rfl, o1 [(87, some 6)] rfl fun _ _ h n => ok_ext2_0 rfl n.1, o1 [(87, some 6)] rfl fun _ _ h n => ok_ext2_1 rfl n.1, cp 7 rfl rfl, cp 8 rfl rfl, trivial⟩ W7 fun b q p => ?_
    exact tail_done (k := q) (w6 _ _ ⟨Bs.post ⟨hg, hs, hd⟩ p, p.ke 0 rfl i0, p.ke 1 rfl i1, p.ke 2 rfl i2, p.ke 7 rfl i7, p.ke 9 rfl i9, p.ke 14 rfl i14, p.ou 9 15 rfl, p.ou 10 16 rfl, trivial⟩)
   rintro a k ⟨⟨hg, hs, hd⟩, i0, i1, i2, i7, i9, i14, i15, i16, _⟩
   refine wp_seq ?_
   obtain ⟨x17, hx17, hr⟩ := bind_some hr
   obtain ⟨x18, hx18, hr⟩ := bind_some hr
   refine cut (fun a' k' => Bs noF k0 155 a' k' ∧ (IsV l_) (a'.get 0) k' ∧ (IsV m_) (a'.get 1) k' ∧ (IsV lot_) (a'.get 2) k' ∧ (IsV x1) (a'.get 7) k' ∧ (IsV x3.2.1) (a'.get 9) k' ∧ (IsV s1) (a'.get 14) k' ∧ (IsV x16.1) (a'.get 15) k' ∧ (IsV x16.2) (a'.get 16) k' ∧ (IsV x18.1) (a'.get 17) k' ∧ (IsV x18.2) (a'.get 18) k' ∧ True) ?_ hQ ?_
   ·intro Q8 W8 w7
    refine gS 11 (_ :: _ :: _ :: _ :: _ :: _ :: _ :: _ :: _ :: _ :: _ :: []) hs (by kernel_rfl) ⟨mu rfl i0, mu rfl i1, mu rfl i14, o1 [(98, some 1), (99, some 2)] rfl fun _ _ h n => ok_indexAddr rfl Try.underlying23 ty33 (IsV.rd n.1) n.2.1 hx17, o1 [(100, some 3)] rfl fun _ _ h n => ok_load rfl ty33 n.1, o1 [(97, some 0), (101, some 4)] rfl fun _ _ h n => ok_call rfl Try.call23 (rDo_ok n.1 n.2.1 hx18), cm 5 rfl rfl, o1 [(96, some 6)] rfl fun _ _ h n => ok_ext2_0 rfl n.1, o1 [(96, some 6)] rfl fun _ _ h n => ok_ext2_1 rfl n.1, cp 7 rfl rfl, cp 8 rfl rfl, trivial⟩ W8 fun b q p => ?_
    exact tail_done (k := q) (w7 _ _ ⟨Bs.post ⟨hg, hs, hd⟩ p, p.ke 0 rfl i0, p.ke 1 rfl i1, p.ke 2 rfl i2, p.ke 7 rfl i7, p.ke 9 rfl i9, p.ke 14 rfl i14, p.ke 15 rfl i15, p.ke 16 rfl i16, p.ou 9 17 rfl, p.ou 10 18 rfl, trivial⟩)
   rintro a k ⟨⟨hg, hs, hd⟩, i0, i1, i2, i7, i9, i14, i15, i16, i17, i18, _⟩
   refine wp_seq ?_
   obtain ⟨x19, hx19, hr⟩ := bind_some hr
   obtain ⟨x20, hx20, hx19⟩ := ite_bindF hx19
   refine cut (fun a' k' => Bs noF k0 155 a' k' ∧ (IsV l_) (a'.get 0) k' ∧ (IsV m_) (a'.get 1) k' ∧ (IsV lot_) (a'.get 2) k' ∧ (IsV x1) (a'.get 7) k' ∧ (IsV x3.2.1) (a'.get 9) k' ∧ (IsV s1) (a'.get 14) k' ∧ (IsV x19) (a'.get 113) k' ∧ True) ?_ hQ ?_
   ·intro Q9 W9 w8
    refine gS 9 (_ :: _ :: ⟨some (IsV (x16.2 != x18.2)), [(105, some 0), (106, some 1)]⟩ :: _ :: _ :: _ :: _ :: _ :: _ :: []) hs (by kernel_rfl) ⟨mu rfl i16, mu rfl i18, ob1 rfl fun _ _ h n => ok_neI rfl n.1 n.2.1, cm 2 rfl rfl, mF rfl rfl i15, mF rfl rfl i17, gF [(109, some 4), (110, some 5)] rfl rfl fun hp _ _ h n => ok_call rfl Try.call14 (rSame_ok (Gd.get n.1 hp) (Gd.get n.2.1 hp) (hx20 hp)), gF [(111, some 6)] rfl rfl fun hp _ _ h n => ok_not rfl (Gd.get n.1 hp), o1 [(108, some 3), (112, some 7)] rfl fun _ _ h n => ok_pickM rfl n.1 hx19 (cB rfl) (Gd.get n.2.1), trivial⟩ W9 fun b q p => ?_
    exact tail_done (k := q) (w8 _ _ ⟨Bs.post ⟨hg, hs, hd⟩ p, p.ke 0 rfl i0, p.ke 1 rfl i1, p.ke 2 rfl i2, p.ke 7 rfl i7, p.ke 9 rfl i9, p.ke 14 rfl i14, p.ou 8 113 rfl, trivial⟩)
   rintro a k ⟨⟨hg, hs, hd⟩, i0, i1, i2, i7, i9, i14, i113, _⟩
   refine wp_cond_split (isBool i113) (fun hc947 => ?_) (fun hc947 => ?_)
   ·rw [if_pos hc947] at hr
    refine stepL 1 (⟨some (IsV false), []⟩ :: []) rfl ⟨hg, hs, hd⟩ (by kernel_rfl) ⟨ob1 rfl fun _ _ h n => ok_assign rfl (isV_bool.2 rfl), trivial⟩ [⟨_, _⟩] (fun b q p => ⟨p.ou 0 6 rfl, trivial⟩) ?_
    rintro a k ⟨⟨hg, hs, hd⟩, i6, _⟩
    refine wp_ret ?_
    exact hret936 _ _ _ (Option.some.inj hr).symm (retC1 rfl hd hg i6)
   rw [if_neg (by rw [hc947]; decide)] at hr
   refine wp_skip ?_
   obtain ⟨x21, hx21, hr⟩ := bind_some hr
   refine cut (fun a' k' => Bs noF k0 155 a' k' ∧ (IsV l_) (a'.get 0) k' ∧ (IsV m_) (a'.get 1) k' ∧ (IsV lot_) (a'.get 2) k' ∧ (IsV x1) (a'.get 7) k' ∧ (IsV x3.2.1) (a'.get 9) k' ∧ (IsV x21) (a'.get 14) k' ∧ True) ?_ hQ ?_
   ·intro Q10 W10 w9
    refine gS 3 (_ :: _ :: _ :: []) hs (by kernel_rfl) ⟨mu rfl i14, o1 [(85, some 0)] rfl fun _ _ h n => ok_add rfl n.1 (cI rfl) hx21, cp 1 rfl rfl, trivial⟩ W10 fun b q p => ?_
    exact tail_done (k := q) (w9 _ _ ⟨Bs.post ⟨hg, hs, hd⟩ p, p.ke 0 rfl i0, p.ke 1 rfl i1, p.ke 2 rfl i2, p.ke 7 rfl i7, p.ke 9 rfl i9, p.ou 2 14 rfl, trivial⟩)
   rintro a k ⟨⟨hg, hs, hd⟩, i0, i1, i2, i7, i9, i14, _⟩
   exact hgo934 _ _ _ (Option.some.inj hr).symm ⟨⟨hg, hs, hd⟩, i0, i1, i2, i7, i9, i14, trivial⟩
  rw [if_neg (by rw [hc954]; decide)] at hr
  refine wp_exit ?_
  exact hex935 _ _ _ _ (Option.some.inj hr).symm ⟨rfl, ⟨hg, hs, hd⟩, i0, i1, i2, i7, i9, trivial⟩
 ·rintro r1 a k rfl hR
  dsimp only at hr
  obtain rfl := Option.some.inj hr
  exact hR
 ·rintro _ _ _ rfl _
  simp at hr
 clear hf1
 rintro _ s2 a k rfl ⟨rfl, ⟨hg, hs, hd⟩, i0, i1, i2, i7, i9, _⟩
 dsimp only at hr
 refine wp_seq ?_
 refine stepL 1 (⟨some (IsI (-1)), []⟩ :: []) rfl ⟨hg, hs, hd⟩ (by kernel_rfl) ⟨aI rfl rfl, trivial⟩ [⟨_, _⟩, ⟨_, _⟩, ⟨_, _⟩, ⟨_, _⟩, ⟨_, _⟩, ⟨_, _⟩] (fun b q p => ⟨p.ke 0 rfl i0, p.ke 1 rfl i1, p.ke 2 rfl i2, p.ke 7 rfl i7, p.ke 9 rfl i9, p.ou 0 19 rfl, trivial⟩) ?_
 rintro a k ⟨⟨hg, hs, hd⟩, i0, i1, i2, i7, i9, i19, _⟩
 refine wp_block ?_
 obtain ⟨f2, hf2, hr⟩ := bind_some hr
 refine cutFe f2 (fun s' c l => Bs noF k0 155 c l ∧ IsV l_ (c.get 0) l ∧ IsV m_ (c.get 1) l ∧ IsV lot_ (c.get 2) l ∧ IsV x1 (c.get 7) l ∧ IsV x3.2.1 (c.get 9) l ∧ IsV s' (c.get 19) l ∧ True) (fun i' s' c l => (i' = 2 ∧ Bs noF k0 155 c l ∧ IsV x1 (c.get 7) l ∧ True)) (fun r' c l => bodyPost Try.prog Try.f6 (RetC noF k0 (IsV r')) .ret c l.w) ?_ hQ ?_ ?_ ?_
 ·intro Q11 W11 hgo hex hret
  refine sim_loop ?_ _ _ _ _ _ hf2 ⟨⟨hg, hs, hd⟩, i0, i1, i2, i7, i9, i19, trivial⟩ Q11 W11 hgo hex hret
  clear hr hf2 hgo hex hret W11 hQ hg hs hd i0 i1 i19 i2 i7 i9
  intro s3 fl_ a k hr hS Q hQ hgo961 hex962 hret963
  obtain ⟨⟨hg, hs, hd⟩, i0, i1, i2, i7, i9, i19, _⟩ := hS
  unfold lawTells_L1 at hr
  refine wp_seq ?_
  refine stepL 9 (_ :: _ :: _ :: _ :: _ :: _ :: _ :: _ :: _ :: []) rfl ⟨hg, hs, hd⟩ (by kernel_rfl) ⟨mu rfl i19, mu rfl i9, o1 [(114, some 0), (115, some 1)] rfl fun _ _ h n => ok_leq rfl n.1 n.2.1, cm 2 rfl rfl, mT rfl rfl i19, mT rfl rfl i1, gT [(119, some 5)] rfl rfl fun hp _ _ h n => ok_len rfl rfl Try.underlying23 (IsV.rd (Gd.get n.1 hp)), gT [(118, some 4), (120, some 6)] rfl rfl fun hp _ _ h n => ok_lss rfl (Gd.get n.1 hp) (Gd.get n.2.1 hp), o1 [(117, some 3), (121, some 7)] rfl fun _ _ h n => ok_pickAnd rfl n.1 (Gd.get n.2.1) (cB rfl), trivial⟩ [⟨_, _⟩, ⟨_, _⟩, ⟨_, _⟩, ⟨_, _⟩, ⟨_, _⟩, ⟨_, _⟩, ⟨_, _⟩] (fun b q p => ⟨p.ke 0 rfl i0, p.ke 1 rfl i1, p.ke 2 rfl i2, p.ke 7 rfl i7, p.ke 9 rfl i9, p.ke 19 rfl i19, p.ou 8 122 rfl, trivial⟩) ?_
  rintro a k ⟨⟨hg, hs, hd⟩, i0, i1, i2, i7, i9, i19, i122, _⟩
  refine wp_cond_split (isBool i122) (fun hc981 => ?_) (fun hc981 => ?_)
  ·rw [if_pos hc981] at hr
   refine wp_skip ?_
   refine wp_seq ?_
   refine wp_block ?_
   refine wp_seq ?_
   obtain ⟨x22, hx22, hr⟩ := bind_some hr
   obtain ⟨x23, hx23, hr⟩ := bind_some hr
   obtain ⟨x24, hx24, hr⟩ := bind_some hr
   refine cut (fun a' k' => Bs noF k0 155 a' k' ∧ (IsV l_) (a'.get 0) k' ∧ (IsV m_) (a'.get 1) k' ∧ (IsV lot_) (a'.get 2) k' ∧ (IsV x1) (a'.get 7) k' ∧ (IsV x3.2.1) (a'.get 9) k' ∧ (IsV s3) (a'.get 19) k' ∧ (IsV x24.1) (a'.get 20) k' ∧ (IsV x24.2) (a'.get 21) k' ∧ True) ?_ hQ ?_
   ·intro Q12 W12 w10
    refine gS 12 (_ :: _ :: _ :: _ :: ⟨some (IsV x23), [(127, some 1), (129, some 3)]⟩ :: _ :: _ :: _ :: _ :: _ :: _ :: _ :: []) hs (by kernel_rfl) ⟨mu rfl i0, mu rfl i1, mu rfl i19, o1 [(128, some 2)] rfl fun _ _ h n => ok_add rfl n.1 (cI rfl) hx22, ob1 rfl fun _ _ h n => ok_slice_hi rfl Try.underlying23 szf33 n.1 n.2.1 hx23, mu rfl i2, o1 [(126, some 0), (130, some 4), (131, some 5)] rfl fun _ _ h n => ok_call rfl Try.call11 (cTrace_ok n.1 n.2.1 n.2.2.1 hx24), cm 6 rfl rfl, o1 [(125, some 7)] rfl fun _ _ h n => ok_ext2_0 rfl n.1, o1 [(125, some 7)] rfl fun _ _ h n => ok_ext2_1 rfl n.1, cp 8 rfl rfl, cp 9 rfl rfl, trivial⟩ W12 fun b q p => ?_
    exact tail_done (k := q) (w10 _ _ ⟨Bs.post ⟨hg, hs, hd⟩ p, p.ke 0 rfl i0, p.ke 1 rfl i1, p.ke 2 rfl i2, p.ke 7 rfl i7, p.ke 9 rfl i9, p.ke 19 rfl i19, p.ou 10 20 rfl, p.ou 11 21 rfl, trivial⟩)
   rintro a k ⟨⟨hg, hs, hd⟩, i0, i1, i2, i7, i9, i19, i20, i21, _⟩
   refine wp_seq ?_
   obtain ⟨x25, hx25, hr⟩ := bind_some hr
   obtain ⟨x26, hx26, hr⟩ := bind_some hr
   obtain ⟨x27, hx27, hr⟩ := bind_some hr
   refine cut (fun a' k' => Bs noF k0 155 a' k' ∧ (IsV l_) (a'.get 0) k' ∧ (IsV m_) (a'.get 1) k' ∧ (IsV lot_) (a'.get 2) k' ∧ (IsV x1) (a'.get 7) k' ∧ (IsV x3.2.1) (a'.get 9) k' ∧ (IsV s3) (a'.get 19) k' ∧ (IsV x24.1) (a'.get 20) k' ∧ (IsV x24.2) (a'.get 21) k' ∧ (IsV x27.1) (a'.get 22) k' ∧ (IsV x27.2) (a'.get 23) k' ∧ True) ?_ hQ ?_
   ·intro Q13 W13 w11
    refine gS 12 (_ :: _ :: _ :: _ :: ⟨some (IsV x26), [(137, some 1), (139, some 3)]⟩ :: _ :: _ :: _ :: _ :: _ :: _ :: _ :: []) hs (by kernel_rfl) ⟨mu rfl i0, mu rfl i1, mu rfl i19, o1 [(138, some 2)] rfl fun _ _ h n => ok_add rfl n.1 (cI rfl) hx25, ob1 rfl fun _ _ h n => ok_slice_hi rfl Try.underlying23 szf33 n.1 n.2.1 hx26, mu rfl i2, o1 [(136, some 0), (140, some 4), (141, some 5)] rfl fun _ _ h n => ok_call rfl Try.call24 (rTrace_ok n.1 n.2.1 n.2.2.1 hx27), cm 6 rfl rfl, o1 [(135, some 7)] rfl fun _ _ h n => ok_ext2_0 rfl n.1, o1 [(135, some 7)] rfl fun _ _ h n => ok_ext2_1 rfl n.1, cp 8 rfl rfl, cp 9 rfl rfl, trivial⟩ W13 fun b q p => ?_
    exact tail_done (k := q) (w11 _ _ ⟨Bs.post ⟨hg, hs, hd⟩ p, p.ke 0 rfl i0, p.ke 1 rfl i1, p.ke 2 rfl i2, p.ke 7 rfl i7, p.ke 9 rfl i9, p.ke 19 rfl i19, p.ke 20 rfl i20, p.ke 21 rfl i21, p.ou 10 22 rfl, p.ou 11 23 rfl, trivial⟩)
   rintro a k ⟨⟨hg, hs, hd⟩, i0, i1, i2, i7, i9, i19, i20, i21, i22, i23, _⟩
   refine wp_seq ?_
   obtain ⟨x28, hx28, hr⟩ := bind_some hr
   obtain ⟨x29, hx29, hx28⟩ := ite_bindF hx28
   refine cut (fun a' k' => Bs noF k0 155 a' k' ∧ (IsV l_) (a'.get 0) k' ∧ (IsV m_) (a'.get 1) k' ∧ (IsV lot_) (a'.get 2) k' ∧ (IsV x1) (a'.get 7) k' ∧ (IsV x3.2.1) (a'.get 9) k' ∧ (IsV s3) (a'.get 19) k' ∧ (IsV x28) (a'.get 153) k' ∧ True) ?_ hQ ?_
   ·intro Q14 W14 w12
    refine gS 9 (_ :: _ :: ⟨some (IsV (x24.2 != x27.2)), [(145, some 0), (146, some 1)]⟩ :: _ :: _ :: _ :: _ :: _ :: _ :: []) hs (by kernel_rfl) ⟨mu rfl i21, mu rfl i23, ob1 rfl fun _ _ h n => ok_neI rfl n.1 n.2.1, cm 2 rfl rfl, mF rfl rfl i20, mF rfl rfl i22, gF [(149, some 4), (150, some 5)] rfl rfl fun hp _ _ h n => ok_call rfl Try.call15 (rSameTrace_ok (Gd.get n.1 hp) (Gd.get n.2.1 hp) (hx29 hp)), gF [(151, some 6)] rfl rfl fun hp _ _ h n => ok_not rfl (Gd.get n.1 hp), o1 [(148, some 3), (152, some 7)] rfl fun _ _ h n => ok_pickM rfl n.1 hx28 (cB rfl) (Gd.get n.2.1), trivial⟩ W14 fun b q p => ?_
    exact tail_done (k := q) (w12 _ _ ⟨Bs.post ⟨hg, hs, hd⟩ p, p.ke 0 rfl i0, p.ke 1 rfl i1, p.ke 2 rfl i2, p.ke 7 rfl i7, p.ke 9 rfl i9, p.ke 19 rfl i19, p.ou 8 153 rfl, trivial⟩)
   rintro a k ⟨⟨hg, hs, hd⟩, i0, i1, i2, i7, i9, i19, i153, _⟩
   refine wp_cond_split (isBool i153) (fun hc974 => ?_) (fun hc974 => ?_)
   ·rw [if_pos hc974] at hr
    refine stepL 1 (⟨some (IsV false), []⟩ :: []) rfl ⟨hg, hs, hd⟩ (by kernel_rfl) ⟨ob1 rfl fun _ _ h n => ok_assign rfl (isV_bool.2 rfl), trivial⟩ [⟨_, _⟩] (fun b q p => ⟨p.ou 0 6 rfl, trivial⟩) ?_
    rintro a k ⟨⟨hg, hs, hd⟩, i6, _⟩
    refine wp_ret ?_
    exact hret963 _ _ _ (Option.some.inj hr).symm (retC1 rfl hd hg i6)
   rw [if_neg (by rw [hc974]; decide)] at hr
   refine wp_skip ?_
   obtain ⟨x30, hx30, hr⟩ := bind_some hr
   refine cut (fun a' k' => Bs noF k0 155 a' k' ∧ (IsV l_) (a'.get 0) k' ∧ (IsV m_) (a'.get 1) k' ∧ (IsV lot_) (a'.get 2) k' ∧ (IsV x1) (a'.get 7) k' ∧ (IsV x3.2.1) (a'.get 9) k' ∧ (IsV x30) (a'.get 19) k' ∧ True) ?_ hQ ?_
   ·intro Q15 W15 w13
    refine gS 3 (_ :: _ :: _ :: []) hs (by kernel_rfl) ⟨mu rfl i19, o1 [(123, some 0)] rfl fun _ _ h n => ok_add rfl n.1 (cI rfl) hx30, cp 1 rfl rfl, trivial⟩ W15 fun b q p => ?_
    exact tail_done (k := q) (w13 _ _ ⟨Bs.post ⟨hg, hs, hd⟩ p, p.ke 0 rfl i0, p.ke 1 rfl i1, p.ke 2 rfl i2, p.ke 7 rfl i7, p.ke 9 rfl i9, p.ou 2 19 rfl, trivial⟩)
   rintro a k ⟨⟨hg, hs, hd⟩, i0, i1, i2, i7, i9, i19, _⟩
   exact hgo961 _ _ _ (Option.some.inj hr).symm ⟨⟨hg, hs, hd⟩, i0, i1, i2, i7, i9, i19, trivial⟩
  rw [if_neg (by rw [hc981]; decide)] at hr
  refine wp_exit ?_
  exact hex962 _ _ _ _ (Option.some.inj hr).symm ⟨rfl, ⟨hg, hs, hd⟩, i7, trivial⟩
 ·rintro r2 a k rfl hR
  dsimp only at hr
  obtain rfl := Option.some.inj hr
  exact hR
 ·rintro _ _ _ rfl _
  simp at hr
 clear hf2
 rintro _ s4 a k rfl ⟨rfl, ⟨hg, hs, hd⟩, i7, _⟩
 dsimp only at hr
 refine stepL 2 (_ :: _ :: []) rfl ⟨hg, hs, hd⟩ (by kernel_rfl) ⟨mu rfl i7, cp 0 rfl rfl, trivial⟩ [⟨_, _⟩] (fun b q p => ⟨p.ou 1 6 rfl, trivial⟩) ?_
 rintro a k ⟨⟨hg, hs, hd⟩, i6, _⟩
 refine wp_ret ?_
 obtain rfl := Option.some.inj hr
 exact retC1 rfl hd hg i6
end Go.Proofs.Ytbanncpkgbiklaa
