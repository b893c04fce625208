/- What the functions compute that the law reaches, part 3 -/
import Derived.Test.YtbanncpkgbiklaaT2
namespace Go.Proofs.Ytbanncpkgbiklaa
open Go.Gb
set_option linter.unusedVariables false
set_option linter.unusedSimpArgs false
set_option maxRecDepth 100000
def rDo_L0 (m_ : Move) (s1 : (List Account) × Int) : Option (Flow ((List Account) × Int) ((List Account) × Int)) :=
 (if (decide (0 < s1.2)) then
  (subI s1.2 1).bind fun x1 =>
  (getI s1.1 x1).bind fun x2 =>
  some (decide (m_.To < x2.Lot))
 else
  some false).bind fun x3 =>
 if x3 then
  (subI s1.2 1).bind fun x4 =>
  (getI s1.1 x4).bind fun x5 =>
  (getI s1.1 s1.2).bind fun x6 =>
  (some (s1.1.set (s1.2).toNat x5)).bind fun x7 =>
  (subI s1.2 1).bind fun x8 =>
  some (.go (x7, x8))
 else
  some (.ex 0 (s1.1, s1.2))
def rDo (l_ : (List Account)) (m_ : Move) : Option ((List Account) × Int) :=
 (rRight l_).bind fun x1 =>
 (if (!x1) then
  some true
 else
  (rValid m_).bind fun x2 =>
  some (!x2)).bind fun x3 =>
 if x3 then
  some (([] : List Account), 1)
 else
  (rAt l_ m_.From).bind fun x4 =>
  (rAt l_ m_.To).bind fun x5 =>
  (appI [] l_).bind fun x6 =>
  if (m_.Kind == 0) then
   if (decide (0 ≤ x5)) then
    some (([] : List Account), 5)
   else
    if (decide (20000 ≤ (l_.length : Int))) then
     some (([] : List Account), 6)
    else
     (appI x6 ([(⟨0, 0, false⟩ : Account)])).bind fun x7 =>
     (iterL (rDo_L0 m_) (x7.length + 1) (x7, (x6.length : Int))).bind fun f1 => match f1 with
      | .go _ => none
      | .ex _ s1 =>
       (getI s1.1 s1.2).bind fun x8 =>
       (some (s1.1.set (s1.2).toNat (⟨m_.To, m_.N, (m_.From == 1)⟩ : Account))).bind fun x9 =>
       some (x9, 0)
      | .ret r1 => some r1
  else
   if ((decide (x4 < 0)) || ((m_.Kind == 1) && (decide (x5 < 0)))) then
    some (([] : List Account), 4)
   else
    (if (m_.Kind == 1) then
     (getI l_ (max x5 0)).bind fun x10 =>
     some (!x10.Receives)
    else
     some false).bind fun x11 =>
    if x11 then
     some (([] : List Account), 24)
    else
     (getI l_ x4).bind fun x12 =>
     if (decide (x12.Units < m_.N)) then
      some (([] : List Account), 23)
     else
      (if (m_.Kind == 1) then
       (getI l_ (max x5 0)).bind fun x13 =>
       (addI x13.Units m_.N).bind fun x14 =>
       some (decide (1073741824 < x14))
      else
       some false).bind fun x15 =>
      if x15 then
       some (([] : List Account), 6)
      else
       (getI x6 x4).bind fun x16 =>
       (subI x16.Units m_.N).bind fun x17 =>
       (getI x6 x4).bind fun x18 =>
       (some (x6.set (x4).toNat ({ x18 with Units := x17 }))).bind fun x19 =>
       (if (m_.Kind == 1) then
        (getI x19 x5).bind fun x20 =>
        (addI x20.Units m_.N).bind fun x21 =>
        (getI x19 x5).bind fun x22 =>
        (some (x19.set (x5).toNat ({ x22 with Units := x21 }))).bind fun x23 =>
        some x23
       else
        some x19).bind fun s2 =>
       some (s2, 0)
theorem rDo_ok {k0 : K} {v0 v1 : Value} {l_ : (List Account)} {m_ : Move} {r : (List Account) × Int} (i0 : (IsV l_) v0 k0) (i1 : (IsV m_) v1 k0) (hr : rDo l_ m_ = some r) :
  Calls Try.prog 23 #[v0, v1] k0.w (Ret k0 (IsTup2 (IsV r.1) (IsV r.2))) := by
 unfold rDo at hr
 refine Ret.ofC ?_
 refine enterK Try.func23 rfl Try.ntmps23 (show 2 ≤ 152 by decide) fun a k hk0 hs hd ha => ?_
 obtain ⟨e0, e1, _⟩ := ha
 replace i0 : (IsV l_) (a.get 0) k := by rw [e0, hk0]; exact i0
 replace i1 : (IsV m_) (a.get 1) k := by rw [e1, hk0]; exact i1
 have hQ : Gb.LetsOut (bodyPost Try.prog Try.f23 (RetC noF k0 (IsTup2 (IsV r.1) (IsV r.2)))) := letsOutC
 have hg : Chg noF k0 k := by rw [hk0]; exact Chg.refl _ k0
 refine stepL 3 (⟨some (IsRef m_), [(1, none)]⟩ :: ⟨some IsE0, []⟩ :: ⟨some (IsI 0), []⟩ :: []) rfl ⟨hg, hs, hd⟩ (by kernel_rfl) ⟨ob1 rfl fun _ _ h n => ok_boxR rfl (up i1 h n.1), ob1 rfl fun b q h n => ok_assign rfl isE0_nil, aI rfl rfl, trivial⟩ [⟨_, _⟩, ⟨_, _⟩] (fun b q p => ⟨p.ke 0 rfl i0, p.ou 0 3 rfl, trivial⟩) ?_
 rintro a k ⟨⟨hg, hs, hd⟩, i0, i3, _⟩
 refine wp_seq ?_
 refine wp_seq ?_
 obtain ⟨x1, hx1, hr⟩ := bind_some hr
 obtain ⟨x2, hx2, hr⟩ := bind_some hr
 obtain ⟨x3, hx3, hx2⟩ := ite_bindF hx2
 refine cut (fun a' k' => Bs noF k0 152 a' k' ∧ (IsV l_) (a'.get 0) k' ∧ (IsRef m_) (a'.get 3) k' ∧ (IsV x2) (a'.get 17) k' ∧ True) ?_ hQ ?_
 ·intro Q1 W1 w1
  refine gS 8 (_ :: _ :: _ :: _ :: _ :: _ :: _ :: _ :: []) hs (by kernel_rfl) ⟨mu rfl i0, o1 [(10, some 0)] rfl fun _ _ h n => ok_call rfl Try.call18 (rRight_ok n.1 hx1), o1 [(11, some 1)] rfl fun _ _ h n => ok_not rfl n.1, cm 2 rfl rfl, gF [(3, none)] rfl rfl fun hp _ _ h n => ok_load rfl ty33 ((up i3 h n.1)).ptr, gF [(14, some 4)] rfl rfl fun hp _ _ h n => ok_call rfl Try.call33 (rValid_ok (Gd.get n.1 hp) (hx3 hp)), gF [(15, some 5)] rfl rfl fun hp _ _ h n => ok_not rfl (Gd.get n.1 hp), o1 [(13, some 3), (16, some 6)] rfl fun _ _ h n => ok_pickM rfl n.1 hx2 (cB rfl) (Gd.get n.2.1), trivial⟩ W1 fun b q p => ?_
  exact tail_done (k := q) (w1 _ _ ⟨Bs.post ⟨hg, hs, hd⟩ p, p.ke 0 rfl i0, p.ke 3 rfl i3, p.ou 7 17 rfl, trivial⟩)
 rintro a k ⟨⟨hg, hs, hd⟩, i0, i3, i17, _⟩
 refine wp_cond_split (isBool i17) (fun hc491 => ?_) (fun hc491 => ?_)
 ·rw [if_pos hc491] at hr
  refine cutL noF k0 152 [⟨4, IsV ([] : List Account)⟩, ⟨5, IsI 1⟩] ?_ ?_
  ·intro Q2 W2 w2
   refine gS 2 (⟨some IsE0, []⟩ :: ⟨some (IsI 1), []⟩ :: []) hs (by kernel_rfl) ⟨ob1 rfl fun b q h n => ok_assign rfl isE0_nil, aI rfl rfl, trivial⟩ W2 fun b q p => ?_
   have hgq := hg.then p.grow
   have hsb := p.size.trans hs
   have hdb := p.defers.trans hd
   have j4 : IsE0 (b.get 4) q := p.ou 0 4 rfl
   have j5 : (IsI 1) (b.get 5) q := p.ou 1 5 rfl
   replace j4 : IsV ([] : List Account) (b.get 4) q := j4.isV
   exact tail_done (k := q) (w2 _ _ ⟨⟨hgq, hsb, hdb⟩, j4, j5, trivial⟩)
  rintro a k ⟨⟨hg, hs, hd⟩, i4, i5, _⟩
  refine wp_ret ?_
  obtain rfl := Option.some.inj hr
  exact retC2 rfl hd hg i4 i5
 rw [if_neg (by rw [hc491]; decide)] at hr
 refine wp_skip ?_
 refine wp_seq ?_
 obtain ⟨x4, hx4, hr⟩ := bind_some hr
 refine cut (fun a' k' => Bs noF k0 152 a' k' ∧ (IsV l_) (a'.get 0) k' ∧ (IsRef m_) (a'.get 3) k' ∧ (IsV x4) (a'.get 6) k' ∧ True) ?_ hQ ?_
 ·intro Q3 W3 w3
  refine gS 5 (_ :: _ :: _ :: _ :: _ :: []) hs (by kernel_rfl) ⟨mu rfl i0, o1 [(3, none)] rfl fun _ _ h n => ok_fieldAddr rfl fo33_1 (at_Move_1 _) ((up i3 h n.1)).ptr, o1 [(19, some 1)] rfl fun _ _ h n => ok_load rfl ty3 n.1, o1 [(18, some 0), (20, some 2)] rfl fun _ _ h n => ok_call rfl Try.call32 (rAt_ok n.1 n.2.1 hx4), cp 3 rfl rfl, trivial⟩ W3 fun b q p => ?_
  exact tail_done (k := q) (w3 _ _ ⟨Bs.post ⟨hg, hs, hd⟩ p, p.ke 0 rfl i0, p.ke 3 rfl i3, p.ou 4 6 rfl, trivial⟩)
 rintro a k ⟨⟨hg, hs, hd⟩, i0, i3, i6, _⟩
 refine wp_seq ?_
 obtain ⟨x5, hx5, hr⟩ := bind_some hr
 refine cut (fun a' k' => Bs noF k0 152 a' k' ∧ (IsV l_) (a'.get 0) k' ∧ (IsRef m_) (a'.get 3) k' ∧ (IsV x4) (a'.get 6) k' ∧ (IsV x5) (a'.get 7) k' ∧ True) ?_ hQ ?_
 ·intro Q4 W4 w4
  refine gS 5 (_ :: _ :: _ :: _ :: _ :: []) hs (by kernel_rfl) ⟨mu rfl i0, o1 [(3, none)] rfl fun _ _ h n => ok_fieldAddr rfl fo33_2 (at_Move_2 _) ((up i3 h n.1)).ptr, o1 [(23, some 1)] rfl fun _ _ h n => ok_load rfl ty3 n.1, o1 [(22, some 0), (24, some 2)] rfl fun _ _ h n => ok_call rfl Try.call32 (rAt_ok n.1 n.2.1 hx5), cp 3 rfl rfl, trivial⟩ W4 fun b q p => ?_
  exact tail_done (k := q) (w4 _ _ ⟨Bs.post ⟨hg, hs, hd⟩ p, p.ke 0 rfl i0, p.ke 3 rfl i3, p.ke 6 rfl i6, p.ou 4 7 rfl, trivial⟩)
 rintro a k ⟨⟨hg, hs, hd⟩, i0, i3, i6, i7, _⟩
 refine wp_seq ?_
 obtain ⟨x6, hx6, hr⟩ := bind_some hr
 refine cut (fun a' k' => Bs noF k0 152 a' k' ∧ (IsV l_) (a'.get 0) k' ∧ (IsRef m_) (a'.get 3) k' ∧ (IsV x4) (a'.get 6) k' ∧ (IsV x5) (a'.get 7) k' ∧ IsOwn 0 35 x6 (a'.get 8) k' ∧ Lo k0 (obF (a'.get 8)) ∧ True) ?_ hQ ?_
 ·intro Q5 W5 w5
  refine gS 4 (⟨some IsE0, []⟩ :: _ :: ⟨some (IsOwn k.w.heap.size 35 x6), [(26, some 0), (27, some 1)]⟩ :: _ :: []) hs (by kernel_rfl) ⟨ob1 rfl fun b q h n => ok_buildSlice0 rfl Try.underlying22 eo35, mu rfl i0, ob1 rfl fun _ _ h n => ok_append0 rfl Try.underlying22 eo35 h.size n.1 (IsV.rd n.2.1) hx6, cp 2 rfl rfl, trivial⟩ W5 fun b q p => ?_
  have hgq := hg.then p.grow
  have hsb := p.size.trans hs
  have hdb := p.defers.trans hd
  have j0 := p.ke 0 rfl i0
  have j3 := p.ke 3 rfl i3
  have j6 := p.ke 6 rfl i6
  have j7 := p.ke 7 rfl i7
  have j8 : (IsOwn k.w.heap.size 35 x6) (b.get 8) q := p.ou 3 8 rfl
  have x8 : Lo k (obF (b.get 8)) := j8.loF
  have y8 := x8.chg hg
  replace j8 := j8.weaken (Nat.zero_le _)
  exact tail_done (k := q) (w5 _ _ ⟨⟨hgq, hsb, hdb⟩, j0, j3, j6, j7, j8, y8, trivial⟩)
 rintro a k ⟨⟨hg, hs, hd⟩, i0, i3, i6, i7, i8, n8, _⟩
 refine wp_seq ?_
 refine cutS (fun c l => Bs noF k0 152 c l ∧ IsV l_ (c.get 0) l ∧ IsRef m_ (c.get 3) l ∧ IsV x4 (c.get 6) l ∧ IsV x5 (c.get 7) l ∧ IsOwn 0 35 x6 (c.get 8) l ∧ Lo k0 (obF (c.get 8)) ∧ IsV (m_.Kind == 0) (c.get 31) l ∧ True) ?_ ?_
 ·intro Q6 W6 w6
  refine gS 3 (_ :: _ :: _ :: []) hs (by kernel_rfl) ⟨o1 [(3, none)] rfl fun _ _ h n => ok_fieldAddr rfl fo33_0 (at_Move_0 _) ((up i3 h n.1)).ptr, o1 [(29, some 0)] rfl fun _ _ h n => ok_load rfl ty3 n.1, o1 [(30, some 1)] rfl fun _ _ h n => ok_eqI rfl n.1 (cI rfl), trivial⟩ W6 fun b q p => ?_
  exact tail_done (k := q) (w6 _ _ ⟨Bs.post ⟨hg, hs, hd⟩ p, p.ke 0 rfl i0, p.ke 3 rfl i3, p.ke 6 rfl i6, p.ke 7 rfl i7, p.ke 8 rfl i8, (by rw [p.old 8 rfl]; exact n8), p.ou 2 31 rfl, trivial⟩)
 rintro a k ⟨⟨hg, hs, hd⟩, i0, i3, i6, i7, i8, n8, i31, _⟩
 refine wp_cond_split (isBool i31) (fun hc482 => ?_) (fun hc482 => ?_)
 ·rw [if_pos hc482] at hr
  refine wp_seq ?_
  refine cutS (fun c l => Bs noF k0 152 c l ∧ IsV l_ (c.get 0) l ∧ IsRef m_ (c.get 3) l ∧ IsOwn 0 35 x6 (c.get 8) l ∧ Lo k0 (obF (c.get 8)) ∧ IsV (decide (0 ≤ x5)) (c.get 33) l ∧ True) ?_ ?_
  ·intro Q7 W7 w7
   refine gS 2 (_ :: _ :: []) hs (by kernel_rfl) ⟨mu rfl i7, o1 [(32, some 0)] rfl fun _ _ h n => ok_geq rfl n.1 (cI rfl), trivial⟩ W7 fun b q p => ?_
   exact tail_done (k := q) (w7 _ _ ⟨Bs.post ⟨hg, hs, hd⟩ p, p.ke 0 rfl i0, p.ke 3 rfl i3, p.ke 8 rfl i8, (by rw [p.old 8 rfl]; exact n8), p.ou 1 33 rfl, trivial⟩)
  rintro a k ⟨⟨hg, hs, hd⟩, i0, i3, i8, n8, i33, _⟩
  refine wp_cond_split (isBool i33) (fun hc433 => ?_) (fun hc433 => ?_)
  ·rw [if_pos hc433] at hr
   refine cutL noF k0 152 [⟨4, IsV ([] : List Account)⟩, ⟨5, IsI 5⟩] ?_ ?_
   ·intro Q8 W8 w8
    refine gS 2 (⟨some IsE0, []⟩ :: ⟨some (IsI 5), []⟩ :: []) hs (by kernel_rfl) ⟨ob1 rfl fun b q h n => ok_assign rfl isE0_nil, aI rfl rfl, trivial⟩ W8 fun b q p => ?_
    have hgq := hg.then p.grow
    have hsb := p.size.trans hs
    have hdb := p.defers.trans hd
    have j4 : IsE0 (b.get 4) q := p.ou 0 4 rfl
    have j5 : (IsI 5) (b.get 5) q := p.ou 1 5 rfl
    replace j4 : IsV ([] : List Account) (b.get 4) q := j4.isV
    exact tail_done (k := q) (w8 _ _ ⟨⟨hgq, hsb, hdb⟩, j4, j5, trivial⟩)
   rintro a k ⟨⟨hg, hs, hd⟩, i4, i5, _⟩
   refine wp_ret ?_
   obtain rfl := Option.some.inj hr
   exact retC2 rfl hd hg i4 i5
  rw [if_neg (by rw [hc433]; decide)] at hr
  refine wp_skip ?_
  refine wp_seq ?_
  refine cutS (fun c l => Bs noF k0 152 c l ∧ IsRef m_ (c.get 3) l ∧ IsOwn 0 35 x6 (c.get 8) l ∧ Lo k0 (obF (c.get 8)) ∧ (IsV (decide (20000 ≤ (l_.length : Int)))) (c.get 36) l ∧ True) ?_ ?_
  ·intro Q9 W9 w9
   refine gS 3 (_ :: _ :: _ :: []) hs (by kernel_rfl) ⟨mu rfl i0, o1 [(34, some 0)] rfl fun _ _ h n => ok_len rfl rfl Try.underlying22 (IsV.rd n.1), o1 [(35, some 1)] rfl fun _ _ h n => ok_geq rfl n.1 (cI rfl), trivial⟩ W9 fun b q p => ?_
   exact tail_done (k := q) (w9 _ _ ⟨Bs.post ⟨hg, hs, hd⟩ p, p.ke 3 rfl i3, p.ke 8 rfl i8, (by rw [p.old 8 rfl]; exact n8), p.ou 2 36 rfl, trivial⟩)
  rintro a k ⟨⟨hg, hs, hd⟩, i3, i8, n8, i36, _⟩
  refine wp_cond_split (isBool i36) (fun hc430 => ?_) (fun hc430 => ?_)
  ·rw [if_pos hc430] at hr
   refine cutL noF k0 152 [⟨4, IsV ([] : List Account)⟩, ⟨5, IsI 6⟩] ?_ ?_
   ·intro Q10 W10 w10
    refine gS 2 (⟨some IsE0, []⟩ :: ⟨some (IsI 6), []⟩ :: []) hs (by kernel_rfl) ⟨ob1 rfl fun b q h n => ok_assign rfl isE0_nil, aI rfl rfl, trivial⟩ W10 fun b q p => ?_
    have hgq := hg.then p.grow
    have hsb := p.size.trans hs
    have hdb := p.defers.trans hd
    have j4 : IsE0 (b.get 4) q := p.ou 0 4 rfl
    have j5 : (IsI 6) (b.get 5) q := p.ou 1 5 rfl
    replace j4 : IsV ([] : List Account) (b.get 4) q := j4.isV
    exact tail_done (k := q) (w10 _ _ ⟨⟨hgq, hsb, hdb⟩, j4, j5, trivial⟩)
   rintro a k ⟨⟨hg, hs, hd⟩, i4, i5, _⟩
   refine wp_ret ?_
   obtain rfl := Option.some.inj hr
   exact retC2 rfl hd hg i4 i5
  rw [if_neg (by rw [hc430]; decide)] at hr
  refine wp_skip ?_
  refine cutS (fun c l => Bs noF k0 152 c l ∧ IsRef m_ (c.get 3) l ∧ IsOwn 0 35 x6 (c.get 8) l ∧ Lo k0 (obF (c.get 8)) ∧ IsL x6 (c.get 9) l ∧ True) ?_ ?_
  ·intro Q11 W11 w11
   refine gS 3 (⟨some (OwnAt (a.get 8) 0 35 x6), [(8, none)]⟩ :: _ :: _ :: []) hs (by kernel_rfl) ⟨ob1 rfl fun _ _ h n => ok_moveOA (.inl rfl) (ownAt n.1 (up i8 h n.1)), o1 [(37, some 0)] rfl fun _ _ h n => ok_len rfl rfl Try.underlying22 (IsOwn.rd (n.1).2), cp 1 rfl rfl, trivial⟩ W11 fun b q p => ?_
   exact tail_done (k := q) (w11 _ _ ⟨Bs.post ⟨hg, hs, hd⟩ p, p.ke 3 rfl i3, p.ke 8 rfl i8, (by rw [p.old 8 rfl]; exact n8), p.ou 2 9 rfl, trivial⟩)
  rintro a k ⟨⟨hg, hs, hd⟩, i3, i8, n8, i9, _⟩
  refine wp_seq ?_
  obtain ⟨x7, hx7, hr⟩ := bind_some hr
  refine cut (fun a' k' => Bs noF k0 152 a' k' ∧ (IsRef m_) (a'.get 3) k' ∧ IsOwn 0 35 x7 (a'.get 8) k' ∧ Lo k0 (obF (a'.get 8)) ∧ (IsL x6) (a'.get 9) k' ∧ True) ?_ hQ ?_
  ·intro Q12 W12 w12
   refine gS 3 (⟨some (OwnAt (a.get 8) 0 35 x6), [(8, none)]⟩ :: ⟨some (IsV (⟨0, 0, false⟩ : Account)), []⟩ :: ⟨some (IsV (α := (List Account)) ([(⟨0, 0, false⟩ : Account)])), [(40, some 1)]⟩ :: []) hs (by kernel_rfl) ⟨ob1 rfl fun _ _ h n => ok_moveOA (.inl rfl) (ownAt n.1 (up i8 h n.1)), ob1 rfl fun _ _ h n => ok_build rfl (bld35_ ), ob1 rfl fun _ _ h n => ok_buildSlice rfl Try.underlying22 eo35 rfl (by decide) (by decide) ⟨rfl, n.1, trivial⟩, trivial⟩ W12 fun b q p => ?_
   have hgq := hg.then p.grow
   have hsb := p.size.trans hs
   have hdb := p.defers.trans hd
   have j3 := p.ke 3 rfl i3
   have j9 := p.ke 9 rfl i9
   have e39 : b.get 39 = a.get 8 := (p.ou 0 39 rfl).1
   have j39 : IsOwn 0 35 x6 (b.get 39) q := (p.ou 0 39 rfl).2
   have y39 : Lo k0 (obF (b.get 39)) := by rw [e39]; exact n8
   have j41 : (IsV (α := (List Account)) ([(⟨0, 0, false⟩ : Account)])) (b.get 41) q := p.ou 2 41 rfl
   have hns := j39.nshF
   refine tail_appendS (i := 3) (d := 42) rfl rfl rfl rfl (by rw [hsb]; decide) (e := 35) Try.underlying22 eo35 j39 (IsV.rd j41) hx7 fun b2 q2 hsz hdf hoth hch hown hob => ?_
   have hle := hch.le hns
   have yn : Lo k0 (obF (b2.get 42)) := y39.app hgq hob
   replace j3 := Pers.pers hle j3
   replace j9 := Pers.pers hle j9
   replace j41 := Pers.pers hle j41
   replace hgq := hgq.step hch y39.wr
   rw [← hoth 3 (by decide)] at j3
   rw [← hoth 9 (by decide)] at j9
   rw [← hoth 41 (by decide)] at j41
   have j42 := hown
   have y42 := yn
   replace hsb := hsz.trans hsb
   replace hdb := hdf.trans hdb
   clear hle hch hown hob hns yn hsz hdf hoth
   obtain ⟨b, hbb⟩ : ∃ b, b = b2 := ⟨b2, rfl⟩
   subst hbb
   obtain ⟨q, hqq⟩ : ∃ q, q = q2 := ⟨q2, rfl⟩
   subst hqq
   refine tail_assign (i := 4) (d := 8) rfl rfl (.inl rfl) rfl (by rw [hsb]; decide) fun b2 hsz hdf hnew hoth => ?_
   have jn : (IsOwn 0 35 x7) (b2.get 8) q := by rw [hnew]; exact j42
   have yn : Lo k0 (obF (b2.get 8)) := by rw [hnew]; exact y42
   rw [← hoth 3 (by decide)] at j3
   rw [← hoth 9 (by decide)] at j9
   rw [← hoth 41 (by decide)] at j41
   have j8 := jn
   have y8 := yn
   replace hsb := hsz.trans hsb
   replace hdb := hdf.trans hdb
   clear hsz hdf hoth
   obtain ⟨b, hbb⟩ : ∃ b, b = b2 := ⟨b2, rfl⟩
   subst hbb
   exact tail_done (k := q) (w12 _ _ ⟨⟨hgq, hsb, hdb⟩, j3, j8, y8, j9, trivial⟩)
  rintro a k ⟨⟨hg, hs, hd⟩, i3, i8, n8, i9, _⟩
  refine wp_seq ?_
  refine wp_block ?_
  obtain ⟨f1, hf1, hr⟩ := bind_some hr
  refine cutFe f1 (fun s' c l => Bs noF k0 152 c l ∧ IsRef m_ (c.get 3) l ∧ IsOwn 0 35 s'.1 (c.get 8) l ∧ Lo k0 (obF (c.get 8)) ∧ IsV s'.2 (c.get 9) l ∧ True) (fun i' s' c l => (i' = 0 ∧ Bs noF k0 152 c l ∧ IsRef m_ (c.get 3) l ∧ IsOwn 0 35 s'.1 (c.get 8) l ∧ Lo k0 (obF (c.get 8)) ∧ IsV s'.2 (c.get 9) l ∧ True)) (fun r' c l => bodyPost Try.prog Try.f23 (RetC noF k0 (IsTup2 (IsV r'.1) (IsV r'.2))) .ret c l.w) ?_ hQ ?_ ?_ ?_
  ·intro Q13 W13 hgo hex hret
   refine sim_loop ?_ _ _ _ _ _ hf1 ⟨⟨hg, hs, hd⟩, i3, i8, n8, i9, trivial⟩ Q13 W13 hgo hex hret
   clear hr hf1 hgo hex hret W13 hQ hg hs hd i3 i8 i9 n8
   intro s1 fl_ a k hr hS Q hQ hgo402 hex403 hret404
   obtain ⟨⟨hg, hs, hd⟩, i3, i8, n8, i9, _⟩ := hS
   unfold rDo_L0 at hr
   refine wp_seq ?_
   refine wp_seq ?_
   obtain ⟨x9, hx9, hr⟩ := bind_some hr
   obtain ⟨x10, hx10, hx9⟩ := ite_bind hx9
   obtain ⟨x11, hx11, hx9⟩ := ite_bind hx9
   refine cut (fun a' k' => Bs noF k0 152 a' k' ∧ (IsRef m_) (a'.get 3) k' ∧ IsOwn 0 35 s1.1 (a'.get 8) k' ∧ Lo k0 (obF (a'.get 8)) ∧ (IsV s1.2) (a'.get 9) k' ∧ (IsV x9) (a'.get 55) k' ∧ True) ?_ hQ ?_
   ·intro Q14 W14 w13
    refine region (m := 13) (_ :: _ :: _ :: ⟨some (Gd ((decide (0 < s1.2)) = true) (OwnAt (a.get 8) 0 35 s1.1)), [(8, none)]⟩ :: _ :: _ :: _ :: _ :: _ :: _ :: _ :: _ :: _ :: []) hmix hs (by kernel_rfl) ⟨mu rfl i9, o1 [(43, some 0)] rfl fun _ _ h n => ok_gtr rfl n.1 (cI rfl), cm 1 rfl rfl, gdT rfl rfl fun hp _ _ h n => ok_moveOA (.inl rfl) (ownAt n.1 (up i8 h n.1)), mT rfl rfl i9, gT [(47, some 4)] rfl rfl fun hp _ _ h n => ok_sub rfl (Gd.get n.1 hp) (cI rfl) (hx10 hp), gT [(46, some 3), (48, some 5)] rfl rfl fun hp _ _ h n => ok_indexAddr rfl Try.underlying22 ty35 (IsOwn.rd ((Gd.get n.1 hp)).2) (Gd.get n.2.1 hp) (hx11 hp), gT [(49, some 6)] rfl rfl fun hp _ _ h n => ok_fieldAddr rfl fo35_0 (at_Account_0 _) (Gd.get n.1 hp), gT [(50, some 7)] rfl rfl fun hp _ _ h n => ok_load rfl ty3 (Gd.get n.1 hp), gT [(3, none)] rfl rfl fun hp _ _ h n => ok_fieldAddr rfl fo33_2 (at_Move_2 _) ((up i3 h n.1)).ptr, gT [(52, some 9)] rfl rfl fun hp _ _ h n => ok_load rfl ty3 (Gd.get n.1 hp), gT [(51, some 8), (53, some 10)] rfl rfl fun hp _ _ h n => ok_gtr rfl (Gd.get n.1 hp) (Gd.get n.2.1 hp), o1 [(45, some 2), (54, some 11)] rfl fun _ _ h n => ok_pickM rfl n.1 hx9 (Gd.get n.2.1) (cB rfl), trivial⟩ W14 fun b q p => ?_
    exact tail_done (k := q) (w13 _ _ ⟨Bs.post ⟨hg, hs, hd⟩ p, p.ke 3 rfl i3, p.ke 8 rfl i8, (by rw [p.old 8 rfl]; exact n8), p.ke 9 rfl i9, p.ou 12 55 rfl, trivial⟩)
   rintro a k ⟨⟨hg, hs, hd⟩, i3, i8, n8, i9, i55, _⟩
   refine wp_cond_split (isBool i55) (fun hc412 => ?_) (fun hc412 => ?_)
   ·rw [if_pos hc412] at hr
    refine wp_skip ?_
    refine wp_block ?_
    refine wp_seq ?_
    obtain ⟨x12, hx12, hr⟩ := bind_some hr
    obtain ⟨x13, hx13, hr⟩ := bind_some hr
    obtain ⟨x14, hx14, hr⟩ := bind_some hr
    obtain ⟨x15, hx15, hr⟩ := bind_some hr
    refine cut (fun a' k' => Bs noF k0 152 a' k' ∧ (IsRef m_) (a'.get 3) k' ∧ IsOwn 0 35 x15 (a'.get 8) k' ∧ Lo k0 (obF (a'.get 8)) ∧ (IsV s1.2) (a'.get 9) k' ∧ True) ?_ hQ ?_
    ·intro Q15 W15 w14
     refine gS 8 (⟨some (OwnAt (a.get 8) 0 35 s1.1), [(8, none)]⟩ :: _ :: ⟨some (OwnAt (a.get 8) 0 35 s1.1), [(8, none)]⟩ :: _ :: _ :: _ :: _ :: ⟨some (IsAdrO (a.get 8) ((s1.2).toNat * Enc.sz Account)), [(56, some 0), (57, some 1)]⟩ :: []) hs (by kernel_rfl) ⟨ob1 rfl fun _ _ h n => ok_moveOA (.inl rfl) (ownAt n.1 (up i8 h n.1)), mu rfl i9, ob1 rfl fun _ _ h n => ok_moveOA (.inl rfl) (ownAt n.1 (up i8 h n.1)), mu rfl i9, o1 [(59, some 3)] rfl fun _ _ h n => ok_sub rfl n.1 (cI rfl) hx12, o1 [(58, some 2), (60, some 4)] rfl fun _ _ h n => ok_indexAddr rfl Try.underlying22 ty35 (IsOwn.rd (n.1).2) n.2.1 hx13, o1 [(61, some 5)] rfl fun _ _ h n => ok_load rfl ty35 n.1, ob1 rfl fun _ _ h n => ok_indexO rfl Try.underlying22 ty35 n.1 n.2.1 hx14, trivial⟩ W15 fun b q p => ?_
     have hgq := hg.then p.grow
     have hsb := p.size.trans hs
     have hdb := p.defers.trans hd
     have j3 := p.ke 3 rfl i3
     have j8 := p.ke 8 rfl i8
     have y8 : Lo k0 (obF (b.get 8)) := by rw [p.old 8 rfl]; exact n8
     have j9 := p.ke 9 rfl i9
     have j62 : (IsV x13) (b.get 62) q := p.ou 6 62 rfl
     have j63 : IsAdrO (a.get 8) ((s1.2).toNat * Enc.sz Account) (b.get 63) q := p.ou 7 63 rfl
     have eo : b.get 8 = a.get 8 := p.old 8 rfl
     have hns := j8.nshF
     refine tail_storeS (i := 8) (u := b.get 8) (m := (s1.2).toNat) (off := 0) rfl rfl rfl rfl szf35 (Upd.self (α := Account)) (by rw [eo]; exact j63) j8 (getI_spec hx14).2.1 j62 fun q2 hch hz => ?_
     replace hgq := hgq.step hch y8.wr
     have hle := hch.le hns
     replace j3 := Pers.pers hle j3
     replace j9 := Pers.pers hle j9
     replace j62 := Pers.pers hle j62
     replace j63 := Pers.pers hle j63
     replace j8 := hz
     rw [Option.some.inj hx15] at j8
     clear hns hle hch eo hz
     obtain ⟨q, hqq⟩ : ∃ q, q = q2 := ⟨q2, rfl⟩
     subst hqq
     exact tail_done (k := q) (w14 _ _ ⟨⟨hgq, hsb, hdb⟩, j3, j8, y8, j9, trivial⟩)
    rintro a k ⟨⟨hg, hs, hd⟩, i3, i8, n8, i9, _⟩
    obtain ⟨x16, hx16, hr⟩ := bind_some hr
    refine cut (fun a' k' => Bs noF k0 152 a' k' ∧ (IsRef m_) (a'.get 3) k' ∧ IsOwn 0 35 x15 (a'.get 8) k' ∧ Lo k0 (obF (a'.get 8)) ∧ (IsV x16) (a'.get 9) k' ∧ True) ?_ hQ ?_
    ·intro Q16 W16 w15
     refine gS 3 (_ :: _ :: _ :: []) hs (by kernel_rfl) ⟨mu rfl i9, o1 [(64, some 0)] rfl fun _ _ h n => ok_sub rfl n.1 (cI rfl) hx16, cp 1 rfl rfl, trivial⟩ W16 fun b q p => ?_
     exact tail_done (k := q) (w15 _ _ ⟨Bs.post ⟨hg, hs, hd⟩ p, p.ke 3 rfl i3, p.ke 8 rfl i8, (by rw [p.old 8 rfl]; exact n8), p.ou 2 9 rfl, trivial⟩)
    rintro a k ⟨⟨hg, hs, hd⟩, i3, i8, n8, i9, _⟩
    exact hgo402 _ _ _ (Option.some.inj hr).symm ⟨⟨hg, hs, hd⟩, i3, i8, n8, i9, trivial⟩
   rw [if_neg (by rw [hc412]; decide)] at hr
   refine wp_exit ?_
   exact hex403 _ _ _ _ (Option.some.inj hr).symm ⟨rfl, ⟨hg, hs, hd⟩, i3, i8, n8, i9, trivial⟩
  ·rintro r1 a k rfl hR
   dsimp only at hr
   obtain rfl := Option.some.inj hr
   exact hR
  ·rintro _ _ _ rfl _
   simp at hr
  clear hf1
  rintro _ s2 a k rfl ⟨rfl, ⟨hg, hs, hd⟩, i3, i8, n8, i9, _⟩
  dsimp only at hr
  refine wp_seq ?_
  obtain ⟨x17, hx17, hr⟩ := bind_some hr
  obtain ⟨x18, hx18, hr⟩ := bind_some hr
  refine cut (fun a' k' => Bs noF k0 152 a' k' ∧ IsOwn 0 35 x18 (a'.get 8) k' ∧ Lo k0 (obF (a'.get 8)) ∧ True) ?_ hQ ?_
  ·intro Q17 W17 w16
   refine gS 11 (⟨some (OwnAt (a.get 8) 0 35 s2.1), [(8, none)]⟩ :: _ :: _ :: _ :: _ :: _ :: _ :: _ :: _ :: ⟨some (IsV (⟨m_.To, m_.N, (m_.From == 1)⟩ : Account)), [(69, some 3), (71, some 5), (74, some 8)]⟩ :: ⟨some (IsAdrO (a.get 8) ((s2.2).toNat * Enc.sz Account)), [(66, some 0), (67, some 1)]⟩ :: []) hs (by kernel_rfl) ⟨ob1 rfl fun _ _ h n => ok_moveOA (.inl rfl) (ownAt n.1 (up i8 h n.1)), mu rfl i9, o1 [(3, none)] rfl fun _ _ h n => ok_fieldAddr rfl fo33_2 (at_Move_2 _) ((up i3 h n.1)).ptr, o1 [(68, some 2)] rfl fun _ _ h n => ok_load rfl ty3 n.1, o1 [(3, none)] rfl fun _ _ h n => ok_fieldAddr rfl fo33_3 (at_Move_3 _) ((up i3 h n.1)).ptr, o1 [(70, some 4)] rfl fun _ _ h n => ok_load rfl ty3 n.1, o1 [(3, none)] rfl fun _ _ h n => ok_fieldAddr rfl fo33_1 (at_Move_1 _) ((up i3 h n.1)).ptr, o1 [(72, some 6)] rfl fun _ _ h n => ok_load rfl ty3 n.1, o1 [(73, some 7)] rfl fun _ _ h n => ok_eqI rfl n.1 (cI rfl), ob1 rfl fun _ _ h n => ok_build rfl (bld35_0_1_2 n.1 n.2.1 n.2.2.1), ob1 rfl fun _ _ h n => ok_indexO rfl Try.underlying22 ty35 n.1 n.2.1 hx17, trivial⟩ W17 fun b q p => ?_
   have hgq := hg.then p.grow
   have hsb := p.size.trans hs
   have hdb := p.defers.trans hd
   have j8 := p.ke 8 rfl i8
   have y8 : Lo k0 (obF (b.get 8)) := by rw [p.old 8 rfl]; exact n8
   have j75 : (IsV (⟨m_.To, m_.N, (m_.From == 1)⟩ : Account)) (b.get 75) q := p.ou 9 75 rfl
   have j76 : IsAdrO (a.get 8) ((s2.2).toNat * Enc.sz Account) (b.get 76) q := p.ou 10 76 rfl
   have eo : b.get 8 = a.get 8 := p.old 8 rfl
   have hns := j8.nshF
   refine tail_storeS (i := 11) (u := b.get 8) (m := (s2.2).toNat) (off := 0) rfl rfl rfl rfl szf35 (Upd.self (α := Account)) (by rw [eo]; exact j76) j8 (getI_spec hx17).2.1 j75 fun q2 hch hz => ?_
   replace hgq := hgq.step hch y8.wr
   have hle := hch.le hns
   replace j75 := Pers.pers hle j75
   replace j76 := Pers.pers hle j76
   replace j8 := hz
   rw [Option.some.inj hx18] at j8
   clear hns hle hch eo hz
   obtain ⟨q, hqq⟩ : ∃ q, q = q2 := ⟨q2, rfl⟩
   subst hqq
   exact tail_done (k := q) (w16 _ _ ⟨⟨hgq, hsb, hdb⟩, j8, y8, trivial⟩)
  rintro a k ⟨⟨hg, hs, hd⟩, i8, n8, _⟩
  refine wp_seq ?_
  obtain ⟨kk, sh418, ii8⟩ := i8.give
  replace i8 := ii8
  replace hg := hg.hand sh418 n8.wr
  rw [← sh418.w]
  clear sh418
  obtain ⟨k, hkk⟩ : ∃ k, k = kk := ⟨kk, rfl⟩
  subst hkk
  refine cut (fun a' k' => Bs noF k0 152 a' k' ∧ (IsV x18) (a'.get 4) k' ∧ (IsI 0) (a'.get 5) k' ∧ True) ?_ hQ ?_
  ·intro Q18 W18 w17
   refine gS 3 (_ :: _ :: ⟨some (IsI 0), []⟩ :: []) hs (by kernel_rfl) ⟨mu rfl i8, cp 0 rfl rfl, aI rfl rfl, trivial⟩ W18 fun b q p => ?_
   exact tail_done (k := q) (w17 _ _ ⟨Bs.post ⟨hg, hs, hd⟩ p, p.ou 1 4 rfl, p.ou 2 5 rfl, trivial⟩)
  rintro a k ⟨⟨hg, hs, hd⟩, i4, i5, _⟩
  refine wp_ret ?_
  obtain rfl := Option.some.inj hr
  exact retC2 rfl hd hg i4 i5
 rw [if_neg (by rw [hc482]; decide)] at hr
 refine wp_skip ?_
 refine wp_seq ?_
 refine cutS (fun c l => Bs noF k0 152 c l ∧ IsV l_ (c.get 0) l ∧ IsRef m_ (c.get 3) l ∧ IsV x4 (c.get 6) l ∧ IsV x5 (c.get 7) l ∧ IsOwn 0 35 x6 (c.get 8) l ∧ Lo k0 (obF (c.get 8)) ∧ (IsV ((decide (x4 < 0)) || ((m_.Kind == 1) && (decide (x5 < 0))))) (c.get 88) l ∧ True) ?_ ?_
 ·intro Q19 W19 w18
  refine gS 11 (_ :: _ :: _ :: _ :: _ :: _ :: ⟨some (Gd ((decide (x4 < 0)) = false) (IsV (m_.Kind == 1))), [(83, some 5)]⟩ :: ⟨some (Gd (((decide (x4 < 0)) = false) ∧ (m_.Kind == 1) = true) (IsV x5)), [(7, none)]⟩ :: ⟨some (Gd (((decide (x4 < 0)) = false) ∧ (m_.Kind == 1) = true) (IsV (decide (x5 < 0)))), [(85, some 7)]⟩ :: _ :: _ :: []) hs (by kernel_rfl) ⟨mu rfl i6, o1 [(78, some 0)] rfl fun _ _ h n => ok_lss rfl n.1 (cI rfl), cm 1 rfl rfl, gF [(3, none)] rfl rfl fun hp _ _ h n => ok_fieldAddr rfl fo33_0 (at_Move_0 _) ((up i3 h n.1)).ptr, gF [(81, some 3)] rfl rfl fun hp _ _ h n => ok_load rfl ty3 (Gd.get n.1 hp), gF [(82, some 4)] rfl rfl fun hp _ _ h n => ok_eqI rfl (Gd.get n.1 hp) (cI rfl), gdF rfl rfl fun hp _ _ h n => ok_move rfl (Gd.get n.1 hp), gdTT rfl rfl fun hp b q h n => ok_move rfl (up i7 h n.1), gdTT rfl rfl fun hp b q h n => ok_lss rfl (Gd.get n.1 hp) (cI rfl), gF [(84, some 6), (86, some 8)] rfl rfl fun hp _ _ h n => ok_pickAnd rfl (Gd.get n.1 hp) (fun hm => (Gd.get n.2.1 ⟨hp, hm⟩)) (cB rfl), o1 [(80, some 2), (87, some 9)] rfl fun _ _ h n => ok_pickOr rfl n.1 (cB rfl) (Gd.get n.2.1), trivial⟩ W19 fun b q p => ?_
  exact tail_done (k := q) (w18 _ _ ⟨Bs.post ⟨hg, hs, hd⟩ p, p.ke 0 rfl i0, p.ke 3 rfl i3, p.ke 6 rfl i6, p.ke 7 rfl i7, p.ke 8 rfl i8, (by rw [p.old 8 rfl]; exact n8), p.ou 10 88 rfl, trivial⟩)
 rintro a k ⟨⟨hg, hs, hd⟩, i0, i3, i6, i7, i8, n8, i88, _⟩
 refine wp_cond_split (isBool i88) (fun hc479 => ?_) (fun hc479 => ?_)
 ·rw [if_pos hc479] at hr
  refine cutL noF k0 152 [⟨4, IsV ([] : List Account)⟩, ⟨5, IsI 4⟩] ?_ ?_
  ·intro Q20 W20 w19
   refine gS 2 (⟨some IsE0, []⟩ :: ⟨some (IsI 4), []⟩ :: []) hs (by kernel_rfl) ⟨ob1 rfl fun b q h n => ok_assign rfl isE0_nil, aI rfl rfl, trivial⟩ W20 fun b q p => ?_
   have hgq := hg.then p.grow
   have hsb := p.size.trans hs
   have hdb := p.defers.trans hd
   have j4 : IsE0 (b.get 4) q := p.ou 0 4 rfl
   have j5 : (IsI 4) (b.get 5) q := p.ou 1 5 rfl
   replace j4 : IsV ([] : List Account) (b.get 4) q := j4.isV
   exact tail_done (k := q) (w19 _ _ ⟨⟨hgq, hsb, hdb⟩, j4, j5, trivial⟩)
  rintro a k ⟨⟨hg, hs, hd⟩, i4, i5, _⟩
  refine wp_ret ?_
  obtain rfl := Option.some.inj hr
  exact retC2 rfl hd hg i4 i5
 rw [if_neg (by rw [hc479]; decide)] at hr
 refine wp_skip ?_
 refine wp_seq ?_
 refine wp_seq ?_
 obtain ⟨x19, hx19, hr⟩ := bind_some hr
 obtain ⟨x20, hx20, hx19⟩ := ite_bind hx19
 refine cut (fun a' k' => Bs noF k0 152 a' k' ∧ (IsV l_) (a'.get 0) k' ∧ (IsRef m_) (a'.get 3) k' ∧ (IsV x4) (a'.get 6) k' ∧ (IsV x5) (a'.get 7) k' ∧ IsOwn 0 35 x6 (a'.get 8) k' ∧ Lo k0 (obF (a'.get 8)) ∧ (IsV x19) (a'.get 100) k' ∧ True) ?_ hQ ?_
 ·intro Q21 W21 w20
  refine gS 12 (_ :: _ :: _ :: _ :: _ :: _ :: _ :: _ :: _ :: _ :: _ :: _ :: []) hs (by kernel_rfl) ⟨o1 [(3, none)] rfl fun _ _ h n => ok_fieldAddr rfl fo33_0 (at_Move_0 _) ((up i3 h n.1)).ptr, o1 [(89, some 0)] rfl fun _ _ h n => ok_load rfl ty3 n.1, o1 [(90, some 1)] rfl fun _ _ h n => ok_eqI rfl n.1 (cI rfl), cm 2 rfl rfl, mT rfl rfl i0, mT rfl rfl i7, gT [(94, some 5)] rfl rfl fun hp _ _ h n => ok_max2 rfl (Gd.get n.1 hp) (cI rfl), gT [(93, some 4), (95, some 6)] rfl rfl fun hp _ _ h n => ok_indexAddr rfl Try.underlying22 ty35 (IsV.rd (Gd.get n.1 hp)) (Gd.get n.2.1 hp) (hx20 hp), gT [(96, some 7)] rfl rfl fun hp _ _ h n => ok_fieldAddr rfl fo35_2 (at_Account_2 _) (Gd.get n.1 hp), gT [(97, some 8)] rfl rfl fun hp _ _ h n => ok_load rfl ty4 (Gd.get n.1 hp), gT [(98, some 9)] rfl rfl fun hp _ _ h n => ok_not rfl (Gd.get n.1 hp), o1 [(92, some 3), (99, some 10)] rfl fun _ _ h n => ok_pickM rfl n.1 hx19 (Gd.get n.2.1) (cB rfl), trivial⟩ W21 fun b q p => ?_
  exact tail_done (k := q) (w20 _ _ ⟨Bs.post ⟨hg, hs, hd⟩ p, p.ke 0 rfl i0, p.ke 3 rfl i3, p.ke 6 rfl i6, p.ke 7 rfl i7, p.ke 8 rfl i8, (by rw [p.old 8 rfl]; exact n8), p.ou 11 100 rfl, trivial⟩)
 rintro a k ⟨⟨hg, hs, hd⟩, i0, i3, i6, i7, i8, n8, i100, _⟩
 refine wp_cond_split (isBool i100) (fun hc476 => ?_) (fun hc476 => ?_)
 ·rw [if_pos hc476] at hr
  refine cutL noF k0 152 [⟨4, IsV ([] : List Account)⟩, ⟨5, IsI 24⟩] ?_ ?_
  ·intro Q22 W22 w21
   refine gS 2 (⟨some IsE0, []⟩ :: ⟨some (IsI 24), []⟩ :: []) hs (by kernel_rfl) ⟨ob1 rfl fun b q h n => ok_assign rfl isE0_nil, aI rfl rfl, trivial⟩ W22 fun b q p => ?_
   have hgq := hg.then p.grow
   have hsb := p.size.trans hs
   have hdb := p.defers.trans hd
   have j4 : IsE0 (b.get 4) q := p.ou 0 4 rfl
   have j5 : (IsI 24) (b.get 5) q := p.ou 1 5 rfl
   replace j4 : IsV ([] : List Account) (b.get 4) q := j4.isV
   exact tail_done (k := q) (w21 _ _ ⟨⟨hgq, hsb, hdb⟩, j4, j5, trivial⟩)
  rintro a k ⟨⟨hg, hs, hd⟩, i4, i5, _⟩
  refine wp_ret ?_
  obtain rfl := Option.some.inj hr
  exact retC2 rfl hd hg i4 i5
 rw [if_neg (by rw [hc476]; decide)] at hr
 refine wp_skip ?_
 refine wp_seq ?_
 refine wp_seq ?_
 obtain ⟨x21, hx21, hr⟩ := bind_some hr
 refine cut (fun a' k' => Bs noF k0 152 a' k' ∧ (IsV l_) (a'.get 0) k' ∧ (IsRef m_) (a'.get 3) k' ∧ (IsV x4) (a'.get 6) k' ∧ (IsV x5) (a'.get 7) k' ∧ IsOwn 0 35 x6 (a'.get 8) k' ∧ Lo k0 (obF (a'.get 8)) ∧ (IsV (decide (x21.Units < m_.N))) (a'.get 108) k' ∧ True) ?_ hQ ?_
 ·intro Q23 W23 w22
  refine region (m := 8) (_ :: _ :: _ :: _ :: _ :: _ :: _ :: _ :: []) hmix hs (by kernel_rfl) ⟨mu rfl i0, mu rfl i6, o1 [(101, some 0), (102, some 1)] rfl fun _ _ h n => ok_indexAddr rfl Try.underlying22 ty35 (IsV.rd n.1) n.2.1 hx21, o1 [(103, some 2)] rfl fun _ _ h n => ok_fieldAddr rfl fo35_1 (at_Account_1 _) n.1, o1 [(104, some 3)] rfl fun _ _ h n => ok_load rfl ty3 n.1, o1 [(3, none)] rfl fun _ _ h n => ok_fieldAddr rfl fo33_3 (at_Move_3 _) ((up i3 h n.1)).ptr, o1 [(106, some 5)] rfl fun _ _ h n => ok_load rfl ty3 n.1, o1 [(105, some 4), (107, some 6)] rfl fun _ _ h n => ok_lss rfl n.1 n.2.1, trivial⟩ W23 fun b q p => ?_
  exact tail_done (k := q) (w22 _ _ ⟨Bs.post ⟨hg, hs, hd⟩ p, p.ke 0 rfl i0, p.ke 3 rfl i3, p.ke 6 rfl i6, p.ke 7 rfl i7, p.ke 8 rfl i8, (by rw [p.old 8 rfl]; exact n8), p.ou 7 108 rfl, trivial⟩)
 rintro a k ⟨⟨hg, hs, hd⟩, i0, i3, i6, i7, i8, n8, i108, _⟩
 refine wp_cond_split (isBool i108) (fun hc473 => ?_) (fun hc473 => ?_)
 ·rw [if_pos hc473] at hr
  refine cutL noF k0 152 [⟨4, IsV ([] : List Account)⟩, ⟨5, IsI 23⟩] ?_ ?_
  ·intro Q24 W24 w23
   refine gS 2 (⟨some IsE0, []⟩ :: ⟨some (IsI 23), []⟩ :: []) hs (by kernel_rfl) ⟨ob1 rfl fun b q h n => ok_assign rfl isE0_nil, aI rfl rfl, trivial⟩ W24 fun b q p => ?_
   have hgq := hg.then p.grow
   have hsb := p.size.trans hs
   have hdb := p.defers.trans hd
   have j4 : IsE0 (b.get 4) q := p.ou 0 4 rfl
   have j5 : (IsI 23) (b.get 5) q := p.ou 1 5 rfl
   replace j4 : IsV ([] : List Account) (b.get 4) q := j4.isV
   exact tail_done (k := q) (w23 _ _ ⟨⟨hgq, hsb, hdb⟩, j4, j5, trivial⟩)
  rintro a k ⟨⟨hg, hs, hd⟩, i4, i5, _⟩
  refine wp_ret ?_
  obtain rfl := Option.some.inj hr
  exact retC2 rfl hd hg i4 i5
 rw [if_neg (by rw [hc473]; decide)] at hr
 refine wp_skip ?_
 refine wp_seq ?_
 refine wp_seq ?_
 obtain ⟨x22, hx22, hr⟩ := bind_some hr
 obtain ⟨x23, hx23, hx22⟩ := ite_bind hx22
 obtain ⟨x24, hx24, hx22⟩ := ite_bind hx22
 refine cut (fun a' k' => Bs noF k0 152 a' k' ∧ (IsRef m_) (a'.get 3) k' ∧ (IsV x4) (a'.get 6) k' ∧ (IsV x5) (a'.get 7) k' ∧ IsOwn 0 35 x6 (a'.get 8) k' ∧ Lo k0 (obF (a'.get 8)) ∧ (IsV x22) (a'.get 123) k' ∧ True) ?_ hQ ?_
 ·intro Q25 W25 w24
  refine region (m := 15) (_ :: _ :: _ :: _ :: _ :: _ :: _ :: _ :: _ :: _ :: _ :: _ :: _ :: _ :: _ :: []) hmix hs (by kernel_rfl) ⟨o1 [(3, none)] rfl fun _ _ h n => ok_fieldAddr rfl fo33_0 (at_Move_0 _) ((up i3 h n.1)).ptr, o1 [(109, some 0)] rfl fun _ _ h n => ok_load rfl ty3 n.1, o1 [(110, some 1)] rfl fun _ _ h n => ok_eqI rfl n.1 (cI rfl), cm 2 rfl rfl, mT rfl rfl i0, mT rfl rfl i7, gT [(114, some 5)] rfl rfl fun hp _ _ h n => ok_max2 rfl (Gd.get n.1 hp) (cI rfl), gT [(113, some 4), (115, some 6)] rfl rfl fun hp _ _ h n => ok_indexAddr rfl Try.underlying22 ty35 (IsV.rd (Gd.get n.1 hp)) (Gd.get n.2.1 hp) (hx23 hp), gT [(116, some 7)] rfl rfl fun hp _ _ h n => ok_fieldAddr rfl fo35_1 (at_Account_1 _) (Gd.get n.1 hp), gT [(117, some 8)] rfl rfl fun hp _ _ h n => ok_load rfl ty3 (Gd.get n.1 hp), gT [(3, none)] rfl rfl fun hp _ _ h n => ok_fieldAddr rfl fo33_3 (at_Move_3 _) ((up i3 h n.1)).ptr, gT [(119, some 10)] rfl rfl fun hp _ _ h n => ok_load rfl ty3 (Gd.get n.1 hp), gT [(118, some 9), (120, some 11)] rfl rfl fun hp _ _ h n => ok_add rfl (Gd.get n.1 hp) (Gd.get n.2.1 hp) (hx24 hp), gT [(121, some 12)] rfl rfl fun hp _ _ h n => ok_gtr rfl (Gd.get n.1 hp) (cI rfl), o1 [(112, some 3), (122, some 13)] rfl fun _ _ h n => ok_pickM rfl n.1 hx22 (Gd.get n.2.1) (cB rfl), trivial⟩ W25 fun b q p => ?_
  exact tail_done (k := q) (w24 _ _ ⟨Bs.post ⟨hg, hs, hd⟩ p, p.ke 3 rfl i3, p.ke 6 rfl i6, p.ke 7 rfl i7, p.ke 8 rfl i8, (by rw [p.old 8 rfl]; exact n8), p.ou 14 123 rfl, trivial⟩)
 rintro a k ⟨⟨hg, hs, hd⟩, i3, i6, i7, i8, n8, i123, _⟩
 refine wp_cond_split (isBool i123) (fun hc470 => ?_) (fun hc470 => ?_)
 ·rw [if_pos hc470] at hr
  refine cutL noF k0 152 [⟨4, IsV ([] : List Account)⟩, ⟨5, IsI 6⟩] ?_ ?_
  ·intro Q26 W26 w25
   refine gS 2 (⟨some IsE0, []⟩ :: ⟨some (IsI 6), []⟩ :: []) hs (by kernel_rfl) ⟨ob1 rfl fun b q h n => ok_assign rfl isE0_nil, aI rfl rfl, trivial⟩ W26 fun b q p => ?_
   have hgq := hg.then p.grow
   have hsb := p.size.trans hs
   have hdb := p.defers.trans hd
   have j4 : IsE0 (b.get 4) q := p.ou 0 4 rfl
   have j5 : (IsI 6) (b.get 5) q := p.ou 1 5 rfl
   replace j4 : IsV ([] : List Account) (b.get 4) q := j4.isV
   exact tail_done (k := q) (w25 _ _ ⟨⟨hgq, hsb, hdb⟩, j4, j5, trivial⟩)
  rintro a k ⟨⟨hg, hs, hd⟩, i4, i5, _⟩
  refine wp_ret ?_
  obtain rfl := Option.some.inj hr
  exact retC2 rfl hd hg i4 i5
 rw [if_neg (by rw [hc470]; decide)] at hr
 refine wp_skip ?_
 refine wp_seq ?_
 obtain ⟨x25, hx25, hr⟩ := bind_some hr
 obtain ⟨x26, hx26, hr⟩ := bind_some hr
 obtain ⟨x27, hx27, hr⟩ := bind_some hr
 obtain ⟨x28, hx28, hr⟩ := bind_some hr
 refine cut (fun a' k' => Bs noF k0 152 a' k' ∧ (IsRef m_) (a'.get 3) k' ∧ (IsV x5) (a'.get 7) k' ∧ IsOwn 0 35 x28 (a'.get 8) k' ∧ Lo k0 (obF (a'.get 8)) ∧ True) ?_ hQ ?_
 ·intro Q27 W27 w26
  refine region (m := 12) (⟨some (OwnAt (a.get 8) 0 35 x6), [(8, none)]⟩ :: _ :: ⟨some (OwnAt (a.get 8) 0 35 x6), [(8, none)]⟩ :: _ :: _ :: _ :: _ :: _ :: _ :: _ :: ⟨some (IsAdrO (a.get 8) ((x4).toNat * Enc.sz Account)), [(124, some 0), (125, some 1)]⟩ :: _ :: []) hmix hs (by kernel_rfl) ⟨ob1 rfl fun _ _ h n => ok_moveOA (.inl rfl) (ownAt n.1 (up i8 h n.1)), mu rfl i6, ob1 rfl fun _ _ h n => ok_moveOA (.inl rfl) (ownAt n.1 (up i8 h n.1)), mu rfl i6, o1 [(126, some 2), (127, some 3)] rfl fun _ _ h n => ok_indexAddr rfl Try.underlying22 ty35 (IsOwn.rd (n.1).2) n.2.1 hx25, o1 [(128, some 4)] rfl fun _ _ h n => ok_fieldAddr rfl fo35_1 (at_Account_1 _) n.1, o1 [(129, some 5)] rfl fun _ _ h n => ok_load rfl ty3 n.1, o1 [(3, none)] rfl fun _ _ h n => ok_fieldAddr rfl fo33_3 (at_Move_3 _) ((up i3 h n.1)).ptr, o1 [(131, some 7)] rfl fun _ _ h n => ok_load rfl ty3 n.1, o1 [(130, some 6), (132, some 8)] rfl fun _ _ h n => ok_sub rfl n.1 n.2.1 hx26, ob1 rfl fun _ _ h n => ok_indexO rfl Try.underlying22 ty35 n.1 n.2.1 hx27, o1 [(134, some 10)] rfl fun _ _ h n => ok_fieldAdrO rfl fo35_1 n.1, trivial⟩ W27 fun b q p => ?_
  have hgq := hg.then p.grow
  have hsb := p.size.trans hs
  have hdb := p.defers.trans hd
  have j3 := p.ke 3 rfl i3
  have j7 := p.ke 7 rfl i7
  have j8 := p.ke 8 rfl i8
  have y8 : Lo k0 (obF (b.get 8)) := by rw [p.old 8 rfl]; exact n8
  have j133 : (IsV x26) (b.get 133) q := p.ou 9 133 rfl
  have j135 : IsAdrO (a.get 8) ((x4).toNat * Enc.sz Account + 1) (b.get 135) q := p.ou 11 135 rfl
  have eo : b.get 8 = a.get 8 := p.old 8 rfl
  have hns := j8.nshF
  refine tail_storeS (i := 12) (u := b.get 8) (m := (x4).toNat) (off := 0 + 1) rfl rfl rfl rfl szf3 upd_F35_1 (by rw [eo]; exact j135) j8 (getI_spec hx27).2.1 j133 fun q2 hch hz => ?_
  replace hgq := hgq.step hch y8.wr
  have hle := hch.le hns
  replace j3 := Pers.pers hle j3
  replace j7 := Pers.pers hle j7
  replace j133 := Pers.pers hle j133
  replace j135 := Pers.pers hle j135
  replace j8 := hz
  rw [Option.some.inj hx28] at j8
  clear hns hle hch eo hz
  obtain ⟨q, hqq⟩ : ∃ q, q = q2 := ⟨q2, rfl⟩
  subst hqq
  exact tail_done (k := q) (w26 _ _ ⟨⟨hgq, hsb, hdb⟩, j3, j7, j8, y8, trivial⟩)
 rintro a k ⟨⟨hg, hs, hd⟩, i3, i7, i8, n8, _⟩
 refine wp_seq ?_
 refine cutS (fun c l => Bs noF k0 152 c l ∧ IsRef m_ (c.get 3) l ∧ IsV x5 (c.get 7) l ∧ IsOwn 0 35 x28 (c.get 8) l ∧ Lo k0 (obF (c.get 8)) ∧ IsV (m_.Kind == 1) (c.get 138) l ∧ True) ?_ ?_
 ·intro Q28 W28 w27
  refine gS 3 (_ :: _ :: _ :: []) hs (by kernel_rfl) ⟨o1 [(3, none)] rfl fun _ _ h n => ok_fieldAddr rfl fo33_0 (at_Move_0 _) ((up i3 h n.1)).ptr, o1 [(136, some 0)] rfl fun _ _ h n => ok_load rfl ty3 n.1, o1 [(137, some 1)] rfl fun _ _ h n => ok_eqI rfl n.1 (cI rfl), trivial⟩ W28 fun b q p => ?_
  exact tail_done (k := q) (w27 _ _ ⟨Bs.post ⟨hg, hs, hd⟩ p, p.ke 3 rfl i3, p.ke 7 rfl i7, p.ke 8 rfl i8, (by rw [p.old 8 rfl]; exact n8), p.ou 2 138 rfl, trivial⟩)
 rintro a k ⟨⟨hg, hs, hd⟩, i3, i7, i8, n8, i138, _⟩
 obtain ⟨s3, hs3, hr⟩ := bind_some hr
 refine cut (fun a' k' => Bs noF k0 152 a' k' ∧ (IsV s3) (a'.get 8) k' ∧ True) ?_ hQ ?_
 ·intro Q29 W29 w28
  replace hr := hs3
  clear hQ
  have hQ := W29
  refine wp_cond_split (isBool i138) (fun hc461 => ?_) (fun hc461 => ?_)
  ·rw [if_pos hc461] at hr
   obtain ⟨x29, hx29, hr⟩ := bind_some hr
   obtain ⟨x30, hx30, hr⟩ := bind_some hr
   obtain ⟨x31, hx31, hr⟩ := bind_some hr
   obtain ⟨x32, hx32, hr⟩ := bind_some hr
   refine cut (fun a' k' => Bs noF k0 152 a' k' ∧ IsOwn 0 35 x32 (a'.get 8) k' ∧ Lo k0 (obF (a'.get 8)) ∧ True) ?_ hQ ?_
   ·intro Q30 W30 w29
    refine region (m := 12) (⟨some (OwnAt (a.get 8) 0 35 x28), [(8, none)]⟩ :: _ :: ⟨some (OwnAt (a.get 8) 0 35 x28), [(8, none)]⟩ :: _ :: _ :: _ :: _ :: _ :: _ :: _ :: ⟨some (IsAdrO (a.get 8) ((x5).toNat * Enc.sz Account)), [(139, some 0), (140, some 1)]⟩ :: _ :: []) hmix hs (by kernel_rfl) ⟨ob1 rfl fun _ _ h n => ok_moveOA (.inl rfl) (ownAt n.1 (up i8 h n.1)), mu rfl i7, ob1 rfl fun _ _ h n => ok_moveOA (.inl rfl) (ownAt n.1 (up i8 h n.1)), mu rfl i7, o1 [(141, some 2), (142, some 3)] rfl fun _ _ h n => ok_indexAddr rfl Try.underlying22 ty35 (IsOwn.rd (n.1).2) n.2.1 hx29, o1 [(143, some 4)] rfl fun _ _ h n => ok_fieldAddr rfl fo35_1 (at_Account_1 _) n.1, o1 [(144, some 5)] rfl fun _ _ h n => ok_load rfl ty3 n.1, o1 [(3, none)] rfl fun _ _ h n => ok_fieldAddr rfl fo33_3 (at_Move_3 _) ((up i3 h n.1)).ptr, o1 [(146, some 7)] rfl fun _ _ h n => ok_load rfl ty3 n.1, o1 [(145, some 6), (147, some 8)] rfl fun _ _ h n => ok_add rfl n.1 n.2.1 hx30, ob1 rfl fun _ _ h n => ok_indexO rfl Try.underlying22 ty35 n.1 n.2.1 hx31, o1 [(149, some 10)] rfl fun _ _ h n => ok_fieldAdrO rfl fo35_1 n.1, trivial⟩ W30 fun b q p => ?_
    have hgq := hg.then p.grow
    have hsb := p.size.trans hs
    have hdb := p.defers.trans hd
    have j8 := p.ke 8 rfl i8
    have y8 : Lo k0 (obF (b.get 8)) := by rw [p.old 8 rfl]; exact n8
    have j148 : (IsV x30) (b.get 148) q := p.ou 9 148 rfl
    have j150 : IsAdrO (a.get 8) ((x5).toNat * Enc.sz Account + 1) (b.get 150) q := p.ou 11 150 rfl
    have eo : b.get 8 = a.get 8 := p.old 8 rfl
    have hns := j8.nshF
    refine tail_storeS (i := 12) (u := b.get 8) (m := (x5).toNat) (off := 0 + 1) rfl rfl rfl rfl szf3 upd_F35_1 (by rw [eo]; exact j150) j8 (getI_spec hx31).2.1 j148 fun q2 hch hz => ?_
    replace hgq := hgq.step hch y8.wr
    have hle := hch.le hns
    replace j148 := Pers.pers hle j148
    replace j150 := Pers.pers hle j150
    replace j8 := hz
    rw [Option.some.inj hx32] at j8
    clear hns hle hch eo hz
    obtain ⟨q, hqq⟩ : ∃ q, q = q2 := ⟨q2, rfl⟩
    subst hqq
    exact tail_done (k := q) (w29 _ _ ⟨⟨hgq, hsb, hdb⟩, j8, y8, trivial⟩)
   rintro a k ⟨⟨hg, hs, hd⟩, i8, n8, _⟩
   obtain ⟨kk, sh457, ii8⟩ := i8.give
   replace i8 := ii8
   replace hg := hg.hand sh457 n8.wr
   rw [← sh457.w]
   clear sh457
   obtain ⟨k, hkk⟩ : ∃ k, k = kk := ⟨kk, rfl⟩
   subst hkk
   obtain rfl := Option.some.inj hr
   exact w28 _ _ ⟨⟨hg, hs, hd⟩, i8, trivial⟩
  rw [if_neg (by rw [hc461]; decide)] at hr
  refine wp_skip ?_
  obtain ⟨kk, sh460, ii8⟩ := i8.give
  replace i8 := ii8
  replace hg := hg.hand sh460 n8.wr
  rw [← sh460.w]
  clear sh460
  obtain ⟨k, hkk⟩ : ∃ k, k = kk := ⟨kk, rfl⟩
  subst hkk
  obtain rfl := Option.some.inj hr
  exact w28 _ _ ⟨⟨hg, hs, hd⟩, i8, trivial⟩
 clear hs3
 rintro a k ⟨⟨hg, hs, hd⟩, i8, _⟩
 refine stepL 3 (_ :: _ :: ⟨some (IsI 0), []⟩ :: []) rfl ⟨hg, hs, hd⟩ (by kernel_rfl) ⟨mu rfl i8, cp 0 rfl rfl, aI rfl rfl, trivial⟩ [⟨_, _⟩, ⟨_, _⟩] (fun b q p => ⟨p.ou 1 4 rfl, p.ou 2 5 rfl, trivial⟩) ?_
 rintro a k ⟨⟨hg, hs, hd⟩, i4, i5, _⟩
 refine wp_ret ?_
 obtain rfl := Option.some.inj hr
 exact retC2 rfl hd hg i4 i5
def rRun_L0 (moves_ : (List Move)) (s1 : (List Account) × Int) : Option (Flow ((List Account) × Int) ((List Account) × Int × Int)) :=
 if (decide (s1.2 < (moves_.length : Int))) then
  (getI moves_ s1.2).bind fun x1 =>
  (rDo s1.1 x1).bind fun x2 =>
  if (x2.2 != 0) then
   some (.ret (s1.1, s1.2, x2.2))
  else
   (addI s1.2 1).bind fun x3 =>
   some (.go (x2.1, x3))
 else
  some (.ex 0 (s1.1, s1.2))
def rRun (l_ : (List Account)) (moves_ : (List Move)) : Option ((List Account) × Int × Int) :=
 (rRight l_).bind fun x1 =>
 if (!x1) then
  some (([] : List Account), 0, 1)
 else
  (appI [] l_).bind fun x2 =>
  (iterL (rRun_L0 moves_) (moves_.length + x2.length + 1) (x2, 0)).bind fun f1 => match f1 with
   | .go _ => none
   | .ex _ s1 =>
    some (s1.1, (moves_.length : Int), 0)
   | .ret r1 => some r1
theorem rRun_ok {k0 : K} {v0 v1 : Value} {l_ : (List Account)} {moves_ : (List Move)} {r : (List Account) × Int × Int} (i0 : (IsV l_) v0 k0) (i1 : (IsV moves_) v1 k0) (hr : rRun l_ moves_ = some r) :
  Calls Try.prog 16 #[v0, v1] k0.w (Ret k0 (IsTup3 (IsV r.1) (IsV r.2.1) (IsV r.2.2))) := by
 unfold rRun at hr
 refine Ret.ofC ?_
 refine enterK Try.func16 rfl Try.ntmps16 (show 2 ≤ 41 by decide) fun a k hk0 hs hd ha => ?_
 obtain ⟨e0, e1, _⟩ := ha
 replace i0 : (IsV l_) (a.get 0) k := by rw [e0, hk0]; exact i0
 replace i1 : (IsV moves_) (a.get 1) k := by rw [e1, hk0]; exact i1
 have hQ : Gb.LetsOut (bodyPost Try.prog Try.f16 (RetC noF k0 (IsTup3 (IsV r.1) (IsV r.2.1) (IsV r.2.2)))) := letsOutC
 have hg : Chg noF k0 k := by rw [hk0]; exact Chg.refl _ k0
 refine stepL 3 (⟨some IsE0, []⟩ :: ⟨some (IsI 0), []⟩ :: ⟨some (IsI 0), []⟩ :: []) rfl ⟨hg, hs, hd⟩ (by kernel_rfl) ⟨ob1 rfl fun b q h n => ok_assign rfl isE0_nil, aI rfl rfl, aI rfl rfl, trivial⟩ [⟨_, _⟩, ⟨_, _⟩] (fun b q p => ⟨p.ke 0 rfl i0, p.ke 1 rfl i1, trivial⟩) ?_
 rintro a k ⟨⟨hg, hs, hd⟩, i0, i1, _⟩
 refine wp_seq ?_
 refine wp_seq ?_
 obtain ⟨x1, hx1, hr⟩ := bind_some hr
 refine cut (fun a' k' => Bs noF k0 41 a' k' ∧ (IsV l_) (a'.get 0) k' ∧ (IsV moves_) (a'.get 1) k' ∧ (IsV (!x1)) (a'.get 13) k' ∧ True) ?_ hQ ?_
 ·intro Q1 W1 w1
  refine gS 3 (_ :: _ :: _ :: []) hs (by kernel_rfl) ⟨mu rfl i0, o1 [(11, some 0)] rfl fun _ _ h n => ok_call rfl Try.call18 (rRight_ok n.1 hx1), o1 [(12, some 1)] rfl fun _ _ h n => ok_not rfl n.1, trivial⟩ W1 fun b q p => ?_
  exact tail_done (k := q) (w1 _ _ ⟨Bs.post ⟨hg, hs, hd⟩ p, p.ke 0 rfl i0, p.ke 1 rfl i1, p.ou 2 13 rfl, trivial⟩)
 rintro a k ⟨⟨hg, hs, hd⟩, i0, i1, i13, _⟩
 refine wp_cond_split (isBool i13) (fun hc538 => ?_) (fun hc538 => ?_)
 ·rw [if_pos hc538] at hr
  refine cutL noF k0 41 [⟨4, IsV ([] : List Account)⟩, ⟨5, IsI 0⟩, ⟨6, IsI 1⟩] ?_ ?_
  ·intro Q2 W2 w2
   refine gS 3 (⟨some IsE0, []⟩ :: ⟨some (IsI 0), []⟩ :: ⟨some (IsI 1), []⟩ :: []) hs (by kernel_rfl) ⟨ob1 rfl fun b q h n => ok_assign rfl isE0_nil, aI rfl rfl, aI rfl rfl, trivial⟩ W2 fun b q p => ?_
   have hgq := hg.then p.grow
   have hsb := p.size.trans hs
   have hdb := p.defers.trans hd
   have j4 : IsE0 (b.get 4) q := p.ou 0 4 rfl
   have j5 : (IsI 0) (b.get 5) q := p.ou 1 5 rfl
   have j6 : (IsI 1) (b.get 6) q := p.ou 2 6 rfl
   replace j4 : IsV ([] : List Account) (b.get 4) q := j4.isV
   exact tail_done (k := q) (w2 _ _ ⟨⟨hgq, hsb, hdb⟩, j4, j5, j6, trivial⟩)
  rintro a k ⟨⟨hg, hs, hd⟩, i4, i5, i6, _⟩
  refine wp_ret ?_
  obtain rfl := Option.some.inj hr
  exact retC3 rfl hd hg i4 i5 i6
 rw [if_neg (by rw [hc538]; decide)] at hr
 refine wp_skip ?_
 refine wp_seq ?_
 obtain ⟨x2, hx2, hr⟩ := bind_some hr
 refine cut (fun a' k' => Bs noF k0 41 a' k' ∧ (IsV moves_) (a'.get 1) k' ∧ (IsV x2) (a'.get 7) k' ∧ True) ?_ hQ ?_
 ·intro Q3 W3 w3
  refine gS 4 (⟨some IsE0, []⟩ :: _ :: ⟨some (IsV x2), [(14, some 0), (15, some 1)]⟩ :: _ :: []) hs (by kernel_rfl) ⟨ob1 rfl fun b q h n => ok_buildSlice0 rfl Try.underlying22 eo35, mu rfl i0, ob1 rfl fun _ _ h n => ok_append0V rfl Try.underlying22 eo35 n.1 (IsV.rd n.2.1) hx2, cp 2 rfl rfl, trivial⟩ W3 fun b q p => ?_
  exact tail_done (k := q) (w3 _ _ ⟨Bs.post ⟨hg, hs, hd⟩ p, p.ke 1 rfl i1, p.ou 3 7 rfl, trivial⟩)
 rintro a k ⟨⟨hg, hs, hd⟩, i1, i7, _⟩
 refine wp_seq ?_
 refine stepL 1 (⟨some (IsI 0), []⟩ :: []) rfl ⟨hg, hs, hd⟩ (by kernel_rfl) ⟨aI rfl rfl, trivial⟩ [⟨_, _⟩, ⟨_, _⟩, ⟨_, _⟩] (fun b q p => ⟨p.ke 1 rfl i1, p.ke 7 rfl i7, p.ou 0 8 rfl, trivial⟩) ?_
 rintro a k ⟨⟨hg, hs, hd⟩, i1, i7, i8, _⟩
 refine wp_block ?_
 obtain ⟨f1, hf1, hr⟩ := bind_some hr
 refine cutFe f1 (fun s' c l => Bs noF k0 41 c l ∧ IsV moves_ (c.get 1) l ∧ IsV s'.1 (c.get 7) l ∧ IsV s'.2 (c.get 8) l ∧ True) (fun i' s' c l => (i' = 0 ∧ Bs noF k0 41 c l ∧ IsV moves_ (c.get 1) l ∧ IsV s'.1 (c.get 7) l ∧ True)) (fun r' c l => bodyPost Try.prog Try.f16 (RetC noF k0 (IsTup3 (IsV r'.1) (IsV r'.2.1) (IsV r'.2.2))) .ret c l.w) ?_ hQ ?_ ?_ ?_
 ·intro Q4 W4 hgo hex hret
  refine sim_loop ?_ _ _ _ _ _ hf1 ⟨⟨hg, hs, hd⟩, i1, i7, i8, trivial⟩ Q4 W4 hgo hex hret
  clear hr hf1 hgo hex hret W4 hQ hg hs hd i1 i7 i8
  intro s1 fl_ a k hr hS Q hQ hgo504 hex505 hret506
  obtain ⟨⟨hg, hs, hd⟩, i1, i7, i8, _⟩ := hS
  unfold rRun_L0 at hr
  refine wp_seq ?_
  refine stepL 4 (_ :: _ :: _ :: _ :: []) rfl ⟨hg, hs, hd⟩ (by kernel_rfl) ⟨mu rfl i8, mu rfl i1, o1 [(18, some 1)] rfl fun _ _ h n => ok_len rfl rfl Try.underlying23 (IsV.rd n.1), o1 [(17, some 0), (19, some 2)] rfl fun _ _ h n => ok_lss rfl n.1 n.2.1, trivial⟩ [⟨_, _⟩, ⟨_, _⟩, ⟨_, _⟩, ⟨_, _⟩] (fun b q p => ⟨p.ke 1 rfl i1, p.ke 7 rfl i7, p.ke 8 rfl i8, p.ou 3 20 rfl, trivial⟩) ?_
  rintro a k ⟨⟨hg, hs, hd⟩, i1, i7, i8, i20, _⟩
  refine wp_cond_split (isBool i20) (fun hc524 => ?_) (fun hc524 => ?_)
  ·rw [if_pos hc524] at hr
   refine wp_skip ?_
   refine wp_seq ?_
   refine wp_block ?_
   refine wp_seq ?_
   obtain ⟨x3, hx3, hr⟩ := bind_some hr
   obtain ⟨x4, hx4, hr⟩ := bind_some hr
   refine cut (fun a' k' => Bs noF k0 41 a' k' ∧ (IsV moves_) (a'.get 1) k' ∧ (IsV s1.1) (a'.get 7) k' ∧ (IsV s1.2) (a'.get 8) k' ∧ (IsV x4.1) (a'.get 9) k' ∧ (IsV x4.2) (a'.get 10) k' ∧ True) ?_ hQ ?_
   ·intro Q5 W5 w4
    refine gS 11 (_ :: _ :: _ :: _ :: _ :: _ :: _ :: _ :: _ :: _ :: _ :: []) hs (by kernel_rfl) ⟨mu rfl i7, mu rfl i1, mu rfl i8, o1 [(25, some 1), (26, some 2)] rfl fun _ _ h n => ok_indexAddr rfl Try.underlying23 ty33 (IsV.rd n.1) n.2.1 hx3, o1 [(27, some 3)] rfl fun _ _ h n => ok_load rfl ty33 n.1, o1 [(24, some 0), (28, some 4)] rfl fun _ _ h n => ok_call rfl Try.call23 (rDo_ok n.1 n.2.1 hx4), cm 5 rfl rfl, o1 [(23, some 6)] rfl fun _ _ h n => ok_ext2_0 rfl n.1, o1 [(23, some 6)] rfl fun _ _ h n => ok_ext2_1 rfl n.1, cp 7 rfl rfl, cp 8 rfl rfl, trivial⟩ W5 fun b q p => ?_
    exact tail_done (k := q) (w4 _ _ ⟨Bs.post ⟨hg, hs, hd⟩ p, p.ke 1 rfl i1, p.ke 7 rfl i7, p.ke 8 rfl i8, p.ou 9 9 rfl, p.ou 10 10 rfl, trivial⟩)
   rintro a k ⟨⟨hg, hs, hd⟩, i1, i7, i8, i9, i10, _⟩
   refine wp_seq ?_
   refine stepL 2 (_ :: ⟨some (IsV (x4.2 != 0)), [(32, some 0)]⟩ :: []) rfl ⟨hg, hs, hd⟩ (by kernel_rfl) ⟨mu rfl i10, ob1 rfl fun _ _ h n => ok_neI rfl n.1 (cI rfl), trivial⟩ [⟨_, _⟩, ⟨_, _⟩, ⟨_, _⟩, ⟨_, _⟩, ⟨_, _⟩, ⟨_, _⟩] (fun b q p => ⟨p.ke 1 rfl i1, p.ke 7 rfl i7, p.ke 8 rfl i8, p.ke 9 rfl i9, p.ke 10 rfl i10, p.ou 1 33 rfl, trivial⟩) ?_
   rintro a k ⟨⟨hg, hs, hd⟩, i1, i7, i8, i9, i10, i33, _⟩
   refine wp_cond_split (isBool i33) (fun hc519 => ?_) (fun hc519 => ?_)
   ·rw [if_pos hc519] at hr
    refine stepL 6 (_ :: _ :: _ :: _ :: _ :: _ :: []) rfl ⟨hg, hs, hd⟩ (by kernel_rfl) ⟨mu rfl i7, mu rfl i8, mu rfl i10, cp 0 rfl rfl, cp 1 rfl rfl, cp 2 rfl rfl, trivial⟩ [⟨_, _⟩, ⟨_, _⟩, ⟨_, _⟩] (fun b q p => ⟨p.ou 3 4 rfl, p.ou 4 5 rfl, p.ou 5 6 rfl, trivial⟩) ?_
    rintro a k ⟨⟨hg, hs, hd⟩, i4, i5, i6, _⟩
    refine wp_ret ?_
    exact hret506 _ _ _ (Option.some.inj hr).symm (retC3 rfl hd hg i4 i5 i6)
   rw [if_neg (by rw [hc519]; decide)] at hr
   refine wp_skip ?_
   refine cut (fun a' k' => Bs noF k0 41 a' k' ∧ (IsV moves_) (a'.get 1) k' ∧ (IsV x4.1) (a'.get 7) k' ∧ (IsV s1.2) (a'.get 8) k' ∧ True) ?_ hQ ?_
   ·intro Q6 W6 w5
    refine gS 2 (_ :: _ :: []) hs (by kernel_rfl) ⟨mu rfl i9, cp 0 rfl rfl, trivial⟩ W6 fun b q p => ?_
    exact tail_done (k := q) (w5 _ _ ⟨Bs.post ⟨hg, hs, hd⟩ p, p.ke 1 rfl i1, p.ou 1 7 rfl, p.ke 8 rfl i8, trivial⟩)
   rintro a k ⟨⟨hg, hs, hd⟩, i1, i7, i8, _⟩
   obtain ⟨x5, hx5, hr⟩ := bind_some hr
   refine cut (fun a' k' => Bs noF k0 41 a' k' ∧ (IsV moves_) (a'.get 1) k' ∧ (IsV x4.1) (a'.get 7) k' ∧ (IsV x5) (a'.get 8) k' ∧ True) ?_ hQ ?_
   ·intro Q7 W7 w6
    refine gS 3 (_ :: _ :: _ :: []) hs (by kernel_rfl) ⟨mu rfl i8, o1 [(21, some 0)] rfl fun _ _ h n => ok_add rfl n.1 (cI rfl) hx5, cp 1 rfl rfl, trivial⟩ W7 fun b q p => ?_
    exact tail_done (k := q) (w6 _ _ ⟨Bs.post ⟨hg, hs, hd⟩ p, p.ke 1 rfl i1, p.ke 7 rfl i7, p.ou 2 8 rfl, trivial⟩)
   rintro a k ⟨⟨hg, hs, hd⟩, i1, i7, i8, _⟩
   exact hgo504 _ _ _ (Option.some.inj hr).symm ⟨⟨hg, hs, hd⟩, i1, i7, i8, trivial⟩
  rw [if_neg (by rw [hc524]; decide)] at hr
  refine wp_exit ?_
  exact hex505 _ _ _ _ (Option.some.inj hr).symm ⟨rfl, ⟨hg, hs, hd⟩, i1, i7, trivial⟩
 ·rintro r1 a k rfl hR
  dsimp only at hr
  obtain rfl := Option.some.inj hr
  exact hR
 ·rintro _ _ _ rfl _
  simp at hr
 clear hf1
 rintro _ s2 a k rfl ⟨rfl, ⟨hg, hs, hd⟩, i1, i7, _⟩
 dsimp only at hr
 refine stepL 6 (_ :: _ :: _ :: _ :: _ :: ⟨some (IsI 0), []⟩ :: []) rfl ⟨hg, hs, hd⟩ (by kernel_rfl) ⟨mu rfl i7, mu rfl i1, o1 [(39, some 1)] rfl fun _ _ h n => ok_len rfl rfl Try.underlying23 (IsV.rd n.1), cp 0 rfl rfl, cp 2 rfl rfl, aI rfl rfl, trivial⟩ [⟨_, _⟩, ⟨_, _⟩, ⟨_, _⟩] (fun b q p => ⟨p.ou 3 4 rfl, p.ou 4 5 rfl, p.ou 5 6 rfl, trivial⟩) ?_
 rintro a k ⟨⟨hg, hs, hd⟩, i4, i5, i6, _⟩
 refine wp_ret ?_
 obtain rfl := Option.some.inj hr
 exact retC3 rfl hd hg i4 i5 i6
abbrev Pl := List (Int × List (Int × Int))
def rPut_L0 (m : Pl) (lot : Int) (p : Int × Int) (i : Int) : Option (Flow Int Pl) :=
  if (decide (i < (m.length : Int))) then
    (getI m i).bind fun x =>
    if (x.1 != lot) then
      (addI i 1).bind fun j => some (.go j)
    else
      (if (decide (0 < (x.2.length : Int))) then
        (subI (x.2.length : Int) 1).bind fun y =>
        (getI x.2 (max y 0)).bind fun z =>
        some (z.1 == p.1)
      else some false).bind fun c =>
      if c then
        (subI (x.2.length : Int) 1).bind fun y =>
        (getI x.2 y).bind fun z =>
        (addI z.2 p.2).bind fun w =>
        some (.ret (m.set i.toNat (x.1, x.2.set y.toNat (z.1, w))))
      else
        (appI x.2 [p]).bind fun w =>
        some (.ret (m.set i.toNat (x.1, w)))
  else some (.ex 0 i)
def rPut (m : Pl) (lot : Int) (p : Int × Int) : Option Pl :=
  if (p.2 == 0) then some m
  else
    (iterL (rPut_L0 m lot p) (m.length + 1) 0).bind fun f => match f with
      | .go _ => none
      | .ex _ _ => appI m [(lot, [p])]
      | .ret r => some r
def rTake_L0 (m : Pl) (frm : Int) (k : Int) : Option (Flow Int Pl) :=
  (if (decide (k < (m.length : Int))) then
    (getI m k).bind fun x => some (x.1 != frm)
  else some false).bind fun c =>
  if c then
    (addI k 1).bind fun j => some (.go j)
  else some (.ex 0 k)
def rTake_L1 (to k : Int) (s : Pl × Int) : Option (Flow (Pl × Int) Pl) :=
  if ((decide (0 < s.2)) && (decide (k < (s.1.length : Int)))) then
    (getI s.1 k).bind fun x =>
    if ((x.2.length : Int) == 0) then some (.ex 2 s)
    else
      (getI x.2 0).bind fun p =>
      (subI s.2 (min s.2 p.2)).bind fun n =>
      (if (min s.2 p.2 == p.2) then
        (sliceI x.2 1 (x.2.length : Int)).bind fun y =>
        (appI [] y).bind fun z =>
        some (s.1.set k.toNat (x.1, z))
      else
        (subI p.2 (min s.2 p.2)).bind fun w =>
        some (s.1.set k.toNat (x.1, x.2.set 0 (p.1, w)))).bind fun m1 =>
      (rPut m1 to (p.1, min s.2 p.2)).bind fun m2 =>
      some (.go (m2, n))
  else some (.ex 2 s)
def rTake (m : Pl) (frm to n : Int) : Option Pl :=
  (iterL (rTake_L0 m frm) (m.length + 1) 0).bind fun f => match f with
    | .go _ => none
    | .ex _ k =>
      (iterL (rTake_L1 to k) (n.toNat + 1) (m, n)).bind fun f => match f with
        | .go _ => none
        | .ex _ s => some s.1
        | .ret r => some r
    | .ret r => some r
def rTrace_L0 (l_ : List Account) (s : Pl × Int) : Option (Flow (Pl × Int) (List (Int × Int) × Int)) :=
  if (decide (s.2 < (l_.length : Int))) then
    (getI l_ s.2).bind fun x =>
    (rPut s.1 x.Lot (x.Lot, x.Units)).bind fun m =>
    (addI s.2 1).bind fun j => some (.go (m, j))
  else some (.ex 0 s)
def rTrace_L1 (moves : List Move) (s : Pl × Int) : Option (Flow (Pl × Int) (List (Int × Int) × Int)) :=
  if (decide (s.2 < (moves.length : Int))) then
    (getI moves s.2).bind fun x =>
    (if (x.Kind == 0) then rPut s.1 x.To (x.To, x.N)
    else if (x.Kind == 1) then rTake s.1 x.From x.To x.N
    else if (x.Kind == 2) then rTake s.1 x.From 0 x.N
    else if (x.Kind == 3) then rTake s.1 x.From (-1) x.N
    else some s.1).bind fun m =>
    (addI s.2 1).bind fun j => some (.go (m, j))
  else some (.ex 2 s)
def rTrace_L2 (m : Pl) (lot : Int) (i : Int) : Option (Flow Int (List (Int × Int) × Int)) :=
  if (decide (i < (m.length : Int))) then
    (getI m i).bind fun x =>
    if (x.1 == lot) then some (.ret (x.2, 0))
    else (addI i 1).bind fun j => some (.go j)
  else some (.ex 5 i)
def rTrace (l_ : List Account) (moves : List Move) (lot : Int) : Option (List (Int × Int) × Int) :=
  (rRun l_ moves).bind fun x =>
  if (x.2.2 != 0) then some (([] : List (Int × Int)), x.2.2)
  else
    (iterL (rTrace_L0 l_) (l_.length + 1) ([], 0)).bind fun f => match f with
      | .go _ => none
      | .ex _ s =>
        (iterL (rTrace_L1 moves) (moves.length + 1) (s.1, 0)).bind fun f => match f with
          | .go _ => none
          | .ex _ s =>
            (iterL (rTrace_L2 s.1 lot) (s.1.length + 1) 0).bind fun f => match f with
              | .go _ => none
              | .ex _ _ => some (([] : List (Int × Int)), 0)
              | .ret r => some r
          | .ret r => some r
      | .ret r => some r
theorem ty59 : Ty Try.prog 59 (Int × RawV) := ⟨⟨_, Try.underlying59, rfl⟩, by kernel_rfl⟩
theorem eo59 : ElemOk Try.prog 59 (Int × RawV) := ⟨_, _, rfl, rfl, rfl, rfl, by decide, by decide⟩
theorem fo59_0 : FieldOk Try.prog 59 0 0 := ⟨_, _, 0, Try.underlying59, rfl, rfl, by kernel_rfl⟩
theorem fo59_1 : FieldOk Try.prog 59 1 1 := ⟨_, _, 0, Try.underlying59, rfl, rfl, by kernel_rfl⟩
theorem ty29r : Ty Try.prog 29 RawV := ⟨⟨_, Try.underlying29, rfl⟩, by kernel_rfl⟩
theorem szf29r : (Try.prog.info? 29).map (·.size) = some (Enc.sz RawV) := by kernel_rfl
theorem updP : Upd (α := Int × RawV) (β := RawV) (Enc.sz Int + 0) (fun x y => (x.1, y)) := Upd.snd Upd.self
theorem bld59 {k : K} {v0 v1 : Value} {x0 : Int} {u : RawV} (h0 : IsV x0 v0 k) (h1 : IsV u v1 k) : ∃ v, (∀ w, (Instr.build 59 #[(0, v0), (1, v1)]).run Try.prog w = .ok v w) ∧ IsV ((x0, u) : (Int × RawV)) v k := by
  obtain ⟨l0, e0, r0, n0⟩ := isV_cellsL h0
  obtain ⟨u0_0, rfl⟩ := len1 n0
  obtain ⟨l1, e1, r1, n1⟩ := isV_cellsL h1
  obtain ⟨u1_0, rfl⟩ := len1 n1
  refine ⟨.agg #[u0_0, u1_0], fun w => ?_, [u0_0, u1_0], rfl, ⟨rfl, r0, r1⟩⟩
  simp [Instr.build, Instr.fill, cells_agg, e0, e1]
def PilW (F0 : FP) (k0 : K) (r : Pl) : Pred := fun v k => ∃ G, PilR 59 37 r G v k ∧ Wr F0 k0 G
theorem exit_then {next : Act → World → Prop} {Q : Exit → Act → World → Prop} {id : Nat} {a : Act} {w : World} (h : Q (.exit id) a w) : Exit.then next Q (.exit id) a w := h
theorem ne59 : (59 : Nat) ≠ 37 := by decide
def PairO (B : Nat) (n : Int) (xs : List (Int × Int)) : Pred := fun v k => ∃ u, IsV ((n, ⟨u⟩) : Int × RawV) v k ∧ IsOwn B 37 xs u k
def RdPO (B : Nat) (n : Int) (xs : List (Int × Int)) : Pred := fun v k => ∃ u, IsV ([(n, ⟨u⟩)] : List (Int × RawV)) v k ∧ IsOwn B 37 xs u k
instance {B : Nat} {n : Int} {xs : List (Int × Int)} : Mono (PairO B n xs) := ⟨fun g ⟨u, h, i⟩ => ⟨u, Mono.mono g h, Mono.mono g i⟩⟩
instance {B : Nat} {n : Int} {xs : List (Int × Int)} : Mono (RdPO B n xs) := ⟨fun g ⟨u, h, i⟩ => ⟨u, Mono.mono g h, Mono.mono g i⟩⟩
theorem ok_pairO {o : Oper} {a : Act} {k : K} {x y : Operand} {B : Nat} {n : Int} {xs : List (Int × Int)} (ho : o.op = .build 59 [(0, x), (1, y)].toArray) (hx : IsV n (a.eval x) k) (hy : IsOwn B 37 xs (a.eval y) k) : Does Try.prog o a k (PairO B n xs) :=
  does_weak (ok_build ho (bld59 (u := ⟨a.eval y⟩) hx (raw_self (own_one hy)))) fun v k' g hv => ⟨_, hv, Mono.mono g hy⟩
theorem ok_rdPO {o : Oper} {a : Act} {k : K} {x : Operand} {B : Nat} {n : Int} {xs : List (Int × Int)} (ho : o.op = .buildSlice 55 1 [(0, x)].toArray) (hx : PairO B n xs (a.eval x) k) : Does Try.prog o a k (RdPO B n xs) := by
  obtain ⟨u, hv, hu⟩ := hx
  exact does_weak (ok_buildSlice (xs := [((n, ⟨u⟩) : Int × RawV)]) ho Try.underlying55 eo59 rfl (by decide) (by decide) ⟨rfl, hv, trivial⟩) fun v k' g hv => ⟨u, hv, Mono.mono g hu⟩
theorem appI_inv {γ : Type} {xs ys zs : List γ} (h : appI xs ys = some zs) : xs.length + ys.length ≤ 1073741824 ∧ zs = xs ++ ys := by
  unfold appI at h
  split at h
  · rename_i h1; exact ⟨h1, (Option.some.inj h).symm⟩
  · simp at h
abbrev Pt (v0 : Value) (T : List (Int × Value × List (Int × Int))) : Pred := PilAt v0 59 37 T
theorem rPut_ok {k0 : K} {F0 : FP} {v0 v1 v2 : Value} {m : Pl} {lot : Int} {p_ : Int × Int} {r : Pl} (i0 : PilR 59 37 m F0 v0 k0) (i1 : (IsV lot) v1 k0) (i2 : (IsV p_) v2 k0) (hr : rPut m lot p_ = some r) :
    Calls Try.prog 34 #[v0, v1, v2] k0.w (RetC F0 k0 (PilW F0 k0 r)) := by
  unfold rPut at hr
  refine enterK Try.func34 rfl Try.ntmps34 (show 3 ≤ 92 by decide) fun a k hk0 hs hd ha => ?_
  obtain ⟨e0, e1, e2, _⟩ := ha
  obtain ⟨hne, T, rfl, i0, eF⟩ := i0.open
  replace i0 : (Pt v0 T) (a.get 0) k := by rw [e0, hk0]; exact i0
  replace i1 : (IsV lot) (a.get 1) k := by rw [e1, hk0]; exact i1
  replace i2 : (IsV p_) (a.get 2) k := by rw [e2, hk0]; exact i2
  have hQ : Gb.LetsOut (bodyPost Try.prog Try.f34 (RetC F0 k0 (PilW F0 k0 r))) := letsOutC
  have hg : Chg F0 k0 k := by rw [hk0]; exact Chg.refl _ k0
  have hFo : Wr F0 k0 (obF v0) := fun c hc => .inl (by rw [eF]; exact .inl hc)
  have hFp : ∀ (i : Nat) t, T[i]? = some t → Wr F0 k0 (obF t.2.1) := fun i t ht c hc => .inl (by rw [eF]; exact .inr ⟨i, t, ht, hc⟩)
  have hFT : Wr F0 k0 (partsF T) := fun c hc => .inl (by rw [eF]; exact .inr hc)
  have fin : ∀ {a : Act} {k : K} {G : FP} {v : Value} {r : Pl}, Bs F0 k0 92 a k → PilR 59 37 r G v k → Wr F0 k0 G → a.get 6 = v → bodyPost Try.prog Try.f34 (RetC F0 k0 (PilW F0 k0 r)) .ret a k.w := by
    intro a k G v r hB hP hG e
    exact retC1 rfl hB.d hB.g (show ResOk _ _ _ (.tmp 6) (PilW F0 k0 r) from by show PilW F0 k0 r (a.get 6) k; rw [e]; exact ⟨G, hP, hG⟩)
  clear e0 e1 e2
  refine wp_seq ?_
  refine cut (fun a' k' => Bs F0 k0 92 a' k' ∧ (Pt v0 T) (a'.get 0) k' ∧ (IsV lot) (a'.get 1) k' ∧ (IsRef p_) (a'.get 5) k') ?_ hQ ?_
  · intro Q1 hQ1 hp
    refine regionS (a0 := a) (k0 := k) (n := 92) (m := 2) (⟨some (IsRef p_), [(2, none)]⟩ :: ⟨some (IsAny), []⟩ :: []) hs (by kernel_rfl) ⟨ob1 rfl fun b q hk hn => ok_boxR rfl (up i2 hk hn.1), ob1 rfl fun b q hk hn => ok_assign rfl trivial, trivial⟩ hQ1 fun b q p => ?_
    exact tail_done (k := q) (hp _ _ ⟨Bs.post ⟨hg, hs, hd⟩ p, keep p 0 rfl i0, keep p 1 rfl i1, out p 0 5 _ rfl rfl rfl⟩)
  clear i0 i1 i2 hg hs hd
  rintro a k ⟨⟨hg, hs, hd⟩, i0, i1, i5⟩
  refine wp_seq ?_
  refine wp_seq ?_
  refine cut (fun a' k' => Bs F0 k0 92 a' k' ∧ (Pt v0 T) (a'.get 0) k' ∧ (IsV lot) (a'.get 1) k' ∧ (IsRef p_) (a'.get 5) k' ∧ (IsV (p_.2 == 0)) (a'.get 11) k') ?_ hQ ?_
  · intro Q1 hQ1 hp
    refine regionS (a0 := a) (k0 := k) (n := 92) (m := 3) (⟨some (IsPtr p_.2), [(5, none)]⟩ :: ⟨some (IsV p_.2), [(9, some 0)]⟩ :: ⟨some (IsV (p_.2 == 0)), [(10, some 1)]⟩ :: []) hs (by kernel_rfl) ⟨ob1 rfl fun b q hk hn => ok_arrAddr (i := 1) rfl ao37 (by decide) (aat37_1 _) (up i5 hk hn.1).ptr (isV_int.2 rfl), ob1 rfl fun b q hk hn => ok_load rfl ty3 hn.1, ob1 rfl fun b q hk hn => ok_eqI rfl hn.1 (isV_int.2 rfl), trivial⟩ hQ1 fun b q p => ?_
    exact tail_done (k := q) (hp _ _ ⟨Bs.post ⟨hg, hs, hd⟩ p, keep p 0 rfl i0, keep p 1 rfl i1, keep p 5 rfl i5, out p 2 11 _ rfl rfl rfl⟩)
  clear i0 i1 i5 hg hs hd
  rintro a k ⟨⟨hg, hs, hd⟩, i0, i1, i5, i11⟩
  refine wp_cond_split (isBool i11) (fun hc => ?_) (fun hc => ?_)
  · rw [if_pos hc] at hr
    obtain rfl := Option.some.inj hr
    refine wp_seq ?_
    refine cut (fun a' k' => Bs F0 k0 92 a' k' ∧ (Pt v0 T) (a'.get 6) k') ?_ hQ ?_
    · intro Q1 hQ1 hp
      refine regionS (a0 := a) (k0 := k) (n := 92) (m := 2) (⟨some (Pt v0 T), [(0, none)]⟩ :: ⟨some (Pt v0 T), [(12, some 0)]⟩ :: []) hs (by kernel_rfl) ⟨ob1 rfl fun b q hk hn => ok_move rfl (up i0 hk hn.1), ob1 rfl fun b q hk hn => ok_assign rfl hn.1, trivial⟩ hQ1 fun b q p => ?_
      exact tail_done (k := q) (hp _ _ ⟨Bs.post ⟨hg, hs, hd⟩ p, out p 1 6 _ rfl rfl rfl⟩)
    rintro a k ⟨hB, i6⟩
    refine wp_ret ?_
    have e6 := i6.1
    rw [e6] at i6
    exact fin hB (i6.pil ne59) (fun c hc => hc.elim (hFo c) (hFT c)) e6
  rw [if_neg (by rw [hc]; decide)] at hr
  refine wp_skip ?_
  refine wp_seq ?_
  refine wp_seq ?_
  refine cut (fun a' k' => Bs F0 k0 92 a' k' ∧ (Pt v0 T) (a'.get 0) k' ∧ (IsV lot) (a'.get 1) k' ∧ (IsRef p_) (a'.get 5) k' ∧ (IsV (0 : Int)) (a'.get 7) k') ?_ hQ ?_
  · intro Q1 hQ1 hp
    refine regionS (a0 := a) (k0 := k) (n := 92) (m := 1) (⟨some (IsV (0 : Int)), []⟩ :: []) hs (by kernel_rfl) ⟨ob1 rfl fun b q hk hn => ok_assign rfl (isV_int.2 rfl), trivial⟩ hQ1 fun b q p => ?_
    exact tail_done (k := q) (hp _ _ ⟨Bs.post ⟨hg, hs, hd⟩ p, keep p 0 rfl i0, keep p 1 rfl i1, keep p 5 rfl i5, out p 0 7 _ rfl rfl rfl⟩)
  clear i0 i1 i5 i11 hg hs hd
  rintro a k ⟨⟨hg, hs, hd⟩, i0, i1, i5, i7⟩
  refine wp_block ?_
  obtain ⟨f1, hf1, hr⟩ := bind_some hr
  refine cutFe f1 (fun s' a' k' => Bs F0 k0 92 a' k' ∧ (Pt v0 T) (a'.get 0) k' ∧ (IsV lot) (a'.get 1) k' ∧ (IsRef p_) (a'.get 5) k' ∧ (IsV s') (a'.get 7) k') (fun i' s' a' k' => (i' = 0 ∧ Bs F0 k0 92 a' k' ∧ (Pt v0 T) (a'.get 0) k' ∧ (IsV lot) (a'.get 1) k' ∧ (IsRef p_) (a'.get 5) k')) (fun r' a' k' => bodyPost Try.prog Try.f34 (RetC F0 k0 (PilW F0 k0 r')) .ret a' k'.w) ?_ hQ ?_ ?_ ?_
  · intro Q5 hQQ5 hgo hex hret
    rw [show (T.map cntP).length = (T.map cntP).length from rfl] at hf1
    refine sim_loop ?_ _ _ _ _ _ hf1 ⟨⟨hg, hs, hd⟩, i0, i1, i5, i7⟩ Q5 hQQ5 hgo hex hret
    clear hr hf1 hgo hex hret hQQ5 hQ hd hg hs i0 i1 i5 i7 hc
    intro s fl_ a k hr hS Q hQ hgo hex hret
    obtain ⟨⟨hg, hs, hd⟩, i0, i1, i5, i7⟩ := hS
    unfold rPut_L0 at hr
    rw [List.length_map] at hr
    refine wp_seq ?_
    refine wp_seq ?_
    refine cut (fun a' k' => Bs F0 k0 92 a' k' ∧ (Pt v0 T) (a'.get 0) k' ∧ (IsV lot) (a'.get 1) k' ∧ (IsRef p_) (a'.get 5) k' ∧ (IsV s) (a'.get 7) k' ∧ (IsV (decide (s < (T.length : Int)))) (a'.get 16) k') ?_ hQ ?_
    · intro Q1 hQ1 hp
      refine regionS (a0 := a) (k0 := k) (n := 92) (m := 4) (⟨some (IsV s), [(7, none)]⟩ :: ⟨some (Pt v0 T), [(0, none)]⟩ :: ⟨some (IsV (T.length : Int)), [(14, some 1)]⟩ :: ⟨some (IsV (decide (s < (T.length : Int)))), [(13, some 0), (15, some 2)]⟩ :: []) hs (by kernel_rfl) ⟨ob1 rfl fun b q hk hn => ok_move rfl (up i7 hk hn.1), ob1 rfl fun b q hk hn => ok_move rfl (up i0 hk hn.1), ob1 rfl fun b q hk hn => ok_plen rfl rfl Try.underlying55 hn.1, ob1 rfl fun b q hk hn => ok_lss rfl hn.1 hn.2.1, trivial⟩ hQ1 fun b q p => ?_
      exact tail_done (k := q) (hp _ _ ⟨Bs.post ⟨hg, hs, hd⟩ p, keep p 0 rfl i0, keep p 1 rfl i1, keep p 5 rfl i5, keep p 7 rfl i7, out p 3 16 _ rfl rfl rfl⟩)
    clear i0 i1 i5 i7 hg hs hd
    rintro a k ⟨⟨hg, hs, hd⟩, i0, i1, i5, i7, i16⟩
    refine wp_cond_split (isBool i16) (fun hc => ?_) (fun hc => ?_)
    rotate_left
    · rw [if_neg (by rw [hc]; decide)] at hr
      refine wp_exit ?_
      exact hex _ _ _ _ (Option.some.inj hr).symm ⟨rfl, ⟨hg, hs, hd⟩, i0, i1, i5⟩
    rw [if_pos hc] at hr
    refine wp_skip ?_
    obtain ⟨x, hx, hr⟩ := bind_some hr
    obtain ⟨t, ht, rfl⟩ := getI_map' hx
    clear hx
    refine wp_seq ?_
    refine wp_block ?_
    refine wp_seq ?_
    refine wp_seq ?_
    refine cut (fun a' k' => Bs F0 k0 92 a' k' ∧ (Pt v0 T) (a'.get 0) k' ∧ (IsV lot) (a'.get 1) k' ∧ (IsRef p_) (a'.get 5) k' ∧ (IsV s) (a'.get 7) k' ∧ (IsV (t.1 != lot)) (a'.get 25) k') ?_ hQ ?_
    · intro Q1 hQ1 hp
      refine regionS (a0 := a) (k0 := k) (n := 92) (m := 7) (⟨some (Pt v0 T), [(0, none)]⟩ :: ⟨some (IsV s), [(7, none)]⟩ :: ⟨some (IsPtr (rawP t)), [(19, some 0), (20, some 1)]⟩ :: ⟨some (IsPtr t.1), [(21, some 2)]⟩ :: ⟨some (IsV t.1), [(22, some 3)]⟩ :: ⟨some (IsV lot), [(1, none)]⟩ :: ⟨some (IsV (t.1 != lot)), [(23, some 4), (24, some 5)]⟩ :: []) hs (by kernel_rfl) ⟨ob1 rfl fun b q hk hn => ok_move rfl (up i0 hk hn.1), ob1 rfl fun b q hk hn => ok_move rfl (up i7 hk hn.1), ob1 rfl fun b q hk hn => ok_pidx rfl Try.underlying55 ty59 hn.1 hn.2.1 ht, ob1 rfl fun b q hk hn => ok_pfld0 rfl fo59_0 hn.1, ob1 rfl fun b q hk hn => ok_load rfl ty3 hn.1, ob1 rfl fun b q hk hn => ok_move rfl (up i1 hk hn.1), ob1 rfl fun b q hk hn => ok_neI rfl hn.1 hn.2.1, trivial⟩ hQ1 fun b q p => ?_
      exact tail_done (k := q) (hp _ _ ⟨Bs.post ⟨hg, hs, hd⟩ p, keep p 0 rfl i0, keep p 1 rfl i1, keep p 5 rfl i5, keep p 7 rfl i7, out p 6 25 _ rfl rfl rfl⟩)
    clear i0 i1 i5 i7 i16 hg hs hd
    rintro a k ⟨⟨hg, hs, hd⟩, i0, i1, i5, i7, i25⟩
    refine wp_cond_split (isBool i25) (fun hc25 => ?_) (fun hc25 => ?_)
    · rw [if_pos (show (cntP t).1 != lot from hc25)] at hr
      refine wp_exit (exit_then (inBlock_exit ?_))
      obtain ⟨j, hj, hr⟩ := bind_some hr
      refine cut (fun a' k' => Bs F0 k0 92 a' k' ∧ (Pt v0 T) (a'.get 0) k' ∧ (IsV lot) (a'.get 1) k' ∧ (IsRef p_) (a'.get 5) k' ∧ (IsV j) (a'.get 7) k') ?_ hQ ?_
      · intro Q1 hQ1 hp
        refine regionS (a0 := a) (k0 := k) (n := 92) (m := 3) (⟨some (IsV s), [(7, none)]⟩ :: ⟨some (IsV j), [(17, some 0)]⟩ :: ⟨some (IsV j), [(18, some 1)]⟩ :: []) hs (by kernel_rfl) ⟨ob1 rfl fun b q hk hn => ok_move rfl (up i7 hk hn.1), ob1 rfl fun b q hk hn => ok_add rfl hn.1 (isV_int.2 rfl) hj, ob1 rfl fun b q hk hn => ok_assign rfl hn.1, trivial⟩ hQ1 fun b q p => ?_
        exact tail_done (k := q) (hp _ _ ⟨Bs.post ⟨hg, hs, hd⟩ p, keep p 0 rfl i0, keep p 1 rfl i1, keep p 5 rfl i5, out p 2 7 _ rfl rfl rfl⟩)
      rintro a k h
      exact hgo _ _ _ (Option.some.inj hr).symm h
    rw [if_neg (show ¬ ((cntP t).1 != lot) = true by rw [show ((cntP t).1 != lot) = false from hc25]; decide)] at hr
    refine wp_skip ?_
    refine wp_seq ?_
    refine cut (fun a' k' => Bs F0 k0 92 a' k' ∧ (Pt v0 T) (a'.get 0) k' ∧ (IsV lot) (a'.get 1) k' ∧ (IsRef p_) (a'.get 5) k' ∧ (IsV s) (a'.get 7) k' ∧ (IsV (t.2.2.length : Int)) (a'.get 8) k') ?_ hQ ?_
    · intro Q1 hQ1 hp
      refine regionS (a0 := a) (k0 := k) (n := 92) (m := 7) (⟨some (Pt v0 T), [(0, none)]⟩ :: ⟨some (IsV s), [(7, none)]⟩ :: ⟨some (IsPtr (rawP t)), [(26, some 0), (27, some 1)]⟩ :: ⟨some (IsPtr (rawP t).2), [(28, some 2)]⟩ :: ⟨some (OwnAt t.2.1 0 37 t.2.2), [(29, some 3)]⟩ :: ⟨some (IsV (α := Int) (t.2.2.length : Int)), [(30, some 4)]⟩ :: ⟨some (IsV (α := Int) (t.2.2.length : Int)), [(31, some 5)]⟩ :: []) hs (by kernel_rfl) ⟨ob1 rfl fun b q hk hn => ok_move rfl (up i0 hk hn.1), ob1 rfl fun b q hk hn => ok_move rfl (up i7 hk hn.1), ob1 rfl fun b q hk hn => ok_pidx rfl Try.underlying55 ty59 hn.1 hn.2.1 ht, ob1 rfl fun b q hk hn => ok_pfld1 rfl fo59_1 hn.1, ob1 rfl fun b q hk hn => ok_pload rfl ty29r hn.1 ((Mono.mono hk i0 : Pt v0 T _ _).own ht), ob1 rfl fun b q hk hn => ok_len rfl rfl Try.underlying29 (IsOwn.rd hn.1.2), ob1 rfl fun b q hk hn => ok_assign rfl hn.1, trivial⟩ hQ1 fun b q p => ?_
      exact tail_done (k := q) (hp _ _ ⟨Bs.post ⟨hg, hs, hd⟩ p, keep p 0 rfl i0, keep p 1 rfl i1, keep p 5 rfl i5, keep p 7 rfl i7, out p 6 8 _ rfl rfl rfl⟩)
    clear i0 i1 i5 i7 i25 hg hs hd
    rintro a k ⟨⟨hg, hs, hd⟩, i0, i1, i5, i7, i8⟩
    obtain ⟨c, hcc, hr⟩ := bind_some hr
    refine wp_seq ?_
    refine wp_seq ?_
    refine cut (fun a' k' => Bs F0 k0 92 a' k' ∧ (Pt v0 T) (a'.get 0) k' ∧ (IsV lot) (a'.get 1) k' ∧ (IsRef p_) (a'.get 5) k' ∧ (IsV s) (a'.get 7) k' ∧ (IsV (t.2.2.length : Int)) (a'.get 8) k' ∧ (IsV c) (a'.get 49) k') ?_ hQ ?_
    · intro Q1 hQ1 hp
      rcases Bool.eq_false_or_eq_true (decide (0 < (t.2.2.length : Int))) with hm | hm
      · rw [if_pos (show decide (0 < ((cntP t).2.length : Int)) = true from hm)] at hcc
        obtain ⟨y, hy, hcc⟩ := bind_some hcc
        obtain ⟨z, hz, hcc⟩ := bind_some hcc
        refine region (a0 := a) (k0 := k) (n := 92) (m := 18) (⟨some (IsV (t.2.2.length : Int)), [(8, none)]⟩ :: ⟨some (IsV (decide (0 < (t.2.2.length : Int)))), [(32, some 0)]⟩ :: ⟨some (IsV (decide (0 < (t.2.2.length : Int)))), [(33, some 1)]⟩ :: ⟨some (Pt v0 T), [(0, none)]⟩ :: ⟨some (IsV s), [(7, none)]⟩ :: ⟨some (IsPtr (rawP t)), [(35, some 3), (36, some 4)]⟩ :: ⟨some (IsPtr (rawP t).2), [(37, some 5)]⟩ :: ⟨some (OwnAt t.2.1 0 37 t.2.2), [(38, some 6)]⟩ :: ⟨some (IsV (t.2.2.length : Int)), [(8, none)]⟩ :: ⟨some (IsV y), [(40, some 8)]⟩ :: ⟨some (IsV (max y 0)), [(41, some 9)]⟩ :: ⟨some (IsPtr z), [(39, some 7), (42, some 10)]⟩ :: ⟨some (IsPtr z.1), [(43, some 11)]⟩ :: ⟨some (IsV z.1), [(44, some 12)]⟩ :: ⟨some (IsPtr p_.1), [(5, none)]⟩ :: ⟨some (IsV p_.1), [(46, some 14)]⟩ :: ⟨some (IsV (z.1 == p_.1)), [(45, some 13), (47, some 15)]⟩ :: ⟨some (IsV c), [(34, some 2), (48, some 16)]⟩ :: []) hmix hs (by kernel_rfl) ⟨ob1 rfl fun b q hk hn => ok_move rfl (up i8 hk hn.1), ob1 rfl fun b q hk hn => ok_gtr rfl hn.1 (isV_int.2 rfl), ob1 rfl fun b q hk hn => ok_move rfl hn.1, ⟨inferInstance, .inl ⟨fun b q hk hn => ok_move rfl (up i0 hk hn.1), guardT hm⟩⟩, ⟨inferInstance, .inl ⟨fun b q hk hn => ok_move rfl (up i7 hk hn.1), guardT hm⟩⟩, ⟨inferInstance, .inl ⟨fun b q hk hn => ok_pidx rfl Try.underlying55 ty59 hn.1 hn.2.1 ht, guardT hm⟩⟩, ⟨inferInstance, .inl ⟨fun b q hk hn => ok_pfld1 rfl fo59_1 hn.1, guardT hm⟩⟩, ⟨inferInstance, .inl ⟨fun b q hk hn => ok_pload rfl ty29r hn.1 ((Mono.mono hk i0 : Pt v0 T _ _).own ht), guardT hm⟩⟩, ⟨inferInstance, .inl ⟨fun b q hk hn => ok_move rfl (up i8 hk hn.1), guardT hm⟩⟩, ⟨inferInstance, .inl ⟨fun b q hk hn => ok_sub rfl hn.1 (isV_int.2 rfl) hy, guardT hm⟩⟩, ⟨inferInstance, .inl ⟨fun b q hk hn => ok_max2 rfl hn.1 (isV_int.2 rfl), guardT hm⟩⟩, ⟨inferInstance, .inl ⟨fun b q hk hn => ok_indexAddr rfl Try.underlying29 ty37 (IsOwn.rd hn.1.2) hn.2.1 hz, guardT hm⟩⟩, ⟨inferInstance, .inl ⟨fun b q hk hn => ok_arrAddr (i := 0) rfl ao37 (by decide) (aat37_0 _) hn.1 (isV_int.2 rfl), guardT hm⟩⟩, ⟨inferInstance, .inl ⟨fun b q hk hn => ok_load rfl ty3 hn.1, guardT hm⟩⟩, ⟨inferInstance, .inl ⟨fun b q hk hn => ok_arrAddr (i := 0) rfl ao37 (by decide) (aat37_0 _) (up i5 hk hn.1).ptr (isV_int.2 rfl), guardT hm⟩⟩, ⟨inferInstance, .inl ⟨fun b q hk hn => ok_load rfl ty3 hn.1, guardT hm⟩⟩, ⟨inferInstance, .inl ⟨fun b q hk hn => ok_eqI rfl hn.1 hn.2.1, guardT hm⟩⟩, ob1 rfl fun b q hk hn => ok_cast (Option.some.inj hcc) (ok_pick_t rfl hn.1 hm hn.2.1), trivial⟩ hQ1 fun b q p => ?_
        exact tail_done (k := q) (hp _ _ ⟨Bs.post ⟨hg, hs, hd⟩ p, keep p 0 rfl i0, keep p 1 rfl i1, keep p 5 rfl i5, keep p 7 rfl i7, keep p 8 rfl i8, out p 17 49 _ rfl rfl rfl⟩)
      · rw [if_neg (show ¬ decide (0 < ((cntP t).2.length : Int)) = true by rw [show decide (0 < ((cntP t).2.length : Int)) = false from hm]; decide)] at hcc
        refine region (a0 := a) (k0 := k) (n := 92) (m := 18) (⟨some (IsV (t.2.2.length : Int)), [(8, none)]⟩ :: ⟨some (IsV (decide (0 < (t.2.2.length : Int)))), [(32, some 0)]⟩ :: ⟨some (IsV (decide (0 < (t.2.2.length : Int)))), [(33, some 1)]⟩ :: ⟨none, []⟩ :: ⟨none, []⟩ :: ⟨none, []⟩ :: ⟨none, []⟩ :: ⟨none, []⟩ :: ⟨none, []⟩ :: ⟨none, []⟩ :: ⟨none, []⟩ :: ⟨none, []⟩ :: ⟨none, []⟩ :: ⟨none, []⟩ :: ⟨none, []⟩ :: ⟨none, []⟩ :: ⟨none, []⟩ :: ⟨some (IsV c), [(34, some 2), (48, some 16)]⟩ :: []) hmix hs (by kernel_rfl) ⟨ob1 rfl fun b q hk hn => ok_move rfl (up i8 hk hn.1), ob1 rfl fun b q hk hn => ok_gtr rfl hn.1 (isV_int.2 rfl), ob1 rfl fun b q hk hn => ok_move rfl hn.1, guardF hm, guardF hm, guardF hm, guardF hm, guardF hm, guardF hm, guardF hm, guardF hm, guardF hm, guardF hm, guardF hm, guardF hm, guardF hm, guardF hm, ob1 rfl fun b q hk hn => ok_cast (Option.some.inj hcc) (ok_pick_f rfl hn.1 hm (isV_bool.2 rfl)), trivial⟩ hQ1 fun b q p => ?_
        exact tail_done (k := q) (hp _ _ ⟨Bs.post ⟨hg, hs, hd⟩ p, keep p 0 rfl i0, keep p 1 rfl i1, keep p 5 rfl i5, keep p 7 rfl i7, keep p 8 rfl i8, out p 17 49 _ rfl rfl rfl⟩)
    clear i0 i1 i5 i7 i8 hg hs hd hcc
    rintro a k ⟨⟨hg, hs, hd⟩, i0, i1, i5, i7, i8, i49⟩
    obtain ⟨gh0, gh1, gh2, gh3⟩ := getI_spec ht
    have ownT : IsOwn 0 37 t.2.2 t.2.1 k := i0.own ht
    refine cut (fun a' k' => Bs F0 k0 92 a' k' ∧ a'.get 0 = v0 ∧ ∃ r' G, fl_ = .ret r' ∧ PilR 59 37 r' G v0 k' ∧ Wr F0 k0 G) ?_ hQ ?_
    · intro Q1 hQ1 hp
      refine wp_cond_split (isBool i49) (fun hc49 => ?_) (fun hc49 => ?_)
      · rw [if_pos hc49] at hr
        obtain ⟨y, hy, hr⟩ := bind_some hr
        obtain ⟨z, hz, hr⟩ := bind_some hr
        obtain ⟨w, hw, hr⟩ := bind_some hr
        obtain rfl := Option.some.inj hr
        refine region (a0 := a) (k0 := k) (n := 92) (m := 22) (⟨some (Pt v0 T), [(0, none)]⟩ :: ⟨some (IsV s), [(7, none)]⟩ :: ⟨some (IsPtr (rawP t)), [(50, some 0), (51, some 1)]⟩ :: ⟨some (IsPtr (rawP t).2), [(52, some 2)]⟩ :: ⟨some (OwnAt t.2.1 0 37 t.2.2), [(53, some 3)]⟩ :: ⟨some (IsV (t.2.2.length : Int)), [(8, none)]⟩ :: ⟨some (IsV y), [(55, some 5)]⟩ :: ⟨some (Pt v0 T), [(0, none)]⟩ :: ⟨some (IsV s), [(7, none)]⟩ :: ⟨some (IsPtr (rawP t)), [(57, some 7), (58, some 8)]⟩ :: ⟨some (IsPtr (rawP t).2), [(59, some 9)]⟩ :: ⟨some (OwnAt t.2.1 0 37 t.2.2), [(60, some 10)]⟩ :: ⟨some (IsV (t.2.2.length : Int)), [(8, none)]⟩ :: ⟨some (IsV y), [(62, some 12)]⟩ :: ⟨some (IsPtr z), [(61, some 11), (63, some 13)]⟩ :: ⟨some (IsPtr z.2), [(64, some 14)]⟩ :: ⟨some (IsV z.2), [(65, some 15)]⟩ :: ⟨some (IsPtr p_.2), [(5, none)]⟩ :: ⟨some (IsV p_.2), [(67, some 17)]⟩ :: ⟨some (IsV w), [(66, some 16), (68, some 18)]⟩ :: ⟨some (IsAdrO t.2.1 (y.toNat * Enc.sz (Int × Int))), [(54, some 4), (56, some 6)]⟩ :: ⟨some (IsAdrO t.2.1 (y.toNat * Enc.sz (Int × Int) + 1 * Enc.sz Int)), [(70, some 20)]⟩ :: []) hmix hs (by kernel_rfl) ⟨ob1 rfl fun b q hk hn => ok_move rfl (up i0 hk hn.1), ob1 rfl fun b q hk hn => ok_move rfl (up i7 hk hn.1), ob1 rfl fun b q hk hn => ok_pidx rfl Try.underlying55 ty59 hn.1 hn.2.1 ht, ob1 rfl fun b q hk hn => ok_pfld1 rfl fo59_1 hn.1, ob1 rfl fun b q hk hn => ok_pload rfl ty29r hn.1 ((Mono.mono hk i0 : Pt v0 T _ _).own ht), ob1 rfl fun b q hk hn => ok_move rfl (up i8 hk hn.1), ob1 rfl fun b q hk hn => ok_sub rfl hn.1 (isV_int.2 rfl) hy, ob1 rfl fun b q hk hn => ok_move rfl (up i0 hk hn.1), ob1 rfl fun b q hk hn => ok_move rfl (up i7 hk hn.1), ob1 rfl fun b q hk hn => ok_pidx rfl Try.underlying55 ty59 hn.1 hn.2.1 ht, ob1 rfl fun b q hk hn => ok_pfld1 rfl fo59_1 hn.1, ob1 rfl fun b q hk hn => ok_pload rfl ty29r hn.1 ((Mono.mono hk i0 : Pt v0 T _ _).own ht), ob1 rfl fun b q hk hn => ok_move rfl (up i8 hk hn.1), ob1 rfl fun b q hk hn => ok_sub rfl hn.1 (isV_int.2 rfl) hy, ob1 rfl fun b q hk hn => ok_indexAddr rfl Try.underlying29 ty37 (IsOwn.rd hn.1.2) hn.2.1 hz, ob1 rfl fun b q hk hn => ok_arrAddr (i := 1) rfl ao37 (by decide) (aat37_1 _) hn.1 (isV_int.2 rfl), ob1 rfl fun b q hk hn => ok_load rfl ty3 hn.1, ob1 rfl fun b q hk hn => ok_arrAddr (i := 1) rfl ao37 (by decide) (aat37_1 _) (up i5 hk hn.1).ptr (isV_int.2 rfl), ob1 rfl fun b q hk hn => ok_load rfl ty3 hn.1, ob1 rfl fun b q hk hn => ok_add rfl hn.1 hn.2.1 hw, ob1 rfl fun b q hk hn => ok_indexO rfl Try.underlying29 ty37 hn.1 hn.2.1 hz, ob1 rfl fun b q hk hn => ok_arrAdrO (i := 1) rfl ao37 (by decide) hn.1 (isV_int.2 rfl), trivial⟩ hQ1 fun b q p => ?_
        have j0 := keep p 0 rfl i0
        have j69 : (IsV w) (b.get 69) q := out p 19 69 _ rfl rfl rfl
        have j71 : IsAdrO t.2.1 ((y).toNat * Enc.sz (Int × Int) + 1 * Enc.sz Int) (b.get 71) q := out p 21 71 _ rfl rfl rfl
        have hgq := hg.then p.grow
        refine tail_storeS (i := 22) (u := t.2.1) (m := (y).toNat) (off := 0 + 1 * Enc.sz Int) rfl rfl rfl rfl szf3 upd_I37_1 j71 (j0.own ht) (getI_spec hz).2.1 j69 fun q2 hch hz2 => ?_
        obtain ⟨G, hP, hG⟩ := j0.turned ne59 gh1 hch hz2
        exact tail_done (k := q2) (hp _ _ ⟨⟨hgq.step hch (hFp _ _ gh1), p.size.trans hs, p.defers.trans hd⟩, j0.1, _, G, rfl, hP, fun c hc => (hG c hc).elim (hFo c) (hFT c)⟩)
      · rw [if_neg (by rw [hc49]; decide)] at hr
        obtain ⟨zs, hzs, hr⟩ := bind_some hr
        obtain rfl := Option.some.inj hr
        refine region_mid (a0 := a) (k0 := k) (n := 92) (m := 9) (⟨some (Pt v0 T), [(0, none)]⟩ :: ⟨some (IsV s), [(7, none)]⟩ :: ⟨some (Pt v0 T), [(0, none)]⟩ :: ⟨some (IsV s), [(7, none)]⟩ :: ⟨some (IsPtr (rawP t)), [(74, some 2), (75, some 3)]⟩ :: ⟨some (IsPtr (rawP t).2), [(76, some 4)]⟩ :: ⟨some (OwnAt t.2.1 0 37 t.2.2), [(77, some 5)]⟩ :: ⟨some (IsV p_), [(5, none)]⟩ :: ⟨some (IsV [p_]), [(79, some 7)]⟩ :: []) [0, 1] [9, 10, 11, 12] hmix hs (by kernel_rfl) ⟨ob1 rfl fun b q hk hn => ok_move rfl (up i0 hk hn.1), ob1 rfl fun b q hk hn => ok_move rfl (up i7 hk hn.1), ob1 rfl fun b q hk hn => ok_move rfl (up i0 hk hn.1), ob1 rfl fun b q hk hn => ok_move rfl (up i7 hk hn.1), ob1 rfl fun b q hk hn => ok_pidx rfl Try.underlying55 ty59 hn.1 hn.2.1 ht, ob1 rfl fun b q hk hn => ok_pfld1 rfl fo59_1 hn.1, ob1 rfl fun b q hk hn => ok_pload rfl ty29r hn.1 ((Mono.mono hk i0 : Pt v0 T _ _).own ht), ob1 rfl fun b q hk hn => ok_load rfl ty37 (up i5 hk hn.1).ptr, ob1 rfl fun b q hk hn => ok_buildSlice rfl Try.underlying29 eo37 rfl (by decide) (by decide) ⟨rfl, hn.1, trivial⟩, trivial⟩ hQ1 ?_ fun b q p => ?_
        · intro l hl hlm e he
          simp only [List.mem_cons, List.not_mem_nil, or_false] at hl
          rcases hl with rfl | rfl
          · obtain rfl := Option.some.inj he
            exact ⟨_, rfl, fun k g => Mono.mono g i0⟩
          · obtain rfl := Option.some.inj he
            exact ⟨_, rfl, fun k g => Mono.mono g i7⟩
        have hgq := hg.then p.grow
        have hsb := p.size.trans hs
        have j0 : (Pt v0 T) (b.get 0) q := by rw [p.old 0 rfl]; exact Mono.mono p.grow i0
        have j72 : (Pt v0 T) (b.get 72) q := p.val 0 72 _ _ (by decide) rfl rfl
        have j73 : (IsV s) (b.get 73) q := p.val 1 73 _ _ (by decide) rfl rfl
        have j78 : (OwnAt t.2.1 0 37 t.2.2) (b.get 78) q := p.val 6 78 _ _ (by decide) rfl rfl
        have j80 : (IsV [p_]) (b.get 80) q := p.val 8 80 _ _ (by decide) rfl rfl
        refine tail_appendS (i := 9) (d := 81) rfl rfl rfl rfl (by rw [hsb]; decide) (e := 37) Try.underlying29 eo37 j78.2 (IsV.rd j80) hzs fun b2 q2 hsz hdf hoth hch hown hob => ?_
        rw [show b.eval (.tmp 78) = t.2.1 from j78.1] at hch hob
        obtain ⟨ho2, hp2⟩ := j0.appended ne59 gh1 hch
        have hgq2 := hgq.step hch (hFp _ _ gh1)
        have l73 : (IsV s) (b2.get 73) q2 := by rw [hoth 73 (by decide)]; exact isV_int.2 (isV_int.1 j73)
        have e72 : b2.get 72 = v0 := (hoth 72 (by decide)).trans j72.1
        have e0 : b2.get 0 = v0 := (hoth 0 (by decide)).trans j0.1
        refine tail_does (i := 10) (d := 82) (R := IsAdrO v0 (s.toNat * Enc.sz (Int × RawV))) rfl rfl rfl (by rw [hsz, hsb]; decide) hQ1 (ok_pidxO (T := T) (E := 59) rfl Try.underlying55 ty59 e72 ho2 l73 ht) fun b3 q3 hsz3 hdf3 hoth3 hg3 j82 => ?_
        refine tail_does (i := 11) (d := 83) (R := IsAdrO v0 (s.toNat * Enc.sz (Int × RawV) + 1)) rfl rfl rfl (by rw [hsz3, hsz, hsb]; decide) hQ1 (ok_fieldAdrO rfl fo59_1 j82) fun b4 q4 hsz4 hdf4 hoth4 hg4 j83 => ?_
        have hg34 := hg3.trans hg4
        have ho4 : IsOwn 0 59 (T.map rawP) v0 q4 := Mono.mono hg34 ho2
        have e81 : b4.get 81 = b2.get 81 := (hoth4 81 (by decide)).trans (hoth3 81 (by decide))
        have hw4 : IsOwn 0 37 zs (b2.get 81) q4 := Mono.mono hg34 hown
        have ap81 : ∀ (j : Nat) s', T[j]? = some s' → j ≠ s.toNat → Apart (obF s'.2.1) (obF (b2.get 81)) := fun j s' hs' hj c hc hcw => (hob c hcw).elim (fun h => j0.2.2.ap j _ s' t hs' gh1 hj c hc h) (fun h => by have := (j0.2.2.own j s' hs').ltF c hc; omega)
        refine tail_storeS (i := 12) (u := v0) (m := s.toNat) (off := Enc.sz Int + 0) (x := rawP t) (z := (⟨b2.get 81⟩ : RawV)) rfl rfl rfl rfl szf29r updP j83 ho4 (by rw [List.getElem?_map, gh1]; rfl) (by rw [show b4.eval (.tmp 81) = b4.get 81 from rfl, e81]; exact raw_self (own_one hown)) fun q5 hch5 hx5 => ?_
        obtain ⟨G, hP, hG⟩ := pil_stored ne59 gh1 (fun j s' hs' hj => (Mono.mono hg34 (hp2 j s' hs' hj) : IsOwn 0 37 _ _ q4)) j0.2.2.ap hw4 ho4 ap81 hch5 hx5
        refine tail_done (k := q5) (hp _ _ ⟨⟨(hgq2.then hg34).step hch5 hFo, by rw [hsz4, hsz3, hsz, hsb], by rw [hdf4, hdf3, hdf, p.defers, hd]⟩, by rw [hoth4 0 (by decide), hoth3 0 (by decide)]; exact e0, _, G, rfl, hP, fun c hc => ?_⟩)
        rcases hG c hc with h | h | h
        · exact hFo c h
        · exact hFT c h
        · rcases hob c h with h | h
          · exact hFp _ _ gh1 c h
          · exact .inr (Nat.le_trans hgq.size h)
    clear i0 i1 i5 i7 i8 i49 hg hs hd ownT
    rintro a k ⟨⟨hg, hs, hd⟩, e0, r', G, rfl, hP, hG⟩
    refine wp_seq ?_
    refine cut (fun a' k' => Bs F0 k0 92 a' k' ∧ a'.get 6 = v0 ∧ PilR 59 37 r' G v0 k') ?_ hQ ?_
    · intro Q1 hQ1 hp
      refine regionS (a0 := a) (k0 := k) (n := 92) (m := 2) (⟨some (Is v0), [(0, none)]⟩ :: ⟨some (Is v0), [(84, some 0)]⟩ :: []) hs (by kernel_rfl) ⟨ob1 rfl fun b q hk hn => ok_move rfl (by rw [show b.eval (.tmp 0) = b.get 0 from rfl, hn.1]; exact e0), ob1 rfl fun b q hk hn => ok_assign rfl hn.1, trivial⟩ hQ1 fun b q p => ?_
      exact tail_done (k := q) (hp _ _ ⟨Bs.post ⟨hg, hs, hd⟩ p, out p 1 6 _ rfl rfl rfl, Rsc.grow hP p.grow⟩)
    rintro a k ⟨hB, e6, hP⟩
    refine wp_ret ?_
    exact hret _ _ _ rfl (fin hB hP hG e6)
  · rintro r' a k rfl hR
    dsimp only at hr
    obtain rfl := Option.some.inj hr
    exact hR
  · rintro _ _ _ rfl _
    simp at hr
  clear hf1 i0 i1 i5 i7 hg hs hd
  rintro _ s a k rfl ⟨rfl, ⟨hg, hs, hd⟩, i0, i1, i5⟩
  dsimp only at hr
  refine wp_seq ?_
  refine cut (fun a' k' => Bs F0 k0 92 a' k' ∧ PilW F0 k0 r (a'.get 6) k') ?_ hQ ?_
  · intro Q1 hQ1 hp
    refine regionS (a0 := a) (k0 := k) (n := 92) (m := 6) (⟨some (Pt v0 T), [(0, none)]⟩ :: ⟨some (IsV lot), [(1, none)]⟩ :: ⟨some (IsV p_), [(5, none)]⟩ :: ⟨some (IsOwn k.w.heap.size 37 [p_]), [(87, some 2)]⟩ :: ⟨some (PairO k.w.heap.size lot [p_]), [(86, some 1), (88, some 3)]⟩ :: ⟨some (RdPO k.w.heap.size lot [p_]), [(89, some 4)]⟩ :: []) hs (by kernel_rfl) ⟨ob1 rfl fun b q hk hn => ok_move rfl (up i0 hk hn.1), ob1 rfl fun b q hk hn => ok_move rfl (up i1 hk hn.1), ob1 rfl fun b q hk hn => ok_load rfl ty37 (up i5 hk hn.1).ptr, ob1 rfl fun b q hk hn => ok_buildSliceO rfl Try.underlying29 eo37 hk.size rfl (by decide) (by decide) ⟨rfl, hn.1, trivial⟩, ob1 rfl fun b q hk hn => ok_pairO rfl hn.1 hn.2.1, ob1 rfl fun b q hk hn => ok_rdPO rfl hn.1, trivial⟩ hQ1 fun b q p => ?_
    have hgq := hg.then p.grow
    have hsb := p.size.trans hs
    have j85 : (Pt v0 T) (b.get 85) q := out p 0 85 _ rfl rfl rfl
    obtain ⟨u, j90, hu⟩ : RdPO k.w.heap.size lot [p_] (b.get 90) q := out p 5 90 _ rfl rfl rfl
    obtain ⟨hlen, hrr⟩ := appI_inv hr
    rw [List.length_map] at hlen
    have hu0 : IsOwn 0 37 [p_] u q := hu.weaken (Nat.zero_le _)
    have hulo : ∀ c, obF u c → k.w.heap.size ≤ c := hu.loF
    refine tail_appendS (i := 6) (d := 91) (zs := T.map rawP ++ [(lot, ⟨u⟩)]) rfl rfl rfl rfl (by rw [hsb]; decide) (e := 59) Try.underlying55 eo59 (by rw [show b.eval (.tmp 85) = v0 from j85.1]; exact j85.2.1) (IsV.rd j90) (by unfold appI; rw [if_pos (by simpa using hlen)]) fun b2 q2 hsz hdf hoth hch hown hob => ?_
    rw [show b.eval (.tmp 85) = v0 from j85.1] at hch hob
    have hap : Apart (partsF T) (obF u) := fun c ⟨i, t, ht, hc⟩ h => by have := (i0.2.2.own i t ht).ltF c hc; have := hulo c h; omega
    obtain ⟨G, hP, hG⟩ := pil_pushed ⟨rfl, j85.2.1, j85.2.2⟩ ne59 hu0 hap hch hown
    refine tail_assign (i := 7) (d := 6) rfl rfl (.inl rfl) rfl (by rw [hsz, hsb]; decide) fun b3 hsz3 hdf3 e3 hoth3 => ?_
    refine tail_done (k := q2) (hp _ _ ⟨⟨hgq.step hch hFo, by rw [hsz3, hsz, hsb], by rw [hdf3, hdf, p.defers, hd]⟩, G, ?_, fun c hc => ?_⟩)
    · rw [e3, hrr]; exact hP
    · rcases hG c hc with h | h | h
      · exact (hob c h).elim (hFo c) (fun h => .inr (Nat.le_trans hgq.size h))
      · exact hFT c h
      · exact .inr (Nat.le_trans hg.size (hulo c h))
  rintro a k ⟨hB, i6⟩
  refine wp_ret ?_
  exact retC1 rfl hB.d hB.g (show ResOk _ _ _ (.tmp 6) (PilW F0 k0 r) from i6)
theorem exit_inBlock {Q : Exit → Act → World → Prop} {id i : Nat} {a : Act} {w : World} (hne : i ≠ id) (h : Q (.exit i) a w) : Exit.inBlock id Q (.exit i) a w := by
  simp only [Exit.inBlock]
  split
  · rename_i e; exact absurd e hne
  · exact h
instance {F0 : FP} {k0 : K} {r : Pl} : Mono (PilW F0 k0 r) := ⟨fun g ⟨G, h, w⟩ => ⟨G, Rsc.grow h g, w⟩⟩
theorem PilW.op {F0 : FP} {k0 k : K} {r : Pl} {v : Value} (h : PilW F0 k0 r v k) : ∃ T : List (Int × Value × List (Int × Int)), r = T.map cntP ∧ Pt v T v k ∧ Wr F0 k0 (obF v) ∧ Wr F0 k0 (partsF T) := by
  obtain ⟨G, hP, hG⟩ := h
  obtain ⟨_, T, e, hT, eF⟩ := hP.open
  exact ⟨T, e, hT, fun c hc => hG c (by rw [eF]; exact .inl hc), fun c hc => hG c (by rw [eF]; exact .inr hc)⟩
theorem Wr.part {F0 : FP} {k0 : K} {T : List (Int × Value × List (Int × Int))} (h : Wr F0 k0 (partsF T)) {i : Nat} {t : Int × Value × List (Int × Int)} (ht : T[i]? = some t) : Wr F0 k0 (obF t.2.1) := fun c hc => h c ⟨i, t, ht, hc⟩

theorem rTake_ok {k0 : K} {F0 : FP} {v0 v1 v2 v3 : Value} {m : Pl} {frm to n_ : Int} {r : Pl} (i0 : PilR 59 37 m F0 v0 k0) (i1 : (IsV frm) v1 k0) (i2 : (IsV to) v2 k0) (i3 : (IsV n_) v3 k0) (hr : rTake m frm to n_ = some r) :
    Calls Try.prog 35 #[v0, v1, v2, v3] k0.w (RetC F0 k0 (PilW F0 k0 r)) := by
  unfold rTake at hr
  refine enterK Try.func35 rfl Try.ntmps35 (show 4 ≤ 91 by decide) fun a k hk0 hs hd ha => ?_
  obtain ⟨e0, e1, e2, e3, _⟩ := ha
  replace i0 : PilW F0 k0 m (a.get 0) k := by rw [e0, hk0]; exact ⟨F0, i0, fun c hc => .inl hc⟩
  replace i1 : (IsV frm) (a.get 1) k := by rw [e1, hk0]; exact i1
  replace i2 : (IsV to) (a.get 2) k := by rw [e2, hk0]; exact i2
  replace i3 : (IsV n_) (a.get 3) k := by rw [e3, hk0]; exact i3
  have hQ : Gb.LetsOut (bodyPost Try.prog Try.f35 (RetC F0 k0 (PilW F0 k0 r))) := letsOutC
  have hg : Chg F0 k0 k := by rw [hk0]; exact Chg.refl _ k0
  clear e0 e1 e2 e3
  refine stepL 1 (⟨some IsE0, []⟩ :: []) rfl ⟨hg, hs, hd⟩ (by kernel_rfl) ⟨ob1 rfl fun b q h n => ok_assign rfl isE0_nil, trivial⟩ [⟨_, _⟩, ⟨_, _⟩, ⟨_, _⟩, ⟨_, _⟩] (fun b q p => ⟨p.ke 0 rfl i0, p.ke 1 rfl i1, p.ke 2 rfl i2, p.ke 3 rfl i3, trivial⟩) ?_
  rintro a k ⟨⟨hg, hs, hd⟩, i0, i1, i2, i3, _⟩
  refine stepL 1 (⟨some (IsI 0), []⟩ :: []) rfl ⟨hg, hs, hd⟩ (by kernel_rfl) ⟨aI rfl rfl, trivial⟩ [⟨_, _⟩, ⟨_, _⟩, ⟨_, _⟩, ⟨_, _⟩, ⟨_, _⟩] (fun b q p => ⟨p.ke 0 rfl i0, p.ke 1 rfl i1, p.ke 2 rfl i2, p.ke 3 rfl i3, p.ou 0 9 rfl, trivial⟩) ?_
  rintro a k ⟨⟨hg, hs, hd⟩, i0, i1, i2, i3, i9, _⟩
  refine wp_seq ?_
  refine wp_block ?_
  obtain ⟨f1, hf1, hr⟩ := bind_some hr
  refine cutFe f1 (fun s' a' k' => Bs F0 k0 91 a' k' ∧ (PilW F0 k0 m) (a'.get 0) k' ∧ (IsV frm) (a'.get 1) k' ∧ (IsV to) (a'.get 2) k' ∧ (IsV n_) (a'.get 3) k' ∧ (IsV s') (a'.get 9) k') (fun i' s' a' k' => (i' = 0 ∧ Bs F0 k0 91 a' k' ∧ (PilW F0 k0 m) (a'.get 0) k' ∧ (IsV to) (a'.get 2) k' ∧ (IsV n_) (a'.get 3) k' ∧ (IsV s') (a'.get 9) k')) (fun r' a' k' => False) ?_ hQ ?_ ?_ ?_
  · intro Q5 hQQ5 hgo hex hret
    refine sim_loop ?_ _ _ _ _ _ hf1 ⟨⟨hg, hs, hd⟩, i0, i1, i2, i3, i9⟩ Q5 hQQ5 hgo hex hret
    clear hr hf1 hgo hex hret hQQ5 hQ hd hg hs i0 i1 i2 i3 i9
    intro s fl_ a k hr hS Q hQ hgo hex hret
    obtain ⟨⟨hg, hs, hd⟩, i0, i1, i2, i3, i9⟩ := hS
    unfold rTake_L0 at hr
    obtain ⟨c, hcc, hr⟩ := bind_some hr
    refine wp_seq ?_
    refine wp_seq ?_
    refine cut (fun a' k' => Bs F0 k0 91 a' k' ∧ (PilW F0 k0 m) (a'.get 0) k' ∧ (IsV frm) (a'.get 1) k' ∧ (IsV to) (a'.get 2) k' ∧ (IsV n_) (a'.get 3) k' ∧ (IsV s) (a'.get 9) k' ∧ (IsV c) (a'.get 24) k') ?_ hQ ?_
    · intro Q1 hQ1 hp
      obtain ⟨T, em, hT, _, _⟩ := i0.op
      subst em
      rw [List.length_map] at hcc
      rcases Bool.eq_false_or_eq_true (decide (s < (T.length : Int))) with hm | hm
      · rw [if_pos hm] at hcc
        obtain ⟨x, hx, hcc⟩ := bind_some hcc
        obtain ⟨t, ht, rfl⟩ := getI_map' hx
        refine gS 13 (_ :: _ :: _ :: ⟨some (IsV (decide (s < (T.length : Int)))), [(12, some 0), (14, some 2)]⟩ :: _ :: ⟨some (Pt (a.get 0) T), [(0, none)]⟩ :: ⟨some (IsV s), [(9, none)]⟩ :: ⟨some (IsPtr (rawP t)), [(17, some 5), (18, some 6)]⟩ :: ⟨some (IsPtr t.1), [(19, some 7)]⟩ :: ⟨some (IsV t.1), [(20, some 8)]⟩ :: ⟨some (IsV frm), [(1, none)]⟩ :: ⟨some (IsV (t.1 != frm)), [(21, some 9), (22, some 10)]⟩ :: ⟨some (IsV c), [(16, some 4), (23, some 11)]⟩ :: []) hs (by kernel_rfl) ⟨mu rfl i9, mu rfl hT, o1 [(13, some 1)] rfl fun _ _ h n => ok_plen rfl rfl Try.underlying55 n.1, ob1 rfl fun _ _ h n => ok_lss rfl n.1 n.2.1, cm 3 rfl rfl,
          ⟨inferInstance, .inl ⟨fun b q hk hn => ok_move rfl (up hT hk hn.1), guardT hm⟩⟩, ⟨inferInstance, .inl ⟨fun b q hk hn => ok_move rfl (up i9 hk hn.1), guardT hm⟩⟩, ⟨inferInstance, .inl ⟨fun b q hk hn => ok_pidx rfl Try.underlying55 ty59 hn.1 hn.2.1 ht, guardT hm⟩⟩, ⟨inferInstance, .inl ⟨fun b q hk hn => ok_pfld0 rfl fo59_0 hn.1, guardT hm⟩⟩, ⟨inferInstance, .inl ⟨fun b q hk hn => ok_load rfl ty3 hn.1, guardT hm⟩⟩, ⟨inferInstance, .inl ⟨fun b q hk hn => ok_move rfl (up i1 hk hn.1), guardT hm⟩⟩, ⟨inferInstance, .inl ⟨fun b q hk hn => ok_neI rfl hn.1 hn.2.1, guardT hm⟩⟩,
          ob1 rfl fun b q hk hn => ok_cast (Option.some.inj hcc) (ok_pick_t rfl hn.1 hm hn.2.1), trivial⟩ hQ1 fun b q p => ?_
        exact tail_done (k := q) (hp _ _ ⟨Bs.post ⟨hg, hs, hd⟩ p, p.ke 0 rfl i0, p.ke 1 rfl i1, p.ke 2 rfl i2, p.ke 3 rfl i3, p.ke 9 rfl i9, p.ou 12 24 rfl⟩)
      · rw [if_neg (by rw [hm]; decide)] at hcc
        refine gS 13 (_ :: _ :: _ :: ⟨some (IsV (decide (s < (T.length : Int)))), [(12, some 0), (14, some 2)]⟩ :: _ :: ⟨none, []⟩ :: ⟨none, []⟩ :: ⟨none, []⟩ :: ⟨none, []⟩ :: ⟨none, []⟩ :: ⟨none, []⟩ :: ⟨none, []⟩ :: ⟨some (IsV c), [(16, some 4)]⟩ :: []) hs (by kernel_rfl) ⟨mu rfl i9, mu rfl hT, o1 [(13, some 1)] rfl fun _ _ h n => ok_plen rfl rfl Try.underlying55 n.1, ob1 rfl fun _ _ h n => ok_lss rfl n.1 n.2.1, cm 3 rfl rfl,
          guardF hm, guardF hm, guardF hm, guardF hm, guardF hm, guardF hm, guardF hm,
          ob1 rfl fun b q hk hn => ok_cast (Option.some.inj hcc) (ok_pick_f rfl hn.1 hm (isV_bool.2 rfl)), trivial⟩ hQ1 fun b q p => ?_
        exact tail_done (k := q) (hp _ _ ⟨Bs.post ⟨hg, hs, hd⟩ p, p.ke 0 rfl i0, p.ke 1 rfl i1, p.ke 2 rfl i2, p.ke 3 rfl i3, p.ke 9 rfl i9, p.ou 12 24 rfl⟩)
    clear i0 i1 i2 i3 i9 hg hs hd hcc
    rintro a k ⟨⟨hg, hs, hd⟩, i0, i1, i2, i3, i9, i24⟩
    refine wp_cond_split (isBool i24) (fun hc => ?_) (fun hc => ?_)
    rotate_left
    · rw [if_neg (by rw [hc]; decide)] at hr
      refine wp_exit ?_
      exact hex _ _ _ _ (Option.some.inj hr).symm ⟨rfl, ⟨hg, hs, hd⟩, i0, i2, i3, i9⟩
    rw [if_pos hc] at hr
    refine wp_skip ?_
    refine wp_block ?_
    obtain ⟨j, hj, hr⟩ := bind_some hr
    refine gS 3 (_ :: _ :: _ :: []) hs (by kernel_rfl) ⟨mu rfl i9, o1 [(25, some 0)] rfl fun _ _ h n => ok_add rfl n.1 (cI rfl) hj, cp 1 rfl rfl, trivial⟩ hQ fun b q p => ?_
    exact tail_done (k := q) (hgo _ _ _ (Option.some.inj hr).symm ⟨Bs.post ⟨hg, hs, hd⟩ p, p.ke 0 rfl i0, p.ke 1 rfl i1, p.ke 2 rfl i2, p.ke 3 rfl i3, p.ou 2 9 rfl⟩)
  · rintro _ _ _ _ h
    exact h.elim
  · rintro _ _ _ rfl _
    simp at hr
  clear hf1 i0 i1 i2 i3 i9 hg hs hd
  rintro _ kk0 a k rfl ⟨rfl, ⟨hg, hs, hd⟩, i0, i2, i3, i9⟩
  dsimp only at hr
  refine wp_seq ?_
  refine wp_block ?_
  obtain ⟨f2, hf2, hr⟩ := bind_some hr
  refine cutFe f2 (fun s' a' k' => Bs F0 k0 91 a' k' ∧ (PilW F0 k0 s'.1) (a'.get 0) k' ∧ (IsV to) (a'.get 2) k' ∧ (IsV s'.2) (a'.get 3) k' ∧ (IsV kk0) (a'.get 9) k') (fun i' s' a' k' => (i' = 2 ∧ Bs F0 k0 91 a' k' ∧ (PilW F0 k0 s'.1) (a'.get 0) k')) (fun r' a' k' => False) ?_ hQ ?_ ?_ ?_
  · intro Q5 hQQ5 hgo hex hret
    refine sim_loop ?_ _ _ _ _ _ hf2 ⟨⟨hg, hs, hd⟩, i0, i2, i3, i9⟩ Q5 hQQ5 hgo hex hret
    clear hr hf2 hgo hex hret hQQ5 hQ hd hg hs i0 i2 i3 i9
    intro s fl_ a k hr hS Q hQ hgo hex hret
    obtain ⟨⟨hg, hs, hd⟩, i0, i2, i3, i9⟩ := hS
    obtain ⟨m, n⟩ := s
    simp only at i0 i3
    unfold rTake_L1 at hr
    dsimp only at hr
    refine wp_seq ?_
    refine wp_seq ?_
    refine cut (fun a' k' => Bs F0 k0 91 a' k' ∧ (PilW F0 k0 m) (a'.get 0) k' ∧ (IsV to) (a'.get 2) k' ∧ (IsV n) (a'.get 3) k' ∧ (IsV kk0) (a'.get 9) k' ∧ (IsV ((decide (0 < n)) && (decide (kk0 < (m.length : Int))))) (a'.get 34) k') ?_ hQ ?_
    · intro Q1 hQ1 hp
      obtain ⟨T, em, hT, _, _⟩ := i0.op
      subst em
      rw [List.length_map] at hp
      rcases Bool.eq_false_or_eq_true (decide (0 < n)) with hm | hm
      · refine gS 8 (_ :: ⟨some (IsV (decide (0 < n))), [(27, some 0)]⟩ :: _ :: ⟨some (IsV kk0), [(9, none)]⟩ :: ⟨some (Pt (a.get 0) T), [(0, none)]⟩ :: ⟨some (IsV (T.length : Int)), [(31, some 4)]⟩ :: ⟨some (IsV (decide (kk0 < (T.length : Int)))), [(30, some 3), (32, some 5)]⟩ :: ⟨some (IsV ((decide (0 < n)) && (decide (kk0 < (T.length : Int))))), [(29, some 2), (33, some 6)]⟩ :: []) hs (by kernel_rfl) ⟨mu rfl i3, ob1 rfl fun _ _ h n => ok_gtr rfl n.1 (cI rfl), cm 1 rfl rfl,
          ⟨inferInstance, .inl ⟨fun b q hk hn => ok_move rfl (up i9 hk hn.1), guardT hm⟩⟩, ⟨inferInstance, .inl ⟨fun b q hk hn => ok_move rfl (up hT hk hn.1), guardT hm⟩⟩, ⟨inferInstance, .inl ⟨fun b q hk hn => ok_plen rfl rfl Try.underlying55 hn.1, guardT hm⟩⟩, ⟨inferInstance, .inl ⟨fun b q hk hn => ok_lss rfl hn.1 hn.2.1, guardT hm⟩⟩,
          ob1 rfl fun b q hk hn => ok_cast (and_t hm) (ok_pick_t rfl hn.1 hm hn.2.1), trivial⟩ hQ1 fun b q p => ?_
        exact tail_done (k := q) (hp _ _ ⟨Bs.post ⟨hg, hs, hd⟩ p, p.ke 0 rfl i0, p.ke 2 rfl i2, p.ke 3 rfl i3, p.ke 9 rfl i9, p.ou 7 34 rfl⟩)
      · refine gS 8 (_ :: ⟨some (IsV (decide (0 < n))), [(27, some 0)]⟩ :: _ :: ⟨none, []⟩ :: ⟨none, []⟩ :: ⟨none, []⟩ :: ⟨none, []⟩ :: ⟨some (IsV ((decide (0 < n)) && (decide (kk0 < (T.length : Int))))), [(29, some 2)]⟩ :: []) hs (by kernel_rfl) ⟨mu rfl i3, ob1 rfl fun _ _ h n => ok_gtr rfl n.1 (cI rfl), cm 1 rfl rfl,
          guardF hm, guardF hm, guardF hm, guardF hm,
          ob1 rfl fun b q hk hn => ok_cast (and_f hm) (ok_pick_f rfl hn.1 hm (isV_bool.2 rfl)), trivial⟩ hQ1 fun b q p => ?_
        exact tail_done (k := q) (hp _ _ ⟨Bs.post ⟨hg, hs, hd⟩ p, p.ke 0 rfl i0, p.ke 2 rfl i2, p.ke 3 rfl i3, p.ke 9 rfl i9, p.ou 7 34 rfl⟩)
    clear i0 i2 i3 i9 hg hs hd
    rintro a k ⟨⟨hg, hs, hd⟩, i0, i2, i3, i9, i34⟩
    refine wp_cond_split (isBool i34) (fun hc => ?_) (fun hc => ?_)
    rotate_left
    · rw [if_neg (by rw [hc]; decide)] at hr
      refine wp_exit ?_
      exact hex _ _ _ _ (Option.some.inj hr).symm ⟨rfl, ⟨hg, hs, hd⟩, i0⟩
    rw [if_pos hc] at hr
    refine wp_skip ?_
    refine wp_block ?_
    obtain ⟨x, hx, hr⟩ := bind_some hr
    refine wp_seq ?_
    refine wp_seq ?_
    refine cut (fun a' k' => Bs F0 k0 91 a' k' ∧ (PilW F0 k0 m) (a'.get 0) k' ∧ (IsV to) (a'.get 2) k' ∧ (IsV n) (a'.get 3) k' ∧ (IsV kk0) (a'.get 9) k' ∧ (IsV ((x.2.length : Int) == 0)) (a'.get 41) k') ?_ hQ ?_
    · intro Q1 hQ1 hp
      obtain ⟨T, em, hT, _, _⟩ := i0.op
      subst em
      obtain ⟨t, ht, rfl⟩ := getI_map' hx
      refine gS 7 (_ :: _ :: _ :: _ :: _ :: _ :: ⟨some (IsV (((cntP t).2.length : Int) == 0)), [(40, some 5)]⟩ :: []) hs (by kernel_rfl) ⟨mu rfl hT, mu rfl i9, o1 [(35, some 0), (36, some 1)] rfl fun _ _ h n => ok_pidx rfl Try.underlying55 ty59 n.1 n.2.1 ht, o1 [(37, some 2)] rfl fun _ _ h n => ok_pfld1 rfl fo59_1 n.1, o1 [(38, some 3)] rfl fun _ _ h n => ok_pload (e := 37) rfl ty29r n.1 ((Mono.mono h hT : Pt _ T _ _).own ht), o1 [(39, some 4)] rfl fun _ _ h n => ok_len (xs := t.2.2) rfl rfl Try.underlying29 (IsOwn.rd n.1.2), ob1 rfl fun _ _ h n => ok_eqI rfl n.1 (cI rfl), trivial⟩ hQ1 fun b q p => ?_
      exact tail_done (k := q) (hp _ _ ⟨Bs.post ⟨hg, hs, hd⟩ p, p.ke 0 rfl i0, p.ke 2 rfl i2, p.ke 3 rfl i3, p.ke 9 rfl i9, p.ou 6 41 rfl⟩)
    clear i0 i2 i3 i9 hg hs hd i34
    rintro a k ⟨⟨hg, hs, hd⟩, i0, i2, i3, i9, i41⟩
    refine wp_cond_split (isBool i41) (fun hc41 => ?_) (fun hc41 => ?_)
    · rw [if_pos hc41] at hr
      refine wp_exit (exit_then (exit_inBlock (by decide) ?_))
      exact hex _ _ _ _ (Option.some.inj hr).symm ⟨rfl, ⟨hg, hs, hd⟩, i0⟩
    rw [if_neg (by rw [hc41]; decide)] at hr
    refine wp_skip ?_
    obtain ⟨p_, hp0, hr⟩ := bind_some hr
    refine wp_seq ?_
    refine cut (fun a' k' => Bs F0 k0 91 a' k' ∧ (PilW F0 k0 m) (a'.get 0) k' ∧ (IsV to) (a'.get 2) k' ∧ (IsV n) (a'.get 3) k' ∧ (IsV kk0) (a'.get 9) k' ∧ (IsRef p_) (a'.get 10) k') ?_ hQ ?_
    · intro Q1 hQ1 hp
      obtain ⟨T, em, hT, _, _⟩ := i0.op
      subst em
      obtain ⟨t, ht, rfl⟩ := getI_map' hx
      refine gS 8 (_ :: _ :: _ :: _ :: _ :: _ :: _ :: ⟨some (IsBox k.w.heap.size ((0, 0) : Int × Int)), []⟩ :: []) hs (by kernel_rfl) ⟨mu rfl hT, mu rfl i9, o1 [(42, some 0), (43, some 1)] rfl fun _ _ h n => ok_pidx rfl Try.underlying55 ty59 n.1 n.2.1 ht, o1 [(44, some 2)] rfl fun _ _ h n => ok_pfld1 rfl fo59_1 n.1, o1 [(45, some 3)] rfl fun _ _ h n => ok_pload (e := 37) rfl ty29r n.1 ((Mono.mono h hT : Pt _ T _ _).own ht), o1 [(46, some 4)] rfl fun _ _ h n => ok_indexAddr rfl Try.underlying29 ty37 (IsOwn.rd n.1.2) (isV_int.2 rfl) hp0, o1 [(47, some 5)] rfl fun _ _ h n => ok_load rfl ty37 n.1, ob1 rfl fun _ _ h n => ok_alloc _ h.size rfl z37, trivial⟩ hQ1 fun b q p => ?_
      obtain ⟨b10, j10, x10, z10⟩ : IsBox k.w.heap.size ((0, 0) : Int × Int) (b.get 10) q := p.ou 7 10 rfl
      have j48 : IsV p_ (b.get 48) q := p.ou 6 48 rfl
      have hgq := hg.then p.grow
      obtain ⟨G, hP, hG⟩ := i0
      have hap : Apart G (Eq b10) := Apart.new (Rsc.lt hP) (Lo.eq x10)
      have hPq := Rsc.grow hP p.grow
      have hns := z10.nshF
      have hlo : Lo k (Eq b10) := Lo.eq x10
      have l2 := p.ke 2 rfl i2
      have l3 := p.ke 3 rfl i3
      have l9 := p.ke 9 rfl i9
      have e0 : b.get 0 = a.get 0 := p.old 0 rfl
      refine tail_storeB (i := 8) rfl rfl rfl rfl szf37 (Upd.self (α := Int × Int)) j10 z10 j48 fun q2 hch hz => ?_
      have hP2 := Rsc.keep hPq hch hap hns
      obtain ⟨q3, hsh, jn⟩ := hz.give
      have hgq2 := (hgq.step hch (hlo.chg hg).wr).hand hsh (hlo.chg hg).wr
      have hle := hch.le hns
      rw [← hsh.w]
      exact tail_done (k := q3) (hp _ _ ⟨⟨hgq2, p.size.trans hs, p.defers.trans hd⟩, ⟨G, by rw [e0]; exact Rsc.handed hP2 hsh hap, hG⟩, Pers.pers hsh.le (Pers.pers hle l2), Pers.pers hsh.le (Pers.pers hle l3), Pers.pers hsh.le (Pers.pers hle l9), by rw [j10]; exact jn⟩)
    clear i0 i2 i3 i9 hg hs hd i41
    rintro a k ⟨⟨hg, hs, hd⟩, i0, i2, i3, i9, i10⟩
    refine stepL 5 (_ :: _ :: _ :: _ :: _ :: []) rfl ⟨hg, hs, hd⟩ (by kernel_rfl) ⟨mu rfl i3, o1 [(10, none)] rfl fun _ _ h n => ok_arrAddr (i := 1) rfl ao37 (by decide) (aat37_1 _) (up i10 h n.1).ptr (isV_int.2 rfl), o1 [(50, some 1)] rfl fun _ _ h n => ok_load rfl ty3 n.1, o1 [(49, some 0), (51, some 2)] rfl fun _ _ h n => ok_min2 rfl n.1 n.2.1, cp 3 rfl rfl, trivial⟩ [⟨_, _⟩, ⟨_, _⟩, ⟨_, _⟩, ⟨_, _⟩, ⟨_, _⟩, ⟨_, _⟩] (fun b q p => ⟨p.ke 0 rfl i0, p.ke 2 rfl i2, p.ke 3 rfl i3, p.ke 9 rfl i9, p.ke 10 rfl i10, p.ou 4 11 rfl, trivial⟩) ?_
    clear i0 i2 i3 i9 i10 hg hs hd
    rintro a k ⟨⟨hg, hs, hd⟩, i0, i2, i3, i9, i10, i11, _⟩
    replace i11 : (IsV (min n p_.2)) (a.get 11) k := i11
    generalize min n p_.2 = kk at hr i11
    obtain ⟨n2, hn2, hr⟩ := bind_some hr
    refine stepL 4 (_ :: _ :: _ :: _ :: []) rfl ⟨hg, hs, hd⟩ (by kernel_rfl) ⟨mu rfl i3, mu rfl i11, o1 [(53, some 0), (54, some 1)] rfl fun _ _ h n => ok_sub rfl n.1 n.2.1 hn2, cp 2 rfl rfl, trivial⟩ [⟨_, _⟩, ⟨_, _⟩, ⟨_, _⟩, ⟨_, _⟩, ⟨_, _⟩, ⟨_, _⟩] (fun b q p => ⟨p.ke 0 rfl i0, p.ke 2 rfl i2, p.ke 9 rfl i9, p.ke 10 rfl i10, p.ke 11 rfl i11, p.ou 3 3 rfl, trivial⟩) ?_
    clear i0 i2 i3 i9 i10 i11 hg hs hd
    rintro a k ⟨⟨hg, hs, hd⟩, i0, i2, i9, i10, i11, i3, _⟩
    refine wp_seq ?_
    refine wp_seq ?_
    refine cut (fun a' k' => Bs F0 k0 91 a' k' ∧ (PilW F0 k0 m) (a'.get 0) k' ∧ (IsV to) (a'.get 2) k' ∧ (IsV n2) (a'.get 3) k' ∧ (IsV kk0) (a'.get 9) k' ∧ (IsRef p_) (a'.get 10) k' ∧ (IsV kk) (a'.get 11) k' ∧ (IsV (kk == p_.2)) (a'.get 59) k') ?_ hQ ?_
    · intro Q1 hQ1 hp
      refine gS 4 (_ :: _ :: _ :: ⟨some (IsV (kk == p_.2)), [(56, some 0), (58, some 2)]⟩ :: []) hs (by kernel_rfl) ⟨mu rfl i11, o1 [(10, none)] rfl fun _ _ h n => ok_arrAddr (i := 1) rfl ao37 (by decide) (aat37_1 _) (up i10 h n.1).ptr (isV_int.2 rfl), o1 [(57, some 1)] rfl fun _ _ h n => ok_load rfl ty3 n.1, ob1 rfl fun _ _ h n => ok_eqI rfl n.1 n.2.1, trivial⟩ hQ1 fun b q p => ?_
      exact tail_done (k := q) (hp _ _ ⟨Bs.post ⟨hg, hs, hd⟩ p, p.ke 0 rfl i0, p.ke 2 rfl i2, p.ke 3 rfl i3, p.ke 9 rfl i9, p.ke 10 rfl i10, p.ke 11 rfl i11, p.ou 3 59 rfl⟩)
    clear i0 i2 i3 i9 i10 i11 hg hs hd
    rintro a k ⟨⟨hg, hs, hd⟩, i0, i2, i3, i9, i10, i11, i59⟩
    obtain ⟨m1, hm1, hr⟩ := bind_some hr
    refine cut (fun a' k' => Bs F0 k0 91 a' k' ∧ (PilW F0 k0 m1) (a'.get 0) k' ∧ (IsV to) (a'.get 2) k' ∧ (IsV n2) (a'.get 3) k' ∧ (IsV kk0) (a'.get 9) k' ∧ (IsRef p_) (a'.get 10) k' ∧ (IsV kk) (a'.get 11) k') ?_ hQ ?_
    · intro Q1 hQ1 hp
      obtain ⟨T, em, hT, hFo, hFT⟩ := i0.op
      subst em
      obtain ⟨t, ht, rfl⟩ := getI_map' hx
      obtain ⟨gh0, gh1, gh2, gh3⟩ := getI_spec ht
      refine wp_cond_split (isBool i59) (fun hc59 => ?_) (fun hc59 => ?_)
      · rw [if_pos hc59] at hm1
        obtain ⟨y, hy, hm1⟩ := bind_some hm1
        obtain ⟨z, hz, hm1⟩ := bind_some hm1
        obtain rfl := Option.some.inj hm1
        refine gS 12 (_ :: _ :: ⟨some IsE0, []⟩ :: _ :: _ :: _ :: _ :: _ :: _ :: ⟨some (IsOwn k.w.heap.size 37 z), [(62, some 2), (68, some 8)]⟩ :: ⟨some (IsAdrO (a.get 0) (kk0.toNat * Enc.sz (Int × RawV))), [(60, some 0), (61, some 1)]⟩ :: ⟨some (IsAdrO (a.get 0) (kk0.toNat * Enc.sz (Int × RawV) + 1)), [(70, some 10)]⟩ :: []) hs (by kernel_rfl) ⟨mu rfl hT, mu rfl i9, ob1 rfl fun _ _ h n => ok_buildSlice0 rfl Try.underlying29 eo37, mu rfl hT, mu rfl i9, o1 [(63, some 3), (64, some 4)] rfl fun _ _ h n => ok_pidx rfl Try.underlying55 ty59 n.1 n.2.1 ht, o1 [(65, some 5)] rfl fun _ _ h n => ok_pfld1 rfl fo59_1 n.1, o1 [(66, some 6)] rfl fun _ _ h n => ok_pload (e := 37) rfl ty29r n.1 ((Mono.mono h hT : Pt _ T _ _).own ht), o1 [(67, some 7)] rfl fun _ _ h n => ok_sliceO_lo rfl Try.underlying29 szf37 n.1 (isV_int.2 rfl) hy,
          ob1 rfl fun _ _ h n => ok_append0 rfl Try.underlying29 eo37 h.size n.1 (IsOwn.rd n.2.1.1) hz, ob1 rfl fun _ _ h n => ok_pidxO (T := T) (E := 59) rfl Try.underlying55 ty59 n.1.1 n.1.2.1 n.2.1 ht, ob1 rfl fun _ _ h n => ok_fieldAdrO rfl fo59_1 n.1, trivial⟩ hQ1 fun b q p => ?_
        have hgq := hg.then p.grow
        have j0 : (Pt (a.get 0) T) (b.get 0) q := p.ke 0 rfl hT
        have e0 : b.get 0 = a.get 0 := p.old 0 rfl
        have l2 := p.ke 2 rfl i2
        have l3 := p.ke 3 rfl i3
        have l9 := p.ke 9 rfl i9
        have l10 := p.ke 10 rfl i10
        have l11 := p.ke 11 rfl i11
        have j69 : IsOwn k.w.heap.size 37 z (b.get 69) q := p.ou 9 69 rfl
        have j71 : IsAdrO (a.get 0) (kk0.toNat * Enc.sz (Int × RawV) + 1) (b.get 71) q := p.ou 11 71 rfl
        have hzlo : ∀ c, obF (b.get 69) c → k.w.heap.size ≤ c := j69.loF
        have hz0 : IsOwn 0 37 z (b.get 69) q := j69.weaken (Nat.zero_le _)
        have hns := j0.2.1.nshF
        refine tail_storeS (i := 12) (u := a.get 0) (m := kk0.toNat) (off := Enc.sz Int + 0) (x := rawP t) (z := (⟨b.get 69⟩ : RawV)) rfl rfl rfl rfl szf29r updP j71 j0.2.1 (by rw [List.getElem?_map, gh1]; rfl) (raw_self (own_one hz0)) fun q5 hch5 hx5 => ?_
        obtain ⟨G, hP, hG⟩ := pil_stored ne59 gh1 (fun j s' hs' hj => j0.2.2.own j s' hs') j0.2.2.ap hz0 j0.2.1 (fun j s' hs' hj c hc h => by have := (hT.2.2.own j s' hs').ltF c hc; have := hzlo c h; omega) hch5 hx5
        have hle := hch5.le hns
        refine tail_done (k := q5) (hp _ _ ⟨⟨hgq.step hch5 hFo, p.size.trans hs, p.defers.trans hd⟩, ⟨G, by rw [e0]; exact hP, fun c hc => ?_⟩, Pers.pers hle l2, Pers.pers hle l3, Pers.pers hle l9, Pers.pers hle l10, Pers.pers hle l11⟩)
        rcases hG c hc with h | h | h
        · exact hFo c h
        · exact hFT c h
        · exact .inr (Nat.le_trans hg.size (hzlo c h))
      · rw [if_neg (by rw [hc59]; decide)] at hm1
        obtain ⟨w, hw, hm1⟩ := bind_some hm1
        obtain rfl := Option.some.inj hm1
        refine region (a0 := a) (k0 := k) (n := 91) (m := 11) (_ :: _ :: _ :: _ :: _ :: _ :: _ :: _ :: ⟨some (IsV w), [(78, some 6), (79, some 7)]⟩ :: ⟨some (IsAdrO t.2.1 ((0 : Int).toNat * Enc.sz (Int × Int))), [(76, some 4)]⟩ :: ⟨some (IsAdrO t.2.1 ((0 : Int).toNat * Enc.sz (Int × Int) + 1 * Enc.sz Int)), [(81, some 9)]⟩ :: []) hmix hs (by kernel_rfl) ⟨mu rfl hT, mu rfl i9, o1 [(72, some 0), (73, some 1)] rfl fun _ _ h n => ok_pidx rfl Try.underlying55 ty59 n.1 n.2.1 ht, o1 [(74, some 2)] rfl fun _ _ h n => ok_pfld1 rfl fo59_1 n.1, o1 [(75, some 3)] rfl fun _ _ h n => ok_pload (e := 37) rfl ty29r n.1 ((Mono.mono h hT : Pt _ T _ _).own ht),
          o1 [(10, none)] rfl fun _ _ h n => ok_arrAddr (i := 1) rfl ao37 (by decide) (aat37_1 _) (up i10 h n.1).ptr (isV_int.2 rfl), o1 [(77, some 5)] rfl fun _ _ h n => ok_load rfl ty3 n.1, mu rfl i11, ob1 rfl fun _ _ h n => ok_sub rfl n.1 n.2.1 hw,
          ob1 rfl fun _ _ h n => ok_indexO rfl Try.underlying29 ty37 n.1 (isV_int.2 rfl) hp0, ob1 rfl fun _ _ h n => ok_arrAdrO (i := 1) rfl ao37 (by decide) n.1 (isV_int.2 rfl), trivial⟩ hQ1 fun b q p => ?_
        have hgq := hg.then p.grow
        have j0 : (Pt (a.get 0) T) (b.get 0) q := p.ke 0 rfl hT
        have e0 : b.get 0 = a.get 0 := p.old 0 rfl
        have l2 := p.ke 2 rfl i2
        have l3 := p.ke 3 rfl i3
        have l9 := p.ke 9 rfl i9
        have l10 := p.ke 10 rfl i10
        have l11 := p.ke 11 rfl i11
        have j80 : IsV w (b.get 80) q := p.ou 8 80 rfl
        have j82 : IsAdrO t.2.1 ((0 : Int).toNat * Enc.sz (Int × Int) + 1 * Enc.sz Int) (b.get 82) q := p.ou 10 82 rfl
        have hns := (j0.own ht).nshF
        refine tail_storeS (i := 11) (u := t.2.1) (m := (0 : Int).toNat) (off := 0 + 1 * Enc.sz Int) rfl rfl rfl rfl szf3 upd_I37_1 j82 (j0.own ht) (getI_spec hp0).2.1 j80 fun q2 hch hz2 => ?_
        obtain ⟨G, hP, hG⟩ := j0.turned ne59 gh1 hch hz2
        have hle := hch.le hns
        exact tail_done (k := q2) (hp _ _ ⟨⟨hgq.step hch (Wr.part hFT gh1), p.size.trans hs, p.defers.trans hd⟩, ⟨G, by rw [e0]; exact hP, fun c hc => (hG c hc).elim (hFo c) (hFT c)⟩, Pers.pers hle l2, Pers.pers hle l3, Pers.pers hle l9, Pers.pers hle l10, Pers.pers hle l11⟩)
    clear i0 i2 i3 i9 i10 i11 i59 hg hs hd
    rintro a k ⟨⟨hg, hs, hd⟩, i0, i2, i3, i9, i10, i11⟩
    obtain ⟨m2, hm2, hr⟩ := bind_some hr
    obtain ⟨G, hP, hG⟩ := i0
    refine gS 6 (⟨some (Is (a.get 0)), [(0, none)]⟩ :: _ :: _ :: _ :: _ :: _ :: []) hs (by kernel_rfl) ⟨ob1 rfl fun _ _ h n => ok_move rfl n.1, mu rfl i2, o1 [(10, none)] rfl fun _ _ h n => ok_arrAddr (i := 0) rfl ao37 (by decide) (aat37_0 _) (up i10 h n.1).ptr (isV_int.2 rfl), o1 [(85, some 2)] rfl fun _ _ h n => ok_load rfl ty3 n.1, mu rfl i11, o1 [(86, some 3), (87, some 4)] rfl fun _ _ h n => ok_build rfl (bld37_0_1 n.1 n.2.1), trivial⟩ hQ fun b q p => ?_
    have hgq := hg.then p.grow
    have hsb := p.size.trans hs
    have hPq := Rsc.grow hP p.grow
    have hns := Rsc.nsh hPq
    have j83 : b.get 83 = a.get 0 := p.ou 0 83 rfl
    have j84 : (IsV to) (b.get 84) q := p.ou 1 84 rfl
    have j88 : (IsV ((p_.1, kk) : Int × Int)) (b.get 88) q := p.ou 5 88 rfl
    have l2 := p.ke 2 rfl i2
    have l3 := p.ke 3 rfl i3
    have l9 := p.ke 9 rfl i9
    refine tail_call (F := G) (i := 6) (d := 89) (R := PilW G q m2) rfl rfl rfl rfl (by rw [hsb]; decide) Try.call34 hQ (rPut_ok (show PilR 59 37 m1 G (b.get 83) q by rw [j83]; exact hPq) j84 j88 hm2) fun b2 q2 hsz hdf hoth hch hres => ?_
    have hle := hch.le hns
    obtain ⟨G2, hP2, hG2⟩ := hres
    refine tail_assign (i := 7) (d := 0) rfl rfl (.inl rfl) rfl (by rw [hsz, hsb]; decide) fun b3 hsz3 hdf3 e3 hoth3 => ?_
    refine tail_done (k := q2) (hgo _ _ _ (Option.some.inj hr).symm ⟨⟨hgq.step hch hG, by rw [hsz3, hsz, hsb], by rw [hdf3, hdf, p.defers, hd]⟩, ⟨G2, by rw [e3]; exact hP2, fun c hc => (hG2 c hc).elim (hG c) (fun h => .inr (Nat.le_trans hgq.size h))⟩, ?_, ?_, ?_⟩)
    · rw [hoth3 2 (by decide), hoth 2 (by decide)]; exact Pers.pers hle l2
    · rw [hoth3 3 (by decide), hoth 3 (by decide)]; exact Pers.pers hle l3
    · rw [hoth3 9 (by decide), hoth 9 (by decide)]; exact Pers.pers hle l9
  · rintro _ _ _ _ h
    exact h.elim
  · rintro _ _ _ rfl _
    simp at hr
  clear hf2 i0 i2 i3 i9 hg hs hd
  rintro _ s a k rfl ⟨rfl, ⟨hg, hs, hd⟩, i0⟩
  dsimp only at hr
  obtain rfl := Option.some.inj hr
  refine stepL 2 (_ :: _ :: []) rfl ⟨hg, hs, hd⟩ (by kernel_rfl) ⟨mu rfl i0, cp 0 rfl rfl, trivial⟩ [⟨_, _⟩] (fun b q p => ⟨p.ou 1 8 rfl, trivial⟩) ?_
  rintro a k ⟨⟨hg, hs, hd⟩, i8, _⟩
  refine wp_ret ?_
  exact retC1 rfl hd hg (show ResOk _ _ _ (.tmp 8) (PilW F0 k0 s.1) from i8)

theorem rTrace_ok {k0 : K} {v0 v1 v2 : Value} {l_ : (List Account)} {moves_ : (List Move)} {lot_ : Int} {r : (List (Int × Int)) × Int} (i0 : (IsV l_) v0 k0) (i1 : (IsV moves_) v1 k0) (i2 : (IsV lot_) v2 k0) (hr : rTrace l_ moves_ lot_ = some r) :
    Calls Try.prog 24 #[v0, v1, v2] k0.w (Ret k0 (IsTup2 (IsV r.1) (IsV r.2))) := by
  unfold rTrace at hr
  refine Ret.ofC ?_
  refine enterK Try.func24 rfl Try.ntmps24 (show 3 ≤ 117 by decide) fun a k hk0 hs hd ha => ?_
  obtain ⟨e0, e1, e2, _⟩ := ha
  replace i0 : (IsV l_) (a.get 0) k := by rw [e0, hk0]; exact i0
  replace i1 : (IsV moves_) (a.get 1) k := by rw [e1, hk0]; exact i1
  replace i2 : (IsV lot_) (a.get 2) k := by rw [e2, hk0]; exact i2
  have hQ : Gb.LetsOut (bodyPost Try.prog Try.f24 (RetC noF k0 (IsTup2 (IsV r.1) (IsV r.2)))) := letsOutC
  have hg : Chg noF k0 k := by rw [hk0]; exact Chg.refl _ k0
  clear e0 e1 e2
  refine stepL 2 (⟨some IsE0, []⟩ :: ⟨some (IsI 0), []⟩ :: []) rfl ⟨hg, hs, hd⟩ (by kernel_rfl) ⟨ob1 rfl fun b q h n => ok_assign rfl isE0_nil, aI rfl rfl, trivial⟩ [⟨_, _⟩, ⟨_, _⟩, ⟨_, _⟩] (fun b q p => ⟨p.ke 0 rfl i0, p.ke 1 rfl i1, p.ke 2 rfl i2, trivial⟩) ?_
  rintro a k ⟨⟨hg, hs, hd⟩, i0, i1, i2, _⟩
  obtain ⟨x1, hx1, hr⟩ := bind_some hr
  refine wp_seq ?_
  refine cut (fun a' k' => Bs noF k0 117 a' k' ∧ (IsV l_) (a'.get 0) k' ∧ (IsV moves_) (a'.get 1) k' ∧ (IsV lot_) (a'.get 2) k' ∧ (IsV x1.2.2) (a'.get 10) k' ∧ True) ?_ hQ ?_
  · intro Q1 W1 w1
    refine gS 10 (_ :: _ :: _ :: _ :: _ :: _ :: _ :: _ :: _ :: _ :: []) hs (by kernel_rfl) ⟨mu rfl i0, mu rfl i1, o1 [(17, some 0), (18, some 1)] rfl fun _ _ h n => ok_call rfl Try.call16 (rRun_ok n.1 n.2.1 hx1), cm 2 rfl rfl, o1 [(16, some 3)] rfl fun _ _ h n => ok_ext3_0 rfl n.1, o1 [(16, some 3)] rfl fun _ _ h n => ok_ext3_1 rfl n.1, o1 [(16, some 3)] rfl fun _ _ h n => ok_ext3_2 rfl n.1, cp 4 rfl rfl, cp 5 rfl rfl, cp 6 rfl rfl, trivial⟩ W1 fun b q p => ?_
    exact tail_done (k := q) (w1 _ _ ⟨Bs.post ⟨hg, hs, hd⟩ p, p.ke 0 rfl i0, p.ke 1 rfl i1, p.ke 2 rfl i2, p.ou 9 10 rfl, trivial⟩)
  clear i0 i1 i2 hg hs hd
  rintro a k ⟨⟨hg, hs, hd⟩, i0, i1, i2, i10, _⟩
  refine wp_seq ?_
  refine stepL 2 (_ :: ⟨some (IsV (x1.2.2 != 0)), [(23, some 0)]⟩ :: []) rfl ⟨hg, hs, hd⟩ (by kernel_rfl) ⟨mu rfl i10, ob1 rfl fun _ _ h n => ok_neI rfl n.1 (cI rfl), trivial⟩ [⟨_, _⟩, ⟨_, _⟩, ⟨_, _⟩, ⟨_, _⟩, ⟨_, _⟩] (fun b q p => ⟨p.ke 0 rfl i0, p.ke 1 rfl i1, p.ke 2 rfl i2, p.ke 10 rfl i10, p.ou 1 24 rfl, trivial⟩) ?_
  clear i0 i1 i2 i10 hg hs hd
  rintro a k ⟨⟨hg, hs, hd⟩, i0, i1, i2, i10, i24, _⟩
  refine wp_cond_split (isBool i24) (fun hc877 => ?_) (fun hc877 => ?_)
  · rw [if_pos hc877] at hr
    refine cutL noF k0 117 [⟨6, IsV ([] : List (Int × Int))⟩, ⟨7, IsV x1.2.2⟩] ?_ ?_
    · intro Q2 W2 w2
      refine gS 3 (_ :: ⟨some IsE0, []⟩ :: _ :: []) hs (by kernel_rfl) ⟨mu rfl i10, ob1 rfl fun b q h n => ok_assign rfl isE0_nil, cp 0 rfl rfl, trivial⟩ W2 fun b q p => ?_
      have j6 : IsE0 (b.get 6) q := p.ou 1 6 rfl
      exact tail_done (k := q) (w2 _ _ ⟨Bs.post ⟨hg, hs, hd⟩ p, j6.isV, p.ou 2 7 rfl, trivial⟩)
    rintro a k ⟨⟨hg, hs, hd⟩, i6, i7, _⟩
    refine wp_ret ?_
    obtain rfl := Option.some.inj hr
    exact retC2 rfl hd hg i6 i7
  rw [if_neg (by rw [hc877]; decide)] at hr
  refine wp_skip ?_
  refine wp_seq ?_
  refine cut (fun a' k' => Bs noF k0 117 a' k' ∧ (IsV l_) (a'.get 0) k' ∧ (IsV moves_) (a'.get 1) k' ∧ (IsV lot_) (a'.get 2) k' ∧ PilW noF k0 [] (a'.get 11) k') ?_ hQ ?_
  · intro Q3 W3 w3
    refine gS 1 (⟨some (Is (.slice none 0 0)), []⟩ :: []) hs (by kernel_rfl) ⟨ob1 rfl fun _ _ h n => ok_assign rfl rfl, trivial⟩ W3 fun b q p => ?_
    have j11 : b.get 11 = .slice none 0 0 := p.ou 0 11 rfl
    exact tail_done (k := q) (w3 _ _ ⟨Bs.post ⟨hg, hs, hd⟩ p, p.ke 0 rfl i0, p.ke 1 rfl i1, p.ke 2 rfl i2, noF, by rw [j11]; exact PilR.nil ne59, fun _ h => h.elim⟩)
  clear i0 i1 i2 i10 i24 hg hs hd
  rintro a k ⟨⟨hg, hs, hd⟩, i0, i1, i2, i11⟩
  refine wp_seq ?_
  refine wp_seq ?_
  refine cut (fun a' k' => Bs noF k0 117 a' k' ∧ (IsV l_) (a'.get 0) k' ∧ (IsV moves_) (a'.get 1) k' ∧ (IsV lot_) (a'.get 2) k' ∧ PilW noF k0 [] (a'.get 11) k' ∧ (IsV (0 : Int)) (a'.get 12) k') ?_ hQ ?_
  · intro Q3 W3 w3
    refine gS 1 (⟨some (IsI 0), []⟩ :: []) hs (by kernel_rfl) ⟨aI rfl rfl, trivial⟩ W3 fun b q p => ?_
    exact tail_done (k := q) (w3 _ _ ⟨Bs.post ⟨hg, hs, hd⟩ p, p.ke 0 rfl i0, p.ke 1 rfl i1, p.ke 2 rfl i2, p.ke 11 rfl i11, p.ou 0 12 rfl⟩)
  clear i0 i1 i2 i11 hg hs hd
  rintro a k ⟨⟨hg, hs, hd⟩, i0, i1, i2, i11, i12⟩
  refine wp_block ?_
  obtain ⟨f1, hf1, hr⟩ := bind_some hr
  refine cutFe f1 (fun s' c l => Bs noF k0 117 c l ∧ IsV l_ (c.get 0) l ∧ IsV moves_ (c.get 1) l ∧ IsV lot_ (c.get 2) l ∧ PilW noF k0 s'.1 (c.get 11) l ∧ IsV s'.2 (c.get 12) l) (fun i' s' c l => (i' = 0 ∧ Bs noF k0 117 c l ∧ IsV moves_ (c.get 1) l ∧ IsV lot_ (c.get 2) l ∧ PilW noF k0 s'.1 (c.get 11) l)) (fun r' c l => False) ?_ hQ ?_ ?_ ?_
  · intro Q5 W5 hgo hex hret
    refine sim_loop ?_ _ _ _ _ _ hf1 ⟨⟨hg, hs, hd⟩, i0, i1, i2, i11, i12⟩ Q5 W5 hgo hex hret
    clear hr hf1 hgo hex hret W5 hQ hg hs hd i0 i1 i11 i2 i12
    intro s fl_ a k hr hS Q hQ hgo hex hret
    obtain ⟨⟨hg, hs, hd⟩, i0, i1, i2, i11, i12⟩ := hS
    obtain ⟨m, j⟩ := s
    simp only at i11 i12
    unfold rTrace_L0 at hr
    dsimp only at hr
    refine wp_seq ?_
    refine wp_seq ?_
    refine cut (fun c l => Bs noF k0 117 c l ∧ IsV l_ (c.get 0) l ∧ IsV moves_ (c.get 1) l ∧ IsV lot_ (c.get 2) l ∧ PilW noF k0 m (c.get 11) l ∧ IsV j (c.get 12) l ∧ (IsV (decide (j < (l_.length : Int)))) (c.get 29) l) ?_ hQ ?_
    · intro Q6 W6 w5
      refine gS 4 (_ :: _ :: _ :: ⟨some (IsV (decide (j < (l_.length : Int)))), [(26, some 0), (28, some 2)]⟩ :: []) hs (by kernel_rfl) ⟨mu rfl i12, mu rfl i0, o1 [(27, some 1)] rfl fun _ _ h n => ok_len rfl rfl Try.underlying22 (IsV.rd n.1), ob1 rfl fun _ _ h n => ok_lss rfl n.1 n.2.1, trivial⟩ W6 fun b q p => ?_
      exact tail_done (k := q) (w5 _ _ ⟨Bs.post ⟨hg, hs, hd⟩ p, p.ke 0 rfl i0, p.ke 1 rfl i1, p.ke 2 rfl i2, p.ke 11 rfl i11, p.ke 12 rfl i12, p.ou 3 29 rfl⟩)
    clear i0 i1 i2 i11 i12 hg hs hd
    rintro a k ⟨⟨hg, hs, hd⟩, i0, i1, i2, i11, i12, i29⟩
    refine wp_cond_split (isBool i29) (fun hc => ?_) (fun hc => ?_)
    rotate_left
    · rw [if_neg (by rw [hc]; decide)] at hr
      refine wp_exit ?_
      exact hex _ _ _ _ (Option.some.inj hr).symm ⟨rfl, ⟨hg, hs, hd⟩, i1, i2, i11⟩
    rw [if_pos hc] at hr
    refine wp_skip ?_
    refine wp_seq ?_
    refine wp_block ?_
    obtain ⟨x, hx, hr⟩ := bind_some hr
    obtain ⟨m2, hm2, hr⟩ := bind_some hr
    refine cut (fun c l => Bs noF k0 117 c l ∧ IsV l_ (c.get 0) l ∧ IsV moves_ (c.get 1) l ∧ IsV lot_ (c.get 2) l ∧ PilW noF k0 m2 (c.get 11) l ∧ IsV j (c.get 12) l) ?_ hQ ?_
    · intro Q1 W1 w1
      obtain ⟨G, hP, hG⟩ := i11
      refine region (a0 := a) (k0 := k) (n := 117) (m := 17) (⟨some (Is (a.get 11)), [(11, none)]⟩ :: _ :: _ :: _ :: _ :: _ :: _ :: _ :: _ :: _ :: _ :: _ :: _ :: _ :: _ :: _ :: _ :: []) hmix hs (by kernel_rfl) ⟨ob1 rfl fun _ _ h n => ok_move rfl n.1,
        mu rfl i0, mu rfl i12, o1 [(33, some 1), (34, some 2)] rfl fun _ _ h n => ok_indexAddr rfl Try.underlying22 ty35 (IsV.rd n.1) n.2.1 hx, o1 [(35, some 3)] rfl fun _ _ h n => ok_fieldAddr rfl fo35_0 (at_Account_0 _) n.1, o1 [(36, some 4)] rfl fun _ _ h n => ok_load rfl ty3 n.1,
        mu rfl i0, mu rfl i12, o1 [(38, some 6), (39, some 7)] rfl fun _ _ h n => ok_indexAddr rfl Try.underlying22 ty35 (IsV.rd n.1) n.2.1 hx, o1 [(40, some 8)] rfl fun _ _ h n => ok_fieldAddr rfl fo35_0 (at_Account_0 _) n.1, o1 [(41, some 9)] rfl fun _ _ h n => ok_load rfl ty3 n.1,
        mu rfl i0, mu rfl i12, o1 [(43, some 11), (44, some 12)] rfl fun _ _ h n => ok_indexAddr rfl Try.underlying22 ty35 (IsV.rd n.1) n.2.1 hx, o1 [(45, some 13)] rfl fun _ _ h n => ok_fieldAddr rfl fo35_1 (at_Account_1 _) n.1, o1 [(46, some 14)] rfl fun _ _ h n => ok_load rfl ty3 n.1,
        o1 [(42, some 10), (47, some 15)] rfl fun _ _ h n => ok_build rfl (bld37_0_1 n.1 n.2.1), trivial⟩ W1 fun b q p => ?_
      have hgq := hg.then p.grow
      have hsb := p.size.trans hs
      have hPq := Rsc.grow hP p.grow
      have hns := Rsc.nsh hPq
      have j32 : b.get 32 = a.get 11 := p.ou 0 32 rfl
      have j37 : (IsV x.Lot) (b.get 37) q := p.ou 5 37 rfl
      have j48 : (IsV ((x.Lot, x.Units) : Int × Int)) (b.get 48) q := p.ou 16 48 rfl
      have l0 := p.ke 0 rfl i0
      have l1 := p.ke 1 rfl i1
      have l2 := p.ke 2 rfl i2
      have l12 := p.ke 12 rfl i12
      refine tail_call (F := G) (i := 17) (d := 49) (R := PilW G q m2) rfl rfl rfl rfl (by rw [hsb]; decide) Try.call34 W1 (rPut_ok (show PilR 59 37 m G (b.get 32) q by rw [j32]; exact hPq) j37 j48 hm2) fun b2 q2 hsz hdf hoth hch hres => ?_
      have hle := hch.le hns
      obtain ⟨G2, hP2, hG2⟩ := hres
      refine tail_assign (i := 18) (d := 11) rfl rfl (.inl rfl) rfl (by rw [hsz, hsb]; decide) fun b3 hsz3 hdf3 e3 hoth3 => ?_
      refine tail_done (k := q2) (w1 _ _ ⟨⟨hgq.step hch hG, by rw [hsz3, hsz, hsb], by rw [hdf3, hdf, p.defers, hd]⟩, ?_, ?_, ?_, ⟨G2, by rw [e3]; exact hP2, fun c hc => (hG2 c hc).elim (hG c) (fun h => .inr (Nat.le_trans hgq.size h))⟩, ?_⟩)
      · rw [hoth3 0 (by decide), hoth 0 (by decide)]; exact Pers.pers hle l0
      · rw [hoth3 1 (by decide), hoth 1 (by decide)]; exact Pers.pers hle l1
      · rw [hoth3 2 (by decide), hoth 2 (by decide)]; exact Pers.pers hle l2
      · rw [hoth3 12 (by decide), hoth 12 (by decide)]; exact Pers.pers hle l12
    clear i0 i1 i2 i11 i12 hg hs hd
    rintro a k ⟨⟨hg, hs, hd⟩, i0, i1, i2, i11, i12⟩
    obtain ⟨j2, hj2, hr⟩ := bind_some hr
    refine gS 3 (_ :: _ :: _ :: []) hs (by kernel_rfl) ⟨mu rfl i12, o1 [(30, some 0)] rfl fun _ _ h n => ok_add rfl n.1 (cI rfl) hj2, cp 1 rfl rfl, trivial⟩ hQ fun b q p => ?_
    exact tail_done (k := q) (hgo _ _ _ (Option.some.inj hr).symm ⟨Bs.post ⟨hg, hs, hd⟩ p, p.ke 0 rfl i0, p.ke 1 rfl i1, p.ke 2 rfl i2, p.ke 11 rfl i11, p.ou 2 12 rfl⟩)
  · rintro _ _ _ _ h
    exact h.elim
  · rintro _ _ _ rfl _
    simp at hr
  clear hf1 i0 i1 i2 i11 i12 hg hs hd
  rintro _ s a k rfl ⟨rfl, ⟨hg, hs, hd⟩, i1, i2, i11⟩
  dsimp only at hr
  refine wp_seq ?_
  refine wp_seq ?_
  refine cut (fun a' k' => Bs noF k0 117 a' k' ∧ (IsV moves_) (a'.get 1) k' ∧ (IsV lot_) (a'.get 2) k' ∧ PilW noF k0 s.1 (a'.get 11) k' ∧ (IsV (0 : Int)) (a'.get 13) k') ?_ hQ ?_
  · intro Q3 W3 w3
    refine gS 1 (⟨some (IsI 0), []⟩ :: []) hs (by kernel_rfl) ⟨aI rfl rfl, trivial⟩ W3 fun b q p => ?_
    exact tail_done (k := q) (w3 _ _ ⟨Bs.post ⟨hg, hs, hd⟩ p, p.ke 1 rfl i1, p.ke 2 rfl i2, p.ke 11 rfl i11, p.ou 0 13 rfl⟩)
  clear i1 i2 i11 hg hs hd
  rintro a k ⟨⟨hg, hs, hd⟩, i1, i2, i11, i13⟩
  refine wp_block ?_
  obtain ⟨f2, hf2, hr⟩ := bind_some hr
  refine cutFe f2 (fun s' c l => Bs noF k0 117 c l ∧ IsV moves_ (c.get 1) l ∧ IsV lot_ (c.get 2) l ∧ PilW noF k0 s'.1 (c.get 11) l ∧ IsV s'.2 (c.get 13) l) (fun i' s' c l => (i' = 2 ∧ Bs noF k0 117 c l ∧ IsV lot_ (c.get 2) l ∧ PilW noF k0 s'.1 (c.get 11) l)) (fun r' c l => False) ?_ hQ ?_ ?_ ?_
  · intro Q5 W5 hgo hex hret
    refine sim_loop ?_ _ _ _ _ _ hf2 ⟨⟨hg, hs, hd⟩, i1, i2, i11, i13⟩ Q5 W5 hgo hex hret
    clear hr hf2 hgo hex hret W5 hQ hg hs hd i1 i11 i2 i13
    intro s fl_ a k hr hS Q hQ hgo hex hret
    obtain ⟨⟨hg, hs, hd⟩, i1, i2, i11, i13⟩ := hS
    obtain ⟨m, j⟩ := s
    simp only at i11 i13
    unfold rTrace_L1 at hr
    dsimp only at hr
    refine wp_seq ?_
    refine wp_seq ?_
    refine cut (fun c l => Bs noF k0 117 c l ∧ IsV moves_ (c.get 1) l ∧ IsV lot_ (c.get 2) l ∧ PilW noF k0 m (c.get 11) l ∧ IsV j (c.get 13) l ∧ (IsV (decide (j < (moves_.length : Int)))) (c.get 53) l) ?_ hQ ?_
    · intro Q6 W6 w5
      refine gS 4 (_ :: _ :: _ :: ⟨some (IsV (decide (j < (moves_.length : Int)))), [(50, some 0), (52, some 2)]⟩ :: []) hs (by kernel_rfl) ⟨mu rfl i13, mu rfl i1, o1 [(51, some 1)] rfl fun _ _ h n => ok_len rfl rfl Try.underlying23 (IsV.rd n.1), ob1 rfl fun _ _ h n => ok_lss rfl n.1 n.2.1, trivial⟩ W6 fun b q p => ?_
      exact tail_done (k := q) (w5 _ _ ⟨Bs.post ⟨hg, hs, hd⟩ p, p.ke 1 rfl i1, p.ke 2 rfl i2, p.ke 11 rfl i11, p.ke 13 rfl i13, p.ou 3 53 rfl⟩)
    clear i1 i2 i11 i13 hg hs hd
    rintro a k ⟨⟨hg, hs, hd⟩, i1, i2, i11, i13, i53⟩
    refine wp_cond_split (isBool i53) (fun hc => ?_) (fun hc => ?_)
    rotate_left
    · rw [if_neg (by rw [hc]; decide)] at hr
      refine wp_exit ?_
      exact hex _ _ _ _ (Option.some.inj hr).symm ⟨rfl, ⟨hg, hs, hd⟩, i2, i11⟩
    rw [if_pos hc] at hr
    refine wp_skip ?_
    refine wp_seq ?_
    obtain ⟨x, hx, hr⟩ := bind_some hr
    obtain ⟨m2, hm2, hr⟩ := bind_some hr
    refine cut (fun c l => Bs noF k0 117 c l ∧ IsV moves_ (c.get 1) l ∧ IsV lot_ (c.get 2) l ∧ PilW noF k0 m2 (c.get 11) l ∧ IsV j (c.get 13) l) ?_ hQ ?_
    · intro Q1 W1 w1
      refine wp_block ?_
      refine wp_seq ?_
      refine cut (fun c l => Bs noF k0 117 c l ∧ IsV moves_ (c.get 1) l ∧ IsV lot_ (c.get 2) l ∧ PilW noF k0 m (c.get 11) l ∧ IsV j (c.get 13) l ∧ (IsRef x) (c.get 14) l) ?_ trivial ?_
      · intro Q7 W7 w6
        refine gS 5 (_ :: _ :: _ :: _ :: ⟨some (IsBox k.w.heap.size (⟨0, 0, 0, 0⟩ : Move)), []⟩ :: []) hs (by kernel_rfl) ⟨mu rfl i1, mu rfl i13, o1 [(56, some 0), (57, some 1)] rfl fun _ _ h n => ok_indexAddr rfl Try.underlying23 ty33 (IsV.rd n.1) n.2.1 hx, o1 [(58, some 2)] rfl fun _ _ h n => ok_load rfl ty33 n.1, ob1 rfl fun _ _ h n => ok_alloc _ h.size rfl z33, trivial⟩ W7 fun b q p => ?_
        obtain ⟨b14, j14, x14, z14⟩ : IsBox k.w.heap.size (⟨0, 0, 0, 0⟩ : Move) (b.get 14) q := p.ou 4 14 rfl
        have j59 : IsV x (b.get 59) q := p.ou 3 59 rfl
        have hgq := hg.then p.grow
        obtain ⟨G, hP, hG⟩ := i11
        have hap : Apart G (Eq b14) := Apart.new (Rsc.lt hP) (Lo.eq x14)
        have hPq := Rsc.grow hP p.grow
        have hns := z14.nshF
        have hlo : Lo k (Eq b14) := Lo.eq x14
        have l1 := p.ke 1 rfl i1
        have l2 := p.ke 2 rfl i2
        have l13 := p.ke 13 rfl i13
        have e11 : b.get 11 = a.get 11 := p.old 11 rfl
        refine tail_storeB (i := 5) rfl rfl rfl rfl szf33 (Upd.self (α := Move)) j14 z14 j59 fun q2 hch hz => ?_
        have hP2 := Rsc.keep hPq hch hap hns
        obtain ⟨q3, hsh, jn⟩ := hz.give
        have hgq2 := (hgq.step hch (hlo.chg hg).wr).hand hsh (hlo.chg hg).wr
        have hle := hch.le hns
        rw [← hsh.w]
        exact tail_done (k := q3) (w6 _ _ ⟨⟨hgq2, p.size.trans hs, p.defers.trans hd⟩, Pers.pers hsh.le (Pers.pers hle l1), Pers.pers hsh.le (Pers.pers hle l2), ⟨G, by rw [e11]; exact Rsc.handed hP2 hsh hap, hG⟩, Pers.pers hsh.le (Pers.pers hle l13), by rw [j14]; exact jn⟩)
      clear i1 i2 i11 i13 i53 hg hs hd
      rintro a k ⟨⟨hg, hs, hd⟩, i1, i2, i11, i13, i14⟩
      refine stepL 2 (_ :: _ :: []) rfl ⟨hg, hs, hd⟩ (by kernel_rfl) ⟨o1 [(14, none)] rfl fun _ _ h n => ok_fieldAddr rfl fo33_0 (at_Move_0 _) ((up i14 h n.1)).ptr, o1 [(60, some 0)] rfl fun _ _ h n => ok_load rfl ty3 n.1, trivial⟩ [⟨_, _⟩, ⟨_, _⟩, ⟨_, _⟩, ⟨_, _⟩, ⟨_, _⟩, ⟨_, _⟩] (fun b q p => ⟨p.ke 1 rfl i1, p.ke 2 rfl i2, p.ke 11 rfl i11, p.ke 13 rfl i13, p.ke 14 rfl i14, p.ou 1 61 rfl, trivial⟩) ?_
      clear i1 i2 i11 i13 i14 hg hs hd
      rintro a k ⟨⟨hg, hs, hd⟩, i1, i2, i11, i13, i14, i61, _⟩
      refine wp_block ?_
      refine stepL 2 (⟨some (IsV (x.Kind == 0)), [(61, none)]⟩ :: _ :: []) rfl ⟨hg, hs, hd⟩ (by kernel_rfl) ⟨ob1 rfl fun _ _ h n => ok_eqI rfl (up i61 h n.1) (cI rfl), cp 0 rfl rfl, trivial⟩ [⟨_, _⟩, ⟨_, _⟩, ⟨_, _⟩, ⟨_, _⟩, ⟨_, _⟩, ⟨_, _⟩, ⟨_, _⟩] (fun b q p => ⟨p.ke 1 rfl i1, p.ke 2 rfl i2, p.ke 11 rfl i11, p.ke 13 rfl i13, p.ke 14 rfl i14, p.ke 61 rfl i61, p.ou 1 62 rfl, trivial⟩) ?_
      clear i1 i2 i11 i13 i14 i61 hg hs hd
      rintro a k ⟨⟨hg, hs, hd⟩, i1, i2, i11, i13, i14, i61, ic, _⟩
      refine wp_cond_split (isBool ic) (fun hck => ?_) (fun hck => ?_)
      · rw [if_pos hck] at hm2
        obtain ⟨G, hP, hG⟩ := i11
        refine gS 8 (⟨some (Is (a.get 11)), [(11, none)]⟩ :: _ :: _ :: _ :: _ :: _ :: _ :: _ :: []) hs (by kernel_rfl) ⟨ob1 rfl fun _ _ h n => ok_move rfl n.1, o1 [(14, none)] rfl fun _ _ h n => ok_fieldAddr rfl fo33_2 (at_Move_2 _) ((up i14 h n.1)).ptr, o1 [(65, some 1)] rfl fun _ _ h n => ok_load rfl ty3 n.1, o1 [(14, none)] rfl fun _ _ h n => ok_fieldAddr rfl fo33_2 (at_Move_2 _) ((up i14 h n.1)).ptr, o1 [(67, some 3)] rfl fun _ _ h n => ok_load rfl ty3 n.1, o1 [(14, none)] rfl fun _ _ h n => ok_fieldAddr rfl fo33_3 (at_Move_3 _) ((up i14 h n.1)).ptr, o1 [(69, some 5)] rfl fun _ _ h n => ok_load rfl ty3 n.1, o1 [(68, some 4), (70, some 6)] rfl fun _ _ h n => ok_build rfl (bld37_0_1 n.1 n.2.1), trivial⟩ W1 fun b q p => ?_
        have hgq := hg.then p.grow
        have hsb := p.size.trans hs
        have hPq := Rsc.grow hP p.grow
        have hns := Rsc.nsh hPq
        have jv : b.get 64 = a.get 11 := p.ou 0 64 rfl
        have jx0 := p.ou 2 66 rfl
        have jx1 := p.ou 7 71 rfl
        have l1 := p.ke 1 rfl i1
        have l2 := p.ke 2 rfl i2
        have l13 := p.ke 13 rfl i13
        refine tail_call (F := G) (i := 8) (d := 72) (R := PilW G q m2) rfl rfl rfl rfl (by rw [hsb]; decide) Try.call34 W1 (rPut_ok (show PilR 59 37 m G (b.get 64) q by rw [jv]; exact hPq) jx0 jx1 hm2) fun b2 q2 hsz hdf hoth hch hres => ?_
        have hle := hch.le hns
        obtain ⟨G2, hP2, hG2⟩ := hres
        refine tail_assign (i := 9) (d := 11) rfl rfl (.inl rfl) rfl (by rw [hsz, hsb]; decide) fun b3 hsz3 hdf3 e3 hoth3 => ?_
        refine tail_done (k := q2) (w1 _ _ ⟨⟨hgq.step hch hG, by rw [hsz3, hsz, hsb], by rw [hdf3, hdf, p.defers, hd]⟩, ?_, ?_, ⟨G2, by rw [e3]; exact hP2, fun c hc => (hG2 c hc).elim (hG c) (fun h => .inr (Nat.le_trans hgq.size h))⟩, ?_⟩)
        · rw [hoth3 1 (by decide), hoth 1 (by decide)]; exact Pers.pers hle l1
        · rw [hoth3 2 (by decide), hoth 2 (by decide)]; exact Pers.pers hle l2
        · rw [hoth3 13 (by decide), hoth 13 (by decide)]; exact Pers.pers hle l13
      rw [if_neg (by rw [hck]; decide)] at hm2
      refine stepL 2 (⟨some (IsV (x.Kind == 1)), [(61, none)]⟩ :: _ :: []) rfl ⟨hg, hs, hd⟩ (by kernel_rfl) ⟨ob1 rfl fun _ _ h n => ok_eqI rfl (up i61 h n.1) (cI rfl), cp 0 rfl rfl, trivial⟩ [⟨_, _⟩, ⟨_, _⟩, ⟨_, _⟩, ⟨_, _⟩, ⟨_, _⟩, ⟨_, _⟩, ⟨_, _⟩] (fun b q p => ⟨p.ke 1 rfl i1, p.ke 2 rfl i2, p.ke 11 rfl i11, p.ke 13 rfl i13, p.ke 14 rfl i14, p.ke 61 rfl i61, p.ou 1 73 rfl, trivial⟩) ?_
      clear i1 i2 i11 i13 i14 i61 hg hs hd
      rintro a k ⟨⟨hg, hs, hd⟩, i1, i2, i11, i13, i14, i61, ic, _⟩
      refine wp_cond_split (isBool ic) (fun hck => ?_) (fun hck => ?_)
      · rw [if_pos hck] at hm2
        obtain ⟨G, hP, hG⟩ := i11
        refine gS 7 (⟨some (Is (a.get 11)), [(11, none)]⟩ :: _ :: _ :: _ :: _ :: _ :: _ :: []) hs (by kernel_rfl) ⟨ob1 rfl fun _ _ h n => ok_move rfl n.1, o1 [(14, none)] rfl fun _ _ h n => ok_fieldAddr rfl fo33_1 (at_Move_1 _) ((up i14 h n.1)).ptr, o1 [(76, some 1)] rfl fun _ _ h n => ok_load rfl ty3 n.1, o1 [(14, none)] rfl fun _ _ h n => ok_fieldAddr rfl fo33_2 (at_Move_2 _) ((up i14 h n.1)).ptr, o1 [(78, some 3)] rfl fun _ _ h n => ok_load rfl ty3 n.1, o1 [(14, none)] rfl fun _ _ h n => ok_fieldAddr rfl fo33_3 (at_Move_3 _) ((up i14 h n.1)).ptr, o1 [(80, some 5)] rfl fun _ _ h n => ok_load rfl ty3 n.1, trivial⟩ W1 fun b q p => ?_
        have hgq := hg.then p.grow
        have hsb := p.size.trans hs
        have hPq := Rsc.grow hP p.grow
        have hns := Rsc.nsh hPq
        have jv : b.get 75 = a.get 11 := p.ou 0 75 rfl
        have jx0 := p.ou 2 77 rfl
        have jx1 := p.ou 4 79 rfl
        have jx2 := p.ou 6 81 rfl
        have l1 := p.ke 1 rfl i1
        have l2 := p.ke 2 rfl i2
        have l13 := p.ke 13 rfl i13
        refine tail_call (F := G) (i := 7) (d := 82) (R := PilW G q m2) rfl rfl rfl rfl (by rw [hsb]; decide) Try.call35 W1 (rTake_ok (show PilR 59 37 m G (b.get 75) q by rw [jv]; exact hPq) jx0 jx1 jx2 hm2) fun b2 q2 hsz hdf hoth hch hres => ?_
        have hle := hch.le hns
        obtain ⟨G2, hP2, hG2⟩ := hres
        refine tail_assign (i := 8) (d := 11) rfl rfl (.inl rfl) rfl (by rw [hsz, hsb]; decide) fun b3 hsz3 hdf3 e3 hoth3 => ?_
        refine tail_done (k := q2) (w1 _ _ ⟨⟨hgq.step hch hG, by rw [hsz3, hsz, hsb], by rw [hdf3, hdf, p.defers, hd]⟩, ?_, ?_, ⟨G2, by rw [e3]; exact hP2, fun c hc => (hG2 c hc).elim (hG c) (fun h => .inr (Nat.le_trans hgq.size h))⟩, ?_⟩)
        · rw [hoth3 1 (by decide), hoth 1 (by decide)]; exact Pers.pers hle l1
        · rw [hoth3 2 (by decide), hoth 2 (by decide)]; exact Pers.pers hle l2
        · rw [hoth3 13 (by decide), hoth 13 (by decide)]; exact Pers.pers hle l13
      rw [if_neg (by rw [hck]; decide)] at hm2
      refine stepL 2 (⟨some (IsV (x.Kind == 2)), [(61, none)]⟩ :: _ :: []) rfl ⟨hg, hs, hd⟩ (by kernel_rfl) ⟨ob1 rfl fun _ _ h n => ok_eqI rfl (up i61 h n.1) (cI rfl), cp 0 rfl rfl, trivial⟩ [⟨_, _⟩, ⟨_, _⟩, ⟨_, _⟩, ⟨_, _⟩, ⟨_, _⟩, ⟨_, _⟩, ⟨_, _⟩] (fun b q p => ⟨p.ke 1 rfl i1, p.ke 2 rfl i2, p.ke 11 rfl i11, p.ke 13 rfl i13, p.ke 14 rfl i14, p.ke 61 rfl i61, p.ou 1 83 rfl, trivial⟩) ?_
      clear i1 i2 i11 i13 i14 i61 hg hs hd
      rintro a k ⟨⟨hg, hs, hd⟩, i1, i2, i11, i13, i14, i61, ic, _⟩
      refine wp_cond_split (isBool ic) (fun hck => ?_) (fun hck => ?_)
      · rw [if_pos hck] at hm2
        obtain ⟨G, hP, hG⟩ := i11
        refine gS 5 (⟨some (Is (a.get 11)), [(11, none)]⟩ :: _ :: _ :: _ :: _ :: []) hs (by kernel_rfl) ⟨ob1 rfl fun _ _ h n => ok_move rfl n.1, o1 [(14, none)] rfl fun _ _ h n => ok_fieldAddr rfl fo33_1 (at_Move_1 _) ((up i14 h n.1)).ptr, o1 [(86, some 1)] rfl fun _ _ h n => ok_load rfl ty3 n.1, o1 [(14, none)] rfl fun _ _ h n => ok_fieldAddr rfl fo33_3 (at_Move_3 _) ((up i14 h n.1)).ptr, o1 [(88, some 3)] rfl fun _ _ h n => ok_load rfl ty3 n.1, trivial⟩ W1 fun b q p => ?_
        have hgq := hg.then p.grow
        have hsb := p.size.trans hs
        have hPq := Rsc.grow hP p.grow
        have hns := Rsc.nsh hPq
        have jv : b.get 85 = a.get 11 := p.ou 0 85 rfl
        have jx0 := p.ou 2 87 rfl
        have jx1 := p.ou 4 89 rfl
        have l1 := p.ke 1 rfl i1
        have l2 := p.ke 2 rfl i2
        have l13 := p.ke 13 rfl i13
        refine tail_call (F := G) (i := 5) (d := 90) (R := PilW G q m2) rfl rfl rfl rfl (by rw [hsb]; decide) Try.call35 W1 (rTake_ok (show PilR 59 37 m G (b.get 85) q by rw [jv]; exact hPq) jx0 (isV_int.2 rfl) jx1 hm2) fun b2 q2 hsz hdf hoth hch hres => ?_
        have hle := hch.le hns
        obtain ⟨G2, hP2, hG2⟩ := hres
        refine tail_assign (i := 6) (d := 11) rfl rfl (.inl rfl) rfl (by rw [hsz, hsb]; decide) fun b3 hsz3 hdf3 e3 hoth3 => ?_
        refine tail_done (k := q2) (w1 _ _ ⟨⟨hgq.step hch hG, by rw [hsz3, hsz, hsb], by rw [hdf3, hdf, p.defers, hd]⟩, ?_, ?_, ⟨G2, by rw [e3]; exact hP2, fun c hc => (hG2 c hc).elim (hG c) (fun h => .inr (Nat.le_trans hgq.size h))⟩, ?_⟩)
        · rw [hoth3 1 (by decide), hoth 1 (by decide)]; exact Pers.pers hle l1
        · rw [hoth3 2 (by decide), hoth 2 (by decide)]; exact Pers.pers hle l2
        · rw [hoth3 13 (by decide), hoth 13 (by decide)]; exact Pers.pers hle l13
      rw [if_neg (by rw [hck]; decide)] at hm2
      refine stepL 2 (⟨some (IsV (x.Kind == 3)), [(61, none)]⟩ :: _ :: []) rfl ⟨hg, hs, hd⟩ (by kernel_rfl) ⟨ob1 rfl fun _ _ h n => ok_eqI rfl (up i61 h n.1) (cI rfl), cp 0 rfl rfl, trivial⟩ [⟨_, _⟩, ⟨_, _⟩, ⟨_, _⟩, ⟨_, _⟩, ⟨_, _⟩, ⟨_, _⟩, ⟨_, _⟩] (fun b q p => ⟨p.ke 1 rfl i1, p.ke 2 rfl i2, p.ke 11 rfl i11, p.ke 13 rfl i13, p.ke 14 rfl i14, p.ke 61 rfl i61, p.ou 1 91 rfl, trivial⟩) ?_
      clear i1 i2 i11 i13 i14 i61 hg hs hd
      rintro a k ⟨⟨hg, hs, hd⟩, i1, i2, i11, i13, i14, i61, ic, _⟩
      refine wp_cond_split (isBool ic) (fun hck => ?_) (fun hck => ?_)
      · rw [if_pos hck] at hm2
        obtain ⟨G, hP, hG⟩ := i11
        refine gS 5 (⟨some (Is (a.get 11)), [(11, none)]⟩ :: _ :: _ :: _ :: _ :: []) hs (by kernel_rfl) ⟨ob1 rfl fun _ _ h n => ok_move rfl n.1, o1 [(14, none)] rfl fun _ _ h n => ok_fieldAddr rfl fo33_1 (at_Move_1 _) ((up i14 h n.1)).ptr, o1 [(94, some 1)] rfl fun _ _ h n => ok_load rfl ty3 n.1, o1 [(14, none)] rfl fun _ _ h n => ok_fieldAddr rfl fo33_3 (at_Move_3 _) ((up i14 h n.1)).ptr, o1 [(96, some 3)] rfl fun _ _ h n => ok_load rfl ty3 n.1, trivial⟩ W1 fun b q p => ?_
        have hgq := hg.then p.grow
        have hsb := p.size.trans hs
        have hPq := Rsc.grow hP p.grow
        have hns := Rsc.nsh hPq
        have jv : b.get 93 = a.get 11 := p.ou 0 93 rfl
        have jx0 := p.ou 2 95 rfl
        have jx1 := p.ou 4 97 rfl
        have l1 := p.ke 1 rfl i1
        have l2 := p.ke 2 rfl i2
        have l13 := p.ke 13 rfl i13
        refine tail_call (F := G) (i := 5) (d := 98) (R := PilW G q m2) rfl rfl rfl rfl (by rw [hsb]; decide) Try.call35 W1 (rTake_ok (show PilR 59 37 m G (b.get 93) q by rw [jv]; exact hPq) jx0 (isV_int.2 rfl) jx1 hm2) fun b2 q2 hsz hdf hoth hch hres => ?_
        have hle := hch.le hns
        obtain ⟨G2, hP2, hG2⟩ := hres
        refine tail_assign (i := 6) (d := 11) rfl rfl (.inl rfl) rfl (by rw [hsz, hsb]; decide) fun b3 hsz3 hdf3 e3 hoth3 => ?_
        refine tail_done (k := q2) (w1 _ _ ⟨⟨hgq.step hch hG, by rw [hsz3, hsz, hsb], by rw [hdf3, hdf, p.defers, hd]⟩, ?_, ?_, ⟨G2, by rw [e3]; exact hP2, fun c hc => (hG2 c hc).elim (hG c) (fun h => .inr (Nat.le_trans hgq.size h))⟩, ?_⟩)
        · rw [hoth3 1 (by decide), hoth 1 (by decide)]; exact Pers.pers hle l1
        · rw [hoth3 2 (by decide), hoth 2 (by decide)]; exact Pers.pers hle l2
        · rw [hoth3 13 (by decide), hoth 13 (by decide)]; exact Pers.pers hle l13
      rw [if_neg (by rw [hck]; decide)] at hm2
      obtain rfl := Option.some.inj hm2
      refine wp_skip ?_
      exact w1 _ _ ⟨⟨hg, hs, hd⟩, i1, i2, i11, i13⟩
    clear i1 i2 i11 i13 i53 hg hs hd
    rintro a k ⟨⟨hg, hs, hd⟩, i1, i2, i11, i13⟩
    obtain ⟨j2, hj2, hr⟩ := bind_some hr
    refine gS 3 (_ :: _ :: _ :: []) hs (by kernel_rfl) ⟨mu rfl i13, o1 [(54, some 0)] rfl fun _ _ h n => ok_add rfl n.1 (cI rfl) hj2, cp 1 rfl rfl, trivial⟩ hQ fun b q p => ?_
    exact tail_done (k := q) (hgo _ _ _ (Option.some.inj hr).symm ⟨Bs.post ⟨hg, hs, hd⟩ p, p.ke 1 rfl i1, p.ke 2 rfl i2, p.ke 11 rfl i11, p.ou 2 13 rfl⟩)
  · rintro _ _ _ _ h
    exact h.elim
  · rintro _ _ _ rfl _
    simp at hr
  clear hf2 i1 i2 i11 i13 hg hs hd
  rintro _ s a k rfl ⟨rfl, ⟨hg, hs, hd⟩, i2, i11⟩
  dsimp only at hr
  refine wp_seq ?_
  refine wp_seq ?_
  refine cut (fun a' k' => Bs noF k0 117 a' k' ∧ (IsV lot_) (a'.get 2) k' ∧ PilW noF k0 s.1 (a'.get 11) k' ∧ (IsV (0 : Int)) (a'.get 15) k') ?_ hQ ?_
  · intro Q3 W3 w3
    refine gS 1 (⟨some (IsI 0), []⟩ :: []) hs (by kernel_rfl) ⟨aI rfl rfl, trivial⟩ W3 fun b q p => ?_
    exact tail_done (k := q) (w3 _ _ ⟨Bs.post ⟨hg, hs, hd⟩ p, p.ke 2 rfl i2, p.ke 11 rfl i11, p.ou 0 15 rfl⟩)
  clear i2 i11 hg hs hd
  rintro a k ⟨⟨hg, hs, hd⟩, i2, i11, i15⟩
  refine wp_block ?_
  generalize s.1 = m at hr i11
  obtain ⟨f3, hf3, hr⟩ := bind_some hr
  refine cutFe f3 (fun s' c l => Bs noF k0 117 c l ∧ IsV lot_ (c.get 2) l ∧ PilW noF k0 m (c.get 11) l ∧ IsV s' (c.get 15) l) (fun i' s' c l => (i' = 5 ∧ Bs noF k0 117 c l)) (fun r' a' k' => bodyPost Try.prog Try.f24 (RetC noF k0 (IsTup2 (IsV r'.1) (IsV r'.2))) .ret a' k'.w) ?_ hQ ?_ ?_ ?_
  · intro Q5 W5 hgo hex hret
    refine sim_loop ?_ _ _ _ _ _ hf3 ⟨⟨hg, hs, hd⟩, i2, i11, i15⟩ Q5 W5 hgo hex hret
    clear hr hf3 hgo hex hret W5 hQ hg hs hd i11 i2 i15
    intro j fl_ a k hr hS Q hQ hgo hex hret
    obtain ⟨⟨hg, hs, hd⟩, i2, i11, i15⟩ := hS
    unfold rTrace_L2 at hr
    refine wp_seq ?_
    refine wp_seq ?_
    refine cut (fun c l => Bs noF k0 117 c l ∧ IsV lot_ (c.get 2) l ∧ PilW noF k0 m (c.get 11) l ∧ IsV j (c.get 15) l ∧ (IsV (decide (j < (m.length : Int)))) (c.get 102) l) ?_ hQ ?_
    · intro Q6 W6 w5
      obtain ⟨T, em, hT, _, _⟩ := i11.op
      subst em
      rw [List.length_map] at w5
      refine gS 4 (_ :: _ :: _ :: ⟨some (IsV (decide (j < (T.length : Int)))), [(99, some 0), (101, some 2)]⟩ :: []) hs (by kernel_rfl) ⟨mu rfl i15, mu rfl hT, o1 [(100, some 1)] rfl fun _ _ h n => ok_plen rfl rfl Try.underlying55 n.1, ob1 rfl fun _ _ h n => ok_lss rfl n.1 n.2.1, trivial⟩ W6 fun b q p => ?_
      exact tail_done (k := q) (w5 _ _ ⟨Bs.post ⟨hg, hs, hd⟩ p, p.ke 2 rfl i2, p.ke 11 rfl i11, p.ke 15 rfl i15, p.ou 3 102 rfl⟩)
    clear i2 i11 i15 hg hs hd
    rintro a k ⟨⟨hg, hs, hd⟩, i2, i11, i15, i102⟩
    refine wp_cond_split (isBool i102) (fun hc => ?_) (fun hc => ?_)
    rotate_left
    · rw [if_neg (by rw [hc]; decide)] at hr
      refine wp_exit ?_
      exact hex _ _ _ _ (Option.some.inj hr).symm ⟨rfl, ⟨hg, hs, hd⟩⟩
    rw [if_pos hc] at hr
    refine wp_skip ?_
    refine wp_seq ?_
    refine wp_block ?_
    obtain ⟨x, hx, hr⟩ := bind_some hr
    refine wp_seq ?_
    refine cut (fun c l => Bs noF k0 117 c l ∧ IsV lot_ (c.get 2) l ∧ PilW noF k0 m (c.get 11) l ∧ IsV j (c.get 15) l ∧ (IsV (x.1 == lot_)) (c.get 111) l) ?_ trivial ?_
    · intro Q6 W6 w5
      obtain ⟨T, em, hT, _, _⟩ := i11.op
      subst em
      obtain ⟨t, ht, rfl⟩ := getI_map' hx
      refine gS 7 (_ :: _ :: _ :: _ :: _ :: _ :: ⟨some (IsV ((cntP t).1 == lot_)), [(109, some 4), (110, some 5)]⟩ :: []) hs (by kernel_rfl) ⟨mu rfl hT, mu rfl i15, o1 [(105, some 0), (106, some 1)] rfl fun _ _ h n => ok_pidx rfl Try.underlying55 ty59 n.1 n.2.1 ht, o1 [(107, some 2)] rfl fun _ _ h n => ok_pfld0 rfl fo59_0 n.1, o1 [(108, some 3)] rfl fun _ _ h n => ok_load rfl ty3 n.1, mu rfl i2, ob1 rfl fun _ _ h n => ok_eqI rfl n.1 n.2.1, trivial⟩ W6 fun b q p => ?_
      exact tail_done (k := q) (w5 _ _ ⟨Bs.post ⟨hg, hs, hd⟩ p, p.ke 2 rfl i2, p.ke 11 rfl i11, p.ke 15 rfl i15, p.ou 6 111 rfl⟩)
    clear i2 i11 i15 i102 hg hs hd
    rintro a k ⟨⟨hg, hs, hd⟩, i2, i11, i15, i111⟩
    refine wp_cond_split (isBool i111) (fun hc2 => ?_) (fun hc2 => ?_)
    · rw [if_pos hc2] at hr
      obtain rfl := Option.some.inj hr
      refine wp_seq ?_
      refine cut (fun c l => bodyPost Try.prog Try.f24 (RetC noF k0 (IsTup2 (IsV x.2) (IsV (0 : Int)))) .ret c l.w) ?_ trivial ?_
      · intro Q6 W6 w5
        obtain ⟨T, em, hT, _, hFT⟩ := i11.op
        subst em
        obtain ⟨t, ht, rfl⟩ := getI_map' hx
        refine gS 7 (_ :: _ :: _ :: _ :: _ :: ⟨some (OwnAt t.2.1 0 37 t.2.2), [(116, some 4)]⟩ :: ⟨some (IsI 0), []⟩ :: []) hs (by kernel_rfl) ⟨mu rfl hT, mu rfl i15, o1 [(112, some 0), (113, some 1)] rfl fun _ _ h n => ok_pidx rfl Try.underlying55 ty59 n.1 n.2.1 ht, o1 [(114, some 2)] rfl fun _ _ h n => ok_pfld1 rfl fo59_1 n.1, o1 [(115, some 3)] rfl fun _ _ h n => ok_pload (e := 37) rfl ty29r n.1 ((Mono.mono h hT : Pt _ T _ _).own ht), ob1 rfl fun _ _ h n => ok_assign rfl n.1, aI rfl rfl, trivial⟩ W6 fun b q p => ?_
        have j6 : OwnAt t.2.1 0 37 t.2.2 (b.get 6) q := p.ou 5 6 rfl
        have j7 : IsV (0 : Int) (b.get 7) q := p.ou 6 7 rfl
        obtain ⟨q2, hh, hv⟩ := hand_own (F := obF (b.get 6)) ⟨rfl, j6.2⟩
        have hgq := (hg.then p.grow).hand hh (by rw [j6.1]; exact Wr.part hFT (getI_spec ht).2.1)
        have := retC2 (P := Try.prog) (fn := Try.f24) (F := noF) (k := k0) (a := b) (R := IsV t.2.2) (S := IsV (0 : Int)) rfl (p.defers.trans hd) hgq hv (isV_int.2 (isV_int.1 j7))
        rw [hh.w] at this
        exact tail_done (k := q) (w5 _ _ this)
      rintro a k h
      refine wp_ret ?_
      exact hret _ _ _ rfl h
    rw [if_neg (by rw [hc2]; decide)] at hr
    refine wp_skip ?_
    obtain ⟨j2, hj2, hr⟩ := bind_some hr
    refine gS 3 (_ :: _ :: _ :: []) hs (by kernel_rfl) ⟨mu rfl i15, o1 [(103, some 0)] rfl fun _ _ h n => ok_add rfl n.1 (cI rfl) hj2, cp 1 rfl rfl, trivial⟩ hQ fun b q p => ?_
    exact tail_done (k := q) (hgo _ _ _ (Option.some.inj hr).symm ⟨Bs.post ⟨hg, hs, hd⟩ p, p.ke 2 rfl i2, p.ke 11 rfl i11, p.ou 2 15 rfl⟩)
  · rintro r' a k rfl hR
    dsimp only at hr
    obtain rfl := Option.some.inj hr
    exact hR
  · rintro _ _ _ rfl _
    simp at hr
  clear hf3 i2 i11 i15 hg hs hd
  rintro _ s a k rfl ⟨rfl, ⟨hg, hs, hd⟩⟩
  dsimp only at hr
  obtain rfl := Option.some.inj hr
  refine cutL noF k0 117 [⟨6, IsV ([] : List (Int × Int))⟩, ⟨7, IsV (0 : Int)⟩] ?_ ?_
  · intro Q2 W2 w2
    refine gS 2 (⟨some IsE0, []⟩ :: ⟨some (IsI 0), []⟩ :: []) hs (by kernel_rfl) ⟨ob1 rfl fun b q h n => ok_assign rfl isE0_nil, aI rfl rfl, trivial⟩ W2 fun b q p => ?_
    have j6 : IsE0 (b.get 6) q := p.ou 0 6 rfl
    exact tail_done (k := q) (w2 _ _ ⟨Bs.post ⟨hg, hs, hd⟩ p, j6.isV, p.ou 1 7 rfl, trivial⟩)
  rintro a k ⟨⟨hg, hs, hd⟩, i6, i7, _⟩
  refine wp_ret ?_
  exact retC2 rfl hd hg i6 i7

def clone (s_ : (List Account)) : Option ((List Account)) :=
 (appI [] s_).bind fun x1 =>
 some x1
theorem clone_okO {k0 : K} {v0 : Value} {s_ : (List Account)} {r : (List Account)} (i0 : (IsV s_) v0 k0) (hr : clone s_ = some r) :
  Calls Try.prog 25 #[v0] k0.w (Ret k0 (IsOwn k0.w.heap.size 35 r)) := by
 unfold clone at hr
 refine Ret.ofC ?_
 refine enterK Try.func25 rfl Try.ntmps25 (show 1 ≤ 8 by decide) fun a k hk0 hs hd ha => ?_
 obtain ⟨e0, _⟩ := ha
 replace i0 : (IsV s_) (a.get 0) k := by rw [e0, hk0]; exact i0
 have hQ : Gb.LetsOut (bodyPost Try.prog Try.f25 (RetC noF k0 (IsOwn k0.w.heap.size 35 r))) := letsOutC
 have hg : Chg noF k0 k := by rw [hk0]; exact Chg.refl _ k0
 refine stepL 1 (⟨some IsE0, []⟩ :: []) rfl ⟨hg, hs, hd⟩ (by kernel_rfl) ⟨ob1 rfl fun b q h n => ok_assign rfl isE0_nil, trivial⟩ [⟨_, _⟩] (fun b q p => ⟨p.ke 0 rfl i0, trivial⟩) ?_
 rintro a k ⟨⟨hg, hs, hd⟩, i0, _⟩
 refine wp_seq ?_
 refine stepL 2 (_ :: ⟨some (IsNT s_), [(3, some 0)]⟩ :: []) rfl ⟨hg, hs, hd⟩ (by kernel_rfl) ⟨mu rfl i0, ob1 rfl fun _ _ h n => ok_eqNil rfl Try.underlying22 (IsV.rd n.1), trivial⟩ [⟨_, _⟩, ⟨_, _⟩] (fun b q p => ⟨p.ke 0 rfl i0, p.ou 1 4 rfl, trivial⟩) ?_
 rintro a k ⟨⟨hg, hs, hd⟩, i0, i4, _⟩
 obtain ⟨bb, hbb, hnil⟩ := i4
 refine wp_cond_split hbb (fun hc551 => ?_) (fun hc551 => ?_)
 ·replace hr : some ([] : List Account) = some r := by rw [hnil hc551] at hr; simpa [appI] using hr
  refine cutS (fun c l => Bs noF k0 8 c l ∧ IsOwn 0 35 ([] : List Account) (c.get 2) l ∧ Lo k0 (obF (c.get 2)) ∧ True) ?_ ?_
  ·intro Q1 W1 w1
   refine gS 1 (⟨some IsE0, []⟩ :: []) hs (by kernel_rfl) ⟨ob1 rfl fun b q h n => ok_assign rfl isE0_nil, trivial⟩ W1 fun b q p => ?_
   have hgq := hg.then p.grow
   have hsb := p.size.trans hs
   have hdb := p.defers.trans hd
   have j2 : IsE0 (b.get 2) q := p.ou 0 2 rfl
   have y2 : Lo k0 (obF (b.get 2)) := j2.lo
   replace j2 : IsOwn 0 35 ([] : List Account) (b.get 2) q := j2.own0
   exact tail_done (k := q) (w1 _ _ ⟨⟨hgq, hsb, hdb⟩, j2, y2, trivial⟩)
  rintro a k ⟨⟨hg, hs, hd⟩, i2, n2, _⟩
  refine wp_ret ?_
  obtain rfl := Option.some.inj hr
  exact retC1 rfl hd hg (show ResOk _ _ _ (.tmp 2) _ from IsOwn.raise (k0 := k0) i2 n2)
 ·skip
  refine wp_skip ?_
  refine wp_seq ?_
  obtain ⟨x1, hx1, hr⟩ := bind_some hr
  refine cut (fun a' k' => Bs noF k0 8 a' k' ∧ IsOwn 0 35 x1 (a'.get 2) k' ∧ Lo k0 (obF (a'.get 2)) ∧ True) ?_ hQ ?_
  ·intro Q2 W2 w2
   refine gS 4 (⟨some IsE0, []⟩ :: _ :: ⟨some (IsOwn k.w.heap.size 35 x1), [(5, some 0), (6, some 1)]⟩ :: _ :: []) hs (by kernel_rfl) ⟨ob1 rfl fun b q h n => ok_buildSlice0 rfl Try.underlying22 eo35, mu rfl i0, ob1 rfl fun _ _ h n => ok_append0 rfl Try.underlying22 eo35 h.size n.1 (IsV.rd n.2.1) hx1, cp 2 rfl rfl, trivial⟩ W2 fun b q p => ?_
   have hgq := hg.then p.grow
   have hsb := p.size.trans hs
   have hdb := p.defers.trans hd
   have j2 : (IsOwn k.w.heap.size 35 x1) (b.get 2) q := p.ou 3 2 rfl
   have x2 : Lo k (obF (b.get 2)) := j2.loF
   have y2 := x2.chg hg
   replace j2 := j2.weaken (Nat.zero_le _)
   exact tail_done (k := q) (w2 _ _ ⟨⟨hgq, hsb, hdb⟩, j2, y2, trivial⟩)
  rintro a k ⟨⟨hg, hs, hd⟩, i2, n2, _⟩
  refine wp_ret ?_
  obtain rfl := Option.some.inj hr
  exact retC1 rfl hd hg (show ResOk _ _ _ (.tmp 2) _ from IsOwn.raise (k0 := k0) i2 n2)
theorem clone_ok {k0 : K} {v0 : Value} {s_ : (List Account)} {r : (List Account)} (i0 : (IsV s_) v0 k0) (hr : clone s_ = some r) :
  Calls Try.prog 25 #[v0] k0.w (Ret k0 (IsV r)) :=
 ret_give (clone_okO i0 hr)
def cFind_L0 (l_ : (List Account)) (lot_ : Int) (s1 : Int) : Option (Flow (Int) ((Option Int))) :=
 if (decide (s1 < (l_.length : Int))) then
  (getI l_ s1).bind fun x1 =>
  if (x1.Lot == lot_) then
   (getI l_ s1).bind fun x2 =>
   some (.ret (some s1))
  else
   (addI s1 1).bind fun x3 =>
   some (.go x3)
 else
  some (.ex 0 s1)
def cFind (l_ : (List Account)) (lot_ : Int) : Option ((Option Int)) :=
 (iterL (cFind_L0 l_ lot_) (l_.length + 1) 0).bind fun f1 => match f1 with
  | .go _ => none
  | .ex _ _ =>
   some none
  | .ret r1 => some r1
theorem cFind_ok {k0 : K} {v0 v1 : Value} {l_ : (List Account)} {lot_ : Int} {r : (Option Int)} (i0 : (IsV l_) v0 k0) (i1 : (IsV lot_) v1 k0) (hr : cFind l_ lot_ = some r) :
  Calls Try.prog 30 #[v0, v1] k0.w (Ret k0 (IsEP v0 (Enc.sz Account) r)) := by
 unfold cFind at hr
 refine Ret.ofC ?_
 refine enterK Try.func30 rfl Try.ntmps30 (show 2 ≤ 22 by decide) fun a k hk0 hs hd ha => ?_
 obtain ⟨e0, e1, _⟩ := ha
 replace i0 : (IsV l_) (a.get 0) k := by rw [e0, hk0]; exact i0
 replace i1 : (IsV lot_) (a.get 1) k := by rw [e1, hk0]; exact i1
 have q0 := e0
 have hQ : Gb.LetsOut (bodyPost Try.prog Try.f30 (RetC noF k0 (IsEP v0 (Enc.sz Account) r))) := letsOutC
 have hg : Chg noF k0 k := by rw [hk0]; exact Chg.refl _ k0
 refine cutS (fun c l => Bs noF k0 22 c l ∧ c.get 0 = v0 ∧ IsV l_ (c.get 0) l ∧ IsV lot_ (c.get 1) l ∧ True) ?_ ?_
 ·intro Q1 W1 w1
  refine gS 1 (⟨some (IsEP v0 (Enc.sz Account) none), []⟩ :: []) hs (by kernel_rfl) ⟨ob1 rfl fun _ _ h n => ok_assign rfl (show IsEP _ _ none _ _ from rfl), trivial⟩ W1 fun b q p => ?_
  exact tail_done (k := q) (w1 _ _ ⟨Bs.post ⟨hg, hs, hd⟩ p, (p.old 0 rfl).trans q0, p.ke 0 rfl i0, p.ke 1 rfl i1, trivial⟩)
 rintro a k ⟨⟨hg, hs, hd⟩, q0, i0, i1, _⟩
 refine wp_seq ?_
 refine cutS (fun c l => Bs noF k0 22 c l ∧ c.get 0 = v0 ∧ IsV l_ (c.get 0) l ∧ IsV lot_ (c.get 1) l ∧ IsL l_ (c.get 7) l ∧ IsI 0 (c.get 8) l ∧ True) ?_ ?_
 ·intro Q2 W2 w2
  refine gS 3 (_ :: _ :: ⟨some (IsI 0), []⟩ :: []) hs (by kernel_rfl) ⟨mu rfl i0, o1 [(6, some 0)] rfl fun _ _ h n => ok_len rfl rfl Try.underlying22 (IsV.rd n.1), ob1 rfl fun _ _ h n => ok_move rfl (cI rfl), trivial⟩ W2 fun b q p => ?_
  exact tail_done (k := q) (w2 _ _ ⟨Bs.post ⟨hg, hs, hd⟩ p, (p.old 0 rfl).trans q0, p.ke 0 rfl i0, p.ke 1 rfl i1, p.ou 1 7 rfl, p.ou 2 8 rfl, trivial⟩)
 rintro a k ⟨⟨hg, hs, hd⟩, q0, i0, i1, i7, i8, _⟩
 refine wp_block ?_
 obtain ⟨f1, hf1, hr⟩ := bind_some hr
 refine cutFe f1 (fun s' c l => Bs noF k0 22 c l ∧ c.get 0 = v0 ∧ IsV l_ (c.get 0) l ∧ IsV lot_ (c.get 1) l ∧ IsL l_ (c.get 7) l ∧ IsV s' (c.get 8) l ∧ True) (fun i' s' c l => (i' = 0 ∧ Bs noF k0 22 c l ∧ True)) (fun r' c l => bodyPost Try.prog Try.f30 (RetC noF k0 (IsEP v0 (Enc.sz Account) r')) .ret c l.w) ?_ hQ ?_ ?_ ?_
 ·intro Q3 W3 hgo hex hret
  refine sim_loop ?_ _ _ _ _ _ hf1 ⟨⟨hg, hs, hd⟩, q0, i0, i1, i7, i8, trivial⟩ Q3 W3 hgo hex hret
  clear hr hf1 hgo hex hret W3 hQ hg hs hd i0 i1 i7 i8 q0
  intro s1 fl_ a k hr hS Q hQ hgo559 hex560 hret561
  obtain ⟨⟨hg, hs, hd⟩, q0, i0, i1, i7, i8, _⟩ := hS
  unfold cFind_L0 at hr
  refine cutS (fun c l => Bs noF k0 22 c l ∧ c.get 0 = v0 ∧ IsV l_ (c.get 0) l ∧ IsV lot_ (c.get 1) l ∧ IsL l_ (c.get 7) l ∧ IsV s1 (c.get 8) l ∧ (IsV (decide (s1 < (l_.length : Int)))) (c.get 9) l ∧ True) ?_ ?_
  ·intro Q4 W4 w3
   refine gS 1 (_ :: []) hs (by kernel_rfl) ⟨o1 [(8, none), (7, none)] rfl fun _ _ h n => ok_lss rfl (up i8 h n.1) (up i7 h n.2.1), trivial⟩ W4 fun b q p => ?_
   exact tail_done (k := q) (w3 _ _ ⟨Bs.post ⟨hg, hs, hd⟩ p, (p.old 0 rfl).trans q0, p.ke 0 rfl i0, p.ke 1 rfl i1, p.ke 7 rfl i7, p.ke 8 rfl i8, p.ou 0 9 rfl, trivial⟩)
  rintro a k ⟨⟨hg, hs, hd⟩, q0, i0, i1, i7, i8, i9, _⟩
  refine wp_seq ?_
  refine wp_cond_split (isBool i9) (fun hc576 => ?_) (fun hc576 => ?_)
  ·rw [if_pos hc576] at hr
   refine wp_skip ?_
   refine wp_seq ?_
   refine wp_block ?_
   refine cutS (fun c l => Bs noF k0 22 c l ∧ c.get 0 = v0 ∧ IsV l_ (c.get 0) l ∧ IsV lot_ (c.get 1) l ∧ IsV s1 (c.get 5) l ∧ IsL l_ (c.get 7) l ∧ IsV s1 (c.get 8) l ∧ True) ?_ ?_
   ·intro Q5 W5 w4
    refine gS 2 (_ :: _ :: []) hs (by kernel_rfl) ⟨mu rfl i8, cp 0 rfl rfl, trivial⟩ W5 fun b q p => ?_
    exact tail_done (k := q) (w4 _ _ ⟨Bs.post ⟨hg, hs, hd⟩ p, (p.old 0 rfl).trans q0, p.ke 0 rfl i0, p.ke 1 rfl i1, p.ou 1 5 rfl, p.ke 7 rfl i7, p.ke 8 rfl i8, trivial⟩)
   rintro a k ⟨⟨hg, hs, hd⟩, q0, i0, i1, i5, i7, i8, _⟩
   refine wp_seq ?_
   obtain ⟨x1, hx1, hr⟩ := bind_some hr
   refine cut (fun a' k' => Bs noF k0 22 a' k' ∧ a'.get 0 = v0 ∧ (IsV l_) (a'.get 0) k' ∧ (IsV lot_) (a'.get 1) k' ∧ (IsV s1) (a'.get 5) k' ∧ (IsL l_) (a'.get 7) k' ∧ (IsV s1) (a'.get 8) k' ∧ (IsV (x1.Lot == lot_)) (a'.get 17) k' ∧ True) ?_ hQ ?_
   ·intro Q6 W6 w5
    refine gS 7 (_ :: _ :: _ :: _ :: _ :: _ :: _ :: []) hs (by kernel_rfl) ⟨mu rfl i0, mu rfl i5, o1 [(11, some 0), (12, some 1)] rfl fun _ _ h n => ok_indexAddr rfl Try.underlying22 ty35 (IsV.rd n.1) n.2.1 hx1, o1 [(13, some 2)] rfl fun _ _ h n => ok_fieldAddr rfl fo35_0 (at_Account_0 _) n.1, o1 [(14, some 3)] rfl fun _ _ h n => ok_load rfl ty3 n.1, mu rfl i1, o1 [(15, some 4), (16, some 5)] rfl fun _ _ h n => ok_eqI rfl n.1 n.2.1, trivial⟩ W6 fun b q p => ?_
    exact tail_done (k := q) (w5 _ _ ⟨Bs.post ⟨hg, hs, hd⟩ p, (p.old 0 rfl).trans q0, p.ke 0 rfl i0, p.ke 1 rfl i1, p.ke 5 rfl i5, p.ke 7 rfl i7, p.ke 8 rfl i8, p.ou 6 17 rfl, trivial⟩)
   rintro a k ⟨⟨hg, hs, hd⟩, q0, i0, i1, i5, i7, i8, i17, _⟩
   refine wp_cond_split (isBool i17) (fun hc571 => ?_) (fun hc571 => ?_)
   ·rw [if_pos hc571] at hr
    refine wp_seq ?_
    obtain ⟨x2, hx2, hr⟩ := bind_some hr
    refine cut (fun a' k' => Bs noF k0 22 a' k' ∧ (IsEP v0 (Enc.sz Account) (some s1)) (a'.get 4) k' ∧ True) ?_ hQ ?_
    ·intro Q7 W7 w6
     refine gS 4 (⟨some (VAt v0 l_), [(0, none)]⟩ :: _ :: ⟨some (IsEP v0 (Enc.sz Account) (some s1)), [(18, some 0), (19, some 1)]⟩ :: _ :: []) hs (by kernel_rfl) ⟨ob1 rfl fun _ _ h n => ok_moveVA (.inl rfl) ⟨(n.1).trans q0, up i0 h n.1⟩, mu rfl i5, ob1 rfl fun _ _ h n => ok_indexEV rfl Try.underlying22 ty35 n.1 n.2.1 hx2, cp 2 rfl rfl, trivial⟩ W7 fun b q p => ?_
     exact tail_done (k := q) (w6 _ _ ⟨Bs.post ⟨hg, hs, hd⟩ p, p.ou 3 4 rfl, trivial⟩)
    rintro a k ⟨⟨hg, hs, hd⟩, i4, _⟩
    refine wp_ret ?_
    exact hret561 _ _ _ (Option.some.inj hr).symm (retC1 rfl hd hg i4)
   rw [if_neg (by rw [hc571]; decide)] at hr
   refine wp_skip ?_
   obtain ⟨x3, hx3, hr⟩ := bind_some hr
   refine cut (fun a' k' => Bs noF k0 22 a' k' ∧ a'.get 0 = v0 ∧ (IsV l_) (a'.get 0) k' ∧ (IsV lot_) (a'.get 1) k' ∧ (IsL l_) (a'.get 7) k' ∧ (IsV x3) (a'.get 8) k' ∧ True) ?_ hQ ?_
   ·intro Q8 W8 w7
    refine gS 2 (_ :: _ :: []) hs (by kernel_rfl) ⟨o1 [(8, none)] rfl fun _ _ h n => ok_add rfl (up i8 h n.1) (cI rfl) hx3, cm 0 rfl rfl, trivial⟩ W8 fun b q p => ?_
    exact tail_done (k := q) (w7 _ _ ⟨Bs.post ⟨hg, hs, hd⟩ p, (p.old 0 rfl).trans q0, p.ke 0 rfl i0, p.ke 1 rfl i1, p.ke 7 rfl i7, p.ou 1 8 rfl, trivial⟩)
   rintro a k ⟨⟨hg, hs, hd⟩, q0, i0, i1, i7, i8, _⟩
   exact hgo559 _ _ _ (Option.some.inj hr).symm ⟨⟨hg, hs, hd⟩, q0, i0, i1, i7, i8, trivial⟩
  rw [if_neg (by rw [hc576]; decide)] at hr
  refine wp_exit ?_
  exact hex560 _ _ _ _ (Option.some.inj hr).symm ⟨rfl, ⟨hg, hs, hd⟩, trivial⟩
 ·rintro r1 a k rfl hR
  dsimp only at hr
  obtain rfl := Option.some.inj hr
  exact hR
 ·rintro _ _ _ rfl _
  simp at hr
 clear hf1
 rintro _ s2 a k rfl ⟨rfl, ⟨hg, hs, hd⟩, _⟩
 dsimp only at hr
 refine stepL 1 (⟨some (IsEP v0 (Enc.sz Account) none), []⟩ :: []) rfl ⟨hg, hs, hd⟩ (by kernel_rfl) ⟨ob1 rfl fun _ _ h n => ok_assign rfl (show IsEP _ _ none _ _ from rfl), trivial⟩ [⟨_, _⟩] (fun b q p => ⟨p.ou 0 4 rfl, trivial⟩) ?_
 rintro a k ⟨⟨hg, hs, hd⟩, i4, _⟩
 refine wp_ret ?_
 obtain rfl := Option.some.inj hr
 exact retC1 rfl hd hg i4
def cUnits (l_ : (List Account)) (lot_ : Int) : Option (Int) :=
 (cFind l_ lot_).bind fun x1 =>
 if (x1.isSome) then
  (atI l_ x1).bind fun x2 =>
  some x2.Units
 else
  some 0
theorem cUnits_ok {k0 : K} {v0 v1 : Value} {l_ : (List Account)} {lot_ : Int} {r : Int} (i0 : (IsV l_) v0 k0) (i1 : (IsV lot_) v1 k0) (hr : cUnits l_ lot_ = some r) :
  Calls Try.prog 19 #[v0, v1] k0.w (Ret k0 (IsV r)) := by
 unfold cUnits at hr
 refine Ret.ofC ?_
 refine enterK Try.func19 rfl Try.ntmps19 (show 2 ≤ 15 by decide) fun a k hk0 hs hd ha => ?_
 obtain ⟨e0, e1, _⟩ := ha
 replace i0 : (IsV l_) (a.get 0) k := by rw [e0, hk0]; exact i0
 replace i1 : (IsV lot_) (a.get 1) k := by rw [e1, hk0]; exact i1
 have q0 := e0
 have hQ : Gb.LetsOut (bodyPost Try.prog Try.f19 (RetC noF k0 (IsV r))) := letsOutC
 have hg : Chg noF k0 k := by rw [hk0]; exact Chg.refl _ k0
 refine cutS (fun c l => Bs noF k0 15 c l ∧ c.get 0 = v0 ∧ IsV l_ (c.get 0) l ∧ IsV lot_ (c.get 1) l ∧ True) ?_ ?_
 ·intro Q1 W1 w1
  refine gS 1 (⟨some (IsI 0), []⟩ :: []) hs (by kernel_rfl) ⟨aI rfl rfl, trivial⟩ W1 fun b q p => ?_
  exact tail_done (k := q) (w1 _ _ ⟨Bs.post ⟨hg, hs, hd⟩ p, (p.old 0 rfl).trans q0, p.ke 0 rfl i0, p.ke 1 rfl i1, trivial⟩)
 rintro a k ⟨⟨hg, hs, hd⟩, q0, i0, i1, _⟩
 refine wp_seq ?_
 refine wp_seq ?_
 obtain ⟨x1, hx1, hr⟩ := bind_some hr
 refine cut (fun a' k' => Bs noF k0 15 a' k' ∧ a'.get 0 = v0 ∧ (IsV l_) (a'.get 0) k' ∧ (IsEP v0 (Enc.sz Account) x1) (a'.get 5) k' ∧ True) ?_ hQ ?_
 ·intro Q2 W2 w2
  refine gS 4 (⟨some (VAt v0 l_), [(0, none)]⟩ :: _ :: _ :: _ :: []) hs (by kernel_rfl) ⟨ob1 rfl fun _ _ h n => ok_moveVA (.inl rfl) ⟨(n.1).trans q0, up i0 h n.1⟩, mu rfl i1, o1 [(6, some 0), (7, some 1)] rfl fun _ _ h n => ok_call rfl Try.call30 (ret_ep (cFind_ok (n.1).2 n.2.1 hx1) (n.1).1), cp 2 rfl rfl, trivial⟩ W2 fun b q p => ?_
  exact tail_done (k := q) (w2 _ _ ⟨Bs.post ⟨hg, hs, hd⟩ p, (p.old 0 rfl).trans q0, p.ke 0 rfl i0, p.ou 3 5 rfl, trivial⟩)
 rintro a k ⟨⟨hg, hs, hd⟩, q0, i0, i5, _⟩
 refine cutS (fun c l => Bs noF k0 15 c l ∧ c.get 0 = v0 ∧ IsV l_ (c.get 0) l ∧ IsEP v0 (Enc.sz Account) x1 (c.get 5) l ∧ IsV (x1.isSome) (c.get 10) l ∧ True) ?_ ?_
 ·intro Q3 W3 w3
  refine gS 2 (_ :: ⟨some (IsV (x1.isSome)), [(9, some 0)]⟩ :: []) hs (by kernel_rfl) ⟨mu rfl i5, ob1 rfl fun _ _ h n => ok_neEP rfl Try.underlying52 n.1, trivial⟩ W3 fun b q p => ?_
  exact tail_done (k := q) (w3 _ _ ⟨Bs.post ⟨hg, hs, hd⟩ p, (p.old 0 rfl).trans q0, p.ke 0 rfl i0, p.ke 5 rfl i5, p.ou 1 10 rfl, trivial⟩)
 rintro a k ⟨⟨hg, hs, hd⟩, q0, i0, i5, i10, _⟩
 refine wp_cond_split (isBool i10) (fun hc599 => ?_) (fun hc599 => ?_)
 ·rw [if_pos hc599] at hr
  refine wp_seq ?_
  obtain ⟨x2, hx2, hr⟩ := bind_some hr
  refine cut (fun a' k' => Bs noF k0 15 a' k' ∧ (IsV x2.Units) (a'.get 4) k' ∧ True) ?_ hQ ?_
  ·intro Q4 W4 w4
   refine gS 5 (_ :: ⟨some (IsPtr x2), [(11, some 0)]⟩ :: _ :: _ :: _ :: []) hs (by kernel_rfl) ⟨mu rfl i5, ob1 rfl fun _ _ h n => ok_nilCheckP rfl n.1 (rdV i0 h q0) hx2, o1 [(12, some 1)] rfl fun _ _ h n => ok_fieldAddr rfl fo35_1 (at_Account_1 _) n.1, o1 [(13, some 2)] rfl fun _ _ h n => ok_load rfl ty3 n.1, cp 3 rfl rfl, trivial⟩ W4 fun b q p => ?_
   exact tail_done (k := q) (w4 _ _ ⟨Bs.post ⟨hg, hs, hd⟩ p, p.ou 4 4 rfl, trivial⟩)
  rintro a k ⟨⟨hg, hs, hd⟩, i4, _⟩
  refine wp_ret ?_
  obtain rfl := Option.some.inj hr
  exact retC1 rfl hd hg i4
 rw [if_neg (by rw [hc599]; decide)] at hr
 refine wp_skip ?_
 refine stepL 1 (⟨some (IsI 0), []⟩ :: []) rfl ⟨hg, hs, hd⟩ (by kernel_rfl) ⟨aI rfl rfl, trivial⟩ [⟨_, _⟩] (fun b q p => ⟨p.ou 0 4 rfl, trivial⟩) ?_
 rintro a k ⟨⟨hg, hs, hd⟩, i4, _⟩
 refine wp_ret ?_
 obtain rfl := Option.some.inj hr
 exact retC1 rfl hd hg i4
def cOpen_L0 (l_ : (List Account)) (m_ : Move) (s1 : Int) : Option (Flow (Int) ((List Account) × Int)) :=
 (if (decide (s1 < (l_.length : Int))) then
  (getI l_ s1).bind fun x1 =>
  some (decide (x1.Lot < m_.To))
 else
  some false).bind fun x2 =>
 if x2 then
  (addI s1 1).bind fun x3 =>
  some (.go x3)
 else
  some (.ex 0 s1)
def cOpen (l_ : (List Account)) (m_ : Move) : Option ((List Account) × Int) :=
 (cFind l_ m_.To).bind fun x1 =>
 if (x1.isSome) then
  some (([] : List Account), 5)
 else
  if (decide (20000 ≤ (l_.length : Int))) then
   some (([] : List Account), 6)
  else
   (iterL (cOpen_L0 l_ m_) (l_.length + 1) 0).bind fun f1 => match f1 with
    | .go _ => none
    | .ex _ s1 =>
     (insertA l_ s1 ([(⟨m_.To, m_.N, (m_.From == 1)⟩ : Account)])).bind fun x2 =>
     some (x2, 0)
    | .ret r1 => some r1
theorem cOpen_ok {k0 : K} {v0 v1 : Value} {l_ : (List Account)} {m_ : Move} {r : (List Account) × Int} (i0 : (IsOwn 0 35 l_) v0 k0) (i1 : (IsV m_) v1 k0) (hr : cOpen l_ m_ = some r) :
  Calls Try.prog 29 #[v0, v1] k0.w (RetC (obF v0) k0 (IsTup2 (IsV r.1) (IsV r.2))) := by
 unfold cOpen at hr
 refine enterK Try.func29 rfl Try.ntmps29 (show 2 ≤ 43 by decide) fun a k hk0 hs hd ha => ?_
 obtain ⟨e0, e1, _⟩ := ha
 replace i0 : (IsOwn 0 35 l_) (a.get 0) k := by rw [e0, hk0]; exact i0
 replace i1 : (IsV m_) (a.get 1) k := by rw [e1, hk0]; exact i1
 have n0 : Wr (obF v0) k0 (obF (a.get 0)) := fun b h => .inl (by rwa [e0] at h)
 have hQ : Gb.LetsOut (bodyPost Try.prog Try.f29 (RetC (obF v0) k0 (IsTup2 (IsV r.1) (IsV r.2)))) := letsOutC
 have hg : Chg (obF v0) k0 k := by rw [hk0]; exact Chg.refl _ k0
 refine cutS (fun c l => Bs (obF v0) k0 43 c l ∧ IsOwn 0 35 l_ (c.get 0) l ∧ Wr (obF v0) k0 (obF (c.get 0)) ∧ IsRef m_ (c.get 3) l ∧ True) ?_ ?_
 ·intro Q1 W1 w1
  refine gS 3 (⟨some (IsRef m_), [(1, none)]⟩ :: ⟨some IsE0, []⟩ :: ⟨some (IsI 0), []⟩ :: []) hs (by kernel_rfl) ⟨ob1 rfl fun _ _ h n => ok_boxR rfl (up i1 h n.1), ob1 rfl fun b q h n => ok_assign rfl isE0_nil, aI rfl rfl, trivial⟩ W1 fun b q p => ?_
  exact tail_done (k := q) (w1 _ _ ⟨Bs.post ⟨hg, hs, hd⟩ p, p.ke 0 rfl i0, (by rw [p.old 0 rfl]; exact n0), p.ou 0 3 rfl, trivial⟩)
 rintro a k ⟨⟨hg, hs, hd⟩, i0, n0, i3, _⟩
 refine wp_seq ?_
 refine wp_seq ?_
 obtain ⟨u607, q0⟩ : ∃ u, a.get 0 = u := ⟨_, rfl⟩
 obtain ⟨x1, hx1, hr⟩ := bind_some hr
 refine cut (fun a' k' => Bs (obF v0) k0 43 a' k' ∧ a'.get 0 = u607 ∧ IsOwn 0 35 l_ (a'.get 0) k' ∧ Wr (obF v0) k0 (obF (a'.get 0)) ∧ (IsRef m_) (a'.get 3) k' ∧ (IsV (x1.isSome)) (a'.get 11) k' ∧ True) ?_ hQ ?_
 ·intro Q2 W2 w2
  refine gS 5 (⟨some (OwnAt (a.get 0) 0 35 l_), [(0, none)]⟩ :: _ :: _ :: _ :: ⟨some (IsV (x1.isSome)), [(10, some 3)]⟩ :: []) hs (by kernel_rfl) ⟨ob1 rfl fun _ _ h n => ok_moveOA (.inl rfl) (ownAt n.1 (up i0 h n.1)), o1 [(3, none)] rfl fun _ _ h n => ok_fieldAddr rfl fo33_2 (at_Move_2 _) ((up i3 h n.1)).ptr, o1 [(8, some 1)] rfl fun _ _ h n => ok_load rfl ty3 n.1, o1 [(7, some 0), (9, some 2)] rfl fun _ _ h n => ok_call rfl Try.call30 (ret_ep (by obtain ⟨kb9, hb9, hv9⟩ := IsOwn.give (n.1).2; exact borrow hb9 (cFind_ok hv9 (Pers.pers hb9.le n.2.1) hx1)) ((n.1).1.trans q0)), ob1 rfl fun _ _ h n => ok_neEP rfl Try.underlying52 n.1, trivial⟩ W2 fun b q p => ?_
  exact tail_done (k := q) (w2 _ _ ⟨Bs.post ⟨hg, hs, hd⟩ p, (p.old 0 rfl).trans q0, p.ke 0 rfl i0, (by rw [p.old 0 rfl]; exact n0), p.ke 3 rfl i3, p.ou 4 11 rfl, trivial⟩)
 rintro a k ⟨⟨hg, hs, hd⟩, q0, i0, n0, i3, i11, _⟩
 refine wp_cond_split (isBool i11) (fun hc641 => ?_) (fun hc641 => ?_)
 ·rw [if_pos hc641] at hr
  refine cutS (fun c l => Bs (obF v0) k0 43 c l ∧ IsV ([] : List Account) (c.get 4) l ∧ IsI 5 (c.get 5) l ∧ True) ?_ ?_
  ·intro Q3 W3 w3
   refine gS 2 (⟨some IsE0, []⟩ :: ⟨some (IsI 5), []⟩ :: []) hs (by kernel_rfl) ⟨ob1 rfl fun b q h n => ok_assign rfl isE0_nil, aI rfl rfl, trivial⟩ W3 fun b q p => ?_
   have hgq := hg.then p.grow
   have hsb := p.size.trans hs
   have hdb := p.defers.trans hd
   have j4 : IsE0 (b.get 4) q := p.ou 0 4 rfl
   have j5 : (IsI 5) (b.get 5) q := p.ou 1 5 rfl
   replace j4 : IsV ([] : List Account) (b.get 4) q := j4.isV
   exact tail_done (k := q) (w3 _ _ ⟨⟨hgq, hsb, hdb⟩, j4, j5, trivial⟩)
  rintro a k ⟨⟨hg, hs, hd⟩, i4, i5, _⟩
  refine wp_ret ?_
  obtain rfl := Option.some.inj hr
  exact retC2 rfl hd hg i4 i5
 rw [if_neg (by rw [hc641]; decide)] at hr
 refine wp_skip ?_
 refine wp_seq ?_
 refine cutS (fun c l => Bs (obF v0) k0 43 c l ∧ c.get 0 = u607 ∧ IsOwn 0 35 l_ (c.get 0) l ∧ Wr (obF v0) k0 (obF (c.get 0)) ∧ IsRef m_ (c.get 3) l ∧ (IsV (decide (20000 ≤ (l_.length : Int)))) (c.get 14) l ∧ True) ?_ ?_
 ·intro Q4 W4 w4
  refine gS 3 (⟨some (OwnAt (a.get 0) 0 35 l_), [(0, none)]⟩ :: _ :: _ :: []) hs (by kernel_rfl) ⟨ob1 rfl fun _ _ h n => ok_moveOA (.inl rfl) (ownAt n.1 (up i0 h n.1)), o1 [(12, some 0)] rfl fun _ _ h n => ok_len rfl rfl Try.underlying22 (IsOwn.rd (n.1).2), o1 [(13, some 1)] rfl fun _ _ h n => ok_geq rfl n.1 (cI rfl), trivial⟩ W4 fun b q p => ?_
  exact tail_done (k := q) (w4 _ _ ⟨Bs.post ⟨hg, hs, hd⟩ p, (p.old 0 rfl).trans q0, p.ke 0 rfl i0, (by rw [p.old 0 rfl]; exact n0), p.ke 3 rfl i3, p.ou 2 14 rfl, trivial⟩)
 rintro a k ⟨⟨hg, hs, hd⟩, q0, i0, n0, i3, i14, _⟩
 refine wp_cond_split (isBool i14) (fun hc638 => ?_) (fun hc638 => ?_)
 ·rw [if_pos hc638] at hr
  refine cutS (fun c l => Bs (obF v0) k0 43 c l ∧ IsV ([] : List Account) (c.get 4) l ∧ IsI 6 (c.get 5) l ∧ True) ?_ ?_
  ·intro Q5 W5 w5
   refine gS 2 (⟨some IsE0, []⟩ :: ⟨some (IsI 6), []⟩ :: []) hs (by kernel_rfl) ⟨ob1 rfl fun b q h n => ok_assign rfl isE0_nil, aI rfl rfl, trivial⟩ W5 fun b q p => ?_
   have hgq := hg.then p.grow
   have hsb := p.size.trans hs
   have hdb := p.defers.trans hd
   have j4 : IsE0 (b.get 4) q := p.ou 0 4 rfl
   have j5 : (IsI 6) (b.get 5) q := p.ou 1 5 rfl
   replace j4 : IsV ([] : List Account) (b.get 4) q := j4.isV
   exact tail_done (k := q) (w5 _ _ ⟨⟨hgq, hsb, hdb⟩, j4, j5, trivial⟩)
  rintro a k ⟨⟨hg, hs, hd⟩, i4, i5, _⟩
  refine wp_ret ?_
  obtain rfl := Option.some.inj hr
  exact retC2 rfl hd hg i4 i5
 rw [if_neg (by rw [hc638]; decide)] at hr
 refine wp_skip ?_
 refine cutS (fun c l => Bs (obF v0) k0 43 c l ∧ c.get 0 = u607 ∧ IsOwn 0 35 l_ (c.get 0) l ∧ Wr (obF v0) k0 (obF (c.get 0)) ∧ IsRef m_ (c.get 3) l ∧ IsI 0 (c.get 6) l ∧ True) ?_ ?_
 ·intro Q6 W6 w6
  refine gS 1 (⟨some (IsI 0), []⟩ :: []) hs (by kernel_rfl) ⟨aI rfl rfl, trivial⟩ W6 fun b q p => ?_
  exact tail_done (k := q) (w6 _ _ ⟨Bs.post ⟨hg, hs, hd⟩ p, (p.old 0 rfl).trans q0, p.ke 0 rfl i0, (by rw [p.old 0 rfl]; exact n0), p.ke 3 rfl i3, p.ou 0 6 rfl, trivial⟩)
 rintro a k ⟨⟨hg, hs, hd⟩, q0, i0, n0, i3, i6, _⟩
 refine wp_seq ?_
 refine wp_block ?_
 obtain ⟨f1, hf1, hr⟩ := bind_some hr
 refine cutFe f1 (fun s' c l => Bs (obF v0) k0 43 c l ∧ c.get 0 = u607 ∧ IsOwn 0 35 l_ (c.get 0) l ∧ Wr (obF v0) k0 (obF (c.get 0)) ∧ IsRef m_ (c.get 3) l ∧ IsV s' (c.get 6) l ∧ True) (fun i' s' c l => (i' = 0 ∧ Bs (obF v0) k0 43 c l ∧ c.get 0 = u607 ∧ IsOwn 0 35 l_ (c.get 0) l ∧ Wr (obF v0) k0 (obF (c.get 0)) ∧ IsRef m_ (c.get 3) l ∧ IsV s' (c.get 6) l ∧ True)) (fun r' c l => bodyPost Try.prog Try.f29 (RetC (obF v0) k0 (IsTup2 (IsV r'.1) (IsV r'.2))) .ret c l.w) ?_ hQ ?_ ?_ ?_
 ·intro Q7 W7 hgo hex hret
  refine sim_loop ?_ _ _ _ _ _ hf1 ⟨⟨hg, hs, hd⟩, q0, i0, n0, i3, i6, trivial⟩ Q7 W7 hgo hex hret
  clear hr hf1 hgo hex hret W7 hQ hg hs hd i0 i3 i6 n0 q0
  intro s1 fl_ a k hr hS Q hQ hgo618 hex619 hret620
  obtain ⟨⟨hg, hs, hd⟩, q0, i0, n0, i3, i6, _⟩ := hS
  unfold cOpen_L0 at hr
  refine wp_seq ?_
  refine wp_seq ?_
  obtain ⟨x2, hx2, hr⟩ := bind_some hr
  obtain ⟨x3, hx3, hx2⟩ := ite_bind hx2
  refine cut (fun a' k' => Bs (obF v0) k0 43 a' k' ∧ a'.get 0 = u607 ∧ IsOwn 0 35 l_ (a'.get 0) k' ∧ Wr (obF v0) k0 (obF (a'.get 0)) ∧ (IsRef m_) (a'.get 3) k' ∧ (IsV s1) (a'.get 6) k' ∧ (IsV x2) (a'.get 28) k' ∧ True) ?_ hQ ?_
  ·intro Q8 W8 w7
   refine region (m := 14) (_ :: ⟨some (OwnAt (a.get 0) 0 35 l_), [(0, none)]⟩ :: _ :: _ :: _ :: ⟨some (Gd ((decide (s1 < (l_.length : Int))) = true) (OwnAt (a.get 0) 0 35 l_)), [(0, none)]⟩ :: _ :: _ :: _ :: _ :: _ :: _ :: _ :: _ :: []) hmix hs (by kernel_rfl) ⟨mu rfl i6, ob1 rfl fun _ _ h n => ok_moveOA (.inl rfl) (ownAt n.1 (up i0 h n.1)), o1 [(16, some 1)] rfl fun _ _ h n => ok_len rfl rfl Try.underlying22 (IsOwn.rd (n.1).2), o1 [(15, some 0), (17, some 2)] rfl fun _ _ h n => ok_lss rfl n.1 n.2.1, cm 3 rfl rfl, gdT rfl rfl fun hp _ _ h n => ok_moveOA (.inl rfl) (ownAt n.1 (up i0 h n.1)), mT rfl rfl i6, gT [(20, some 5), (21, some 6)] rfl rfl fun hp _ _ h n => ok_indexAddr rfl Try.underlying22 ty35 (IsOwn.rd ((Gd.get n.1 hp)).2) (Gd.get n.2.1 hp) (hx3 hp), gT [(22, some 7)] rfl rfl fun hp _ _ h n => ok_fieldAddr rfl fo35_0 (at_Account_0 _) (Gd.get n.1 hp), gT [(23, some 8)] rfl rfl fun hp _ _ h n => ok_load rfl ty3 (Gd.get n.1 hp), gT [(3, none)] rfl rfl fun hp _ _ h n => ok_fieldAddr rfl fo33_2 (at_Move_2 _) ((up i3 h n.1)).ptr, gT [(25, some 10)] rfl rfl fun hp _ _ h n => ok_load rfl ty3 (Gd.get n.1 hp), gT [(24, some 9), (26, some 11)] rfl rfl fun hp _ _ h n => ok_lss rfl (Gd.get n.1 hp) (Gd.get n.2.1 hp), o1 [(19, some 4), (27, some 12)] rfl fun _ _ h n => ok_pickM rfl n.1 hx2 (Gd.get n.2.1) (cB rfl), trivial⟩ W8 fun b q p => ?_
   exact tail_done (k := q) (w7 _ _ ⟨Bs.post ⟨hg, hs, hd⟩ p, (p.old 0 rfl).trans q0, p.ke 0 rfl i0, (by rw [p.old 0 rfl]; exact n0), p.ke 3 rfl i3, p.ke 6 rfl i6, p.ou 13 28 rfl, trivial⟩)
  rintro a k ⟨⟨hg, hs, hd⟩, q0, i0, n0, i3, i6, i28, _⟩
  refine wp_cond_split (isBool i28) (fun hc625 => ?_) (fun hc625 => ?_)
  ·rw [if_pos hc625] at hr
   refine wp_skip ?_
   refine wp_block ?_
   obtain ⟨x4, hx4, hr⟩ := bind_some hr
   refine cut (fun a' k' => Bs (obF v0) k0 43 a' k' ∧ a'.get 0 = u607 ∧ IsOwn 0 35 l_ (a'.get 0) k' ∧ Wr (obF v0) k0 (obF (a'.get 0)) ∧ (IsRef m_) (a'.get 3) k' ∧ (IsV x4) (a'.get 6) k' ∧ True) ?_ hQ ?_
   ·intro Q9 W9 w8
    refine gS 3 (_ :: _ :: _ :: []) hs (by kernel_rfl) ⟨mu rfl i6, o1 [(29, some 0)] rfl fun _ _ h n => ok_add rfl n.1 (cI rfl) hx4, cp 1 rfl rfl, trivial⟩ W9 fun b q p => ?_
    exact tail_done (k := q) (w8 _ _ ⟨Bs.post ⟨hg, hs, hd⟩ p, (p.old 0 rfl).trans q0, p.ke 0 rfl i0, (by rw [p.old 0 rfl]; exact n0), p.ke 3 rfl i3, p.ou 2 6 rfl, trivial⟩)
   rintro a k ⟨⟨hg, hs, hd⟩, q0, i0, n0, i3, i6, _⟩
   exact hgo618 _ _ _ (Option.some.inj hr).symm ⟨⟨hg, hs, hd⟩, q0, i0, n0, i3, i6, trivial⟩
  rw [if_neg (by rw [hc625]; decide)] at hr
  refine wp_exit ?_
  exact hex619 _ _ _ _ (Option.some.inj hr).symm ⟨rfl, ⟨hg, hs, hd⟩, q0, i0, n0, i3, i6, trivial⟩
 ·rintro r1 a k rfl hR
  dsimp only at hr
  obtain rfl := Option.some.inj hr
  exact hR
 ·rintro _ _ _ rfl _
  simp at hr
 clear hf1
 rintro _ s2 a k rfl ⟨rfl, ⟨hg, hs, hd⟩, q0, i0, n0, i3, i6, _⟩
 dsimp only at hr
 refine wp_seq ?_
 obtain ⟨x5, hx5, hr⟩ := bind_some hr
 refine cut (fun a' k' => Bs (obF v0) k0 43 a' k' ∧ IsOwn 0 35 x5 (a'.get 4) k' ∧ Wr (obF v0) k0 (obF (a'.get 4)) ∧ (IsI 0) (a'.get 5) k' ∧ True) ?_ hQ ?_
 ·intro Q10 W10 w9
  refine gS 11 (⟨some (OwnAt (a.get 0) 0 35 l_), [(0, none)]⟩ :: _ :: _ :: _ :: _ :: _ :: _ :: _ :: _ :: ⟨some (IsV (⟨m_.To, m_.N, (m_.From == 1)⟩ : Account)), [(34, some 3), (36, some 5), (39, some 8)]⟩ :: ⟨some (IsOwn k.w.heap.size 35 ([(⟨m_.To, m_.N, (m_.From == 1)⟩ : Account)])), [(40, some 9)]⟩ :: []) hs (by kernel_rfl) ⟨ob1 rfl fun _ _ h n => ok_moveOA (.inl rfl) (ownAt n.1 (up i0 h n.1)), mu rfl i6, o1 [(3, none)] rfl fun _ _ h n => ok_fieldAddr rfl fo33_2 (at_Move_2 _) ((up i3 h n.1)).ptr, o1 [(33, some 2)] rfl fun _ _ h n => ok_load rfl ty3 n.1, o1 [(3, none)] rfl fun _ _ h n => ok_fieldAddr rfl fo33_3 (at_Move_3 _) ((up i3 h n.1)).ptr, o1 [(35, some 4)] rfl fun _ _ h n => ok_load rfl ty3 n.1, o1 [(3, none)] rfl fun _ _ h n => ok_fieldAddr rfl fo33_1 (at_Move_1 _) ((up i3 h n.1)).ptr, o1 [(37, some 6)] rfl fun _ _ h n => ok_load rfl ty3 n.1, o1 [(38, some 7)] rfl fun _ _ h n => ok_eqI rfl n.1 (cI rfl), ob1 rfl fun _ _ h n => ok_build rfl (bld35_0_1_2 n.1 n.2.1 n.2.2.1), ob1 rfl fun _ _ h n => ok_buildSliceO rfl Try.underlying22 eo35 h.size rfl (by decide) (by decide) ⟨rfl, n.1, trivial⟩, trivial⟩ W10 fun b q p => ?_
  have hgq := hg.then p.grow
  have hsb := p.size.trans hs
  have hdb := p.defers.trans hd
  have e31 : b.get 31 = a.get 0 := (p.ou 0 31 rfl).1
  have j31 : IsOwn 0 35 l_ (b.get 31) q := (p.ou 0 31 rfl).2
  have y31 : Wr (obF v0) k0 (obF (b.get 31)) := by rw [e31]; exact n0
  have j32 : (IsV s2) (b.get 32) q := p.ou 1 32 rfl
  have j41 : (IsOwn k.w.heap.size 35 ([(⟨m_.To, m_.N, (m_.From == 1)⟩ : Account)])) (b.get 41) q := p.ou 10 41 rfl
  have x41 : Lo k (obF (b.get 41)) := j41.loF
  have y41 := x41.chg hg
  replace j41 := j41.weaken (Nat.zero_le _)
  have w31_41 : Apart (obF (b.get 31)) (obF (b.get 41)) := Apart.new (by rw [e31]; exact i0.ltF) x41
  have hns := j31.nshF
  refine tail_call (F := obF (b.get 31)) (i := 11) (d := 42) rfl rfl rfl rfl (by rw [hsb]; decide) Try.call36 W10 (insertA_ok j31 j32 j41 w31_41 hx5) fun b2 q2 hsz hdf hoth hch hres => ?_
  have hle := hch.le hns
  obtain ⟨hown, hob⟩ := hres
  have yn : Wr (obF v0) k0 (obF (b2.get 42)) := y31.app hgq hob
  have v41 : Apart (obF (b.get 41)) (obF (b2.get 42)) := Apart.app (w31_41.symm) j41.ltF hob
  replace j32 := Pers.pers hle j32
  replace j41 := j41.keep hch (w31_41.symm) hns
  replace hgq := hgq.step hch y31
  rw [← hoth 32 (by decide)] at j32
  rw [← hoth 41 (by decide)] at j41
  rw [← hoth 41 (by decide)] at y41
  rw [← hoth 41 (by decide)] at v41
  have w41_42 := v41
  have j42 := hown
  have y42 := yn
  have hres := True.intro
  clear hown hob yn
  replace hsb := hsz.trans hsb
  replace hdb := hdf.trans hdb
  clear hle hch hres hns hsz hdf hoth
  obtain ⟨b, hbb⟩ : ∃ b, b = b2 := ⟨b2, rfl⟩
  subst hbb
  obtain ⟨q, hqq⟩ : ∃ q, q = q2 := ⟨q2, rfl⟩
  subst hqq
  refine tail_assign (i := 12) (d := 4) rfl rfl (.inl rfl) rfl (by rw [hsb]; decide) fun b2 hsz hdf hnew hoth => ?_
  have jn : (IsOwn 0 35 x5) (b2.get 4) q := by rw [hnew]; exact j42
  have yn : Wr (obF v0) k0 (obF (b2.get 4)) := by rw [hnew]; exact y42
  have v41 : Apart (obF (b.get 41)) (obF (b2.get 4)) := by rw [hnew]; exact w41_42
  rw [← hoth 32 (by decide)] at j32
  rw [← hoth 41 (by decide)] at j41
  rw [← hoth 41 (by decide)] at y41
  rw [← hoth 41 (by decide)] at v41
  have w4_41 := v41.symm
  have j4 := jn
  have y4 := yn
  replace hsb := hsz.trans hsb
  replace hdb := hdf.trans hdb
  clear hsz hdf hoth
  obtain ⟨b, hbb⟩ : ∃ b, b = b2 := ⟨b2, rfl⟩
  subst hbb
  refine tail_assign (i := 13) (d := 5) rfl rfl (.inl rfl) rfl (by rw [hsb]; decide) fun b2 hsz hdf hnew hoth => ?_
  have jn : (IsI 0) (b2.get 5) q := by rw [hnew]; exact (isV_int.2 rfl)
  rw [← hoth 4 (by decide)] at j4
  rw [← hoth 4 (by decide)] at y4
  rw [← hoth 32 (by decide)] at j32
  rw [← hoth 41 (by decide)] at j41
  rw [← hoth 41 (by decide)] at y41
  rw [← hoth 4 (by decide), ← hoth 41 (by decide)] at w4_41
  have j5 := jn
  replace hsb := hsz.trans hsb
  replace hdb := hdf.trans hdb
  clear hsz hdf hoth
  obtain ⟨b, hbb⟩ : ∃ b, b = b2 := ⟨b2, rfl⟩
  subst hbb
  exact tail_done (k := q) (w9 _ _ ⟨⟨hgq, hsb, hdb⟩, j4, y4, j5, trivial⟩)
 rintro a k ⟨⟨hg, hs, hd⟩, i4, n4, i5, _⟩
 refine wp_ret ?_
 obtain ⟨kk, sh631, ii4⟩ := i4.give
 replace i5 := Pers.pers sh631.le i5
 replace i4 := ii4
 replace hg := hg.hand sh631 n4
 rw [← sh631.w]
 clear sh631
 obtain ⟨k, hkk⟩ : ∃ k, k = kk := ⟨kk, rfl⟩
 subst hkk
 obtain rfl := Option.some.inj hr
 exact retC2 rfl hd hg i4 i5
end Go.Proofs.Ytbanncpkgbiklaa
