/- What the functions compute that the law reaches, part 3 -/
import Derived.Test.YtmniloampanhfaaGreatT2
namespace Go.Proofs.YtmniloampanhfaaGreat
open Go.Gb
set_option linter.unusedVariables false
set_option linter.unusedSimpArgs false
set_option maxRecDepth 100000
def solid_combine_L0 (a_ : (List Slab)) (b_ : (List Slab)) (op_ : ((List Rect) → (List Rect) → Option ((List Rect) × Int))) (x1 : (List Int)) (s1 : (List Slab) × Int) : Option (Flow ((List Slab) × Int) ((List Slab) × Int)) :=
 if (decide (s1.2 < (x1.length : Int))) then
  (subI s1.2 1).bind fun x2 =>
  (getI x1 x2).bind fun x3 =>
  (solid_at a_ x3).bind fun x4 =>
  (subI s1.2 1).bind fun x5 =>
  (getI x1 x5).bind fun x6 =>
  (solid_at b_ x6).bind fun x7 =>
  (op_ x4 x7).bind fun x8 =>
  if (x8.2 != 0) then
   some (.ret (([] : List Slab), x8.2))
  else
   (subI s1.2 1).bind fun x9 =>
   (getI x1 x9).bind fun x10 =>
   (getI x1 s1.2).bind fun x11 =>
   (solid_put s1.1 (⟨x10, x11, x8.1⟩ : Slab)).bind fun x12 =>
   (addI s1.2 1).bind fun x13 =>
   some (.go (x12, x13))
 else
  some (.ex 0 (s1.1, s1.2))
def solid_combine (a_ : (List Slab)) (b_ : (List Slab)) (op_ : ((List Rect) → (List Rect) → Option ((List Rect) × Int))) : Option ((List Slab) × Int) :=
 (solid_Right a_).bind fun x1 =>
 (if (!x1) then
  some true
 else
  (solid_Right b_).bind fun x2 =>
  some (!x2)).bind fun x3 =>
 if x3 then
  some (([] : List Slab), 1)
 else
  (solid_heights ([a_, b_])).bind fun x4 =>
  (iterL (solid_combine_L0 a_ b_ op_ x4) (a_.length + b_.length + x4.length + ([] : List Slab).length + 1) (([] : List Slab), 1)).bind fun f1 => match f1 with
   | .go _ => none
   | .ex _ s1 =>
    (solid_fits s1.1).bind fun x5 =>
    some (x5.1, x5.2)
   | .ret r1 => some r1
theorem solid_combine_ok {k0 : K} {v0 v1 v2 : Value} {a_ : (List Slab)} {b_ : (List Slab)} {op_ : ((List Rect) → (List Rect) → Option ((List Rect) × Int))} {r : (List Slab) × Int} (i0 : (IsV a_) v0 k0) (i1 : (IsV b_) v1 k0) (i2 : (IsFn2T Tryz.prog op_) v2 k0) (hr : solid_combine a_ b_ op_ = some r) :
  Calls Tryz.prog 44 #[v0, v1, v2] k0.w (Ret k0 (IsTup2 (IsV r.1) (IsV r.2))) := by
 unfold solid_combine at hr
 refine Ret.ofC ?_
 refine enterK Tryz.func44 rfl Tryz.ntmps44 (show 3 ≤ 70 by decide) fun a k hk0 hs hd ha => ?_
 obtain ⟨e0, e1, e2, _⟩ := ha
 replace i0 : (IsV a_) (a.get 0) k := by rw [e0, hk0]; exact i0
 replace i1 : (IsV b_) (a.get 1) k := by rw [e1, hk0]; exact i1
 replace i2 : (IsFn2T Tryz.prog op_) (a.get 2) k := by rw [e2, hk0]; exact i2
 have hQ : Gb.LetsOut (bodyPost Tryz.prog Tryz.f44 (RetC noF k0 (IsTup2 (IsV r.1) (IsV r.2)))) := letsOutC
 have hg : Chg noF k0 k := by rw [hk0]; exact Chg.refl _ k0
 refine stepL 2 (⟨some IsE0, []⟩ :: ⟨some (IsI 0), []⟩ :: []) rfl ⟨hg, hs, hd⟩ (by kernel_rfl) ⟨ob1 rfl fun b q h n => ok_assign rfl isE0_nil, aI rfl rfl, trivial⟩ [⟨_, _⟩, ⟨_, _⟩, ⟨_, _⟩] (fun b q p => ⟨p.ke 0 rfl i0, p.ke 1 rfl i1, p.ke 2 rfl i2, trivial⟩) ?_
 rintro a k ⟨⟨hg, hs, hd⟩, i0, i1, i2, _⟩
 refine wp_seq ?_
 refine wp_seq ?_
 obtain ⟨x1, hx1, hr⟩ := bind_some hr
 obtain ⟨x2, hx2, hr⟩ := bind_some hr
 obtain ⟨x3, hx3, hx2⟩ := ite_bindF hx2
 refine cut (fun a' k' => Bs noF k0 70 a' k' ∧ (IsV a_) (a'.get 0) k' ∧ (IsV b_) (a'.get 1) k' ∧ (IsFn2T Tryz.prog op_) (a'.get 2) k' ∧ (IsV x2) (a'.get 20) k' ∧ True) ?_ hQ ?_
 ·intro Q1 W1 w1
  refine gS 8 (_ :: _ :: _ :: _ :: _ :: _ :: _ :: _ :: []) hs (by kernel_rfl) ⟨mu rfl i0, o1 [(13, some 0)] rfl fun _ _ h n => ok_call rfl Tryz.call19 (solid_Right_ok n.1 hx1), o1 [(14, some 1)] rfl fun _ _ h n => ok_not rfl n.1, cm 2 rfl rfl, mF rfl rfl i1, gF [(17, some 4)] rfl rfl fun hp _ _ h n => ok_call rfl Tryz.call19 (solid_Right_ok (Gd.get n.1 hp) (hx3 hp)), gF [(18, some 5)] rfl rfl fun hp _ _ h n => ok_not rfl (Gd.get n.1 hp), o1 [(16, some 3), (19, some 6)] rfl fun _ _ h n => ok_pickM rfl n.1 hx2 (cB rfl) (Gd.get n.2.1), trivial⟩ W1 fun b q p => ?_
  exact tail_done (k := q) (w1 _ _ ⟨Bs.post ⟨hg, hs, hd⟩ p, p.ke 0 rfl i0, p.ke 1 rfl i1, p.ke 2 rfl i2, p.ou 7 20 rfl, trivial⟩)
 rintro a k ⟨⟨hg, hs, hd⟩, i0, i1, i2, i20, _⟩
 refine wp_cond_split (isBool i20) (fun hc865 => ?_) (fun hc865 => ?_)
 ·rw [if_pos hc865] at hr
  refine cutL noF k0 70 [⟨6, IsV ([] : List Slab)⟩, ⟨7, IsI 1⟩] ?_ ?_
  ·intro Q2 W2 w2
   refine gS 2 (⟨some IsE0, []⟩ :: ⟨some (IsI 1), []⟩ :: []) hs (by kernel_rfl) ⟨ob1 rfl fun b q h n => ok_assign rfl isE0_nil, aI rfl rfl, trivial⟩ W2 fun b q p => ?_
   have hgq := hg.then p.grow
   have hsb := p.size.trans hs
   have hdb := p.defers.trans hd
   have j6 : IsE0 (b.get 6) q := p.ou 0 6 rfl
   have j7 : (IsI 1) (b.get 7) q := p.ou 1 7 rfl
   replace j6 : IsV ([] : List Slab) (b.get 6) q := j6.isV
   exact tail_done (k := q) (w2 _ _ ⟨⟨hgq, hsb, hdb⟩, j6, j7, trivial⟩)
  rintro a k ⟨⟨hg, hs, hd⟩, i6, i7, _⟩
  refine wp_ret ?_
  obtain rfl := Option.some.inj hr
  exact retC2 rfl hd hg i6 i7
 rw [if_neg (by rw [hc865]; decide)] at hr
 refine wp_skip ?_
 refine wp_seq ?_
 obtain ⟨x4, hx4, hr⟩ := bind_some hr
 refine cut (fun a' k' => Bs noF k0 70 a' k' ∧ (IsV a_) (a'.get 0) k' ∧ (IsV b_) (a'.get 1) k' ∧ (IsFn2T Tryz.prog op_) (a'.get 2) k' ∧ (IsV x4) (a'.get 8) k' ∧ True) ?_ hQ ?_
 ·intro Q3 W3 w3
  refine gS 5 (_ :: _ :: ⟨some (IsV (α := (List (List Slab))) ([a_, b_])), [(21, some 0), (22, some 1)]⟩ :: _ :: _ :: []) hs (by kernel_rfl) ⟨mu rfl i0, mu rfl i1, ob1 rfl fun _ _ h n => ok_buildSlice rfl Tryz.underlying70 eo22 rfl (by decide) (by decide) ⟨rfl, n.1, rfl, n.2.1, trivial⟩, o1 [(23, some 2)] rfl fun _ _ h n => ok_call rfl Tryz.call34 (solid_heights_ok n.1 hx4), cp 3 rfl rfl, trivial⟩ W3 fun b q p => ?_
  exact tail_done (k := q) (w3 _ _ ⟨Bs.post ⟨hg, hs, hd⟩ p, p.ke 0 rfl i0, p.ke 1 rfl i1, p.ke 2 rfl i2, p.ou 4 8 rfl, trivial⟩)
 rintro a k ⟨⟨hg, hs, hd⟩, i0, i1, i2, i8, _⟩
 refine cutS (fun c l => Bs noF k0 70 c l ∧ IsV a_ (c.get 0) l ∧ IsV b_ (c.get 1) l ∧ IsFn2T Tryz.prog op_ (c.get 2) l ∧ IsV x4 (c.get 8) l ∧ IsOwn 0 40 ([] : List Slab) (c.get 9) l ∧ Lo k0 (obF (c.get 9)) ∧ True) ?_ ?_
 ·intro Q4 W4 w4
  refine gS 1 (⟨some IsE0, []⟩ :: []) hs (by kernel_rfl) ⟨ob1 rfl fun b q h n => ok_assign rfl isE0_nil, trivial⟩ W4 fun b q p => ?_
  have hgq := hg.then p.grow
  have hsb := p.size.trans hs
  have hdb := p.defers.trans hd
  have j0 := p.ke 0 rfl i0
  have j1 := p.ke 1 rfl i1
  have j2 := p.ke 2 rfl i2
  have j8 := p.ke 8 rfl i8
  have j9 : IsE0 (b.get 9) q := p.ou 0 9 rfl
  have y9 : Lo k0 (obF (b.get 9)) := j9.lo
  replace j9 : IsOwn 0 40 ([] : List Slab) (b.get 9) q := j9.own0
  exact tail_done (k := q) (w4 _ _ ⟨⟨hgq, hsb, hdb⟩, j0, j1, j2, j8, j9, y9, trivial⟩)
 rintro a k ⟨⟨hg, hs, hd⟩, i0, i1, i2, i8, i9, n9, _⟩
 refine wp_seq ?_
 refine cutS (fun c l => Bs noF k0 70 c l ∧ IsV a_ (c.get 0) l ∧ IsV b_ (c.get 1) l ∧ IsFn2T Tryz.prog op_ (c.get 2) l ∧ IsV x4 (c.get 8) l ∧ IsOwn 0 40 ([] : List Slab) (c.get 9) l ∧ Lo k0 (obF (c.get 9)) ∧ IsI 1 (c.get 10) l ∧ True) ?_ ?_
 ·intro Q5 W5 w5
  refine gS 1 (⟨some (IsI 1), []⟩ :: []) hs (by kernel_rfl) ⟨aI rfl rfl, trivial⟩ W5 fun b q p => ?_
  exact tail_done (k := q) (w5 _ _ ⟨Bs.post ⟨hg, hs, hd⟩ p, p.ke 0 rfl i0, p.ke 1 rfl i1, p.ke 2 rfl i2, p.ke 8 rfl i8, p.ke 9 rfl i9, (by rw [p.old 9 rfl]; exact n9), p.ou 0 10 rfl, trivial⟩)
 rintro a k ⟨⟨hg, hs, hd⟩, i0, i1, i2, i8, i9, n9, i10, _⟩
 refine wp_block ?_
 obtain ⟨f1, hf1, hr⟩ := bind_some hr
 refine cutFe f1 (fun s' c l => Bs noF k0 70 c l ∧ IsV a_ (c.get 0) l ∧ IsV b_ (c.get 1) l ∧ IsFn2T Tryz.prog op_ (c.get 2) l ∧ IsV x4 (c.get 8) l ∧ IsOwn 0 40 s'.1 (c.get 9) l ∧ Lo k0 (obF (c.get 9)) ∧ IsV s'.2 (c.get 10) l ∧ True) (fun i' s' c l => (i' = 0 ∧ Bs noF k0 70 c l ∧ IsV s'.1 (c.get 9) l ∧ True)) (fun r' c l => bodyPost Tryz.prog Tryz.f44 (RetC noF k0 (IsTup2 (IsV r'.1) (IsV r'.2))) .ret c l.w) ?_ hQ ?_ ?_ ?_
 ·intro Q6 W6 hgo hex hret
  refine sim_loop ?_ _ _ _ _ _ hf1 ⟨⟨hg, hs, hd⟩, i0, i1, i2, i8, i9, n9, i10, trivial⟩ Q6 W6 hgo hex hret
  clear hr hf1 hgo hex hret W6 hQ hg hs hd i0 i1 i10 i2 i8 i9 n9
  intro s1 fl_ a k hr hS Q hQ hgo828 hex829 hret830
  obtain ⟨⟨hg, hs, hd⟩, i0, i1, i2, i8, i9, n9, i10, _⟩ := hS
  unfold solid_combine_L0 at hr
  refine wp_seq ?_
  refine cutS (fun c l => Bs noF k0 70 c l ∧ IsV a_ (c.get 0) l ∧ IsV b_ (c.get 1) l ∧ IsFn2T Tryz.prog op_ (c.get 2) l ∧ IsV x4 (c.get 8) l ∧ IsOwn 0 40 s1.1 (c.get 9) l ∧ Lo k0 (obF (c.get 9)) ∧ IsV s1.2 (c.get 10) l ∧ (IsV (decide (s1.2 < (x4.length : Int)))) (c.get 28) l ∧ True) ?_ ?_
  ·intro Q7 W7 w6
   refine gS 4 (_ :: _ :: _ :: _ :: []) hs (by kernel_rfl) ⟨mu rfl i10, mu rfl i8, o1 [(26, some 1)] rfl fun _ _ h n => ok_len rfl rfl Tryz.underlying50 (IsV.rd n.1), o1 [(25, some 0), (27, some 2)] rfl fun _ _ h n => ok_lss rfl n.1 n.2.1, trivial⟩ W7 fun b q p => ?_
   exact tail_done (k := q) (w6 _ _ ⟨Bs.post ⟨hg, hs, hd⟩ p, p.ke 0 rfl i0, p.ke 1 rfl i1, p.ke 2 rfl i2, p.ke 8 rfl i8, p.ke 9 rfl i9, (by rw [p.old 9 rfl]; exact n9), p.ke 10 rfl i10, p.ou 3 28 rfl, trivial⟩)
  rintro a k ⟨⟨hg, hs, hd⟩, i0, i1, i2, i8, i9, n9, i10, i28, _⟩
  refine wp_cond_split (isBool i28) (fun hc849 => ?_) (fun hc849 => ?_)
  ·rw [if_pos hc849] at hr
   refine wp_skip ?_
   refine wp_seq ?_
   refine wp_block ?_
   refine wp_seq ?_
   obtain ⟨x5, hx5, hr⟩ := bind_some hr
   obtain ⟨x6, hx6, hr⟩ := bind_some hr
   obtain ⟨x7, hx7, hr⟩ := bind_some hr
   obtain ⟨x8, hx8, hr⟩ := bind_some hr
   obtain ⟨x9, hx9, hr⟩ := bind_some hr
   obtain ⟨x10, hx10, hr⟩ := bind_some hr
   obtain ⟨x11, hx11, hr⟩ := bind_some hr
   refine cut (fun a' k' => Bs noF k0 70 a' k' ∧ (IsV a_) (a'.get 0) k' ∧ (IsV b_) (a'.get 1) k' ∧ (IsFn2T Tryz.prog op_) (a'.get 2) k' ∧ (IsV x4) (a'.get 8) k' ∧ IsOwn 0 40 s1.1 (a'.get 9) k' ∧ Lo k0 (obF (a'.get 9)) ∧ (IsV s1.2) (a'.get 10) k' ∧ (IsV x11.1) (a'.get 11) k' ∧ (IsV x11.2) (a'.get 12) k' ∧ True) ?_ hQ ?_
   ·intro Q8 W8 w7
    refine region (m := 21) (_ :: _ :: _ :: _ :: _ :: _ :: _ :: _ :: _ :: _ :: _ :: _ :: _ :: _ :: _ :: ⟨some (IsTup2 (IsV x11.1) (IsV x11.2)), [(32, some 0), (39, some 7), (46, some 14)]⟩ :: _ :: _ :: _ :: _ :: _ :: []) hmix hs (by kernel_rfl) ⟨mu rfl i2, mu rfl i0, mu rfl i8, mu rfl i10, o1 [(35, some 3)] rfl fun _ _ h n => ok_sub rfl n.1 (cI rfl) hx5, o1 [(34, some 2), (36, some 4)] rfl fun _ _ h n => ok_indexAddr rfl Tryz.underlying50 ty3 (IsV.rd n.1) n.2.1 hx6, o1 [(37, some 5)] rfl fun _ _ h n => ok_load rfl ty3 n.1, o1 [(33, some 1), (38, some 6)] rfl fun _ _ h n => ok_call rfl Tryz.call52 (solid_at_ok n.1 n.2.1 hx7), mu rfl i1, mu rfl i8, mu rfl i10, o1 [(42, some 10)] rfl fun _ _ h n => ok_sub rfl n.1 (cI rfl) hx8, o1 [(41, some 9), (43, some 11)] rfl fun _ _ h n => ok_indexAddr rfl Tryz.underlying50 ty3 (IsV.rd n.1) n.2.1 hx9, o1 [(44, some 12)] rfl fun _ _ h n => ok_load rfl ty3 n.1, o1 [(40, some 8), (45, some 13)] rfl fun _ _ h n => ok_call rfl Tryz.call52 (solid_at_ok n.1 n.2.1 hx10), ob1 rfl fun _ _ h n => ok_callF2T rfl n.1 n.2.1 n.2.2.1 hx11, cm 15 rfl rfl, o1 [(31, some 16)] rfl fun _ _ h n => ok_ext2_0 rfl n.1, o1 [(31, some 16)] rfl fun _ _ h n => ok_ext2_1 rfl n.1, cp 17 rfl rfl, cp 18 rfl rfl, trivial⟩ W8 fun b q p => ?_
    exact tail_done (k := q) (w7 _ _ ⟨Bs.post ⟨hg, hs, hd⟩ p, p.ke 0 rfl i0, p.ke 1 rfl i1, p.ke 2 rfl i2, p.ke 8 rfl i8, p.ke 9 rfl i9, (by rw [p.old 9 rfl]; exact n9), p.ke 10 rfl i10, p.ou 19 11 rfl, p.ou 20 12 rfl, trivial⟩)
   rintro a k ⟨⟨hg, hs, hd⟩, i0, i1, i2, i8, i9, n9, i10, i11, i12, _⟩
   refine wp_seq ?_
   refine cutS (fun c l => Bs noF k0 70 c l ∧ IsV a_ (c.get 0) l ∧ IsV b_ (c.get 1) l ∧ IsFn2T Tryz.prog op_ (c.get 2) l ∧ IsV x4 (c.get 8) l ∧ IsOwn 0 40 s1.1 (c.get 9) l ∧ Lo k0 (obF (c.get 9)) ∧ IsV s1.2 (c.get 10) l ∧ IsV x11.1 (c.get 11) l ∧ IsV x11.2 (c.get 12) l ∧ IsV (x11.2 != 0) (c.get 51) l ∧ True) ?_ ?_
   ·intro Q9 W9 w8
    refine gS 2 (_ :: ⟨some (IsV (x11.2 != 0)), [(50, some 0)]⟩ :: []) hs (by kernel_rfl) ⟨mu rfl i12, ob1 rfl fun _ _ h n => ok_neI rfl n.1 (cI rfl), trivial⟩ W9 fun b q p => ?_
    exact tail_done (k := q) (w8 _ _ ⟨Bs.post ⟨hg, hs, hd⟩ p, p.ke 0 rfl i0, p.ke 1 rfl i1, p.ke 2 rfl i2, p.ke 8 rfl i8, p.ke 9 rfl i9, (by rw [p.old 9 rfl]; exact n9), p.ke 10 rfl i10, p.ke 11 rfl i11, p.ke 12 rfl i12, p.ou 1 51 rfl, trivial⟩)
   rintro a k ⟨⟨hg, hs, hd⟩, i0, i1, i2, i8, i9, n9, i10, i11, i12, i51, _⟩
   refine wp_cond_split (isBool i51) (fun hc843 => ?_) (fun hc843 => ?_)
   ·rw [if_pos hc843] at hr
    refine cutL noF k0 70 [⟨6, IsV ([] : List Slab)⟩, ⟨7, IsV x11.2⟩] ?_ ?_
    ·intro Q10 W10 w9
     refine gS 3 (_ :: ⟨some IsE0, []⟩ :: _ :: []) hs (by kernel_rfl) ⟨mu rfl i12, ob1 rfl fun b q h n => ok_assign rfl isE0_nil, cp 0 rfl rfl, trivial⟩ W10 fun b q p => ?_
     have hgq := hg.then p.grow
     have hsb := p.size.trans hs
     have hdb := p.defers.trans hd
     have j6 : IsE0 (b.get 6) q := p.ou 1 6 rfl
     have j7 : (IsV x11.2) (b.get 7) q := p.ou 2 7 rfl
     replace j6 : IsV ([] : List Slab) (b.get 6) q := j6.isV
     exact tail_done (k := q) (w9 _ _ ⟨⟨hgq, hsb, hdb⟩, j6, j7, trivial⟩)
    rintro a k ⟨⟨hg, hs, hd⟩, i6, i7, _⟩
    refine wp_ret ?_
    exact hret830 _ _ _ (Option.some.inj hr).symm (retC2 rfl hd hg i6 i7)
   rw [if_neg (by rw [hc843]; decide)] at hr
   refine wp_skip ?_
   obtain ⟨x12, hx12, hr⟩ := bind_some hr
   obtain ⟨x13, hx13, hr⟩ := bind_some hr
   obtain ⟨x14, hx14, hr⟩ := bind_some hr
   obtain ⟨x15, hx15, hr⟩ := bind_some hr
   refine cut (fun a' k' => Bs noF k0 70 a' k' ∧ (IsV a_) (a'.get 0) k' ∧ (IsV b_) (a'.get 1) k' ∧ (IsFn2T Tryz.prog op_) (a'.get 2) k' ∧ (IsV x4) (a'.get 8) k' ∧ IsOwn 0 40 x15 (a'.get 9) k' ∧ Lo k0 (obF (a'.get 9)) ∧ (IsV s1.2) (a'.get 10) k' ∧ True) ?_ hQ ?_
   ·intro Q11 W11 w10
    refine region (m := 12) (⟨some (OwnAt (a.get 9) 0 40 s1.1), [(9, none)]⟩ :: _ :: _ :: _ :: _ :: _ :: _ :: _ :: _ :: _ :: _ :: ⟨some (IsV (⟨x13, x14, x11.1⟩ : Slab)), [(58, some 5), (62, some 9), (63, some 10)]⟩ :: []) hmix hs (by kernel_rfl) ⟨ob1 rfl fun _ _ h n => ok_moveOA (.inl rfl) (ownAt n.1 (up i9 h n.1)), mu rfl i8, mu rfl i10, o1 [(55, some 2)] rfl fun _ _ h n => ok_sub rfl n.1 (cI rfl) hx12, o1 [(54, some 1), (56, some 3)] rfl fun _ _ h n => ok_indexAddr rfl Tryz.underlying50 ty3 (IsV.rd n.1) n.2.1 hx13, o1 [(57, some 4)] rfl fun _ _ h n => ok_load rfl ty3 n.1, mu rfl i8, mu rfl i10, o1 [(59, some 6), (60, some 7)] rfl fun _ _ h n => ok_indexAddr rfl Tryz.underlying50 ty3 (IsV.rd n.1) n.2.1 hx14, o1 [(61, some 8)] rfl fun _ _ h n => ok_load rfl ty3 n.1, mu rfl i11, ob1 rfl fun _ _ h n => ok_build rfl (bld40_0_1_2 n.1 n.2.1 n.2.2.1), trivial⟩ W11 fun b q p => ?_
    have hgq := hg.then p.grow
    have hsb := p.size.trans hs
    have hdb := p.defers.trans hd
    have j0 := p.ke 0 rfl i0
    have j1 := p.ke 1 rfl i1
    have j2 := p.ke 2 rfl i2
    have j8 := p.ke 8 rfl i8
    have j10 := p.ke 10 rfl i10
    have e53 : b.get 53 = a.get 9 := (p.ou 0 53 rfl).1
    have j53 : IsOwn 0 40 s1.1 (b.get 53) q := (p.ou 0 53 rfl).2
    have y53 : Lo k0 (obF (b.get 53)) := by rw [e53]; exact n9
    have j64 : (IsV (⟨x13, x14, x11.1⟩ : Slab)) (b.get 64) q := p.ou 11 64 rfl
    have hns := j53.nshF
    refine tail_call (F := obF (b.get 53)) (i := 12) (d := 65) rfl rfl rfl rfl (by rw [hsb]; decide) Tryz.call36 W11 (solid_put_ok j53 j64 hx15) fun b2 q2 hsz hdf hoth hch hres => ?_
    have hle := hch.le hns
    obtain ⟨hown, hob⟩ := hres
    have yn : Lo k0 (obF (b2.get 65)) := y53.app hgq hob
    replace j0 := Pers.pers hle j0
    replace j1 := Pers.pers hle j1
    replace j2 := Pers.pers hle j2
    replace j8 := Pers.pers hle j8
    replace j10 := Pers.pers hle j10
    replace j64 := Pers.pers hle j64
    replace hgq := hgq.step hch y53.wr
    rw [← hoth 0 (by decide)] at j0
    rw [← hoth 1 (by decide)] at j1
    rw [← hoth 2 (by decide)] at j2
    rw [← hoth 8 (by decide)] at j8
    rw [← hoth 10 (by decide)] at j10
    rw [← hoth 64 (by decide)] at j64
    have j65 := hown
    have y65 := yn
    have hres := True.intro
    clear hown hob yn
    replace hsb := hsz.trans hsb
    replace hdb := hdf.trans hdb
    clear hle hch hres hns hsz hdf hoth
    obtain ⟨b, hbb⟩ : ∃ b, b = b2 := ⟨b2, rfl⟩
    subst hbb
    obtain ⟨q, hqq⟩ : ∃ q, q = q2 := ⟨q2, rfl⟩
    subst hqq
    refine tail_assign (i := 13) (d := 9) rfl rfl (.inl rfl) rfl (by rw [hsb]; decide) fun b2 hsz hdf hnew hoth => ?_
    have jn : (IsOwn 0 40 x15) (b2.get 9) q := by rw [hnew]; exact j65
    have yn : Lo k0 (obF (b2.get 9)) := by rw [hnew]; exact y65
    rw [← hoth 0 (by decide)] at j0
    rw [← hoth 1 (by decide)] at j1
    rw [← hoth 2 (by decide)] at j2
    rw [← hoth 8 (by decide)] at j8
    rw [← hoth 10 (by decide)] at j10
    rw [← hoth 64 (by decide)] at j64
    have j9 := jn
    have y9 := yn
    replace hsb := hsz.trans hsb
    replace hdb := hdf.trans hdb
    clear hsz hdf hoth
    obtain ⟨b, hbb⟩ : ∃ b, b = b2 := ⟨b2, rfl⟩
    subst hbb
    exact tail_done (k := q) (w10 _ _ ⟨⟨hgq, hsb, hdb⟩, j0, j1, j2, j8, j9, y9, j10, trivial⟩)
   rintro a k ⟨⟨hg, hs, hd⟩, i0, i1, i2, i8, i9, n9, i10, _⟩
   obtain ⟨x16, hx16, hr⟩ := bind_some hr
   refine cut (fun a' k' => Bs noF k0 70 a' k' ∧ (IsV a_) (a'.get 0) k' ∧ (IsV b_) (a'.get 1) k' ∧ (IsFn2T Tryz.prog op_) (a'.get 2) k' ∧ (IsV x4) (a'.get 8) k' ∧ IsOwn 0 40 x15 (a'.get 9) k' ∧ Lo k0 (obF (a'.get 9)) ∧ (IsV x16) (a'.get 10) k' ∧ True) ?_ hQ ?_
   ·intro Q12 W12 w11
    refine gS 3 (_ :: _ :: _ :: []) hs (by kernel_rfl) ⟨mu rfl i10, o1 [(29, some 0)] rfl fun _ _ h n => ok_add rfl n.1 (cI rfl) hx16, cp 1 rfl rfl, trivial⟩ W12 fun b q p => ?_
    exact tail_done (k := q) (w11 _ _ ⟨Bs.post ⟨hg, hs, hd⟩ p, p.ke 0 rfl i0, p.ke 1 rfl i1, p.ke 2 rfl i2, p.ke 8 rfl i8, p.ke 9 rfl i9, (by rw [p.old 9 rfl]; exact n9), p.ou 2 10 rfl, trivial⟩)
   rintro a k ⟨⟨hg, hs, hd⟩, i0, i1, i2, i8, i9, n9, i10, _⟩
   exact hgo828 _ _ _ (Option.some.inj hr).symm ⟨⟨hg, hs, hd⟩, i0, i1, i2, i8, i9, n9, i10, trivial⟩
  rw [if_neg (by rw [hc849]; decide)] at hr
  refine wp_exit ?_
  obtain ⟨kk, sh848, ii9⟩ := i9.give
  replace i9 := ii9
  replace hg := hg.hand sh848 n9.wr
  rw [← sh848.w]
  clear sh848
  obtain ⟨k, hkk⟩ : ∃ k, k = kk := ⟨kk, rfl⟩
  subst hkk
  exact hex829 _ _ _ _ (Option.some.inj hr).symm ⟨rfl, ⟨hg, hs, hd⟩, i9, trivial⟩
 ·rintro r1 a k rfl hR
  dsimp only at hr
  obtain rfl := Option.some.inj hr
  exact hR
 ·rintro _ _ _ rfl _
  simp at hr
 clear hf1
 rintro _ s2 a k rfl ⟨rfl, ⟨hg, hs, hd⟩, i9, _⟩
 dsimp only at hr
 refine wp_seq ?_
 obtain ⟨x17, hx17, hr⟩ := bind_some hr
 refine cut (fun a' k' => Bs noF k0 70 a' k' ∧ (IsV x17.1) (a'.get 6) k' ∧ (IsV x17.2) (a'.get 7) k' ∧ True) ?_ hQ ?_
 ·intro Q13 W13 w12
  refine gS 6 (_ :: _ :: _ :: _ :: _ :: _ :: []) hs (by kernel_rfl) ⟨mu rfl i9, o1 [(66, some 0)] rfl fun _ _ h n => ok_call rfl Tryz.call37 (solid_fits_ok n.1 hx17), o1 [(67, some 1)] rfl fun _ _ h n => ok_ext2_0 rfl n.1, o1 [(67, some 1)] rfl fun _ _ h n => ok_ext2_1 rfl n.1, cp 2 rfl rfl, cp 3 rfl rfl, trivial⟩ W13 fun b q p => ?_
  exact tail_done (k := q) (w12 _ _ ⟨Bs.post ⟨hg, hs, hd⟩ p, p.ou 4 6 rfl, p.ou 5 7 rfl, trivial⟩)
 rintro a k ⟨⟨hg, hs, hd⟩, i6, i7, _⟩
 refine wp_ret ?_
 obtain rfl := Option.some.inj hr
 exact retC2 rfl hd hg i6 i7
def slices_BinarySearchFunc_strip_int_L0 (x_ : (List RegionStrip)) (target_ : Int) (cmp_ : (RegionStrip → Int → Option (Int))) (s1 : Int × Int) : Option (Flow (Int × Int) (Int × Bool)) :=
 if (decide (s1.1 < s1.2)) then
  (addI s1.1 s1.2).bind fun x1 =>
  (getI x_ (IntKind.i64.wrap (IK.shr (IK.mk (IntKind.u64.wrap x1) : IK .u64) 1).n)).bind fun x2 =>
  (cmp_ x2 target_).bind fun x3 =>
  (if (decide (x3 < 0)) then
   (addI (IntKind.i64.wrap (IK.shr (IK.mk (IntKind.u64.wrap x1) : IK .u64) 1).n) 1).bind fun x4 =>
   some (x4, s1.2)
  else
   some (s1.1, (IntKind.i64.wrap (IK.shr (IK.mk (IntKind.u64.wrap x1) : IK .u64) 1).n))).bind fun s2 =>
  some (.go (s2.1, s2.2))
 else
  some (.ex 0 (s1.1, s1.2))
def slices_BinarySearchFunc_strip_int (x_ : (List RegionStrip)) (target_ : Int) (cmp_ : (RegionStrip → Int → Option (Int))) : Option (Int × Bool) :=
 (iterL (slices_BinarySearchFunc_strip_int_L0 x_ target_ cmp_) (x_.length + 1) (0, (x_.length : Int))).bind fun f1 => match f1 with
  | .go _ => none
  | .ex _ s1 =>
   (if (decide (s1.1 < (x_.length : Int))) then
    (getI x_ s1.1).bind fun x1 =>
    (cmp_ x1 target_).bind fun x2 =>
    some (x2 == 0)
   else
    some false).bind fun x3 =>
   some (s1.1, x3)
  | .ret r1 => some r1
theorem slices_BinarySearchFunc_strip_int_ok {k0 : K} {v0 v1 v2 : Value} {x_ : (List RegionStrip)} {target_ : Int} {cmp_ : (RegionStrip → Int → Option (Int))} {r : Int × Bool} (i0 : (IsV x_) v0 k0) (i1 : (IsV target_) v1 k0) (i2 : (IsFn2 Tryz.prog cmp_) v2 k0) (hr : slices_BinarySearchFunc_strip_int x_ target_ cmp_ = some r) :
  Calls Tryz.prog 107 #[v0, v1, v2] k0.w (Ret k0 (IsTup2 (IsV r.1) (IsV r.2))) := by
 unfold slices_BinarySearchFunc_strip_int at hr
 refine Ret.ofC ?_
 refine enterK Tryz.func107 rfl Tryz.ntmps107 (show 3 ≤ 49 by decide) fun a k hk0 hs hd ha => ?_
 obtain ⟨e0, e1, e2, _⟩ := ha
 replace i0 : (IsV x_) (a.get 0) k := by rw [e0, hk0]; exact i0
 replace i1 : (IsV target_) (a.get 1) k := by rw [e1, hk0]; exact i1
 replace i2 : (IsFn2 Tryz.prog cmp_) (a.get 2) k := by rw [e2, hk0]; exact i2
 have hQ : Gb.LetsOut (bodyPost Tryz.prog Tryz.f107 (RetC noF k0 (IsTup2 (IsV r.1) (IsV r.2)))) := letsOutC
 have hg : Chg noF k0 k := by rw [hk0]; exact Chg.refl _ k0
 refine stepL 2 (⟨some (IsI 0), []⟩ :: ⟨some (IsV false), []⟩ :: []) rfl ⟨hg, hs, hd⟩ (by kernel_rfl) ⟨aI rfl rfl, ob1 rfl fun _ _ h n => ok_assign rfl (isV_bool.2 rfl), trivial⟩ [⟨_, _⟩, ⟨_, _⟩, ⟨_, _⟩] (fun b q p => ⟨p.ke 0 rfl i0, p.ke 1 rfl i1, p.ke 2 rfl i2, trivial⟩) ?_
 rintro a k ⟨⟨hg, hs, hd⟩, i0, i1, i2, _⟩
 refine stepL 3 (_ :: _ :: _ :: []) rfl ⟨hg, hs, hd⟩ (by kernel_rfl) ⟨mu rfl i0, o1 [(12, some 0)] rfl fun _ _ h n => ok_len rfl rfl Tryz.underlying74 (IsV.rd n.1), cp 1 rfl rfl, trivial⟩ [⟨_, _⟩, ⟨_, _⟩, ⟨_, _⟩, ⟨_, _⟩] (fun b q p => ⟨p.ke 0 rfl i0, p.ke 1 rfl i1, p.ke 2 rfl i2, p.ou 2 8 rfl, trivial⟩) ?_
 rintro a k ⟨⟨hg, hs, hd⟩, i0, i1, i2, i8, _⟩
 refine stepL 3 (_ :: ⟨some (IsI 0), []⟩ :: _ :: []) rfl ⟨hg, hs, hd⟩ (by kernel_rfl) ⟨mu rfl i8, aI rfl rfl, cp 0 rfl rfl, trivial⟩ [⟨_, _⟩, ⟨_, _⟩, ⟨_, _⟩, ⟨_, _⟩, ⟨_, _⟩, ⟨_, _⟩] (fun b q p => ⟨p.ke 0 rfl i0, p.ke 1 rfl i1, p.ke 2 rfl i2, p.ke 8 rfl i8, p.ou 1 9 rfl, p.ou 2 10 rfl, trivial⟩) ?_
 rintro a k ⟨⟨hg, hs, hd⟩, i0, i1, i2, i8, i9, i10, _⟩
 refine wp_seq ?_
 refine wp_block ?_
 obtain ⟨f1, hf1, hr⟩ := bind_some hr
 refine cutFe f1 (fun s' c l => Bs noF k0 49 c l ∧ IsV x_ (c.get 0) l ∧ IsV target_ (c.get 1) l ∧ IsFn2 Tryz.prog cmp_ (c.get 2) l ∧ IsL x_ (c.get 8) l ∧ IsV s'.1 (c.get 9) l ∧ IsV s'.2 (c.get 10) l ∧ True) (fun i' s' c l => (i' = 0 ∧ Bs noF k0 49 c l ∧ IsV x_ (c.get 0) l ∧ IsV target_ (c.get 1) l ∧ IsFn2 Tryz.prog cmp_ (c.get 2) l ∧ IsL x_ (c.get 8) l ∧ IsV s'.1 (c.get 9) l ∧ True)) (fun r' c l => bodyPost Tryz.prog Tryz.f107 (RetC noF k0 (IsTup2 (IsV r'.1) (IsV r'.2))) .ret c l.w) ?_ hQ ?_ ?_ ?_
 ·intro Q1 W1 hgo hex hret
  refine sim_loop ?_ _ _ _ _ _ hf1 ⟨⟨hg, hs, hd⟩, i0, i1, i2, i8, i9, i10, trivial⟩ Q1 W1 hgo hex hret
  clear hr hf1 hgo hex hret W1 hQ hg hs hd i0 i1 i10 i2 i8 i9
  intro s1 fl_ a k hr hS Q hQ hgo874 hex875 hret876
  obtain ⟨⟨hg, hs, hd⟩, i0, i1, i2, i8, i9, i10, _⟩ := hS
  unfold slices_BinarySearchFunc_strip_int_L0 at hr
  refine wp_seq ?_
  refine stepL 3 (_ :: _ :: _ :: []) rfl ⟨hg, hs, hd⟩ (by kernel_rfl) ⟨mu rfl i9, mu rfl i10, o1 [(15, some 0), (16, some 1)] rfl fun _ _ h n => ok_lss rfl n.1 n.2.1, trivial⟩ [⟨_, _⟩, ⟨_, _⟩, ⟨_, _⟩, ⟨_, _⟩, ⟨_, _⟩, ⟨_, _⟩, ⟨_, _⟩] (fun b q p => ⟨p.ke 0 rfl i0, p.ke 1 rfl i1, p.ke 2 rfl i2, p.ke 8 rfl i8, p.ke 9 rfl i9, p.ke 10 rfl i10, p.ou 2 17 rfl, trivial⟩) ?_
  rintro a k ⟨⟨hg, hs, hd⟩, i0, i1, i2, i8, i9, i10, i17, _⟩
  refine wp_cond_split (isBool i17) (fun hc894 => ?_) (fun hc894 => ?_)
  ·rw [if_pos hc894] at hr
   refine wp_skip ?_
   refine wp_block ?_
   refine wp_seq ?_
   obtain ⟨x1, hx1, hr⟩ := bind_some hr
   refine cut (fun a' k' => Bs noF k0 49 a' k' ∧ (IsV x_) (a'.get 0) k' ∧ (IsV target_) (a'.get 1) k' ∧ (IsFn2 Tryz.prog cmp_) (a'.get 2) k' ∧ (IsL x_) (a'.get 8) k' ∧ (IsV s1.1) (a'.get 9) k' ∧ (IsV s1.2) (a'.get 10) k' ∧ (IsI (IntKind.i64.wrap (IK.shr (IK.mk (IntKind.u64.wrap x1) : IK .u64) 1).n)) (a'.get 11) k' ∧ True) ?_ hQ ?_
   ·intro Q2 W2 w1
    refine gS 7 (_ :: _ :: _ :: ⟨some (IsV (IK.mk (IntKind.u64.wrap x1) : IK .u64)), [(20, some 2)]⟩ :: ⟨some (IsV (IK.shr (IK.mk (IntKind.u64.wrap x1) : IK .u64) 1)), [(21, some 3)]⟩ :: ⟨some (IsI (IntKind.i64.wrap (IK.shr (IK.mk (IntKind.u64.wrap x1) : IK .u64) 1).n)), [(22, some 4)]⟩ :: _ :: []) hs (by kernel_rfl) ⟨mu rfl i9, mu rfl i10, o1 [(18, some 0), (19, some 1)] rfl fun _ _ h n => ok_add rfl n.1 n.2.1 hx1, ob1 rfl fun _ _ h n => ok_conv_ik rfl (by rw [Tryz.underlying3]; rfl) Tryz.underlying88 n.1, ob1 rfl fun _ _ h n => ok_shrK rfl n.1 (by decide) (by decide), ob1 rfl fun _ _ h n => ok_conv_ki rfl (by rw [Tryz.underlying88]; rfl) Tryz.underlying3 n.1, cp 5 rfl rfl, trivial⟩ W2 fun b q p => ?_
    exact tail_done (k := q) (w1 _ _ ⟨Bs.post ⟨hg, hs, hd⟩ p, p.ke 0 rfl i0, p.ke 1 rfl i1, p.ke 2 rfl i2, p.ke 8 rfl i8, p.ke 9 rfl i9, p.ke 10 rfl i10, p.ou 6 11 rfl, trivial⟩)
   rintro a k ⟨⟨hg, hs, hd⟩, i0, i1, i2, i8, i9, i10, i11, _⟩
   refine wp_seq ?_
   obtain ⟨x2, hx2, hr⟩ := bind_some hr
   obtain ⟨x3, hx3, hr⟩ := bind_some hr
   refine cut (fun a' k' => Bs noF k0 49 a' k' ∧ (IsV x_) (a'.get 0) k' ∧ (IsV target_) (a'.get 1) k' ∧ (IsFn2 Tryz.prog cmp_) (a'.get 2) k' ∧ (IsL x_) (a'.get 8) k' ∧ (IsV s1.1) (a'.get 9) k' ∧ (IsV s1.2) (a'.get 10) k' ∧ (IsI (IntKind.i64.wrap (IK.shr (IK.mk (IntKind.u64.wrap x1) : IK .u64) 1).n)) (a'.get 11) k' ∧ (IsV (decide (x3 < 0))) (a'.get 31) k' ∧ True) ?_ hQ ?_
   ·intro Q3 W3 w2
    refine gS 8 (_ :: _ :: _ :: _ :: _ :: _ :: ⟨some (IsV x3), [(24, some 0), (28, some 4), (29, some 5)]⟩ :: _ :: []) hs (by kernel_rfl) ⟨mu rfl i2, mu rfl i0, mu rfl i11, o1 [(25, some 1), (26, some 2)] rfl fun _ _ h n => ok_indexAddr rfl Tryz.underlying74 ty94 (IsV.rd n.1) n.2.1 hx2, o1 [(27, some 3)] rfl fun _ _ h n => ok_load rfl ty94 n.1, mu rfl i1, ob1 rfl fun _ _ h n => ok_callF2 rfl n.1 n.2.1 n.2.2.1 hx3, o1 [(30, some 6)] rfl fun _ _ h n => ok_lss rfl n.1 (cI rfl), trivial⟩ W3 fun b q p => ?_
    exact tail_done (k := q) (w2 _ _ ⟨Bs.post ⟨hg, hs, hd⟩ p, p.ke 0 rfl i0, p.ke 1 rfl i1, p.ke 2 rfl i2, p.ke 8 rfl i8, p.ke 9 rfl i9, p.ke 10 rfl i10, p.ke 11 rfl i11, p.ou 7 31 rfl, trivial⟩)
   rintro a k ⟨⟨hg, hs, hd⟩, i0, i1, i2, i8, i9, i10, i11, i31, _⟩
   obtain ⟨s2, hs2, hr⟩ := bind_some hr
   refine cut (fun a' k' => Bs noF k0 49 a' k' ∧ (IsV x_) (a'.get 0) k' ∧ (IsV target_) (a'.get 1) k' ∧ (IsFn2 Tryz.prog cmp_) (a'.get 2) k' ∧ (IsL x_) (a'.get 8) k' ∧ (IsV s2.1) (a'.get 9) k' ∧ (IsV s2.2) (a'.get 10) k' ∧ True) ?_ hQ ?_
   ·intro Q4 W4 w3
    replace hr := hs2
    clear hQ
    have hQ := W4
    refine wp_cond_split (isBool i31) (fun hc888 => ?_) (fun hc888 => ?_)
    ·rw [if_pos hc888] at hr
     obtain ⟨x4, hx4, hr⟩ := bind_some hr
     refine cut (fun a' k' => Bs noF k0 49 a' k' ∧ (IsV x_) (a'.get 0) k' ∧ (IsV target_) (a'.get 1) k' ∧ (IsFn2 Tryz.prog cmp_) (a'.get 2) k' ∧ (IsL x_) (a'.get 8) k' ∧ (IsV x4) (a'.get 9) k' ∧ (IsV s1.2) (a'.get 10) k' ∧ True) ?_ hQ ?_
     ·intro Q5 W5 w4
      refine gS 3 (_ :: _ :: _ :: []) hs (by kernel_rfl) ⟨mu rfl i11, o1 [(32, some 0)] rfl fun _ _ h n => ok_add rfl n.1 (cI rfl) hx4, cp 1 rfl rfl, trivial⟩ W5 fun b q p => ?_
      exact tail_done (k := q) (w4 _ _ ⟨Bs.post ⟨hg, hs, hd⟩ p, p.ke 0 rfl i0, p.ke 1 rfl i1, p.ke 2 rfl i2, p.ke 8 rfl i8, p.ou 2 9 rfl, p.ke 10 rfl i10, trivial⟩)
     rintro a k ⟨⟨hg, hs, hd⟩, i0, i1, i2, i8, i9, i10, _⟩
     obtain rfl := Option.some.inj hr
     exact w3 _ _ ⟨⟨hg, hs, hd⟩, i0, i1, i2, i8, i9, i10, trivial⟩
    rw [if_neg (by rw [hc888]; decide)] at hr
    refine cut (fun a' k' => Bs noF k0 49 a' k' ∧ (IsV x_) (a'.get 0) k' ∧ (IsV target_) (a'.get 1) k' ∧ (IsFn2 Tryz.prog cmp_) (a'.get 2) k' ∧ (IsL x_) (a'.get 8) k' ∧ (IsV s1.1) (a'.get 9) k' ∧ (IsI (IntKind.i64.wrap (IK.shr (IK.mk (IntKind.u64.wrap x1) : IK .u64) 1).n)) (a'.get 10) k' ∧ True) ?_ hQ ?_
    ·intro Q6 W6 w5
     refine gS 2 (_ :: _ :: []) hs (by kernel_rfl) ⟨mu rfl i11, cp 0 rfl rfl, trivial⟩ W6 fun b q p => ?_
     exact tail_done (k := q) (w5 _ _ ⟨Bs.post ⟨hg, hs, hd⟩ p, p.ke 0 rfl i0, p.ke 1 rfl i1, p.ke 2 rfl i2, p.ke 8 rfl i8, p.ke 9 rfl i9, p.ou 1 10 rfl, trivial⟩)
    rintro a k ⟨⟨hg, hs, hd⟩, i0, i1, i2, i8, i9, i10, _⟩
    obtain rfl := Option.some.inj hr
    exact w3 _ _ ⟨⟨hg, hs, hd⟩, i0, i1, i2, i8, i9, i10, trivial⟩
   clear hs2
   rintro a k ⟨⟨hg, hs, hd⟩, i0, i1, i2, i8, i9, i10, _⟩
   exact hgo874 _ _ _ (Option.some.inj hr).symm ⟨⟨hg, hs, hd⟩, i0, i1, i2, i8, i9, i10, trivial⟩
  rw [if_neg (by rw [hc894]; decide)] at hr
  refine wp_exit ?_
  exact hex875 _ _ _ _ (Option.some.inj hr).symm ⟨rfl, ⟨hg, hs, hd⟩, i0, i1, i2, i8, i9, trivial⟩
 ·rintro r1 a k rfl hR
  dsimp only at hr
  obtain rfl := Option.some.inj hr
  exact hR
 ·rintro _ _ _ rfl _
  simp at hr
 clear hf1
 rintro _ s3 a k rfl ⟨rfl, ⟨hg, hs, hd⟩, i0, i1, i2, i8, i9, _⟩
 dsimp only at hr
 refine wp_seq ?_
 obtain ⟨x5, hx5, hr⟩ := bind_some hr
 obtain ⟨x6, hx6, hx5⟩ := ite_bind hx5
 obtain ⟨x7, hx7, hx5⟩ := ite_bind hx5
 refine cut (fun a' k' => Bs noF k0 49 a' k' ∧ (IsV s3.1) (a'.get 6) k' ∧ (IsV x5) (a'.get 7) k' ∧ True) ?_ hQ ?_
 ·intro Q7 W7 w6
  refine gS 16 (_ :: _ :: _ :: _ :: _ :: _ :: _ :: _ :: _ :: _ :: _ :: ⟨some (Gd ((decide (s3.1 < (x_.length : Int))) = true) (IsV x7)), [(40, some 5), (44, some 9), (45, some 10)]⟩ :: _ :: _ :: _ :: _ :: []) hs (by kernel_rfl) ⟨mu rfl i9, mu rfl i9, mu rfl i8, o1 [(36, some 1), (37, some 2)] rfl fun _ _ h n => ok_lss rfl n.1 n.2.1, cm 3 rfl rfl, mT rfl rfl i2, mT rfl rfl i0, mT rfl rfl i9, gT [(41, some 6), (42, some 7)] rfl rfl fun hp _ _ h n => ok_indexAddr rfl Tryz.underlying74 ty94 (IsV.rd (Gd.get n.1 hp)) (Gd.get n.2.1 hp) (hx6 hp), gT [(43, some 8)] rfl rfl fun hp _ _ h n => ok_load rfl ty94 (Gd.get n.1 hp), mT rfl rfl i1, gdT rfl rfl fun hp _ _ h n => ok_callF2 rfl (Gd.get n.1 hp) (Gd.get n.2.1 hp) (Gd.get n.2.2.1 hp) (hx7 hp), gT [(46, some 11)] rfl rfl fun hp _ _ h n => ok_eqI rfl (Gd.get n.1 hp) (cI rfl), o1 [(39, some 4), (47, some 12)] rfl fun _ _ h n => ok_pickM rfl n.1 hx5 (Gd.get n.2.1) (cB rfl), cp 0 rfl rfl, cp 13 rfl rfl, trivial⟩ W7 fun b q p => ?_
  exact tail_done (k := q) (w6 _ _ ⟨Bs.post ⟨hg, hs, hd⟩ p, p.ou 14 6 rfl, p.ou 15 7 rfl, trivial⟩)
 rintro a k ⟨⟨hg, hs, hd⟩, i6, i7, _⟩
 refine wp_ret ?_
 obtain rfl := Option.some.inj hr
 exact retC2 rfl hd hg i6 i7
def region_at_1 (s_ : RegionStrip) (x_ : Int) : Option (Int) :=
 if (decide (s_.x1 ≤ x_)) then
  some (-1)
 else
  some 1
noncomputable def k108 := mk 108 [.st 2, .int] [.int] (fun x => region_at_1 x.1 x.2) [] [] Tryz.f108 (.n) Tryz.func108 Tryz.call108 rfl rfl fun x => by kernel_rfl
theorem region_at_1_ok {k0 : K} {v0 v1 : Value} {x0 : RegionStrip} {x1 : Int} {r : Int} (i0 : IsV x0 v0 k0) (i1 : IsV x1 v1 k0) (hr : region_at_1 x0 x1 = some r) : Calls Tryz.prog 108 #[v0, v1] k0.w (Ret k0 (IsV r)) := (k108.ok.ok k0 [v0, v1] (x0, x1) r ⟨i0, i1⟩ hr)
def region_at (l_ : (List RegionStrip)) (x_ : Int) : Option ((List RegionSpan)) :=
 (slices_BinarySearchFunc_strip_int l_ x_ region_at_1).bind fun x1 =>
 (if (decide (x1.1 < (l_.length : Int))) then
  (getI l_ x1.1).bind fun x2 =>
  some (decide (x2.x0 ≤ x_))
 else
  some false).bind fun x3 =>
 if x3 then
  (getI l_ x1.1).bind fun x4 =>
  some x4.column
 else
  some ([] : List RegionSpan)
theorem region_at_ok {k0 : K} {v0 v1 : Value} {l_ : (List RegionStrip)} {x_ : Int} {r : (List RegionSpan)} (i0 : (IsV l_) v0 k0) (i1 : (IsV x_) v1 k0) (hr : region_at l_ x_ = some r) :
  Calls Tryz.prog 88 #[v0, v1] k0.w (Ret k0 (IsV r)) := by
 unfold region_at at hr
 refine Ret.ofC ?_
 refine enterK Tryz.func88 rfl Tryz.ntmps88 (show 2 ≤ 31 by decide) fun a k hk0 hs hd ha => ?_
 obtain ⟨e0, e1, _⟩ := ha
 replace i0 : (IsV l_) (a.get 0) k := by rw [e0, hk0]; exact i0
 replace i1 : (IsV x_) (a.get 1) k := by rw [e1, hk0]; exact i1
 have hQ : Gb.LetsOut (bodyPost Tryz.prog Tryz.f88 (RetC noF k0 (IsV r))) := letsOutC
 have hg : Chg noF k0 k := by rw [hk0]; exact Chg.refl _ k0
 refine stepL 1 (⟨some IsE0, []⟩ :: []) rfl ⟨hg, hs, hd⟩ (by kernel_rfl) ⟨ob1 rfl fun b q h n => ok_assign rfl isE0_nil, trivial⟩ [⟨_, _⟩, ⟨_, _⟩] (fun b q p => ⟨p.ke 0 rfl i0, p.ke 1 rfl i1, trivial⟩) ?_
 rintro a k ⟨⟨hg, hs, hd⟩, i0, i1, _⟩
 refine wp_seq ?_
 obtain ⟨x1, hx1, hr⟩ := bind_some hr
 refine cut (fun a' k' => Bs noF k0 31 a' k' ∧ (IsV l_) (a'.get 0) k' ∧ (IsV x_) (a'.get 1) k' ∧ (IsV x1.1) (a'.get 5) k' ∧ True) ?_ hQ ?_
 ·intro Q1 W1 w1
  refine gS 8 (_ :: _ :: _ :: _ :: _ :: _ :: _ :: _ :: []) hs (by kernel_rfl) ⟨mu rfl i0, mu rfl i1, o1 [(8, some 0), (9, some 1)] rfl fun _ _ h n => ok_call rfl Tryz.call107 (slices_BinarySearchFunc_strip_int_ok n.1 n.2.1 ⟨108, _, _, rfl, Tryz.call108, fun k9 hk9 _ _ _ _ _ hx0 hx1 hy9 => by simpa [evalT] using region_at_1_ok hx0 hx1 hy9⟩ hx1), cm 2 rfl rfl, o1 [(7, some 3)] rfl fun _ _ h n => ok_ext2_0 rfl n.1, o1 [(7, some 3)] rfl fun _ _ h n => ok_ext2_1 rfl n.1, cp 4 rfl rfl, cp 5 rfl rfl, trivial⟩ W1 fun b q p => ?_
  exact tail_done (k := q) (w1 _ _ ⟨Bs.post ⟨hg, hs, hd⟩ p, p.ke 0 rfl i0, p.ke 1 rfl i1, p.ou 6 5 rfl, trivial⟩)
 rintro a k ⟨⟨hg, hs, hd⟩, i0, i1, i5, _⟩
 refine wp_seq ?_
 refine wp_seq ?_
 obtain ⟨x2, hx2, hr⟩ := bind_some hr
 obtain ⟨x3, hx3, hx2⟩ := ite_bind hx2
 refine cut (fun a' k' => Bs noF k0 31 a' k' ∧ (IsV l_) (a'.get 0) k' ∧ (IsV x1.1) (a'.get 5) k' ∧ (IsV x2) (a'.get 25) k' ∧ True) ?_ hQ ?_
 ·intro Q2 W2 w2
  refine gS 13 (_ :: _ :: _ :: _ :: _ :: _ :: _ :: _ :: _ :: _ :: _ :: _ :: _ :: []) hs (by kernel_rfl) ⟨mu rfl i5, mu rfl i0, o1 [(14, some 1)] rfl fun _ _ h n => ok_len rfl rfl Tryz.underlying74 (IsV.rd n.1), o1 [(13, some 0), (15, some 2)] rfl fun _ _ h n => ok_lss rfl n.1 n.2.1, cm 3 rfl rfl, mT rfl rfl i0, mT rfl rfl i5, gT [(18, some 5), (19, some 6)] rfl rfl fun hp _ _ h n => ok_indexAddr rfl Tryz.underlying74 ty94 (IsV.rd (Gd.get n.1 hp)) (Gd.get n.2.1 hp) (hx3 hp), gT [(20, some 7)] rfl rfl fun hp _ _ h n => ok_fieldAddr rfl fo94_0 (at_RegionStrip_0 _) (Gd.get n.1 hp), gT [(21, some 8)] rfl rfl fun hp _ _ h n => ok_load rfl ty3 (Gd.get n.1 hp), mT rfl rfl i1, gT [(22, some 9), (23, some 10)] rfl rfl fun hp _ _ h n => ok_leq rfl (Gd.get n.1 hp) (Gd.get n.2.1 hp), o1 [(17, some 4), (24, some 11)] rfl fun _ _ h n => ok_pickM rfl n.1 hx2 (Gd.get n.2.1) (cB rfl), trivial⟩ W2 fun b q p => ?_
  exact tail_done (k := q) (w2 _ _ ⟨Bs.post ⟨hg, hs, hd⟩ p, p.ke 0 rfl i0, p.ke 5 rfl i5, p.ou 12 25 rfl, trivial⟩)
 rintro a k ⟨⟨hg, hs, hd⟩, i0, i5, i25, _⟩
 refine wp_cond_split (isBool i25) (fun hc932 => ?_) (fun hc932 => ?_)
 ·rw [if_pos hc932] at hr
  refine wp_seq ?_
  obtain ⟨x4, hx4, hr⟩ := bind_some hr
  refine cut (fun a' k' => Bs noF k0 31 a' k' ∧ (IsV x4.column) (a'.get 4) k' ∧ True) ?_ hQ ?_
  ·intro Q3 W3 w3
   refine gS 6 (_ :: _ :: _ :: _ :: _ :: _ :: []) hs (by kernel_rfl) ⟨mu rfl i0, mu rfl i5, o1 [(26, some 0), (27, some 1)] rfl fun _ _ h n => ok_indexAddr rfl Tryz.underlying74 ty94 (IsV.rd n.1) n.2.1 hx4, o1 [(28, some 2)] rfl fun _ _ h n => ok_fieldAddr rfl fo94_2 (at_RegionStrip_2 _) n.1, o1 [(29, some 3)] rfl fun _ _ h n => ok_load rfl ty90 n.1, cp 4 rfl rfl, trivial⟩ W3 fun b q p => ?_
   exact tail_done (k := q) (w3 _ _ ⟨Bs.post ⟨hg, hs, hd⟩ p, p.ou 5 4 rfl, trivial⟩)
  rintro a k ⟨⟨hg, hs, hd⟩, i4, _⟩
  refine wp_ret ?_
  obtain rfl := Option.some.inj hr
  exact retC1 rfl hd hg i4
 rw [if_neg (by rw [hc932]; decide)] at hr
 refine wp_skip ?_
 refine cutL noF k0 31 [⟨4, IsV ([] : List RegionSpan)⟩] ?_ ?_
 ·intro Q4 W4 w4
  refine gS 1 (⟨some IsE0, []⟩ :: []) hs (by kernel_rfl) ⟨ob1 rfl fun b q h n => ok_assign rfl isE0_nil, trivial⟩ W4 fun b q p => ?_
  have hgq := hg.then p.grow
  have hsb := p.size.trans hs
  have hdb := p.defers.trans hd
  have j4 : IsE0 (b.get 4) q := p.ou 0 4 rfl
  replace j4 : IsV ([] : List RegionSpan) (b.get 4) q := j4.isV
  exact tail_done (k := q) (w4 _ _ ⟨⟨hgq, hsb, hdb⟩, j4, trivial⟩)
 rintro a k ⟨⟨hg, hs, hd⟩, i4, _⟩
 refine wp_ret ?_
 obtain rfl := Option.some.inj hr
 exact retC1 rfl hd hg i4
section
open Go.Proofs Go.RowKit Go.Lib Go.Sort Go.Shelf
def Tryz.growL116_ren : Go.Shelf.Ren := ⟨fun | 4 => 116 | n => n, fun | 22 => 90 | 25 => 92 | 3 => 3 | 4 => 4 | 9 => 9 | 20 => 20 | 0 => 0 | 2 => 3 | n => n, fun | n => n⟩
theorem Tryz.growL116 : Go.Proofs.Lays8.n4 Tryz.prog Tryz.growL116_ren := {
 mixed := by kernel_rfl,
 f4 := ⟨Tryz.f116.name, by decide, Tryz.func116.trans (congrArg some (by kernel_rfl))⟩,
 t0 := Tryz.underlying0,
 a0 := Tryz.isAgg0,
 z0 := Tryz.sizeOf0,
 v0 := Tryz.zeroValue0,
 t3 := Tryz.underlying3,
 a3 := Tryz.isAgg3,
 z3 := Tryz.sizeOf3,
 v3 := Tryz.zeroValue3,
 t4 := Tryz.underlying4,
 a4 := Tryz.isAgg4,
 z4 := Tryz.sizeOf4,
 v4 := Tryz.zeroValue4,
 t9 := Tryz.underlying9,
 a9 := Tryz.isAgg9,
 z9 := Tryz.sizeOf9,
 v9 := Tryz.zeroValue9,
 t20 := Tryz.underlying20,
 a20 := Tryz.isAgg20,
 z20 := Tryz.sizeOf20,
 v20 := Tryz.zeroValue20,
 t22 := Tryz.underlying90,
 a22 := Tryz.isAgg90,
 z22 := Tryz.sizeOf90,
 v22 := Tryz.zeroValue90 }
theorem slices_Grow_span_okO {k0 : K} {v0 v1 : Value} {n : Int} {r : List RegionSpan} (i0 : v0 = .slice none 0 0) (i1 : IsV n v1 k0) (hr : growI RegionSpan n = some r) : Calls Tryz.prog 116 #[v0, v1] k0.w (Ret k0 (IsOwn k0.w.heap.size 92 r)) := by
 refine grow_own eo92 i0 i1 hr ?_ fun m i z h0 hm hi hz hs hb => ?_
 ·have hcon := Any8.slices_Grow_room Tryz.growL116 none 0 0 0 k0.w (by omega) (by omega) (by omega) (by omega)
  change Calls Tryz.prog 116 _ _ _ at hcon
  exact hcon
 ·have hcon := Any8.slices_Grow_grow Tryz.growL116 i z hi hz hs none 0 0 m [] k0.w (by omega) (by omega) (by
   have : (0 + m) * i.bytes ≤ 1073741824 * 65536 := Nat.mul_le_mul (by omega) hb
   omega) (by omega) (by simp) (fun _ => rfl) (fun a h => by simp at h)
  change Calls Tryz.prog 116 _ _ _ at hcon
  exact hcon
end
def slices_Concat_span_L0 (slices_ : (List (List RegionSpan))) (s1 : Int × Int) : Option (Flow (Int × Int) ((List RegionSpan))) :=
 if (decide (s1.2 < (slices_.length : Int))) then
  (getI slices_ s1.2).bind fun x1 =>
  (addI s1.1 (x1.length : Int)).bind fun x2 =>
  if (decide (x2 < 0)) then
   none
  else
   (addI s1.2 1).bind fun x3 =>
   some (.go (x2, x3))
 else
  some (.ex 0 (s1.1, s1.2))
def slices_Concat_span_L1 (slices_ : (List (List RegionSpan))) (s1 : (List RegionSpan) × Int) : Option (Flow ((List RegionSpan) × Int) ((List RegionSpan))) :=
 if (decide (s1.2 < (slices_.length : Int))) then
  (getI slices_ s1.2).bind fun x1 =>
  (appI s1.1 x1).bind fun x2 =>
  (addI s1.2 1).bind fun x3 =>
  some (.go (x2, x3))
 else
  some (.ex 2 (s1.1, s1.2))
def slices_Concat_span (slices_ : (List (List RegionSpan))) : Option ((List RegionSpan)) :=
 (iterL (slices_Concat_span_L0 slices_) (slices_.length + 1) (0, 0)).bind fun f1 => match f1 with
  | .go _ => none
  | .ex _ s1 =>
   (growI RegionSpan s1.1).bind fun x1 =>
   (iterL (slices_Concat_span_L1 slices_) (slices_.length + 1) (x1, 0)).bind fun f2 => match f2 with
    | .go _ => none
    | .ex _ s2 =>
     some s2.1
    | .ret r1 => some r1
  | .ret r2 => some r2
theorem slices_Concat_span_okO {k0 : K} {v0 : Value} {slices_ : (List (List RegionSpan))} {r : (List RegionSpan)} (i0 : (IsV slices_) v0 k0) (hr : slices_Concat_span slices_ = some r) :
  Calls Tryz.prog 105 #[v0] k0.w (Ret k0 (IsOwn k0.w.heap.size 92 r)) := by
 unfold slices_Concat_span at hr
 refine Ret.ofC ?_
 refine enterK Tryz.func105 rfl Tryz.ntmps105 (show 1 ≤ 36 by decide) fun a k hk0 hs hd ha => ?_
 obtain ⟨e0, _⟩ := ha
 replace i0 : (IsV slices_) (a.get 0) k := by rw [e0, hk0]; exact i0
 have hQ : Gb.LetsOut (bodyPost Tryz.prog Tryz.f105 (RetC noF k0 (IsOwn k0.w.heap.size 92 r))) := letsOutC
 have hg : Chg noF k0 k := by rw [hk0]; exact Chg.refl _ k0
 refine stepL 1 (⟨some IsE0, []⟩ :: []) rfl ⟨hg, hs, hd⟩ (by kernel_rfl) ⟨ob1 rfl fun b q h n => ok_assign rfl isE0_nil, trivial⟩ [⟨_, _⟩] (fun b q p => ⟨p.ke 0 rfl i0, trivial⟩) ?_
 rintro a k ⟨⟨hg, hs, hd⟩, i0, _⟩
 refine stepL 1 (⟨some (IsI 0), []⟩ :: []) rfl ⟨hg, hs, hd⟩ (by kernel_rfl) ⟨aI rfl rfl, trivial⟩ [⟨_, _⟩, ⟨_, _⟩] (fun b q p => ⟨p.ke 0 rfl i0, p.ou 0 3 rfl, trivial⟩) ?_
 rintro a k ⟨⟨hg, hs, hd⟩, i0, i3, _⟩
 refine wp_seq ?_
 refine stepL 3 (_ :: _ :: ⟨some (IsI 0), []⟩ :: []) rfl ⟨hg, hs, hd⟩ (by kernel_rfl) ⟨mu rfl i0, o1 [(9, some 0)] rfl fun _ _ h n => ok_len rfl rfl Tryz.underlying130 (IsV.rd n.1), ob1 rfl fun _ _ h n => ok_move rfl (cI rfl), trivial⟩ [⟨_, _⟩, ⟨_, _⟩, ⟨_, _⟩, ⟨_, _⟩, ⟨_, _⟩] (fun b q p => ⟨p.ke 0 rfl i0, p.ke 3 rfl i3, p.ou 0 9 rfl, p.ou 1 10 rfl, p.ou 2 11 rfl, trivial⟩) ?_
 rintro a k ⟨⟨hg, hs, hd⟩, i0, i3, i9, i10, i11, _⟩
 refine wp_block ?_
 obtain ⟨f1, hf1, hr⟩ := bind_some hr
 refine cutFe f1 (fun s' c l => Bs noF k0 36 c l ∧ IsV slices_ (c.get 0) l ∧ IsV s'.1 (c.get 3) l ∧ IsV slices_ (c.get 9) l ∧ IsL slices_ (c.get 10) l ∧ IsV s'.2 (c.get 11) l ∧ True) (fun i' s' c l => (i' = 0 ∧ Bs noF k0 36 c l ∧ IsV slices_ (c.get 0) l ∧ IsV s'.1 (c.get 3) l ∧ True)) (fun r' c l => bodyPost Tryz.prog Tryz.f105 (RetC noF k0 (IsOwn k0.w.heap.size 92 r')) .ret c l.w) ?_ hQ ?_ ?_ ?_
 ·intro Q1 W1 hgo hex hret
  refine sim_loop ?_ _ _ _ _ _ hf1 ⟨⟨hg, hs, hd⟩, i0, i3, i9, i10, i11, trivial⟩ Q1 W1 hgo hex hret
  clear hr hf1 hgo hex hret W1 hQ hg hs hd i0 i10 i11 i3 i9
  intro s1 fl_ a k hr hS Q hQ hgo943 hex944 hret945
  obtain ⟨⟨hg, hs, hd⟩, i0, i3, i9, i10, i11, _⟩ := hS
  unfold slices_Concat_span_L0 at hr
  refine stepL 1 (_ :: []) rfl ⟨hg, hs, hd⟩ (by kernel_rfl) ⟨o1 [(11, none), (10, none)] rfl fun _ _ h n => ok_lss rfl (up i11 h n.1) (up i10 h n.2.1), trivial⟩ [⟨_, _⟩, ⟨_, _⟩, ⟨_, _⟩, ⟨_, _⟩, ⟨_, _⟩, ⟨_, _⟩] (fun b q p => ⟨p.ke 0 rfl i0, p.ke 3 rfl i3, p.ke 9 rfl i9, p.ke 10 rfl i10, p.ke 11 rfl i11, p.ou 0 12 rfl, trivial⟩) ?_
  rintro a k ⟨⟨hg, hs, hd⟩, i0, i3, i9, i10, i11, i12, _⟩
  refine wp_seq ?_
  refine wp_cond_split (isBool i12) (fun hc960 => ?_) (fun hc960 => ?_)
  ·rw [if_pos hc960] at hr
   refine wp_skip ?_
   refine wp_seq ?_
   refine wp_block ?_
   refine wp_seq ?_
   obtain ⟨x1, hx1, hr⟩ := bind_some hr
   refine cut (fun a' k' => Bs noF k0 36 a' k' ∧ (IsV slices_) (a'.get 0) k' ∧ (IsV s1.1) (a'.get 3) k' ∧ (IsV x1) (a'.get 5) k' ∧ (IsV slices_) (a'.get 9) k' ∧ (IsL slices_) (a'.get 10) k' ∧ (IsV s1.2) (a'.get 11) k' ∧ True) ?_ hQ ?_
   ·intro Q2 W2 w1
    refine gS 3 (_ :: _ :: _ :: []) hs (by kernel_rfl) ⟨o1 [(9, none), (11, none)] rfl fun _ _ h n => ok_indexAddr rfl Tryz.underlying130 ty90 (IsV.rd (up i9 h n.1)) (up i11 h n.2.1) hx1, o1 [(13, some 0)] rfl fun _ _ h n => ok_load rfl ty90 n.1, cp 1 rfl rfl, trivial⟩ W2 fun b q p => ?_
    exact tail_done (k := q) (w1 _ _ ⟨Bs.post ⟨hg, hs, hd⟩ p, p.ke 0 rfl i0, p.ke 3 rfl i3, p.ou 2 5 rfl, p.ke 9 rfl i9, p.ke 10 rfl i10, p.ke 11 rfl i11, trivial⟩)
   rintro a k ⟨⟨hg, hs, hd⟩, i0, i3, i5, i9, i10, i11, _⟩
   refine wp_seq ?_
   obtain ⟨x2, hx2, hr⟩ := bind_some hr
   refine cut (fun a' k' => Bs noF k0 36 a' k' ∧ (IsV slices_) (a'.get 0) k' ∧ (IsV x2) (a'.get 3) k' ∧ (IsV slices_) (a'.get 9) k' ∧ (IsL slices_) (a'.get 10) k' ∧ (IsV s1.2) (a'.get 11) k' ∧ True) ?_ hQ ?_
   ·intro Q3 W3 w2
    refine gS 5 (_ :: _ :: _ :: _ :: _ :: []) hs (by kernel_rfl) ⟨mu rfl i3, mu rfl i5, o1 [(16, some 1)] rfl fun _ _ h n => ok_len rfl rfl Tryz.underlying90 (IsV.rd n.1), o1 [(15, some 0), (17, some 2)] rfl fun _ _ h n => ok_add rfl n.1 n.2.1 hx2, cp 3 rfl rfl, trivial⟩ W3 fun b q p => ?_
    exact tail_done (k := q) (w2 _ _ ⟨Bs.post ⟨hg, hs, hd⟩ p, p.ke 0 rfl i0, p.ou 4 3 rfl, p.ke 9 rfl i9, p.ke 10 rfl i10, p.ke 11 rfl i11, trivial⟩)
   rintro a k ⟨⟨hg, hs, hd⟩, i0, i3, i9, i10, i11, _⟩
   refine stepL 2 (_ :: _ :: []) rfl ⟨hg, hs, hd⟩ (by kernel_rfl) ⟨mu rfl i3, o1 [(19, some 0)] rfl fun _ _ h n => ok_lss rfl n.1 (cI rfl), trivial⟩ [⟨_, _⟩, ⟨_, _⟩, ⟨_, _⟩, ⟨_, _⟩, ⟨_, _⟩, ⟨_, _⟩] (fun b q p => ⟨p.ke 0 rfl i0, p.ke 3 rfl i3, p.ke 9 rfl i9, p.ke 10 rfl i10, p.ke 11 rfl i11, p.ou 1 20 rfl, trivial⟩) ?_
   rintro a k ⟨⟨hg, hs, hd⟩, i0, i3, i9, i10, i11, i20, _⟩
   refine wp_cond_split (isBool i20) (fun hc953 => ?_) (fun hc953 => ?_)
   ·rw [if_pos hc953] at hr
    simp at hr
   rw [if_neg (by rw [hc953]; decide)] at hr
   refine wp_skip ?_
   obtain ⟨x3, hx3, hr⟩ := bind_some hr
   refine cut (fun a' k' => Bs noF k0 36 a' k' ∧ (IsV slices_) (a'.get 0) k' ∧ (IsV x2) (a'.get 3) k' ∧ (IsV slices_) (a'.get 9) k' ∧ (IsL slices_) (a'.get 10) k' ∧ (IsV x3) (a'.get 11) k' ∧ True) ?_ hQ ?_
   ·intro Q4 W4 w3
    refine gS 2 (_ :: _ :: []) hs (by kernel_rfl) ⟨o1 [(11, none)] rfl fun _ _ h n => ok_add rfl (up i11 h n.1) (cI rfl) hx3, cm 0 rfl rfl, trivial⟩ W4 fun b q p => ?_
    exact tail_done (k := q) (w3 _ _ ⟨Bs.post ⟨hg, hs, hd⟩ p, p.ke 0 rfl i0, p.ke 3 rfl i3, p.ke 9 rfl i9, p.ke 10 rfl i10, p.ou 1 11 rfl, trivial⟩)
   rintro a k ⟨⟨hg, hs, hd⟩, i0, i3, i9, i10, i11, _⟩
   exact hgo943 _ _ _ (Option.some.inj hr).symm ⟨⟨hg, hs, hd⟩, i0, i3, i9, i10, i11, trivial⟩
  rw [if_neg (by rw [hc960]; decide)] at hr
  refine wp_exit ?_
  exact hex944 _ _ _ _ (Option.some.inj hr).symm ⟨rfl, ⟨hg, hs, hd⟩, i0, i3, trivial⟩
 ·rintro r1 a k rfl hR
  dsimp only at hr
  obtain rfl := Option.some.inj hr
  exact hR
 ·rintro _ _ _ rfl _
  simp at hr
 clear hf1
 rintro _ s2 a k rfl ⟨rfl, ⟨hg, hs, hd⟩, i0, i3, _⟩
 dsimp only at hr
 refine wp_seq ?_
 obtain ⟨x4, hx4, hr⟩ := bind_some hr
 refine cut (fun a' k' => Bs noF k0 36 a' k' ∧ (IsV slices_) (a'.get 0) k' ∧ IsOwn 0 92 x4 (a'.get 6) k' ∧ Lo k0 (obF (a'.get 6)) ∧ True) ?_ hQ ?_
 ·intro Q5 W5 w4
  refine gS 3 (_ :: _ :: _ :: []) hs (by kernel_rfl) ⟨mu rfl i3, o1 [(23, some 0)] rfl fun _ _ h n => ok_call rfl Tryz.call116 (ret_weaken h.size (slices_Grow_span_okO rfl n.1 hx4)), cp 1 rfl rfl, trivial⟩ W5 fun b q p => ?_
  have hgq := hg.then p.grow
  have hsb := p.size.trans hs
  have hdb := p.defers.trans hd
  have j0 := p.ke 0 rfl i0
  have j6 : (IsOwn k.w.heap.size 92 x4) (b.get 6) q := p.ou 2 6 rfl
  have x6 : Lo k (obF (b.get 6)) := j6.loF
  have y6 := x6.chg hg
  replace j6 := j6.weaken (Nat.zero_le _)
  exact tail_done (k := q) (w4 _ _ ⟨⟨hgq, hsb, hdb⟩, j0, j6, y6, trivial⟩)
 rintro a k ⟨⟨hg, hs, hd⟩, i0, i6, n6, _⟩
 refine wp_seq ?_
 refine cutS (fun c l => Bs noF k0 36 c l ∧ IsOwn 0 92 x4 (c.get 6) l ∧ Lo k0 (obF (c.get 6)) ∧ IsV slices_ (c.get 25) l ∧ IsL slices_ (c.get 26) l ∧ IsI 0 (c.get 27) l ∧ True) ?_ ?_
 ·intro Q6 W6 w5
  refine gS 3 (_ :: _ :: ⟨some (IsI 0), []⟩ :: []) hs (by kernel_rfl) ⟨mu rfl i0, o1 [(25, some 0)] rfl fun _ _ h n => ok_len rfl rfl Tryz.underlying130 (IsV.rd n.1), ob1 rfl fun _ _ h n => ok_move rfl (cI rfl), trivial⟩ W6 fun b q p => ?_
  exact tail_done (k := q) (w5 _ _ ⟨Bs.post ⟨hg, hs, hd⟩ p, p.ke 6 rfl i6, (by rw [p.old 6 rfl]; exact n6), p.ou 0 25 rfl, p.ou 1 26 rfl, p.ou 2 27 rfl, trivial⟩)
 rintro a k ⟨⟨hg, hs, hd⟩, i6, n6, i25, i26, i27, _⟩
 refine wp_block ?_
 obtain ⟨f2, hf2, hr⟩ := bind_some hr
 refine cutFe f2 (fun s' c l => Bs noF k0 36 c l ∧ IsOwn 0 92 s'.1 (c.get 6) l ∧ Lo k0 (obF (c.get 6)) ∧ IsV slices_ (c.get 25) l ∧ IsL slices_ (c.get 26) l ∧ IsV s'.2 (c.get 27) l ∧ True) (fun i' s' c l => (i' = 2 ∧ Bs noF k0 36 c l ∧ IsOwn 0 92 s'.1 (c.get 6) l ∧ Lo k0 (obF (c.get 6)) ∧ True)) (fun r' c l => bodyPost Tryz.prog Tryz.f105 (RetC noF k0 (IsOwn k0.w.heap.size 92 r')) .ret c l.w) ?_ hQ ?_ ?_ ?_
 ·intro Q7 W7 hgo hex hret
  refine sim_loop ?_ _ _ _ _ _ hf2 ⟨⟨hg, hs, hd⟩, i6, n6, i25, i26, i27, trivial⟩ Q7 W7 hgo hex hret
  clear hr hf2 hgo hex hret W7 hQ hg hs hd i25 i26 i27 i6 n6
  intro s3 fl_ a k hr hS Q hQ hgo968 hex969 hret970
  obtain ⟨⟨hg, hs, hd⟩, i6, n6, i25, i26, i27, _⟩ := hS
  unfold slices_Concat_span_L1 at hr
  refine cutS (fun c l => Bs noF k0 36 c l ∧ IsOwn 0 92 s3.1 (c.get 6) l ∧ Lo k0 (obF (c.get 6)) ∧ IsV slices_ (c.get 25) l ∧ IsL slices_ (c.get 26) l ∧ IsV s3.2 (c.get 27) l ∧ (IsV (decide (s3.2 < (slices_.length : Int)))) (c.get 28) l ∧ True) ?_ ?_
  ·intro Q8 W8 w6
   refine gS 1 (_ :: []) hs (by kernel_rfl) ⟨o1 [(27, none), (26, none)] rfl fun _ _ h n => ok_lss rfl (up i27 h n.1) (up i26 h n.2.1), trivial⟩ W8 fun b q p => ?_
   exact tail_done (k := q) (w6 _ _ ⟨Bs.post ⟨hg, hs, hd⟩ p, p.ke 6 rfl i6, (by rw [p.old 6 rfl]; exact n6), p.ke 25 rfl i25, p.ke 26 rfl i26, p.ke 27 rfl i27, p.ou 0 28 rfl, trivial⟩)
  rintro a k ⟨⟨hg, hs, hd⟩, i6, n6, i25, i26, i27, i28, _⟩
  refine wp_seq ?_
  refine wp_cond_split (isBool i28) (fun hc981 => ?_) (fun hc981 => ?_)
  ·rw [if_pos hc981] at hr
   refine wp_skip ?_
   refine wp_seq ?_
   refine wp_block ?_
   refine wp_seq ?_
   obtain ⟨x5, hx5, hr⟩ := bind_some hr
   refine cut (fun a' k' => Bs noF k0 36 a' k' ∧ IsOwn 0 92 s3.1 (a'.get 6) k' ∧ Lo k0 (obF (a'.get 6)) ∧ (IsV x5) (a'.get 8) k' ∧ (IsV slices_) (a'.get 25) k' ∧ (IsL slices_) (a'.get 26) k' ∧ (IsV s3.2) (a'.get 27) k' ∧ True) ?_ hQ ?_
   ·intro Q9 W9 w7
    refine gS 3 (_ :: _ :: _ :: []) hs (by kernel_rfl) ⟨o1 [(25, none), (27, none)] rfl fun _ _ h n => ok_indexAddr rfl Tryz.underlying130 ty90 (IsV.rd (up i25 h n.1)) (up i27 h n.2.1) hx5, o1 [(29, some 0)] rfl fun _ _ h n => ok_load rfl ty90 n.1, cp 1 rfl rfl, trivial⟩ W9 fun b q p => ?_
    exact tail_done (k := q) (w7 _ _ ⟨Bs.post ⟨hg, hs, hd⟩ p, p.ke 6 rfl i6, (by rw [p.old 6 rfl]; exact n6), p.ou 2 8 rfl, p.ke 25 rfl i25, p.ke 26 rfl i26, p.ke 27 rfl i27, trivial⟩)
   rintro a k ⟨⟨hg, hs, hd⟩, i6, n6, i8, i25, i26, i27, _⟩
   obtain ⟨x7, hx7, hr⟩ := bind_some hr
   refine cut (fun a' k' => Bs noF k0 36 a' k' ∧ IsOwn 0 92 x7 (a'.get 6) k' ∧ Lo k0 (obF (a'.get 6)) ∧ (IsV slices_) (a'.get 25) k' ∧ (IsL slices_) (a'.get 26) k' ∧ (IsV s3.2) (a'.get 27) k' ∧ True) ?_ hQ ?_
   ·intro Q10 W10 w8
    refine gS 2 (⟨some (OwnAt (a.get 6) 0 92 s3.1), [(6, none)]⟩ :: _ :: []) hs (by kernel_rfl) ⟨ob1 rfl fun _ _ h n => ok_moveOA (.inl rfl) (ownAt n.1 (up i6 h n.1)), mu rfl i8, trivial⟩ W10 fun b q p => ?_
    have hgq := hg.then p.grow
    have hsb := p.size.trans hs
    have hdb := p.defers.trans hd
    have j25 := p.ke 25 rfl i25
    have j26 := p.ke 26 rfl i26
    have j27 := p.ke 27 rfl i27
    have e31 : b.get 31 = a.get 6 := (p.ou 0 31 rfl).1
    have j31 : IsOwn 0 92 s3.1 (b.get 31) q := (p.ou 0 31 rfl).2
    have y31 : Lo k0 (obF (b.get 31)) := by rw [e31]; exact n6
    have j32 : (IsV x5) (b.get 32) q := p.ou 1 32 rfl
    have hns := j31.nshF
    refine tail_appendS (i := 2) (d := 33) rfl rfl rfl rfl (by rw [hsb]; decide) (e := 92) Tryz.underlying90 eo92 j31 (IsV.rd j32) hx7 fun b2 q2 hsz hdf hoth hch hown hob => ?_
    have hle := hch.le hns
    have yn : Lo k0 (obF (b2.get 33)) := y31.app hgq hob
    replace j25 := Pers.pers hle j25
    replace j26 := Pers.pers hle j26
    replace j27 := Pers.pers hle j27
    replace j32 := Pers.pers hle j32
    replace hgq := hgq.step hch y31.wr
    rw [← hoth 25 (by decide)] at j25
    rw [← hoth 26 (by decide)] at j26
    rw [← hoth 27 (by decide)] at j27
    rw [← hoth 32 (by decide)] at j32
    have j33 := hown
    have y33 := yn
    replace hsb := hsz.trans hsb
    replace hdb := hdf.trans hdb
    clear hle hch hown hob hns yn hsz hdf hoth
    obtain ⟨b, hbb⟩ : ∃ b, b = b2 := ⟨b2, rfl⟩
    subst hbb
    obtain ⟨q, hqq⟩ : ∃ q, q = q2 := ⟨q2, rfl⟩
    subst hqq
    refine tail_assign (i := 3) (d := 6) rfl rfl (.inl rfl) rfl (by rw [hsb]; decide) fun b2 hsz hdf hnew hoth => ?_
    have jn : (IsOwn 0 92 x7) (b2.get 6) q := by rw [hnew]; exact j33
    have yn : Lo k0 (obF (b2.get 6)) := by rw [hnew]; exact y33
    rw [← hoth 25 (by decide)] at j25
    rw [← hoth 26 (by decide)] at j26
    rw [← hoth 27 (by decide)] at j27
    rw [← hoth 32 (by decide)] at j32
    have j6 := jn
    have y6 := yn
    replace hsb := hsz.trans hsb
    replace hdb := hdf.trans hdb
    clear hsz hdf hoth
    obtain ⟨b, hbb⟩ : ∃ b, b = b2 := ⟨b2, rfl⟩
    subst hbb
    exact tail_done (k := q) (w8 _ _ ⟨⟨hgq, hsb, hdb⟩, j6, y6, j25, j26, j27, trivial⟩)
   rintro a k ⟨⟨hg, hs, hd⟩, i6, n6, i25, i26, i27, _⟩
   obtain ⟨x8, hx8, hr⟩ := bind_some hr
   refine cut (fun a' k' => Bs noF k0 36 a' k' ∧ IsOwn 0 92 x7 (a'.get 6) k' ∧ Lo k0 (obF (a'.get 6)) ∧ (IsV slices_) (a'.get 25) k' ∧ (IsL slices_) (a'.get 26) k' ∧ (IsV x8) (a'.get 27) k' ∧ True) ?_ hQ ?_
   ·intro Q11 W11 w9
    refine gS 2 (_ :: _ :: []) hs (by kernel_rfl) ⟨o1 [(27, none)] rfl fun _ _ h n => ok_add rfl (up i27 h n.1) (cI rfl) hx8, cm 0 rfl rfl, trivial⟩ W11 fun b q p => ?_
    exact tail_done (k := q) (w9 _ _ ⟨Bs.post ⟨hg, hs, hd⟩ p, p.ke 6 rfl i6, (by rw [p.old 6 rfl]; exact n6), p.ke 25 rfl i25, p.ke 26 rfl i26, p.ou 1 27 rfl, trivial⟩)
   rintro a k ⟨⟨hg, hs, hd⟩, i6, n6, i25, i26, i27, _⟩
   exact hgo968 _ _ _ (Option.some.inj hr).symm ⟨⟨hg, hs, hd⟩, i6, n6, i25, i26, i27, trivial⟩
  rw [if_neg (by rw [hc981]; decide)] at hr
  refine wp_exit ?_
  exact hex969 _ _ _ _ (Option.some.inj hr).symm ⟨rfl, ⟨hg, hs, hd⟩, i6, n6, trivial⟩
 ·rintro r2 a k rfl hR
  dsimp only at hr
  obtain rfl := Option.some.inj hr
  exact hR
 ·rintro _ _ _ rfl _
  simp at hr
 clear hf2
 rintro _ s4 a k rfl ⟨rfl, ⟨hg, hs, hd⟩, i6, n6, _⟩
 dsimp only at hr
 refine cutS (fun c l => Bs noF k0 36 c l ∧ IsOwn 0 92 s4.1 (c.get 2) l ∧ Lo k0 (obF (c.get 2)) ∧ True) ?_ ?_
 ·intro Q12 W12 w10
  refine gS 2 (⟨some (OwnAt (a.get 6) 0 92 s4.1), [(6, none)]⟩ :: ⟨some (OwnAt (a.get 6) 0 92 s4.1), [(35, some 0)]⟩ :: []) hs (by kernel_rfl) ⟨ob1 rfl fun _ _ h n => ok_moveOA (.inl rfl) (ownAt n.1 (up i6 h n.1)), ob1 rfl fun _ _ h n => ok_moveOA (.inr rfl) n.1, trivial⟩ W12 fun b q p => ?_
  have hgq := hg.then p.grow
  have hsb := p.size.trans hs
  have hdb := p.defers.trans hd
  have e2 : b.get 2 = a.get 6 := (p.ou 1 2 rfl).1
  have j2 : IsOwn 0 92 s4.1 (b.get 2) q := (p.ou 1 2 rfl).2
  have y2 : Lo k0 (obF (b.get 2)) := by rw [e2]; exact n6
  exact tail_done (k := q) (w10 _ _ ⟨⟨hgq, hsb, hdb⟩, j2, y2, trivial⟩)
 rintro a k ⟨⟨hg, hs, hd⟩, i2, n2, _⟩
 refine wp_ret ?_
 obtain rfl := Option.some.inj hr
 exact retC1 rfl hd hg (show ResOk _ _ _ (.tmp 2) _ from IsOwn.raise (k0 := k0) i2 n2)
theorem slices_Concat_span_ok {k0 : K} {v0 : Value} {slices_ : (List (List RegionSpan))} {r : (List RegionSpan)} (i0 : (IsV slices_) v0 k0) (hr : slices_Concat_span slices_ = some r) :
  Calls Tryz.prog 105 #[v0] k0.w (Ret k0 (IsV r)) :=
 ret_give (slices_Concat_span_okO i0 hr)
def slices_BinarySearchFunc_span_int_L0 (x_ : (List RegionSpan)) (target_ : Int) (cmp_ : (RegionSpan → Int → Option (Int))) (s1 : Int × Int) : Option (Flow (Int × Int) (Int × Bool)) :=
 if (decide (s1.1 < s1.2)) then
  (addI s1.1 s1.2).bind fun x1 =>
  (getI x_ (IntKind.i64.wrap (IK.shr (IK.mk (IntKind.u64.wrap x1) : IK .u64) 1).n)).bind fun x2 =>
  (cmp_ x2 target_).bind fun x3 =>
  (if (decide (x3 < 0)) then
   (addI (IntKind.i64.wrap (IK.shr (IK.mk (IntKind.u64.wrap x1) : IK .u64) 1).n) 1).bind fun x4 =>
   some (x4, s1.2)
  else
   some (s1.1, (IntKind.i64.wrap (IK.shr (IK.mk (IntKind.u64.wrap x1) : IK .u64) 1).n))).bind fun s2 =>
  some (.go (s2.1, s2.2))
 else
  some (.ex 0 (s1.1, s1.2))
def slices_BinarySearchFunc_span_int (x_ : (List RegionSpan)) (target_ : Int) (cmp_ : (RegionSpan → Int → Option (Int))) : Option (Int × Bool) :=
 (iterL (slices_BinarySearchFunc_span_int_L0 x_ target_ cmp_) (x_.length + 1) (0, (x_.length : Int))).bind fun f1 => match f1 with
  | .go _ => none
  | .ex _ s1 =>
   (if (decide (s1.1 < (x_.length : Int))) then
    (getI x_ s1.1).bind fun x1 =>
    (cmp_ x1 target_).bind fun x2 =>
    some (x2 == 0)
   else
    some false).bind fun x3 =>
   some (s1.1, x3)
  | .ret r1 => some r1
theorem slices_BinarySearchFunc_span_int_ok {k0 : K} {v0 v1 v2 : Value} {x_ : (List RegionSpan)} {target_ : Int} {cmp_ : (RegionSpan → Int → Option (Int))} {r : Int × Bool} (i0 : (IsV x_) v0 k0) (i1 : (IsV target_) v1 k0) (i2 : (IsFn2 Tryz.prog cmp_) v2 k0) (hr : slices_BinarySearchFunc_span_int x_ target_ cmp_ = some r) :
  Calls Tryz.prog 117 #[v0, v1, v2] k0.w (Ret k0 (IsTup2 (IsV r.1) (IsV r.2))) := by
 unfold slices_BinarySearchFunc_span_int at hr
 refine Ret.ofC ?_
 refine enterK Tryz.func117 rfl Tryz.ntmps117 (show 3 ≤ 49 by decide) fun a k hk0 hs hd ha => ?_
 obtain ⟨e0, e1, e2, _⟩ := ha
 replace i0 : (IsV x_) (a.get 0) k := by rw [e0, hk0]; exact i0
 replace i1 : (IsV target_) (a.get 1) k := by rw [e1, hk0]; exact i1
 replace i2 : (IsFn2 Tryz.prog cmp_) (a.get 2) k := by rw [e2, hk0]; exact i2
 have hQ : Gb.LetsOut (bodyPost Tryz.prog Tryz.f117 (RetC noF k0 (IsTup2 (IsV r.1) (IsV r.2)))) := letsOutC
 have hg : Chg noF k0 k := by rw [hk0]; exact Chg.refl _ k0
 refine stepL 2 (⟨some (IsI 0), []⟩ :: ⟨some (IsV false), []⟩ :: []) rfl ⟨hg, hs, hd⟩ (by kernel_rfl) ⟨aI rfl rfl, ob1 rfl fun _ _ h n => ok_assign rfl (isV_bool.2 rfl), trivial⟩ [⟨_, _⟩, ⟨_, _⟩, ⟨_, _⟩] (fun b q p => ⟨p.ke 0 rfl i0, p.ke 1 rfl i1, p.ke 2 rfl i2, trivial⟩) ?_
 rintro a k ⟨⟨hg, hs, hd⟩, i0, i1, i2, _⟩
 refine stepL 3 (_ :: _ :: _ :: []) rfl ⟨hg, hs, hd⟩ (by kernel_rfl) ⟨mu rfl i0, o1 [(12, some 0)] rfl fun _ _ h n => ok_len rfl rfl Tryz.underlying90 (IsV.rd n.1), cp 1 rfl rfl, trivial⟩ [⟨_, _⟩, ⟨_, _⟩, ⟨_, _⟩, ⟨_, _⟩] (fun b q p => ⟨p.ke 0 rfl i0, p.ke 1 rfl i1, p.ke 2 rfl i2, p.ou 2 8 rfl, trivial⟩) ?_
 rintro a k ⟨⟨hg, hs, hd⟩, i0, i1, i2, i8, _⟩
 refine stepL 3 (_ :: ⟨some (IsI 0), []⟩ :: _ :: []) rfl ⟨hg, hs, hd⟩ (by kernel_rfl) ⟨mu rfl i8, aI rfl rfl, cp 0 rfl rfl, trivial⟩ [⟨_, _⟩, ⟨_, _⟩, ⟨_, _⟩, ⟨_, _⟩, ⟨_, _⟩, ⟨_, _⟩] (fun b q p => ⟨p.ke 0 rfl i0, p.ke 1 rfl i1, p.ke 2 rfl i2, p.ke 8 rfl i8, p.ou 1 9 rfl, p.ou 2 10 rfl, trivial⟩) ?_
 rintro a k ⟨⟨hg, hs, hd⟩, i0, i1, i2, i8, i9, i10, _⟩
 refine wp_seq ?_
 refine wp_block ?_
 obtain ⟨f1, hf1, hr⟩ := bind_some hr
 refine cutFe f1 (fun s' c l => Bs noF k0 49 c l ∧ IsV x_ (c.get 0) l ∧ IsV target_ (c.get 1) l ∧ IsFn2 Tryz.prog cmp_ (c.get 2) l ∧ IsL x_ (c.get 8) l ∧ IsV s'.1 (c.get 9) l ∧ IsV s'.2 (c.get 10) l ∧ True) (fun i' s' c l => (i' = 0 ∧ Bs noF k0 49 c l ∧ IsV x_ (c.get 0) l ∧ IsV target_ (c.get 1) l ∧ IsFn2 Tryz.prog cmp_ (c.get 2) l ∧ IsL x_ (c.get 8) l ∧ IsV s'.1 (c.get 9) l ∧ True)) (fun r' c l => bodyPost Tryz.prog Tryz.f117 (RetC noF k0 (IsTup2 (IsV r'.1) (IsV r'.2))) .ret c l.w) ?_ hQ ?_ ?_ ?_
 ·intro Q1 W1 hgo hex hret
  refine sim_loop ?_ _ _ _ _ _ hf1 ⟨⟨hg, hs, hd⟩, i0, i1, i2, i8, i9, i10, trivial⟩ Q1 W1 hgo hex hret
  clear hr hf1 hgo hex hret W1 hQ hg hs hd i0 i1 i10 i2 i8 i9
  intro s1 fl_ a k hr hS Q hQ hgo1007 hex1008 hret1009
  obtain ⟨⟨hg, hs, hd⟩, i0, i1, i2, i8, i9, i10, _⟩ := hS
  unfold slices_BinarySearchFunc_span_int_L0 at hr
  refine wp_seq ?_
  refine stepL 3 (_ :: _ :: _ :: []) rfl ⟨hg, hs, hd⟩ (by kernel_rfl) ⟨mu rfl i9, mu rfl i10, o1 [(15, some 0), (16, some 1)] rfl fun _ _ h n => ok_lss rfl n.1 n.2.1, trivial⟩ [⟨_, _⟩, ⟨_, _⟩, ⟨_, _⟩, ⟨_, _⟩, ⟨_, _⟩, ⟨_, _⟩, ⟨_, _⟩] (fun b q p => ⟨p.ke 0 rfl i0, p.ke 1 rfl i1, p.ke 2 rfl i2, p.ke 8 rfl i8, p.ke 9 rfl i9, p.ke 10 rfl i10, p.ou 2 17 rfl, trivial⟩) ?_
  rintro a k ⟨⟨hg, hs, hd⟩, i0, i1, i2, i8, i9, i10, i17, _⟩
  refine wp_cond_split (isBool i17) (fun hc1027 => ?_) (fun hc1027 => ?_)
  ·rw [if_pos hc1027] at hr
   refine wp_skip ?_
   refine wp_block ?_
   refine wp_seq ?_
   obtain ⟨x1, hx1, hr⟩ := bind_some hr
   refine cut (fun a' k' => Bs noF k0 49 a' k' ∧ (IsV x_) (a'.get 0) k' ∧ (IsV target_) (a'.get 1) k' ∧ (IsFn2 Tryz.prog cmp_) (a'.get 2) k' ∧ (IsL x_) (a'.get 8) k' ∧ (IsV s1.1) (a'.get 9) k' ∧ (IsV s1.2) (a'.get 10) k' ∧ (IsI (IntKind.i64.wrap (IK.shr (IK.mk (IntKind.u64.wrap x1) : IK .u64) 1).n)) (a'.get 11) k' ∧ True) ?_ hQ ?_
   ·intro Q2 W2 w1
    refine gS 7 (_ :: _ :: _ :: ⟨some (IsV (IK.mk (IntKind.u64.wrap x1) : IK .u64)), [(20, some 2)]⟩ :: ⟨some (IsV (IK.shr (IK.mk (IntKind.u64.wrap x1) : IK .u64) 1)), [(21, some 3)]⟩ :: ⟨some (IsI (IntKind.i64.wrap (IK.shr (IK.mk (IntKind.u64.wrap x1) : IK .u64) 1).n)), [(22, some 4)]⟩ :: _ :: []) hs (by kernel_rfl) ⟨mu rfl i9, mu rfl i10, o1 [(18, some 0), (19, some 1)] rfl fun _ _ h n => ok_add rfl n.1 n.2.1 hx1, ob1 rfl fun _ _ h n => ok_conv_ik rfl (by rw [Tryz.underlying3]; rfl) Tryz.underlying88 n.1, ob1 rfl fun _ _ h n => ok_shrK rfl n.1 (by decide) (by decide), ob1 rfl fun _ _ h n => ok_conv_ki rfl (by rw [Tryz.underlying88]; rfl) Tryz.underlying3 n.1, cp 5 rfl rfl, trivial⟩ W2 fun b q p => ?_
    exact tail_done (k := q) (w1 _ _ ⟨Bs.post ⟨hg, hs, hd⟩ p, p.ke 0 rfl i0, p.ke 1 rfl i1, p.ke 2 rfl i2, p.ke 8 rfl i8, p.ke 9 rfl i9, p.ke 10 rfl i10, p.ou 6 11 rfl, trivial⟩)
   rintro a k ⟨⟨hg, hs, hd⟩, i0, i1, i2, i8, i9, i10, i11, _⟩
   refine wp_seq ?_
   obtain ⟨x2, hx2, hr⟩ := bind_some hr
   obtain ⟨x3, hx3, hr⟩ := bind_some hr
   refine cut (fun a' k' => Bs noF k0 49 a' k' ∧ (IsV x_) (a'.get 0) k' ∧ (IsV target_) (a'.get 1) k' ∧ (IsFn2 Tryz.prog cmp_) (a'.get 2) k' ∧ (IsL x_) (a'.get 8) k' ∧ (IsV s1.1) (a'.get 9) k' ∧ (IsV s1.2) (a'.get 10) k' ∧ (IsI (IntKind.i64.wrap (IK.shr (IK.mk (IntKind.u64.wrap x1) : IK .u64) 1).n)) (a'.get 11) k' ∧ (IsV (decide (x3 < 0))) (a'.get 31) k' ∧ True) ?_ hQ ?_
   ·intro Q3 W3 w2
    refine gS 8 (_ :: _ :: _ :: _ :: _ :: _ :: ⟨some (IsV x3), [(24, some 0), (28, some 4), (29, some 5)]⟩ :: _ :: []) hs (by kernel_rfl) ⟨mu rfl i2, mu rfl i0, mu rfl i11, o1 [(25, some 1), (26, some 2)] rfl fun _ _ h n => ok_indexAddr rfl Tryz.underlying90 ty92 (IsV.rd n.1) n.2.1 hx2, o1 [(27, some 3)] rfl fun _ _ h n => ok_load rfl ty92 n.1, mu rfl i1, ob1 rfl fun _ _ h n => ok_callF2 rfl n.1 n.2.1 n.2.2.1 hx3, o1 [(30, some 6)] rfl fun _ _ h n => ok_lss rfl n.1 (cI rfl), trivial⟩ W3 fun b q p => ?_
    exact tail_done (k := q) (w2 _ _ ⟨Bs.post ⟨hg, hs, hd⟩ p, p.ke 0 rfl i0, p.ke 1 rfl i1, p.ke 2 rfl i2, p.ke 8 rfl i8, p.ke 9 rfl i9, p.ke 10 rfl i10, p.ke 11 rfl i11, p.ou 7 31 rfl, trivial⟩)
   rintro a k ⟨⟨hg, hs, hd⟩, i0, i1, i2, i8, i9, i10, i11, i31, _⟩
   obtain ⟨s2, hs2, hr⟩ := bind_some hr
   refine cut (fun a' k' => Bs noF k0 49 a' k' ∧ (IsV x_) (a'.get 0) k' ∧ (IsV target_) (a'.get 1) k' ∧ (IsFn2 Tryz.prog cmp_) (a'.get 2) k' ∧ (IsL x_) (a'.get 8) k' ∧ (IsV s2.1) (a'.get 9) k' ∧ (IsV s2.2) (a'.get 10) k' ∧ True) ?_ hQ ?_
   ·intro Q4 W4 w3
    replace hr := hs2
    clear hQ
    have hQ := W4
    refine wp_cond_split (isBool i31) (fun hc1021 => ?_) (fun hc1021 => ?_)
    ·rw [if_pos hc1021] at hr
     obtain ⟨x4, hx4, hr⟩ := bind_some hr
     refine cut (fun a' k' => Bs noF k0 49 a' k' ∧ (IsV x_) (a'.get 0) k' ∧ (IsV target_) (a'.get 1) k' ∧ (IsFn2 Tryz.prog cmp_) (a'.get 2) k' ∧ (IsL x_) (a'.get 8) k' ∧ (IsV x4) (a'.get 9) k' ∧ (IsV s1.2) (a'.get 10) k' ∧ True) ?_ hQ ?_
     ·intro Q5 W5 w4
      refine gS 3 (_ :: _ :: _ :: []) hs (by kernel_rfl) ⟨mu rfl i11, o1 [(32, some 0)] rfl fun _ _ h n => ok_add rfl n.1 (cI rfl) hx4, cp 1 rfl rfl, trivial⟩ W5 fun b q p => ?_
      exact tail_done (k := q) (w4 _ _ ⟨Bs.post ⟨hg, hs, hd⟩ p, p.ke 0 rfl i0, p.ke 1 rfl i1, p.ke 2 rfl i2, p.ke 8 rfl i8, p.ou 2 9 rfl, p.ke 10 rfl i10, trivial⟩)
     rintro a k ⟨⟨hg, hs, hd⟩, i0, i1, i2, i8, i9, i10, _⟩
     obtain rfl := Option.some.inj hr
     exact w3 _ _ ⟨⟨hg, hs, hd⟩, i0, i1, i2, i8, i9, i10, trivial⟩
    rw [if_neg (by rw [hc1021]; decide)] at hr
    refine cut (fun a' k' => Bs noF k0 49 a' k' ∧ (IsV x_) (a'.get 0) k' ∧ (IsV target_) (a'.get 1) k' ∧ (IsFn2 Tryz.prog cmp_) (a'.get 2) k' ∧ (IsL x_) (a'.get 8) k' ∧ (IsV s1.1) (a'.get 9) k' ∧ (IsI (IntKind.i64.wrap (IK.shr (IK.mk (IntKind.u64.wrap x1) : IK .u64) 1).n)) (a'.get 10) k' ∧ True) ?_ hQ ?_
    ·intro Q6 W6 w5
     refine gS 2 (_ :: _ :: []) hs (by kernel_rfl) ⟨mu rfl i11, cp 0 rfl rfl, trivial⟩ W6 fun b q p => ?_
     exact tail_done (k := q) (w5 _ _ ⟨Bs.post ⟨hg, hs, hd⟩ p, p.ke 0 rfl i0, p.ke 1 rfl i1, p.ke 2 rfl i2, p.ke 8 rfl i8, p.ke 9 rfl i9, p.ou 1 10 rfl, trivial⟩)
    rintro a k ⟨⟨hg, hs, hd⟩, i0, i1, i2, i8, i9, i10, _⟩
    obtain rfl := Option.some.inj hr
    exact w3 _ _ ⟨⟨hg, hs, hd⟩, i0, i1, i2, i8, i9, i10, trivial⟩
   clear hs2
   rintro a k ⟨⟨hg, hs, hd⟩, i0, i1, i2, i8, i9, i10, _⟩
   exact hgo1007 _ _ _ (Option.some.inj hr).symm ⟨⟨hg, hs, hd⟩, i0, i1, i2, i8, i9, i10, trivial⟩
  rw [if_neg (by rw [hc1027]; decide)] at hr
  refine wp_exit ?_
  exact hex1008 _ _ _ _ (Option.some.inj hr).symm ⟨rfl, ⟨hg, hs, hd⟩, i0, i1, i2, i8, i9, trivial⟩
 ·rintro r1 a k rfl hR
  dsimp only at hr
  obtain rfl := Option.some.inj hr
  exact hR
 ·rintro _ _ _ rfl _
  simp at hr
 clear hf1
 rintro _ s3 a k rfl ⟨rfl, ⟨hg, hs, hd⟩, i0, i1, i2, i8, i9, _⟩
 dsimp only at hr
 refine wp_seq ?_
 obtain ⟨x5, hx5, hr⟩ := bind_some hr
 obtain ⟨x6, hx6, hx5⟩ := ite_bind hx5
 obtain ⟨x7, hx7, hx5⟩ := ite_bind hx5
 refine cut (fun a' k' => Bs noF k0 49 a' k' ∧ (IsV s3.1) (a'.get 6) k' ∧ (IsV x5) (a'.get 7) k' ∧ True) ?_ hQ ?_
 ·intro Q7 W7 w6
  refine gS 16 (_ :: _ :: _ :: _ :: _ :: _ :: _ :: _ :: _ :: _ :: _ :: ⟨some (Gd ((decide (s3.1 < (x_.length : Int))) = true) (IsV x7)), [(40, some 5), (44, some 9), (45, some 10)]⟩ :: _ :: _ :: _ :: _ :: []) hs (by kernel_rfl) ⟨mu rfl i9, mu rfl i9, mu rfl i8, o1 [(36, some 1), (37, some 2)] rfl fun _ _ h n => ok_lss rfl n.1 n.2.1, cm 3 rfl rfl, mT rfl rfl i2, mT rfl rfl i0, mT rfl rfl i9, gT [(41, some 6), (42, some 7)] rfl rfl fun hp _ _ h n => ok_indexAddr rfl Tryz.underlying90 ty92 (IsV.rd (Gd.get n.1 hp)) (Gd.get n.2.1 hp) (hx6 hp), gT [(43, some 8)] rfl rfl fun hp _ _ h n => ok_load rfl ty92 (Gd.get n.1 hp), mT rfl rfl i1, gdT rfl rfl fun hp _ _ h n => ok_callF2 rfl (Gd.get n.1 hp) (Gd.get n.2.1 hp) (Gd.get n.2.2.1 hp) (hx7 hp), gT [(46, some 11)] rfl rfl fun hp _ _ h n => ok_eqI rfl (Gd.get n.1 hp) (cI rfl), o1 [(39, some 4), (47, some 12)] rfl fun _ _ h n => ok_pickM rfl n.1 hx5 (Gd.get n.2.1) (cB rfl), cp 0 rfl rfl, cp 13 rfl rfl, trivial⟩ W7 fun b q p => ?_
  exact tail_done (k := q) (w6 _ _ ⟨Bs.post ⟨hg, hs, hd⟩ p, p.ou 14 6 rfl, p.ou 15 7 rfl, trivial⟩)
 rintro a k ⟨⟨hg, hs, hd⟩, i6, i7, _⟩
 refine wp_ret ?_
 obtain rfl := Option.some.inj hr
 exact retC2 rfl hd hg i6 i7
def region_inside_1 (s_ : RegionSpan) (y_ : Int) : Option (Int) :=
 if (decide (s_.to_ ≤ y_)) then
  some (-1)
 else
  some 1
noncomputable def k118 := mk 118 [.st 1, .int] [.int] (fun x => region_inside_1 x.1 x.2) [] [] Tryz.f118 (.n) Tryz.func118 Tryz.call118 rfl rfl fun x => by kernel_rfl
theorem region_inside_1_ok {k0 : K} {v0 v1 : Value} {x0 : RegionSpan} {x1 : Int} {r : Int} (i0 : IsV x0 v0 k0) (i1 : IsV x1 v1 k0) (hr : region_inside_1 x0 x1 = some r) : Calls Tryz.prog 118 #[v0, v1] k0.w (Ret k0 (IsV r)) := (k118.ok.ok k0 [v0, v1] (x0, x1) r ⟨i0, i1⟩ hr)
def region_inside (l_ : (List RegionSpan)) (y_ : Int) : Option (Bool) :=
 (slices_BinarySearchFunc_span_int l_ y_ region_inside_1).bind fun x1 =>
 (if (decide (x1.1 < (l_.length : Int))) then
  (getI l_ x1.1).bind fun x2 =>
  some (decide (x2.from_ ≤ y_))
 else
  some false).bind fun x3 =>
 some x3
theorem region_inside_ok {k0 : K} {v0 v1 : Value} {l_ : (List RegionSpan)} {y_ : Int} {r : Bool} (i0 : (IsV l_) v0 k0) (i1 : (IsV y_) v1 k0) (hr : region_inside l_ y_ = some r) :
  Calls Tryz.prog 106 #[v0, v1] k0.w (Ret k0 (IsV r)) := by
 unfold region_inside at hr
 refine Ret.ofC ?_
 refine enterK Tryz.func106 rfl Tryz.ntmps106 (show 2 ≤ 26 by decide) fun a k hk0 hs hd ha => ?_
 obtain ⟨e0, e1, _⟩ := ha
 replace i0 : (IsV l_) (a.get 0) k := by rw [e0, hk0]; exact i0
 replace i1 : (IsV y_) (a.get 1) k := by rw [e1, hk0]; exact i1
 have hQ : Gb.LetsOut (bodyPost Tryz.prog Tryz.f106 (RetC noF k0 (IsV r))) := letsOutC
 have hg : Chg noF k0 k := by rw [hk0]; exact Chg.refl _ k0
 refine stepL 1 (⟨some (IsV false), []⟩ :: []) rfl ⟨hg, hs, hd⟩ (by kernel_rfl) ⟨ob1 rfl fun _ _ h n => ok_assign rfl (isV_bool.2 rfl), trivial⟩ [⟨_, _⟩, ⟨_, _⟩] (fun b q p => ⟨p.ke 0 rfl i0, p.ke 1 rfl i1, trivial⟩) ?_
 rintro a k ⟨⟨hg, hs, hd⟩, i0, i1, _⟩
 refine wp_seq ?_
 obtain ⟨x1, hx1, hr⟩ := bind_some hr
 refine cut (fun a' k' => Bs noF k0 26 a' k' ∧ (IsV l_) (a'.get 0) k' ∧ (IsV y_) (a'.get 1) k' ∧ (IsV x1.1) (a'.get 5) k' ∧ True) ?_ hQ ?_
 ·intro Q1 W1 w1
  refine gS 8 (_ :: _ :: _ :: _ :: _ :: _ :: _ :: _ :: []) hs (by kernel_rfl) ⟨mu rfl i0, mu rfl i1, o1 [(8, some 0), (9, some 1)] rfl fun _ _ h n => ok_call rfl Tryz.call117 (slices_BinarySearchFunc_span_int_ok n.1 n.2.1 ⟨118, _, _, rfl, Tryz.call118, fun k9 hk9 _ _ _ _ _ hx0 hx1 hy9 => by simpa [evalT] using region_inside_1_ok hx0 hx1 hy9⟩ hx1), cm 2 rfl rfl, o1 [(7, some 3)] rfl fun _ _ h n => ok_ext2_0 rfl n.1, o1 [(7, some 3)] rfl fun _ _ h n => ok_ext2_1 rfl n.1, cp 4 rfl rfl, cp 5 rfl rfl, trivial⟩ W1 fun b q p => ?_
  exact tail_done (k := q) (w1 _ _ ⟨Bs.post ⟨hg, hs, hd⟩ p, p.ke 0 rfl i0, p.ke 1 rfl i1, p.ou 6 5 rfl, trivial⟩)
 rintro a k ⟨⟨hg, hs, hd⟩, i0, i1, i5, _⟩
 refine wp_seq ?_
 obtain ⟨x2, hx2, hr⟩ := bind_some hr
 obtain ⟨x3, hx3, hx2⟩ := ite_bind hx2
 refine cut (fun a' k' => Bs noF k0 26 a' k' ∧ (IsV x2) (a'.get 4) k' ∧ True) ?_ hQ ?_
 ·intro Q2 W2 w2
  refine gS 14 (_ :: _ :: _ :: _ :: _ :: _ :: _ :: _ :: _ :: _ :: _ :: _ :: _ :: _ :: []) hs (by kernel_rfl) ⟨mu rfl i5, mu rfl i0, o1 [(14, some 1)] rfl fun _ _ h n => ok_len rfl rfl Tryz.underlying90 (IsV.rd n.1), o1 [(13, some 0), (15, some 2)] rfl fun _ _ h n => ok_lss rfl n.1 n.2.1, cm 3 rfl rfl, mT rfl rfl i0, mT rfl rfl i5, gT [(18, some 5), (19, some 6)] rfl rfl fun hp _ _ h n => ok_indexAddr rfl Tryz.underlying90 ty92 (IsV.rd (Gd.get n.1 hp)) (Gd.get n.2.1 hp) (hx3 hp), gT [(20, some 7)] rfl rfl fun hp _ _ h n => ok_fieldAddr rfl fo92_0 (at_RegionSpan_0 _) (Gd.get n.1 hp), gT [(21, some 8)] rfl rfl fun hp _ _ h n => ok_load rfl ty3 (Gd.get n.1 hp), mT rfl rfl i1, gT [(22, some 9), (23, some 10)] rfl rfl fun hp _ _ h n => ok_leq rfl (Gd.get n.1 hp) (Gd.get n.2.1 hp), o1 [(17, some 4), (24, some 11)] rfl fun _ _ h n => ok_pickM rfl n.1 hx2 (Gd.get n.2.1) (cB rfl), cp 12 rfl rfl, trivial⟩ W2 fun b q p => ?_
  exact tail_done (k := q) (w2 _ _ ⟨Bs.post ⟨hg, hs, hd⟩ p, p.ou 13 4 rfl, trivial⟩)
 rintro a k ⟨⟨hg, hs, hd⟩, i4, _⟩
 refine wp_ret ?_
 obtain rfl := Option.some.inj hr
 exact retC1 rfl hd hg i4
def region_merge_L0 (x1 : (List RegionSpan)) (s1 : (List Int) × Int) : Option (Flow ((List Int) × Int) ((List RegionSpan))) :=
 if (decide (s1.2 < (x1.length : Int))) then
  (getI x1 s1.2).bind fun x2 =>
  (appI s1.1 ([x2.from_, x2.to_])).bind fun x3 =>
  (addI s1.2 1).bind fun x4 =>
  some (.go (x3, x4))
 else
  some (.ex 0 (s1.1, s1.2))
def region_merge_L1 (a_ : (List RegionSpan)) (b_ : (List RegionSpan)) (keep_ : (Bool → Bool → Option (Bool))) (x1 : (List Int)) (s1 : (List RegionSpan) × Int) : Option (Flow ((List RegionSpan) × Int) ((List RegionSpan))) :=
 if (decide (s1.2 < (x1.length : Int))) then
  ((subI s1.2 1).bind fun x2 =>
  (getI x1 x2).bind fun x3 =>
  (region_inside a_ x3).bind fun x4 =>
  (region_inside b_ x3).bind fun x5 =>
  (keep_ x4 x5).bind fun x6 =>
  if (!x6) then
   some s1.1
  else
   (if (decide (0 < (s1.1.length : Int))) then
    (subI (s1.1.length : Int) 1).bind fun x7 =>
    (getI s1.1 x7).bind fun x8 =>
    some (x8.to_ == x3)
   else
    some false).bind fun x9 =>
   (if x9 then
    (subI (s1.1.length : Int) 1).bind fun x10 =>
    (getI x1 s1.2).bind fun x11 =>
    (getI s1.1 x10).bind fun x12 =>
    (some (s1.1.set (x10).toNat ({ x12 with to_ := x11 }))).bind fun x13 =>
    some x13
   else
    (getI x1 s1.2).bind fun x14 =>
    (appI s1.1 ([(⟨x3, x14⟩ : RegionSpan)])).bind fun x15 =>
    some x15).bind fun s2 =>
   some s2).bind fun s3 =>
  (addI s1.2 1).bind fun x16 =>
  some (.go (s3, x16))
 else
  some (.ex 2 (s1.1, s1.2))
def region_merge (a_ : (List RegionSpan)) (b_ : (List RegionSpan)) (keep_ : (Bool → Bool → Option (Bool))) : Option ((List RegionSpan)) :=
 (slices_Concat_span ([a_, b_])).bind fun x1 =>
 (iterL (region_merge_L0 x1) (x1.length + 1) (([] : List Int), 0)).bind fun f1 => match f1 with
  | .go _ => none
  | .ex _ s1 =>
   (sortInts s1.1).bind fun x2 =>
   (compactInts x2).bind fun x3 =>
   (iterL (region_merge_L1 a_ b_ keep_ x3) (a_.length + b_.length + x3.length + ([] : List RegionSpan).length + 1) (([] : List RegionSpan), 1)).bind fun f2 => match f2 with
    | .go _ => none
    | .ex _ s2 =>
     some s2.1
    | .ret r1 => some r1
  | .ret r2 => some r2
theorem region_merge_ok {k0 : K} {v0 v1 v2 : Value} {a_ : (List RegionSpan)} {b_ : (List RegionSpan)} {keep_ : (Bool → Bool → Option (Bool))} {r : (List RegionSpan)} (i0 : (IsV a_) v0 k0) (i1 : (IsV b_) v1 k0) (i2 : (IsFn2 Tryz.prog keep_) v2 k0) (hr : region_merge a_ b_ keep_ = some r) :
  Calls Tryz.prog 87 #[v0, v1, v2] k0.w (Ret k0 (IsV r)) := by
 unfold region_merge at hr
 refine Ret.ofC ?_
 refine enterK Tryz.func87 rfl Tryz.ntmps87 (show 3 ≤ 88 by decide) fun a k hk0 hs hd ha => ?_
 obtain ⟨e0, e1, e2, _⟩ := ha
 replace i0 : (IsV a_) (a.get 0) k := by rw [e0, hk0]; exact i0
 replace i1 : (IsV b_) (a.get 1) k := by rw [e1, hk0]; exact i1
 replace i2 : (IsFn2 Tryz.prog keep_) (a.get 2) k := by rw [e2, hk0]; exact i2
 have hQ : Gb.LetsOut (bodyPost Tryz.prog Tryz.f87 (RetC noF k0 (IsV r))) := letsOutC
 have hg : Chg noF k0 k := by rw [hk0]; exact Chg.refl _ k0
 refine stepL 1 (⟨some IsE0, []⟩ :: []) rfl ⟨hg, hs, hd⟩ (by kernel_rfl) ⟨ob1 rfl fun b q h n => ok_assign rfl isE0_nil, trivial⟩ [⟨_, _⟩, ⟨_, _⟩, ⟨_, _⟩] (fun b q p => ⟨p.ke 0 rfl i0, p.ke 1 rfl i1, p.ke 2 rfl i2, trivial⟩) ?_
 rintro a k ⟨⟨hg, hs, hd⟩, i0, i1, i2, _⟩
 refine cutS (fun c l => Bs noF k0 88 c l ∧ IsV a_ (c.get 0) l ∧ IsV b_ (c.get 1) l ∧ IsFn2 Tryz.prog keep_ (c.get 2) l ∧ IsOwn 0 3 ([] : List Int) (c.get 7) l ∧ Lo k0 (obF (c.get 7)) ∧ True) ?_ ?_
 ·intro Q1 W1 w1
  refine gS 1 (⟨some IsE0, []⟩ :: []) hs (by kernel_rfl) ⟨ob1 rfl fun b q h n => ok_assign rfl isE0_nil, trivial⟩ W1 fun b q p => ?_
  have hgq := hg.then p.grow
  have hsb := p.size.trans hs
  have hdb := p.defers.trans hd
  have j0 := p.ke 0 rfl i0
  have j1 := p.ke 1 rfl i1
  have j2 := p.ke 2 rfl i2
  have j7 : IsE0 (b.get 7) q := p.ou 0 7 rfl
  have y7 : Lo k0 (obF (b.get 7)) := j7.lo
  replace j7 : IsOwn 0 3 ([] : List Int) (b.get 7) q := j7.own0
  exact tail_done (k := q) (w1 _ _ ⟨⟨hgq, hsb, hdb⟩, j0, j1, j2, j7, y7, trivial⟩)
 rintro a k ⟨⟨hg, hs, hd⟩, i0, i1, i2, i7, n7, _⟩
 refine wp_seq ?_
 refine wp_seq ?_
 obtain ⟨x1, hx1, hr⟩ := bind_some hr
 refine cut (fun a' k' => Bs noF k0 88 a' k' ∧ (IsV a_) (a'.get 0) k' ∧ (IsV b_) (a'.get 1) k' ∧ (IsFn2 Tryz.prog keep_) (a'.get 2) k' ∧ IsOwn 0 3 ([] : List Int) (a'.get 7) k' ∧ Lo k0 (obF (a'.get 7)) ∧ (IsV x1) (a'.get 17) k' ∧ (IsL x1) (a'.get 18) k' ∧ (IsI 0) (a'.get 19) k' ∧ True) ?_ hQ ?_
 ·intro Q2 W2 w2
  refine gS 6 (_ :: _ :: ⟨some (IsV (α := (List (List RegionSpan))) ([a_, b_])), [(14, some 0), (15, some 1)]⟩ :: _ :: _ :: ⟨some (IsI 0), []⟩ :: []) hs (by kernel_rfl) ⟨mu rfl i0, mu rfl i1, ob1 rfl fun _ _ h n => ok_buildSlice rfl Tryz.underlying130 eo90 rfl (by decide) (by decide) ⟨rfl, n.1, rfl, n.2.1, trivial⟩, o1 [(16, some 2)] rfl fun _ _ h n => ok_call rfl Tryz.call105 (slices_Concat_span_ok n.1 hx1), o1 [(17, some 3)] rfl fun _ _ h n => ok_len rfl rfl Tryz.underlying90 (IsV.rd n.1), ob1 rfl fun _ _ h n => ok_move rfl (cI rfl), trivial⟩ W2 fun b q p => ?_
  exact tail_done (k := q) (w2 _ _ ⟨Bs.post ⟨hg, hs, hd⟩ p, p.ke 0 rfl i0, p.ke 1 rfl i1, p.ke 2 rfl i2, p.ke 7 rfl i7, (by rw [p.old 7 rfl]; exact n7), p.ou 3 17 rfl, p.ou 4 18 rfl, p.ou 5 19 rfl, trivial⟩)
 rintro a k ⟨⟨hg, hs, hd⟩, i0, i1, i2, i7, n7, i17, i18, i19, _⟩
 refine wp_block ?_
 obtain ⟨f1, hf1, hr⟩ := bind_some hr
 refine cutFe f1 (fun s' c l => Bs noF k0 88 c l ∧ IsV a_ (c.get 0) l ∧ IsV b_ (c.get 1) l ∧ IsFn2 Tryz.prog keep_ (c.get 2) l ∧ IsOwn 0 3 s'.1 (c.get 7) l ∧ Lo k0 (obF (c.get 7)) ∧ IsV x1 (c.get 17) l ∧ IsL x1 (c.get 18) l ∧ IsV s'.2 (c.get 19) l ∧ True) (fun i' s' c l => (i' = 0 ∧ Bs noF k0 88 c l ∧ IsV a_ (c.get 0) l ∧ IsV b_ (c.get 1) l ∧ IsFn2 Tryz.prog keep_ (c.get 2) l ∧ IsOwn 0 3 s'.1 (c.get 7) l ∧ Lo k0 (obF (c.get 7)) ∧ True)) (fun r' c l => bodyPost Tryz.prog Tryz.f87 (RetC noF k0 (IsV r')) .ret c l.w) ?_ hQ ?_ ?_ ?_
 ·intro Q3 W3 hgo hex hret
  refine sim_loop ?_ _ _ _ _ _ hf1 ⟨⟨hg, hs, hd⟩, i0, i1, i2, i7, n7, i17, i18, i19, trivial⟩ Q3 W3 hgo hex hret
  clear hr hf1 hgo hex hret W3 hQ hg hs hd i0 i1 i17 i18 i19 i2 i7 n7
  intro s1 fl_ a k hr hS Q hQ hgo1069 hex1070 hret1071
  obtain ⟨⟨hg, hs, hd⟩, i0, i1, i2, i7, n7, i17, i18, i19, _⟩ := hS
  unfold region_merge_L0 at hr
  refine cutS (fun c l => Bs noF k0 88 c l ∧ IsV a_ (c.get 0) l ∧ IsV b_ (c.get 1) l ∧ IsFn2 Tryz.prog keep_ (c.get 2) l ∧ IsOwn 0 3 s1.1 (c.get 7) l ∧ Lo k0 (obF (c.get 7)) ∧ IsV x1 (c.get 17) l ∧ IsL x1 (c.get 18) l ∧ IsV s1.2 (c.get 19) l ∧ (IsV (decide (s1.2 < (x1.length : Int)))) (c.get 20) l ∧ True) ?_ ?_
  ·intro Q4 W4 w3
   refine gS 1 (_ :: []) hs (by kernel_rfl) ⟨o1 [(19, none), (18, none)] rfl fun _ _ h n => ok_lss rfl (up i19 h n.1) (up i18 h n.2.1), trivial⟩ W4 fun b q p => ?_
   exact tail_done (k := q) (w3 _ _ ⟨Bs.post ⟨hg, hs, hd⟩ p, p.ke 0 rfl i0, p.ke 1 rfl i1, p.ke 2 rfl i2, p.ke 7 rfl i7, (by rw [p.old 7 rfl]; exact n7), p.ke 17 rfl i17, p.ke 18 rfl i18, p.ke 19 rfl i19, p.ou 0 20 rfl, trivial⟩)
  rintro a k ⟨⟨hg, hs, hd⟩, i0, i1, i2, i7, n7, i17, i18, i19, i20, _⟩
  refine wp_seq ?_
  refine wp_cond_split (isBool i20) (fun hc1082 => ?_) (fun hc1082 => ?_)
  ·rw [if_pos hc1082] at hr
   refine wp_skip ?_
   refine wp_seq ?_
   refine wp_block ?_
   refine wp_seq ?_
   obtain ⟨x2, hx2, hr⟩ := bind_some hr
   refine cut (fun a' k' => Bs noF k0 88 a' k' ∧ (IsV a_) (a'.get 0) k' ∧ (IsV b_) (a'.get 1) k' ∧ (IsFn2 Tryz.prog keep_) (a'.get 2) k' ∧ IsOwn 0 3 s1.1 (a'.get 7) k' ∧ Lo k0 (obF (a'.get 7)) ∧ (IsRef x2) (a'.get 9) k' ∧ (IsV x1) (a'.get 17) k' ∧ (IsL x1) (a'.get 18) k' ∧ (IsV s1.2) (a'.get 19) k' ∧ True) ?_ hQ ?_
   ·intro Q5 W5 w4
    refine gS 3 (_ :: _ :: ⟨some (IsBox k.w.heap.size (⟨0, 0⟩ : RegionSpan)), []⟩ :: []) hs (by kernel_rfl) ⟨o1 [(17, none), (19, none)] rfl fun _ _ h n => ok_indexAddr rfl Tryz.underlying90 ty92 (IsV.rd (up i17 h n.1)) (up i19 h n.2.1) hx2, o1 [(21, some 0)] rfl fun _ _ h n => ok_load rfl ty92 n.1, ob1 rfl fun _ _ h n => ok_alloc _ h.size rfl z92, trivial⟩ W5 fun b q p => ?_
    have hgq := hg.then p.grow
    have hsb := p.size.trans hs
    have hdb := p.defers.trans hd
    have j0 := p.ke 0 rfl i0
    have j1 := p.ke 1 rfl i1
    have j2 := p.ke 2 rfl i2
    have j7 := p.ke 7 rfl i7
    have y7 : Lo k0 (obF (b.get 7)) := by rw [p.old 7 rfl]; exact n7
    obtain ⟨b9, j9, x9, z9⟩ : (IsBox k.w.heap.size (⟨0, 0⟩ : RegionSpan)) (b.get 9) q := p.ou 2 9 rfl
    replace x9 : Lo k (Eq b9) := Lo.eq x9
    have y9 : Lo k0 (Eq b9) := x9.chg hg
    have j17 := p.ke 17 rfl i17
    have j18 := p.ke 18 rfl i18
    have j19 := p.ke 19 rfl i19
    have j22 : (IsV x2) (b.get 22) q := p.ou 1 22 rfl
    have w7_9 : Apart (obF (b.get 7)) (Eq b9) := Apart.new (by rw [p.old 7 rfl]; exact i7.ltF) x9
    have hns := z9.nshF
    refine tail_storeB (i := 3) rfl rfl rfl rfl szf92 (Upd.self (α := RegionSpan)) j9 z9 j22 fun q2 hch hz => ?_
    replace hgq := hgq.step hch y9.wr
    have hle := hch.le hns
    replace j0 := Pers.pers hle j0
    replace j1 := Pers.pers hle j1
    replace j2 := Pers.pers hle j2
    replace j7 := j7.keep hch w7_9 hns
    replace j17 := Pers.pers hle j17
    replace j18 := Pers.pers hle j18
    replace j19 := Pers.pers hle j19
    replace j22 := Pers.pers hle j22
    replace z9 := hz
    clear hns hle hch
    obtain ⟨q, hqq⟩ : ∃ q, q = q2 := ⟨q2, rfl⟩
    subst hqq
    obtain ⟨q2, hsh, jn⟩ := z9.give
    replace j0 := Pers.pers hsh.le j0
    replace j1 := Pers.pers hsh.le j1
    replace j2 := Pers.pers hsh.le j2
    replace j7 := j7.handed hsh w7_9
    replace j17 := Pers.pers hsh.le j17
    replace j18 := Pers.pers hsh.le j18
    replace j19 := Pers.pers hsh.le j19
    rw [← j9] at jn
    replace j9 := jn
    replace hgq := hgq.hand hsh y9.wr
    rw [← hsh.w]
    clear hsh
    obtain ⟨q, hqq⟩ : ∃ q, q = q2 := ⟨q2, rfl⟩
    subst hqq
    exact tail_done (k := q) (w4 _ _ ⟨⟨hgq, hsb, hdb⟩, j0, j1, j2, j7, y7, j9, j17, j18, j19, trivial⟩)
   rintro a k ⟨⟨hg, hs, hd⟩, i0, i1, i2, i7, n7, i9, i17, i18, i19, _⟩
   obtain ⟨x3, hx3, hr⟩ := bind_some hr
   refine cut (fun a' k' => Bs noF k0 88 a' k' ∧ (IsV a_) (a'.get 0) k' ∧ (IsV b_) (a'.get 1) k' ∧ (IsFn2 Tryz.prog keep_) (a'.get 2) k' ∧ IsOwn 0 3 x3 (a'.get 7) k' ∧ Lo k0 (obF (a'.get 7)) ∧ (IsV x1) (a'.get 17) k' ∧ (IsL x1) (a'.get 18) k' ∧ (IsV s1.2) (a'.get 19) k' ∧ True) ?_ hQ ?_
   ·intro Q6 W6 w5
    refine gS 6 (⟨some (OwnAt (a.get 7) 0 3 s1.1), [(7, none)]⟩ :: _ :: _ :: _ :: _ :: ⟨some (IsV (α := (List Int)) ([x2.from_, x2.to_])), [(25, some 2), (27, some 4)]⟩ :: []) hs (by kernel_rfl) ⟨ob1 rfl fun _ _ h n => ok_moveOA (.inl rfl) (ownAt n.1 (up i7 h n.1)), o1 [(9, none)] rfl fun _ _ h n => ok_fieldAddr rfl fo92_0 (at_RegionSpan_0 _) ((up i9 h n.1)).ptr, o1 [(24, some 1)] rfl fun _ _ h n => ok_load rfl ty3 n.1, o1 [(9, none)] rfl fun _ _ h n => ok_fieldAddr rfl fo92_1 (at_RegionSpan_1 _) ((up i9 h n.1)).ptr, o1 [(26, some 3)] rfl fun _ _ h n => ok_load rfl ty3 n.1, ob1 rfl fun _ _ h n => ok_buildSlice rfl Tryz.underlying50 eo3 rfl (by decide) (by decide) ⟨rfl, n.1, rfl, n.2.1, trivial⟩, trivial⟩ W6 fun b q p => ?_
    have hgq := hg.then p.grow
    have hsb := p.size.trans hs
    have hdb := p.defers.trans hd
    have j0 := p.ke 0 rfl i0
    have j1 := p.ke 1 rfl i1
    have j2 := p.ke 2 rfl i2
    have j17 := p.ke 17 rfl i17
    have j18 := p.ke 18 rfl i18
    have j19 := p.ke 19 rfl i19
    have e23 : b.get 23 = a.get 7 := (p.ou 0 23 rfl).1
    have j23 : IsOwn 0 3 s1.1 (b.get 23) q := (p.ou 0 23 rfl).2
    have y23 : Lo k0 (obF (b.get 23)) := by rw [e23]; exact n7
    have j28 : (IsV (α := (List Int)) ([x2.from_, x2.to_])) (b.get 28) q := p.ou 5 28 rfl
    have hns := j23.nshF
    refine tail_appendS (i := 6) (d := 29) rfl rfl rfl rfl (by rw [hsb]; decide) (e := 3) Tryz.underlying50 eo3 j23 (IsV.rd j28) hx3 fun b2 q2 hsz hdf hoth hch hown hob => ?_
    have hle := hch.le hns
    have yn : Lo k0 (obF (b2.get 29)) := y23.app hgq hob
    replace j0 := Pers.pers hle j0
    replace j1 := Pers.pers hle j1
    replace j2 := Pers.pers hle j2
    replace j17 := Pers.pers hle j17
    replace j18 := Pers.pers hle j18
    replace j19 := Pers.pers hle j19
    replace j28 := Pers.pers hle j28
    replace hgq := hgq.step hch y23.wr
    rw [← hoth 0 (by decide)] at j0
    rw [← hoth 1 (by decide)] at j1
    rw [← hoth 2 (by decide)] at j2
    rw [← hoth 17 (by decide)] at j17
    rw [← hoth 18 (by decide)] at j18
    rw [← hoth 19 (by decide)] at j19
    rw [← hoth 28 (by decide)] at j28
    have j29 := hown
    have y29 := yn
    replace hsb := hsz.trans hsb
    replace hdb := hdf.trans hdb
    clear hle hch hown hob hns yn hsz hdf hoth
    obtain ⟨b, hbb⟩ : ∃ b, b = b2 := ⟨b2, rfl⟩
    subst hbb
    obtain ⟨q, hqq⟩ : ∃ q, q = q2 := ⟨q2, rfl⟩
    subst hqq
    refine tail_assign (i := 7) (d := 7) rfl rfl (.inl rfl) rfl (by rw [hsb]; decide) fun b2 hsz hdf hnew hoth => ?_
    have jn : (IsOwn 0 3 x3) (b2.get 7) q := by rw [hnew]; exact j29
    have yn : Lo k0 (obF (b2.get 7)) := by rw [hnew]; exact y29
    rw [← hoth 0 (by decide)] at j0
    rw [← hoth 1 (by decide)] at j1
    rw [← hoth 2 (by decide)] at j2
    rw [← hoth 17 (by decide)] at j17
    rw [← hoth 18 (by decide)] at j18
    rw [← hoth 19 (by decide)] at j19
    rw [← hoth 28 (by decide)] at j28
    have j7 := jn
    have y7 := yn
    replace hsb := hsz.trans hsb
    replace hdb := hdf.trans hdb
    clear hsz hdf hoth
    obtain ⟨b, hbb⟩ : ∃ b, b = b2 := ⟨b2, rfl⟩
    subst hbb
    exact tail_done (k := q) (w5 _ _ ⟨⟨hgq, hsb, hdb⟩, j0, j1, j2, j7, y7, j17, j18, j19, trivial⟩)
   rintro a k ⟨⟨hg, hs, hd⟩, i0, i1, i2, i7, n7, i17, i18, i19, _⟩
   obtain ⟨x4, hx4, hr⟩ := bind_some hr
   refine cut (fun a' k' => Bs noF k0 88 a' k' ∧ (IsV a_) (a'.get 0) k' ∧ (IsV b_) (a'.get 1) k' ∧ (IsFn2 Tryz.prog keep_) (a'.get 2) k' ∧ IsOwn 0 3 x3 (a'.get 7) k' ∧ Lo k0 (obF (a'.get 7)) ∧ (IsV x1) (a'.get 17) k' ∧ (IsL x1) (a'.get 18) k' ∧ (IsV x4) (a'.get 19) k' ∧ True) ?_ hQ ?_
   ·intro Q7 W7 w6
    refine gS 2 (_ :: _ :: []) hs (by kernel_rfl) ⟨o1 [(19, none)] rfl fun _ _ h n => ok_add rfl (up i19 h n.1) (cI rfl) hx4, cm 0 rfl rfl, trivial⟩ W7 fun b q p => ?_
    exact tail_done (k := q) (w6 _ _ ⟨Bs.post ⟨hg, hs, hd⟩ p, p.ke 0 rfl i0, p.ke 1 rfl i1, p.ke 2 rfl i2, p.ke 7 rfl i7, (by rw [p.old 7 rfl]; exact n7), p.ke 17 rfl i17, p.ke 18 rfl i18, p.ou 1 19 rfl, trivial⟩)
   rintro a k ⟨⟨hg, hs, hd⟩, i0, i1, i2, i7, n7, i17, i18, i19, _⟩
   exact hgo1069 _ _ _ (Option.some.inj hr).symm ⟨⟨hg, hs, hd⟩, i0, i1, i2, i7, n7, i17, i18, i19, trivial⟩
  rw [if_neg (by rw [hc1082]; decide)] at hr
  refine wp_exit ?_
  exact hex1070 _ _ _ _ (Option.some.inj hr).symm ⟨rfl, ⟨hg, hs, hd⟩, i0, i1, i2, i7, n7, trivial⟩
 ·rintro r1 a k rfl hR
  dsimp only at hr
  obtain rfl := Option.some.inj hr
  exact hR
 ·rintro _ _ _ rfl _
  simp at hr
 clear hf1
 rintro _ s2 a k rfl ⟨rfl, ⟨hg, hs, hd⟩, i0, i1, i2, i7, n7, _⟩
 dsimp only at hr
 refine wp_seq ?_
 obtain ⟨x5, hx5, hr⟩ := bind_some hr
 refine cut (fun a' k' => Bs noF k0 88 a' k' ∧ (IsV a_) (a'.get 0) k' ∧ (IsV b_) (a'.get 1) k' ∧ (IsFn2 Tryz.prog keep_) (a'.get 2) k' ∧ IsOwn 0 3 x5 (a'.get 7) k' ∧ Lo k0 (obF (a'.get 7)) ∧ True) ?_ hQ ?_
 ·intro Q8 W8 w7
  refine gS 1 (⟨some (OwnAt (a.get 7) 0 3 s2.1), [(7, none)]⟩ :: []) hs (by kernel_rfl) ⟨ob1 rfl fun _ _ h n => ok_moveOA (.inl rfl) (ownAt n.1 (up i7 h n.1)), trivial⟩ W8 fun b q p => ?_
  have hgq := hg.then p.grow
  have hsb := p.size.trans hs
  have hdb := p.defers.trans hd
  have j0 := p.ke 0 rfl i0
  have j1 := p.ke 1 rfl i1
  have j2 := p.ke 2 rfl i2
  have j7 := p.ke 7 rfl i7
  have y7 : Lo k0 (obF (b.get 7)) := by rw [p.old 7 rfl]; exact n7
  have e31 : b.get 31 = a.get 7 := (p.ou 0 31 rfl).1
  have j31 : IsOwn 0 3 s2.1 (b.get 31) q := (p.ou 0 31 rfl).2
  have y31 : Lo k0 (obF (b.get 31)) := by rw [e31]; exact n7
  have hns := j31.nshF
  have eS : b.get 7 = b.get 31 := (p.old 7 rfl).trans e31.symm
  refine tail_call (F := obF (b.get 31)) (i := 1) (d := 32) rfl rfl rfl rfl (by rw [hsb]; decide) Tryz.call61 W8 (sortInts_ok j31 hx5) fun b2 q2 hsz hdf hoth hch hres => ?_
  have hle := hch.le hns
  replace j0 := Pers.pers hle j0
  replace j1 := Pers.pers hle j1
  replace j2 := Pers.pers hle j2
  replace hgq := hgq.step hch y31.wr
  replace j7 : IsOwn 0 3 x5 (b.get 7) q2 := by rw [eS]; exact hres
  clear hres eS
  rw [← hoth 0 (by decide)] at j0
  rw [← hoth 1 (by decide)] at j1
  rw [← hoth 2 (by decide)] at j2
  rw [← hoth 7 (by decide)] at j7
  rw [← hoth 7 (by decide)] at y7
  replace hsb := hsz.trans hsb
  replace hdb := hdf.trans hdb
  clear hle hch hns hsz hdf hoth
  obtain ⟨b, hbb⟩ : ∃ b, b = b2 := ⟨b2, rfl⟩
  subst hbb
  obtain ⟨q, hqq⟩ : ∃ q, q = q2 := ⟨q2, rfl⟩
  subst hqq
  exact tail_done (k := q) (w7 _ _ ⟨⟨hgq, hsb, hdb⟩, j0, j1, j2, j7, y7, trivial⟩)
 rintro a k ⟨⟨hg, hs, hd⟩, i0, i1, i2, i7, n7, _⟩
 refine wp_seq ?_
 obtain ⟨x6, hx6, hr⟩ := bind_some hr
 refine cut (fun a' k' => Bs noF k0 88 a' k' ∧ (IsV a_) (a'.get 0) k' ∧ (IsV b_) (a'.get 1) k' ∧ (IsFn2 Tryz.prog keep_) (a'.get 2) k' ∧ IsOwn 0 3 x6 (a'.get 7) k' ∧ Lo k0 (obF (a'.get 7)) ∧ True) ?_ hQ ?_
 ·intro Q9 W9 w8
  refine gS 1 (⟨some (OwnAt (a.get 7) 0 3 x5), [(7, none)]⟩ :: []) hs (by kernel_rfl) ⟨ob1 rfl fun _ _ h n => ok_moveOA (.inl rfl) (ownAt n.1 (up i7 h n.1)), trivial⟩ W9 fun b q p => ?_
  have hgq := hg.then p.grow
  have hsb := p.size.trans hs
  have hdb := p.defers.trans hd
  have j0 := p.ke 0 rfl i0
  have j1 := p.ke 1 rfl i1
  have j2 := p.ke 2 rfl i2
  have e33 : b.get 33 = a.get 7 := (p.ou 0 33 rfl).1
  have j33 : IsOwn 0 3 x5 (b.get 33) q := (p.ou 0 33 rfl).2
  have y33 : Lo k0 (obF (b.get 33)) := by rw [e33]; exact n7
  have hns := j33.nshF
  refine tail_call (F := obF (b.get 33)) (i := 1) (d := 34) rfl rfl rfl rfl (by rw [hsb]; decide) Tryz.call62 W9 (compactInts_ok j33 hx6) fun b2 q2 hsz hdf hoth hch hres => ?_
  have hle := hch.le hns
  obtain ⟨hown, hob⟩ := hres
  have yn : Lo k0 (obF (b2.get 34)) := y33.app hgq hob
  replace j0 := Pers.pers hle j0
  replace j1 := Pers.pers hle j1
  replace j2 := Pers.pers hle j2
  replace hgq := hgq.step hch y33.wr
  rw [← hoth 0 (by decide)] at j0
  rw [← hoth 1 (by decide)] at j1
  rw [← hoth 2 (by decide)] at j2
  have j34 := hown
  have y34 := yn
  have hres := True.intro
  clear hown hob yn
  replace hsb := hsz.trans hsb
  replace hdb := hdf.trans hdb
  clear hle hch hres hns hsz hdf hoth
  obtain ⟨b, hbb⟩ : ∃ b, b = b2 := ⟨b2, rfl⟩
  subst hbb
  obtain ⟨q, hqq⟩ : ∃ q, q = q2 := ⟨q2, rfl⟩
  subst hqq
  refine tail_assign (i := 2) (d := 7) rfl rfl (.inl rfl) rfl (by rw [hsb]; decide) fun b2 hsz hdf hnew hoth => ?_
  have jn : (IsOwn 0 3 x6) (b2.get 7) q := by rw [hnew]; exact j34
  have yn : Lo k0 (obF (b2.get 7)) := by rw [hnew]; exact y34
  rw [← hoth 0 (by decide)] at j0
  rw [← hoth 1 (by decide)] at j1
  rw [← hoth 2 (by decide)] at j2
  have j7 := jn
  have y7 := yn
  replace hsb := hsz.trans hsb
  replace hdb := hdf.trans hdb
  clear hsz hdf hoth
  obtain ⟨b, hbb⟩ : ∃ b, b = b2 := ⟨b2, rfl⟩
  subst hbb
  exact tail_done (k := q) (w8 _ _ ⟨⟨hgq, hsb, hdb⟩, j0, j1, j2, j7, y7, trivial⟩)
 rintro a k ⟨⟨hg, hs, hd⟩, i0, i1, i2, i7, n7, _⟩
 refine wp_seq ?_
 obtain ⟨kk, sh1089, ii7⟩ := i7.give
 replace i0 := Pers.pers sh1089.le i0
 replace i1 := Pers.pers sh1089.le i1
 replace i2 := Pers.pers sh1089.le i2
 replace i7 := ii7
 replace hg := hg.hand sh1089 n7.wr
 rw [← sh1089.w]
 clear sh1089
 obtain ⟨k, hkk⟩ : ∃ k, k = kk := ⟨kk, rfl⟩
 subst hkk
 refine cut (fun a' k' => Bs noF k0 88 a' k' ∧ (IsV a_) (a'.get 0) k' ∧ (IsV b_) (a'.get 1) k' ∧ (IsFn2 Tryz.prog keep_) (a'.get 2) k' ∧ (IsV x6) (a'.get 7) k' ∧ IsOwn 0 92 ([] : List RegionSpan) (a'.get 10) k' ∧ Lo k0 (obF (a'.get 10)) ∧ True) ?_ hQ ?_
 ·intro Q10 W10 w9
  refine gS 1 (⟨some IsE0, []⟩ :: []) hs (by kernel_rfl) ⟨ob1 rfl fun b q h n => ok_assign rfl isE0_nil, trivial⟩ W10 fun b q p => ?_
  have hgq := hg.then p.grow
  have hsb := p.size.trans hs
  have hdb := p.defers.trans hd
  have j0 := p.ke 0 rfl i0
  have j1 := p.ke 1 rfl i1
  have j2 := p.ke 2 rfl i2
  have j7 := p.ke 7 rfl i7
  have j10 : IsE0 (b.get 10) q := p.ou 0 10 rfl
  have y10 : Lo k0 (obF (b.get 10)) := j10.lo
  replace j10 : IsOwn 0 92 ([] : List RegionSpan) (b.get 10) q := j10.own0
  exact tail_done (k := q) (w9 _ _ ⟨⟨hgq, hsb, hdb⟩, j0, j1, j2, j7, j10, y10, trivial⟩)
 rintro a k ⟨⟨hg, hs, hd⟩, i0, i1, i2, i7, i10, n10, _⟩
 refine wp_seq ?_
 refine cutS (fun c l => Bs noF k0 88 c l ∧ IsV a_ (c.get 0) l ∧ IsV b_ (c.get 1) l ∧ IsFn2 Tryz.prog keep_ (c.get 2) l ∧ IsV x6 (c.get 7) l ∧ IsOwn 0 92 ([] : List RegionSpan) (c.get 10) l ∧ Lo k0 (obF (c.get 10)) ∧ IsI 1 (c.get 11) l ∧ True) ?_ ?_
 ·intro Q11 W11 w10
  refine gS 1 (⟨some (IsI 1), []⟩ :: []) hs (by kernel_rfl) ⟨aI rfl rfl, trivial⟩ W11 fun b q p => ?_
  exact tail_done (k := q) (w10 _ _ ⟨Bs.post ⟨hg, hs, hd⟩ p, p.ke 0 rfl i0, p.ke 1 rfl i1, p.ke 2 rfl i2, p.ke 7 rfl i7, p.ke 10 rfl i10, (by rw [p.old 10 rfl]; exact n10), p.ou 0 11 rfl, trivial⟩)
 rintro a k ⟨⟨hg, hs, hd⟩, i0, i1, i2, i7, i10, n10, i11, _⟩
 refine wp_block ?_
 obtain ⟨f2, hf2, hr⟩ := bind_some hr
 refine cutFe f2 (fun s' c l => Bs noF k0 88 c l ∧ IsV a_ (c.get 0) l ∧ IsV b_ (c.get 1) l ∧ IsFn2 Tryz.prog keep_ (c.get 2) l ∧ IsV x6 (c.get 7) l ∧ IsOwn 0 92 s'.1 (c.get 10) l ∧ Lo k0 (obF (c.get 10)) ∧ IsV s'.2 (c.get 11) l ∧ True) (fun i' s' c l => (i' = 2 ∧ Bs noF k0 88 c l ∧ IsV s'.1 (c.get 10) l ∧ True)) (fun r' c l => bodyPost Tryz.prog Tryz.f87 (RetC noF k0 (IsV r')) .ret c l.w) ?_ hQ ?_ ?_ ?_
 ·intro Q12 W12 hgo hex hret
  refine sim_loop ?_ _ _ _ _ _ hf2 ⟨⟨hg, hs, hd⟩, i0, i1, i2, i7, i10, n10, i11, trivial⟩ Q12 W12 hgo hex hret
  clear hr hf2 hgo hex hret W12 hQ hg hs hd i0 i1 i10 i11 i2 i7 n10
  intro s3 fl_ a k hr hS Q hQ hgo1093 hex1094 hret1095
  obtain ⟨⟨hg, hs, hd⟩, i0, i1, i2, i7, i10, n10, i11, _⟩ := hS
  unfold region_merge_L1 at hr
  refine wp_seq ?_
  refine cutS (fun c l => Bs noF k0 88 c l ∧ IsV a_ (c.get 0) l ∧ IsV b_ (c.get 1) l ∧ IsFn2 Tryz.prog keep_ (c.get 2) l ∧ IsV x6 (c.get 7) l ∧ IsOwn 0 92 s3.1 (c.get 10) l ∧ Lo k0 (obF (c.get 10)) ∧ IsV s3.2 (c.get 11) l ∧ (IsV (decide (s3.2 < (x6.length : Int)))) (c.get 38) l ∧ True) ?_ ?_
  ·intro Q13 W13 w11
   refine gS 4 (_ :: _ :: _ :: _ :: []) hs (by kernel_rfl) ⟨mu rfl i11, mu rfl i7, o1 [(36, some 1)] rfl fun _ _ h n => ok_len rfl rfl Tryz.underlying50 (IsV.rd n.1), o1 [(35, some 0), (37, some 2)] rfl fun _ _ h n => ok_lss rfl n.1 n.2.1, trivial⟩ W13 fun b q p => ?_
   exact tail_done (k := q) (w11 _ _ ⟨Bs.post ⟨hg, hs, hd⟩ p, p.ke 0 rfl i0, p.ke 1 rfl i1, p.ke 2 rfl i2, p.ke 7 rfl i7, p.ke 10 rfl i10, (by rw [p.old 10 rfl]; exact n10), p.ke 11 rfl i11, p.ou 3 38 rfl, trivial⟩)
  rintro a k ⟨⟨hg, hs, hd⟩, i0, i1, i2, i7, i10, n10, i11, i38, _⟩
  refine wp_cond_split (isBool i38) (fun hc1127 => ?_) (fun hc1127 => ?_)
  ·rw [if_pos hc1127] at hr
   refine wp_skip ?_
   refine wp_seq ?_
   obtain ⟨s4, hs4, hr⟩ := bind_some hr
   refine cut (fun a' k' => Bs noF k0 88 a' k' ∧ (IsV a_) (a'.get 0) k' ∧ (IsV b_) (a'.get 1) k' ∧ (IsFn2 Tryz.prog keep_) (a'.get 2) k' ∧ (IsV x6) (a'.get 7) k' ∧ IsOwn 0 92 s4 (a'.get 10) k' ∧ Lo k0 (obF (a'.get 10)) ∧ (IsV s3.2) (a'.get 11) k' ∧ True) ?_ hQ ?_
   ·intro Q14 W14 w12
    replace hr := hs4
    clear hQ
    have hQ := W14
    refine wp_block ?_
    refine wp_seq ?_
    obtain ⟨x7, hx7, hr⟩ := bind_some hr
    obtain ⟨x8, hx8, hr⟩ := bind_some hr
    refine cut (fun a' k' => Bs noF k0 88 a' k' ∧ (IsV a_) (a'.get 0) k' ∧ (IsV b_) (a'.get 1) k' ∧ (IsFn2 Tryz.prog keep_) (a'.get 2) k' ∧ (IsV x6) (a'.get 7) k' ∧ IsOwn 0 92 s3.1 (a'.get 10) k' ∧ Lo k0 (obF (a'.get 10)) ∧ (IsV s3.2) (a'.get 11) k' ∧ (IsV x8) (a'.get 12) k' ∧ True) ?_ hQ ?_
    ·intro Q15 W15 w13
     refine gS 6 (_ :: _ :: _ :: _ :: _ :: _ :: []) hs (by kernel_rfl) ⟨mu rfl i7, mu rfl i11, o1 [(42, some 1)] rfl fun _ _ h n => ok_sub rfl n.1 (cI rfl) hx7, o1 [(41, some 0), (43, some 2)] rfl fun _ _ h n => ok_indexAddr rfl Tryz.underlying50 ty3 (IsV.rd n.1) n.2.1 hx8, o1 [(44, some 3)] rfl fun _ _ h n => ok_load rfl ty3 n.1, cp 4 rfl rfl, trivial⟩ W15 fun b q p => ?_
     exact tail_done (k := q) (w13 _ _ ⟨Bs.post ⟨hg, hs, hd⟩ p, p.ke 0 rfl i0, p.ke 1 rfl i1, p.ke 2 rfl i2, p.ke 7 rfl i7, p.ke 10 rfl i10, (by rw [p.old 10 rfl]; exact n10), p.ke 11 rfl i11, p.ou 5 12 rfl, trivial⟩)
    rintro a k ⟨⟨hg, hs, hd⟩, i0, i1, i2, i7, i10, n10, i11, i12, _⟩
    refine wp_seq ?_
    refine wp_seq ?_
    obtain ⟨x10, hx10, hr⟩ := bind_some hr
    obtain ⟨x11, hx11, hr⟩ := bind_some hr
    obtain ⟨x12, hx12, hr⟩ := bind_some hr
    refine cut (fun a' k' => Bs noF k0 88 a' k' ∧ (IsV a_) (a'.get 0) k' ∧ (IsV b_) (a'.get 1) k' ∧ (IsFn2 Tryz.prog keep_) (a'.get 2) k' ∧ (IsV x6) (a'.get 7) k' ∧ IsOwn 0 92 s3.1 (a'.get 10) k' ∧ Lo k0 (obF (a'.get 10)) ∧ (IsV s3.2) (a'.get 11) k' ∧ (IsV x8) (a'.get 12) k' ∧ (IsV (!x12)) (a'.get 54) k' ∧ True) ?_ hQ ?_
    ·intro Q16 W16 w14
     refine gS 9 (_ :: _ :: _ :: _ :: _ :: _ :: _ :: ⟨some (IsV x12), [(46, some 0), (49, some 3), (52, some 6)]⟩ :: _ :: []) hs (by kernel_rfl) ⟨mu rfl i2, mu rfl i0, mu rfl i12, o1 [(47, some 1), (48, some 2)] rfl fun _ _ h n => ok_call rfl Tryz.call106 (region_inside_ok n.1 n.2.1 hx10), mu rfl i1, mu rfl i12, o1 [(50, some 4), (51, some 5)] rfl fun _ _ h n => ok_call rfl Tryz.call106 (region_inside_ok n.1 n.2.1 hx11), ob1 rfl fun _ _ h n => ok_callF2 rfl n.1 n.2.1 n.2.2.1 hx12, o1 [(53, some 7)] rfl fun _ _ h n => ok_not rfl n.1, trivial⟩ W16 fun b q p => ?_
     exact tail_done (k := q) (w14 _ _ ⟨Bs.post ⟨hg, hs, hd⟩ p, p.ke 0 rfl i0, p.ke 1 rfl i1, p.ke 2 rfl i2, p.ke 7 rfl i7, p.ke 10 rfl i10, (by rw [p.old 10 rfl]; exact n10), p.ke 11 rfl i11, p.ke 12 rfl i12, p.ou 8 54 rfl, trivial⟩)
    rintro a k ⟨⟨hg, hs, hd⟩, i0, i1, i2, i7, i10, n10, i11, i12, i54, _⟩
    refine wp_cond_split (isBool i54) (fun hc1117 => ?_) (fun hc1117 => ?_)
    ·rw [if_pos hc1117] at hr
     refine wp_exit ?_
     obtain rfl := Option.some.inj hr
     exact w12 _ _ ⟨⟨hg, hs, hd⟩, i0, i1, i2, i7, i10, n10, i11, trivial⟩
    rw [if_neg (by rw [hc1117]; decide)] at hr
    refine wp_skip ?_
    refine cutS (fun c l => Bs noF k0 88 c l ∧ IsV a_ (c.get 0) l ∧ IsV b_ (c.get 1) l ∧ IsFn2 Tryz.prog keep_ (c.get 2) l ∧ IsV x6 (c.get 7) l ∧ IsOwn 0 92 s3.1 (c.get 10) l ∧ Lo k0 (obF (c.get 10)) ∧ IsV s3.2 (c.get 11) l ∧ IsV x8 (c.get 12) l ∧ IsI (s3.1.length : Int) (c.get 13) l ∧ True) ?_ ?_
    ·intro Q17 W17 w15
     refine gS 3 (⟨some (OwnAt (a.get 10) 0 92 s3.1), [(10, none)]⟩ :: _ :: _ :: []) hs (by kernel_rfl) ⟨ob1 rfl fun _ _ h n => ok_moveOA (.inl rfl) (ownAt n.1 (up i10 h n.1)), o1 [(55, some 0)] rfl fun _ _ h n => ok_len rfl rfl Tryz.underlying90 (IsOwn.rd (n.1).2), cp 1 rfl rfl, trivial⟩ W17 fun b q p => ?_
     exact tail_done (k := q) (w15 _ _ ⟨Bs.post ⟨hg, hs, hd⟩ p, p.ke 0 rfl i0, p.ke 1 rfl i1, p.ke 2 rfl i2, p.ke 7 rfl i7, p.ke 10 rfl i10, (by rw [p.old 10 rfl]; exact n10), p.ke 11 rfl i11, p.ke 12 rfl i12, p.ou 2 13 rfl, trivial⟩)
    rintro a k ⟨⟨hg, hs, hd⟩, i0, i1, i2, i7, i10, n10, i11, i12, i13, _⟩
    refine wp_seq ?_
    obtain ⟨x13, hx13, hr⟩ := bind_some hr
    obtain ⟨x14, hx14, hx13⟩ := ite_bind hx13
    obtain ⟨x15, hx15, hx13⟩ := ite_bind hx13
    refine cut (fun a' k' => Bs noF k0 88 a' k' ∧ (IsV a_) (a'.get 0) k' ∧ (IsV b_) (a'.get 1) k' ∧ (IsFn2 Tryz.prog keep_) (a'.get 2) k' ∧ (IsV x6) (a'.get 7) k' ∧ IsOwn 0 92 s3.1 (a'.get 10) k' ∧ Lo k0 (obF (a'.get 10)) ∧ (IsV s3.2) (a'.get 11) k' ∧ (IsV x8) (a'.get 12) k' ∧ (IsI (s3.1.length : Int)) (a'.get 13) k' ∧ (IsV x13) (a'.get 68) k' ∧ True) ?_ hQ ?_
    ·intro Q18 W18 w16
     refine gS 12 (_ :: _ :: _ :: ⟨some (Gd ((decide (0 < (s3.1.length : Int))) = true) (OwnAt (a.get 10) 0 92 s3.1)), [(10, none)]⟩ :: _ :: _ :: _ :: _ :: _ :: _ :: _ :: _ :: []) hs (by kernel_rfl) ⟨mu rfl i13, o1 [(57, some 0)] rfl fun _ _ h n => ok_gtr rfl n.1 (cI rfl), cm 1 rfl rfl, gdT rfl rfl fun hp _ _ h n => ok_moveOA (.inl rfl) (ownAt n.1 (up i10 h n.1)), mT rfl rfl i13, gT [(61, some 4)] rfl rfl fun hp _ _ h n => ok_sub rfl (Gd.get n.1 hp) (cI rfl) (hx14 hp), gT [(60, some 3), (62, some 5)] rfl rfl fun hp _ _ h n => ok_indexAddr rfl Tryz.underlying90 ty92 (IsOwn.rd ((Gd.get n.1 hp)).2) (Gd.get n.2.1 hp) (hx15 hp), gT [(63, some 6)] rfl rfl fun hp _ _ h n => ok_fieldAddr rfl fo92_1 (at_RegionSpan_1 _) (Gd.get n.1 hp), gT [(64, some 7)] rfl rfl fun hp _ _ h n => ok_load rfl ty3 (Gd.get n.1 hp), mT rfl rfl i12, gT [(65, some 8), (66, some 9)] rfl rfl fun hp _ _ h n => ok_eqI rfl (Gd.get n.1 hp) (Gd.get n.2.1 hp), o1 [(59, some 2), (67, some 10)] rfl fun _ _ h n => ok_pickM rfl n.1 hx13 (Gd.get n.2.1) (cB rfl), trivial⟩ W18 fun b q p => ?_
     exact tail_done (k := q) (w16 _ _ ⟨Bs.post ⟨hg, hs, hd⟩ p, p.ke 0 rfl i0, p.ke 1 rfl i1, p.ke 2 rfl i2, p.ke 7 rfl i7, p.ke 10 rfl i10, (by rw [p.old 10 rfl]; exact n10), p.ke 11 rfl i11, p.ke 12 rfl i12, p.ke 13 rfl i13, p.ou 11 68 rfl, trivial⟩)
    rintro a k ⟨⟨hg, hs, hd⟩, i0, i1, i2, i7, i10, n10, i11, i12, i13, i68, _⟩
    obtain ⟨s5, hs5, hr⟩ := bind_some hr
    refine cut (fun a' k' => Bs noF k0 88 a' k' ∧ (IsV a_) (a'.get 0) k' ∧ (IsV b_) (a'.get 1) k' ∧ (IsFn2 Tryz.prog keep_) (a'.get 2) k' ∧ (IsV x6) (a'.get 7) k' ∧ IsOwn 0 92 s5 (a'.get 10) k' ∧ Lo k0 (obF (a'.get 10)) ∧ (IsV s3.2) (a'.get 11) k' ∧ True) ?_ hQ ?_
    ·intro Q19 W19 w17
     replace hr := hs5
     clear hQ
     have hQ := W19
     refine wp_cond_split (isBool i68) (fun hc1111 => ?_) (fun hc1111 => ?_)
     ·rw [if_pos hc1111] at hr
      obtain ⟨x16, hx16, hr⟩ := bind_some hr
      obtain ⟨x17, hx17, hr⟩ := bind_some hr
      obtain ⟨x18, hx18, hr⟩ := bind_some hr
      obtain ⟨x19, hx19, hr⟩ := bind_some hr
      refine cut (fun a' k' => Bs noF k0 88 a' k' ∧ (IsV a_) (a'.get 0) k' ∧ (IsV b_) (a'.get 1) k' ∧ (IsFn2 Tryz.prog keep_) (a'.get 2) k' ∧ (IsV x6) (a'.get 7) k' ∧ IsOwn 0 92 x19 (a'.get 10) k' ∧ Lo k0 (obF (a'.get 10)) ∧ (IsV s3.2) (a'.get 11) k' ∧ True) ?_ hQ ?_
      ·intro Q20 W20 w18
       refine gS 9 (⟨some (OwnAt (a.get 10) 0 92 s3.1), [(10, none)]⟩ :: _ :: _ :: _ :: _ :: _ :: _ :: ⟨some (IsAdrO (a.get 10) ((x16).toNat * Enc.sz RegionSpan)), [(69, some 0), (71, some 2)]⟩ :: _ :: []) hs (by kernel_rfl) ⟨ob1 rfl fun _ _ h n => ok_moveOA (.inl rfl) (ownAt n.1 (up i10 h n.1)), mu rfl i13, o1 [(70, some 1)] rfl fun _ _ h n => ok_sub rfl n.1 (cI rfl) hx16, mu rfl i7, mu rfl i11, o1 [(72, some 3), (73, some 4)] rfl fun _ _ h n => ok_indexAddr rfl Tryz.underlying50 ty3 (IsV.rd n.1) n.2.1 hx17, o1 [(74, some 5)] rfl fun _ _ h n => ok_load rfl ty3 n.1, ob1 rfl fun _ _ h n => ok_indexO rfl Tryz.underlying90 ty92 n.1 n.2.1 hx18, o1 [(76, some 7)] rfl fun _ _ h n => ok_fieldAdrO rfl fo92_1 n.1, trivial⟩ W20 fun b q p => ?_
       have hgq := hg.then p.grow
       have hsb := p.size.trans hs
       have hdb := p.defers.trans hd
       have j0 := p.ke 0 rfl i0
       have j1 := p.ke 1 rfl i1
       have j2 := p.ke 2 rfl i2
       have j7 := p.ke 7 rfl i7
       have j10 := p.ke 10 rfl i10
       have y10 : Lo k0 (obF (b.get 10)) := by rw [p.old 10 rfl]; exact n10
       have j11 := p.ke 11 rfl i11
       have j75 : (IsV x17) (b.get 75) q := p.ou 6 75 rfl
       have j77 : IsAdrO (a.get 10) ((x16).toNat * Enc.sz RegionSpan + 1) (b.get 77) q := p.ou 8 77 rfl
       have eo : b.get 10 = a.get 10 := p.old 10 rfl
       have hns := j10.nshF
       refine tail_storeS (i := 9) (u := b.get 10) (m := (x16).toNat) (off := 0 + 1) rfl rfl rfl rfl szf3 upd_F92_1 (by rw [eo]; exact j77) j10 (getI_spec hx18).2.1 j75 fun q2 hch hz => ?_
       replace hgq := hgq.step hch y10.wr
       have hle := hch.le hns
       replace j0 := Pers.pers hle j0
       replace j1 := Pers.pers hle j1
       replace j2 := Pers.pers hle j2
       replace j7 := Pers.pers hle j7
       replace j11 := Pers.pers hle j11
       replace j75 := Pers.pers hle j75
       replace j77 := Pers.pers hle j77
       replace j10 := hz
       rw [Option.some.inj hx19] at j10
       clear hns hle hch eo hz
       obtain ⟨q, hqq⟩ : ∃ q, q = q2 := ⟨q2, rfl⟩
       subst hqq
       exact tail_done (k := q) (w18 _ _ ⟨⟨hgq, hsb, hdb⟩, j0, j1, j2, j7, j10, y10, j11, trivial⟩)
      rintro a k ⟨⟨hg, hs, hd⟩, i0, i1, i2, i7, i10, n10, i11, _⟩
      obtain rfl := Option.some.inj hr
      exact w17 _ _ ⟨⟨hg, hs, hd⟩, i0, i1, i2, i7, i10, n10, i11, trivial⟩
     rw [if_neg (by rw [hc1111]; decide)] at hr
     obtain ⟨x20, hx20, hr⟩ := bind_some hr
     obtain ⟨x21, hx21, hr⟩ := bind_some hr
     refine cut (fun a' k' => Bs noF k0 88 a' k' ∧ (IsV a_) (a'.get 0) k' ∧ (IsV b_) (a'.get 1) k' ∧ (IsFn2 Tryz.prog keep_) (a'.get 2) k' ∧ (IsV x6) (a'.get 7) k' ∧ IsOwn 0 92 x21 (a'.get 10) k' ∧ Lo k0 (obF (a'.get 10)) ∧ (IsV s3.2) (a'.get 11) k' ∧ True) ?_ hQ ?_
     ·intro Q21 W21 w19
      refine gS 8 (⟨some (OwnAt (a.get 10) 0 92 s3.1), [(10, none)]⟩ :: _ :: _ :: _ :: _ :: _ :: ⟨some (IsV (⟨x8, x20⟩ : RegionSpan)), [(79, some 1), (83, some 5)]⟩ :: ⟨some (IsV (α := (List RegionSpan)) ([(⟨x8, x20⟩ : RegionSpan)])), [(84, some 6)]⟩ :: []) hs (by kernel_rfl) ⟨ob1 rfl fun _ _ h n => ok_moveOA (.inl rfl) (ownAt n.1 (up i10 h n.1)), mu rfl i12, mu rfl i7, mu rfl i11, o1 [(80, some 2), (81, some 3)] rfl fun _ _ h n => ok_indexAddr rfl Tryz.underlying50 ty3 (IsV.rd n.1) n.2.1 hx20, o1 [(82, some 4)] rfl fun _ _ h n => ok_load rfl ty3 n.1, ob1 rfl fun _ _ h n => ok_build rfl (bld92_0_1 n.1 n.2.1), ob1 rfl fun _ _ h n => ok_buildSlice rfl Tryz.underlying90 eo92 rfl (by decide) (by decide) ⟨rfl, n.1, trivial⟩, trivial⟩ W21 fun b q p => ?_
      have hgq := hg.then p.grow
      have hsb := p.size.trans hs
      have hdb := p.defers.trans hd
      have j0 := p.ke 0 rfl i0
      have j1 := p.ke 1 rfl i1
      have j2 := p.ke 2 rfl i2
      have j7 := p.ke 7 rfl i7
      have j11 := p.ke 11 rfl i11
      have e78 : b.get 78 = a.get 10 := (p.ou 0 78 rfl).1
      have j78 : IsOwn 0 92 s3.1 (b.get 78) q := (p.ou 0 78 rfl).2
      have y78 : Lo k0 (obF (b.get 78)) := by rw [e78]; exact n10
      have j85 : (IsV (α := (List RegionSpan)) ([(⟨x8, x20⟩ : RegionSpan)])) (b.get 85) q := p.ou 7 85 rfl
      have hns := j78.nshF
      refine tail_appendS (i := 8) (d := 86) rfl rfl rfl rfl (by rw [hsb]; decide) (e := 92) Tryz.underlying90 eo92 j78 (IsV.rd j85) hx21 fun b2 q2 hsz hdf hoth hch hown hob => ?_
      have hle := hch.le hns
      have yn : Lo k0 (obF (b2.get 86)) := y78.app hgq hob
      replace j0 := Pers.pers hle j0
      replace j1 := Pers.pers hle j1
      replace j2 := Pers.pers hle j2
      replace j7 := Pers.pers hle j7
      replace j11 := Pers.pers hle j11
      replace j85 := Pers.pers hle j85
      replace hgq := hgq.step hch y78.wr
      rw [← hoth 0 (by decide)] at j0
      rw [← hoth 1 (by decide)] at j1
      rw [← hoth 2 (by decide)] at j2
      rw [← hoth 7 (by decide)] at j7
      rw [← hoth 11 (by decide)] at j11
      rw [← hoth 85 (by decide)] at j85
      have j86 := hown
      have y86 := yn
      replace hsb := hsz.trans hsb
      replace hdb := hdf.trans hdb
      clear hle hch hown hob hns yn hsz hdf hoth
      obtain ⟨b, hbb⟩ : ∃ b, b = b2 := ⟨b2, rfl⟩
      subst hbb
      obtain ⟨q, hqq⟩ : ∃ q, q = q2 := ⟨q2, rfl⟩
      subst hqq
      refine tail_assign (i := 9) (d := 10) rfl rfl (.inl rfl) rfl (by rw [hsb]; decide) fun b2 hsz hdf hnew hoth => ?_
      have jn : (IsOwn 0 92 x21) (b2.get 10) q := by rw [hnew]; exact j86
      have yn : Lo k0 (obF (b2.get 10)) := by rw [hnew]; exact y86
      rw [← hoth 0 (by decide)] at j0
      rw [← hoth 1 (by decide)] at j1
      rw [← hoth 2 (by decide)] at j2
      rw [← hoth 7 (by decide)] at j7
      rw [← hoth 11 (by decide)] at j11
      rw [← hoth 85 (by decide)] at j85
      have j10 := jn
      have y10 := yn
      replace hsb := hsz.trans hsb
      replace hdb := hdf.trans hdb
      clear hsz hdf hoth
      obtain ⟨b, hbb⟩ : ∃ b, b = b2 := ⟨b2, rfl⟩
      subst hbb
      exact tail_done (k := q) (w19 _ _ ⟨⟨hgq, hsb, hdb⟩, j0, j1, j2, j7, j10, y10, j11, trivial⟩)
     rintro a k ⟨⟨hg, hs, hd⟩, i0, i1, i2, i7, i10, n10, i11, _⟩
     obtain rfl := Option.some.inj hr
     exact w17 _ _ ⟨⟨hg, hs, hd⟩, i0, i1, i2, i7, i10, n10, i11, trivial⟩
    clear hs5
    rintro a k ⟨⟨hg, hs, hd⟩, i0, i1, i2, i7, i10, n10, i11, _⟩
    obtain rfl := Option.some.inj hr
    exact w12 _ _ ⟨⟨hg, hs, hd⟩, i0, i1, i2, i7, i10, n10, i11, trivial⟩
   clear hs4
   rintro a k ⟨⟨hg, hs, hd⟩, i0, i1, i2, i7, i10, n10, i11, _⟩
   obtain ⟨x22, hx22, hr⟩ := bind_some hr
   refine cut (fun a' k' => Bs noF k0 88 a' k' ∧ (IsV a_) (a'.get 0) k' ∧ (IsV b_) (a'.get 1) k' ∧ (IsFn2 Tryz.prog keep_) (a'.get 2) k' ∧ (IsV x6) (a'.get 7) k' ∧ IsOwn 0 92 s4 (a'.get 10) k' ∧ Lo k0 (obF (a'.get 10)) ∧ (IsV x22) (a'.get 11) k' ∧ True) ?_ hQ ?_
   ·intro Q22 W22 w20
    refine gS 3 (_ :: _ :: _ :: []) hs (by kernel_rfl) ⟨mu rfl i11, o1 [(39, some 0)] rfl fun _ _ h n => ok_add rfl n.1 (cI rfl) hx22, cp 1 rfl rfl, trivial⟩ W22 fun b q p => ?_
    exact tail_done (k := q) (w20 _ _ ⟨Bs.post ⟨hg, hs, hd⟩ p, p.ke 0 rfl i0, p.ke 1 rfl i1, p.ke 2 rfl i2, p.ke 7 rfl i7, p.ke 10 rfl i10, (by rw [p.old 10 rfl]; exact n10), p.ou 2 11 rfl, trivial⟩)
   rintro a k ⟨⟨hg, hs, hd⟩, i0, i1, i2, i7, i10, n10, i11, _⟩
   exact hgo1093 _ _ _ (Option.some.inj hr).symm ⟨⟨hg, hs, hd⟩, i0, i1, i2, i7, i10, n10, i11, trivial⟩
  rw [if_neg (by rw [hc1127]; decide)] at hr
  refine wp_exit ?_
  obtain ⟨kk, sh1126, ii10⟩ := i10.give
  replace i10 := ii10
  replace hg := hg.hand sh1126 n10.wr
  rw [← sh1126.w]
  clear sh1126
  obtain ⟨k, hkk⟩ : ∃ k, k = kk := ⟨kk, rfl⟩
  subst hkk
  exact hex1094 _ _ _ _ (Option.some.inj hr).symm ⟨rfl, ⟨hg, hs, hd⟩, i10, trivial⟩
 ·rintro r2 a k rfl hR
  dsimp only at hr
  obtain rfl := Option.some.inj hr
  exact hR
 ·rintro _ _ _ rfl _
  simp at hr
 clear hf2
 rintro _ s6 a k rfl ⟨rfl, ⟨hg, hs, hd⟩, i10, _⟩
 dsimp only at hr
 refine stepL 2 (_ :: _ :: []) rfl ⟨hg, hs, hd⟩ (by kernel_rfl) ⟨mu rfl i10, cp 0 rfl rfl, trivial⟩ [⟨_, _⟩] (fun b q p => ⟨p.ou 1 6 rfl, trivial⟩) ?_
 rintro a k ⟨⟨hg, hs, hd⟩, i6, _⟩
 refine wp_ret ?_
 obtain rfl := Option.some.inj hr
 exact retC1 rfl hd hg i6
def region_combine_L0 (keep_ : (Bool → Bool → Option (Bool))) (x1 : (List RegionStrip)) (x2 : (List RegionStrip)) (x3 : (List RegionStrip)) (s1 : (List RegionStrip) × Int) : Option (Flow ((List RegionStrip) × Int) ((List Rect) × Int)) :=
 if (decide (s1.2 < (x3.length : Int))) then
  (getI s1.1 s1.2).bind fun x4 =>
  (region_at x1 x4.x0).bind fun x5 =>
  (region_at x2 x4.x0).bind fun x6 =>
  (region_merge x5 x6 keep_).bind fun x7 =>
  (getI s1.1 s1.2).bind fun x8 =>
  (some (s1.1.set (s1.2).toNat ({ x8 with column := x7 }))).bind fun x9 =>
  (addI s1.2 1).bind fun x10 =>
  some (.go (x9, x10))
 else
  some (.ex 0 (s1.1, s1.2))
def region_combine (a_ : (List Rect)) (b_ : (List Rect)) (keep_ : (Bool → Bool → Option (Bool))) : Option ((List Rect) × Int) :=
 (region_Right a_).bind fun x1 =>
 (if (!x1) then
  some true
 else
  (region_Right b_).bind fun x2 =>
  some (!x2)).bind fun x3 =>
 if x3 then
  some (([] : List Rect), 1)
 else
  (region_strips ([a_])).bind fun x4 =>
  (region_strips ([b_])).bind fun x5 =>
  (region_strips ([a_, b_])).bind fun x6 =>
  (iterL (region_combine_L0 keep_ x4 x5 x6) (x6.length + 1) (x6, 0)).bind fun f1 => match f1 with
   | .go _ => none
   | .ex _ s1 =>
    (region_write s1.1).bind fun x7 =>
    (region_limited x7).bind fun x8 =>
    some (x8.1, x8.2)
   | .ret r1 => some r1
theorem region_combine_ok {k0 : K} {v0 v1 v2 : Value} {a_ : (List Rect)} {b_ : (List Rect)} {keep_ : (Bool → Bool → Option (Bool))} {r : (List Rect) × Int} (i0 : (IsV a_) v0 k0) (i1 : (IsV b_) v1 k0) (i2 : (IsFn2 Tryz.prog keep_) v2 k0) (hr : region_combine a_ b_ keep_ = some r) :
  Calls Tryz.prog 71 #[v0, v1, v2] k0.w (Ret k0 (IsTup2 (IsV r.1) (IsV r.2))) := by
 unfold region_combine at hr
 refine Ret.ofC ?_
 refine enterK Tryz.func71 rfl Tryz.ntmps71 (show 3 ≤ 58 by decide) fun a k hk0 hs hd ha => ?_
 obtain ⟨e0, e1, e2, _⟩ := ha
 replace i0 : (IsV a_) (a.get 0) k := by rw [e0, hk0]; exact i0
 replace i1 : (IsV b_) (a.get 1) k := by rw [e1, hk0]; exact i1
 replace i2 : (IsFn2 Tryz.prog keep_) (a.get 2) k := by rw [e2, hk0]; exact i2
 have hQ : Gb.LetsOut (bodyPost Tryz.prog Tryz.f71 (RetC noF k0 (IsTup2 (IsV r.1) (IsV r.2)))) := letsOutC
 have hg : Chg noF k0 k := by rw [hk0]; exact Chg.refl _ k0
 refine stepL 2 (⟨some IsE0, []⟩ :: ⟨some (IsI 0), []⟩ :: []) rfl ⟨hg, hs, hd⟩ (by kernel_rfl) ⟨ob1 rfl fun b q h n => ok_assign rfl isE0_nil, aI rfl rfl, trivial⟩ [⟨_, _⟩, ⟨_, _⟩, ⟨_, _⟩] (fun b q p => ⟨p.ke 0 rfl i0, p.ke 1 rfl i1, p.ke 2 rfl i2, trivial⟩) ?_
 rintro a k ⟨⟨hg, hs, hd⟩, i0, i1, i2, _⟩
 refine wp_seq ?_
 refine wp_seq ?_
 obtain ⟨x1, hx1, hr⟩ := bind_some hr
 obtain ⟨x2, hx2, hr⟩ := bind_some hr
 obtain ⟨x3, hx3, hx2⟩ := ite_bindF hx2
 refine cut (fun a' k' => Bs noF k0 58 a' k' ∧ (IsV a_) (a'.get 0) k' ∧ (IsV b_) (a'.get 1) k' ∧ (IsFn2 Tryz.prog keep_) (a'.get 2) k' ∧ (IsV x2) (a'.get 20) k' ∧ True) ?_ hQ ?_
 ·intro Q1 W1 w1
  refine gS 8 (_ :: _ :: _ :: _ :: _ :: _ :: _ :: _ :: []) hs (by kernel_rfl) ⟨mu rfl i0, o1 [(13, some 0)] rfl fun _ _ h n => ok_call rfl Tryz.call53 (region_Right_ok n.1 hx1), o1 [(14, some 1)] rfl fun _ _ h n => ok_not rfl n.1, cm 2 rfl rfl, mF rfl rfl i1, gF [(17, some 4)] rfl rfl fun hp _ _ h n => ok_call rfl Tryz.call53 (region_Right_ok (Gd.get n.1 hp) (hx3 hp)), gF [(18, some 5)] rfl rfl fun hp _ _ h n => ok_not rfl (Gd.get n.1 hp), o1 [(16, some 3), (19, some 6)] rfl fun _ _ h n => ok_pickM rfl n.1 hx2 (cB rfl) (Gd.get n.2.1), trivial⟩ W1 fun b q p => ?_
  exact tail_done (k := q) (w1 _ _ ⟨Bs.post ⟨hg, hs, hd⟩ p, p.ke 0 rfl i0, p.ke 1 rfl i1, p.ke 2 rfl i2, p.ou 7 20 rfl, trivial⟩)
 rintro a k ⟨⟨hg, hs, hd⟩, i0, i1, i2, i20, _⟩
 refine wp_cond_split (isBool i20) (fun hc1192 => ?_) (fun hc1192 => ?_)
 ·rw [if_pos hc1192] at hr
  refine cutL noF k0 58 [⟨6, IsV ([] : List Rect)⟩, ⟨7, IsI 1⟩] ?_ ?_
  ·intro Q2 W2 w2
   refine gS 2 (⟨some IsE0, []⟩ :: ⟨some (IsI 1), []⟩ :: []) hs (by kernel_rfl) ⟨ob1 rfl fun b q h n => ok_assign rfl isE0_nil, aI rfl rfl, trivial⟩ W2 fun b q p => ?_
   have hgq := hg.then p.grow
   have hsb := p.size.trans hs
   have hdb := p.defers.trans hd
   have j6 : IsE0 (b.get 6) q := p.ou 0 6 rfl
   have j7 : (IsI 1) (b.get 7) q := p.ou 1 7 rfl
   replace j6 : IsV ([] : List Rect) (b.get 6) q := j6.isV
   exact tail_done (k := q) (w2 _ _ ⟨⟨hgq, hsb, hdb⟩, j6, j7, trivial⟩)
  rintro a k ⟨⟨hg, hs, hd⟩, i6, i7, _⟩
  refine wp_ret ?_
  obtain rfl := Option.some.inj hr
  exact retC2 rfl hd hg i6 i7
 rw [if_neg (by rw [hc1192]; decide)] at hr
 refine wp_skip ?_
 refine wp_seq ?_
 obtain ⟨x4, hx4, hr⟩ := bind_some hr
 obtain ⟨x5, hx5, hr⟩ := bind_some hr
 refine cut (fun a' k' => Bs noF k0 58 a' k' ∧ (IsV a_) (a'.get 0) k' ∧ (IsV b_) (a'.get 1) k' ∧ (IsFn2 Tryz.prog keep_) (a'.get 2) k' ∧ (IsV x4) (a'.get 8) k' ∧ (IsV x5) (a'.get 9) k' ∧ True) ?_ hQ ?_
 ·intro Q3 W3 w3
  refine gS 8 (_ :: ⟨some (IsV (α := (List (List Rect))) ([a_])), [(21, some 0)]⟩ :: _ :: _ :: ⟨some (IsV (α := (List (List Rect))) ([b_])), [(24, some 3)]⟩ :: _ :: _ :: _ :: []) hs (by kernel_rfl) ⟨mu rfl i0, ob1 rfl fun _ _ h n => ok_buildSlice rfl Tryz.underlying95 eo37 rfl (by decide) (by decide) ⟨rfl, n.1, trivial⟩, o1 [(22, some 1)] rfl fun _ _ h n => ok_call rfl Tryz.call65 (region_strips_ok n.1 hx4), mu rfl i1, ob1 rfl fun _ _ h n => ok_buildSlice rfl Tryz.underlying95 eo37 rfl (by decide) (by decide) ⟨rfl, n.1, trivial⟩, o1 [(25, some 4)] rfl fun _ _ h n => ok_call rfl Tryz.call65 (region_strips_ok n.1 hx5), cp 2 rfl rfl, cp 5 rfl rfl, trivial⟩ W3 fun b q p => ?_
  exact tail_done (k := q) (w3 _ _ ⟨Bs.post ⟨hg, hs, hd⟩ p, p.ke 0 rfl i0, p.ke 1 rfl i1, p.ke 2 rfl i2, p.ou 6 8 rfl, p.ou 7 9 rfl, trivial⟩)
 rintro a k ⟨⟨hg, hs, hd⟩, i0, i1, i2, i8, i9, _⟩
 refine wp_seq ?_
 obtain ⟨x6, hx6, hr⟩ := bind_some hr
 refine cut (fun a' k' => Bs noF k0 58 a' k' ∧ (IsFn2 Tryz.prog keep_) (a'.get 2) k' ∧ (IsV x4) (a'.get 8) k' ∧ (IsV x5) (a'.get 9) k' ∧ IsOwn 0 94 x6 (a'.get 10) k' ∧ Lo k0 (obF (a'.get 10)) ∧ True) ?_ hQ ?_
 ·intro Q4 W4 w4
  refine gS 5 (_ :: _ :: ⟨some (IsV (α := (List (List Rect))) ([a_, b_])), [(27, some 0), (28, some 1)]⟩ :: _ :: _ :: []) hs (by kernel_rfl) ⟨mu rfl i0, mu rfl i1, ob1 rfl fun _ _ h n => ok_buildSlice rfl Tryz.underlying95 eo37 rfl (by decide) (by decide) ⟨rfl, n.1, rfl, n.2.1, trivial⟩, o1 [(29, some 2)] rfl fun _ _ h n => ok_call rfl Tryz.call65 (ret_weaken h.size (region_strips_okO n.1 hx6)), cp 3 rfl rfl, trivial⟩ W4 fun b q p => ?_
  have hgq := hg.then p.grow
  have hsb := p.size.trans hs
  have hdb := p.defers.trans hd
  have j2 := p.ke 2 rfl i2
  have j8 := p.ke 8 rfl i8
  have j9 := p.ke 9 rfl i9
  have j10 : (IsOwn k.w.heap.size 94 x6) (b.get 10) q := p.ou 4 10 rfl
  have x10 : Lo k (obF (b.get 10)) := j10.loF
  have y10 := x10.chg hg
  replace j10 := j10.weaken (Nat.zero_le _)
  exact tail_done (k := q) (w4 _ _ ⟨⟨hgq, hsb, hdb⟩, j2, j8, j9, j10, y10, trivial⟩)
 rintro a k ⟨⟨hg, hs, hd⟩, i2, i8, i9, i10, n10, _⟩
 refine wp_seq ?_
 refine cutS (fun c l => Bs noF k0 58 c l ∧ IsFn2 Tryz.prog keep_ (c.get 2) l ∧ IsV x4 (c.get 8) l ∧ IsV x5 (c.get 9) l ∧ IsOwn 0 94 x6 (c.get 10) l ∧ Lo k0 (obF (c.get 10)) ∧ c.get 31 = c.get 10 ∧ IsL x6 (c.get 32) l ∧ IsI 0 (c.get 33) l ∧ True) ?_ ?_
 ·intro Q5 W5 w5
  refine gS 3 (⟨some (OwnAt (a.get 10) 0 94 x6), [(10, none)]⟩ :: _ :: ⟨some (IsI 0), []⟩ :: []) hs (by kernel_rfl) ⟨ob1 rfl fun _ _ h n => ok_moveOA (.inl rfl) (ownAt n.1 (up i10 h n.1)), o1 [(31, some 0)] rfl fun _ _ h n => ok_len rfl rfl Tryz.underlying74 (IsOwn.rd (n.1).2), ob1 rfl fun _ _ h n => ok_move rfl (cI rfl), trivial⟩ W5 fun b q p => ?_
  have hgq := hg.then p.grow
  have hsb := p.size.trans hs
  have hdb := p.defers.trans hd
  have j2 := p.ke 2 rfl i2
  have j8 := p.ke 8 rfl i8
  have j9 := p.ke 9 rfl i9
  have j10 := p.ke 10 rfl i10
  have y10 : Lo k0 (obF (b.get 10)) := by rw [p.old 10 rfl]; exact n10
  have j31 : b.get 31 = b.get 10 := (show b.get 31 = a.get 10 from (p.ou 0 31 rfl).1).trans (p.old 10 rfl).symm
  have j32 : (IsL x6) (b.get 32) q := p.ou 1 32 rfl
  have j33 : (IsI 0) (b.get 33) q := p.ou 2 33 rfl
  exact tail_done (k := q) (w5 _ _ ⟨⟨hgq, hsb, hdb⟩, j2, j8, j9, j10, y10, j31, j32, j33, trivial⟩)
 rintro a k ⟨⟨hg, hs, hd⟩, i2, i8, i9, i10, n10, i31, i32, i33, _⟩
 refine wp_block ?_
 obtain ⟨f1, hf1, hr⟩ := bind_some hr
 refine cutFe f1 (fun s' c l => Bs noF k0 58 c l ∧ IsFn2 Tryz.prog keep_ (c.get 2) l ∧ IsV x4 (c.get 8) l ∧ IsV x5 (c.get 9) l ∧ IsOwn 0 94 s'.1 (c.get 10) l ∧ Lo k0 (obF (c.get 10)) ∧ c.get 31 = c.get 10 ∧ IsL x6 (c.get 32) l ∧ IsV s'.2 (c.get 33) l ∧ True) (fun i' s' c l => (i' = 0 ∧ Bs noF k0 58 c l ∧ IsV s'.1 (c.get 10) l ∧ True)) (fun r' c l => bodyPost Tryz.prog Tryz.f71 (RetC noF k0 (IsTup2 (IsV r'.1) (IsV r'.2))) .ret c l.w) ?_ hQ ?_ ?_ ?_
 ·intro Q6 W6 hgo hex hret
  refine sim_loop ?_ _ _ _ _ _ hf1 ⟨⟨hg, hs, hd⟩, i2, i8, i9, i10, n10, i31, i32, i33, trivial⟩ Q6 W6 hgo hex hret
  clear hr hf1 hgo hex hret W6 hQ hg hs hd i10 i2 i31 i32 i33 i8 i9 n10
  intro s1 fl_ a k hr hS Q hQ hgo1162 hex1163 hret1164
  obtain ⟨⟨hg, hs, hd⟩, i2, i8, i9, i10, n10, i31, i32, i33, _⟩ := hS
  unfold region_combine_L0 at hr
  refine cutS (fun c l => Bs noF k0 58 c l ∧ IsFn2 Tryz.prog keep_ (c.get 2) l ∧ IsV x4 (c.get 8) l ∧ IsV x5 (c.get 9) l ∧ IsOwn 0 94 s1.1 (c.get 10) l ∧ Lo k0 (obF (c.get 10)) ∧ c.get 31 = c.get 10 ∧ IsL x6 (c.get 32) l ∧ IsV s1.2 (c.get 33) l ∧ (IsV (decide (s1.2 < (x6.length : Int)))) (c.get 34) l ∧ True) ?_ ?_
  ·intro Q7 W7 w6
   refine gS 1 (_ :: []) hs (by kernel_rfl) ⟨o1 [(33, none), (32, none)] rfl fun _ _ h n => ok_lss rfl (up i33 h n.1) (up i32 h n.2.1), trivial⟩ W7 fun b q p => ?_
   exact tail_done (k := q) (w6 _ _ ⟨Bs.post ⟨hg, hs, hd⟩ p, p.ke 2 rfl i2, p.ke 8 rfl i8, p.ke 9 rfl i9, p.ke 10 rfl i10, (by rw [p.old 10 rfl]; exact n10), ((p.old 31 rfl).trans (i31.trans (p.old 10 rfl).symm)), p.ke 32 rfl i32, p.ke 33 rfl i33, p.ou 0 34 rfl, trivial⟩)
  rintro a k ⟨⟨hg, hs, hd⟩, i2, i8, i9, i10, n10, i31, i32, i33, i34, _⟩
  refine wp_seq ?_
  refine wp_cond_split (isBool i34) (fun hc1176 => ?_) (fun hc1176 => ?_)
  ·rw [if_pos hc1176] at hr
   refine wp_skip ?_
   refine wp_seq ?_
   refine wp_block ?_
   refine wp_seq ?_
   obtain ⟨x7, hx7, hr⟩ := bind_some hr
   refine cut (fun a' k' => Bs noF k0 58 a' k' ∧ (IsFn2 Tryz.prog keep_) (a'.get 2) k' ∧ (IsV x4) (a'.get 8) k' ∧ (IsV x5) (a'.get 9) k' ∧ IsOwn 0 94 s1.1 (a'.get 10) k' ∧ Lo k0 (obF (a'.get 10)) ∧ (IsV s1.2) (a'.get 11) k' ∧ (IsRef x7) (a'.get 12) k' ∧ a'.get 31 = a'.get 10 ∧ (IsL x6) (a'.get 32) k' ∧ (IsV s1.2) (a'.get 33) k' ∧ True) ?_ hQ ?_
   ·intro Q8 W8 w7
    refine gS 5 (_ :: _ :: _ :: ⟨some (IsBox k.w.heap.size (⟨0, 0, []⟩ : RegionStrip)), []⟩ :: _ :: []) hs (by kernel_rfl) ⟨mu rfl i33, o1 [(31, none), (33, none)] rfl fun _ _ h n => ok_indexAddr rfl Tryz.underlying74 ty94 (IsOwn.rd ((ownAt ((n.1).trans i31) (upT i10 h ((n.1).trans i31)))).2) (up i33 h n.2.1) hx7, o1 [(36, some 1)] rfl fun _ _ h n => ok_load rfl ty94 n.1, ob1 rfl fun _ _ h n => ok_alloc _ h.size rfl z94, cp 0 rfl rfl, trivial⟩ W8 fun b q p => ?_
    have hgq := hg.then p.grow
    have hsb := p.size.trans hs
    have hdb := p.defers.trans hd
    have j2 := p.ke 2 rfl i2
    have j8 := p.ke 8 rfl i8
    have j9 := p.ke 9 rfl i9
    have j10 := p.ke 10 rfl i10
    have y10 : Lo k0 (obF (b.get 10)) := by rw [p.old 10 rfl]; exact n10
    have j11 : (IsV s1.2) (b.get 11) q := p.ou 4 11 rfl
    obtain ⟨b12, j12, x12, z12⟩ : (IsBox k.w.heap.size (⟨0, 0, []⟩ : RegionStrip)) (b.get 12) q := p.ou 3 12 rfl
    replace x12 : Lo k (Eq b12) := Lo.eq x12
    have y12 : Lo k0 (Eq b12) := x12.chg hg
    have j31 : b.get 31 = b.get 10 := (p.old 31 rfl).trans (i31.trans (p.old 10 rfl).symm)
    have j32 := p.ke 32 rfl i32
    have j33 := p.ke 33 rfl i33
    have j37 : (IsV x7) (b.get 37) q := p.ou 2 37 rfl
    have w10_12 : Apart (obF (b.get 10)) (Eq b12) := Apart.new (by rw [p.old 10 rfl]; exact i10.ltF) x12
    have hns := z12.nshF
    refine tail_storeB (i := 5) rfl rfl rfl rfl szf94 (Upd.self (α := RegionStrip)) j12 z12 j37 fun q2 hch hz => ?_
    replace hgq := hgq.step hch y12.wr
    have hle := hch.le hns
    replace j2 := Pers.pers hle j2
    replace j8 := Pers.pers hle j8
    replace j9 := Pers.pers hle j9
    replace j10 := j10.keep hch w10_12 hns
    replace j11 := Pers.pers hle j11
    replace j32 := Pers.pers hle j32
    replace j33 := Pers.pers hle j33
    replace j37 := Pers.pers hle j37
    replace z12 := hz
    clear hns hle hch
    obtain ⟨q, hqq⟩ : ∃ q, q = q2 := ⟨q2, rfl⟩
    subst hqq
    obtain ⟨q2, hsh, jn⟩ := z12.give
    replace j2 := Pers.pers hsh.le j2
    replace j8 := Pers.pers hsh.le j8
    replace j9 := Pers.pers hsh.le j9
    replace j10 := j10.handed hsh w10_12
    replace j11 := Pers.pers hsh.le j11
    replace j32 := Pers.pers hsh.le j32
    replace j33 := Pers.pers hsh.le j33
    rw [← j12] at jn
    replace j12 := jn
    replace hgq := hgq.hand hsh y12.wr
    rw [← hsh.w]
    clear hsh
    obtain ⟨q, hqq⟩ : ∃ q, q = q2 := ⟨q2, rfl⟩
    subst hqq
    exact tail_done (k := q) (w7 _ _ ⟨⟨hgq, hsb, hdb⟩, j2, j8, j9, j10, y10, j11, j12, j31, j32, j33, trivial⟩)
   rintro a k ⟨⟨hg, hs, hd⟩, i2, i8, i9, i10, n10, i11, i12, i31, i32, i33, _⟩
   obtain ⟨x8, hx8, hr⟩ := bind_some hr
   obtain ⟨x9, hx9, hr⟩ := bind_some hr
   obtain ⟨x11, hx11, hr⟩ := bind_some hr
   obtain ⟨x13, hx13, hr⟩ := bind_some hr
   obtain ⟨x14, hx14, hr⟩ := bind_some hr
   refine cut (fun a' k' => Bs noF k0 58 a' k' ∧ (IsFn2 Tryz.prog keep_) (a'.get 2) k' ∧ (IsV x4) (a'.get 8) k' ∧ (IsV x5) (a'.get 9) k' ∧ IsOwn 0 94 x14 (a'.get 10) k' ∧ Lo k0 (obF (a'.get 10)) ∧ a'.get 31 = a'.get 10 ∧ (IsL x6) (a'.get 32) k' ∧ (IsV s1.2) (a'.get 33) k' ∧ True) ?_ hQ ?_
   ·intro Q9 W9 w8
    refine region (m := 14) (⟨some (OwnAt (a.get 10) 0 94 s1.1), [(10, none)]⟩ :: _ :: _ :: _ :: _ :: _ :: _ :: _ :: _ :: _ :: _ :: _ :: ⟨some (IsAdrO (a.get 10) ((s1.2).toNat * Enc.sz RegionStrip)), [(38, some 0), (39, some 1)]⟩ :: _ :: []) hmix hs (by kernel_rfl) ⟨ob1 rfl fun _ _ h n => ok_moveOA (.inl rfl) (ownAt n.1 (up i10 h n.1)), mu rfl i11, mu rfl i8, o1 [(12, none)] rfl fun _ _ h n => ok_fieldAddr rfl fo94_0 (at_RegionStrip_0 _) ((up i12 h n.1)).ptr, o1 [(41, some 3)] rfl fun _ _ h n => ok_load rfl ty3 n.1, o1 [(40, some 2), (42, some 4)] rfl fun _ _ h n => ok_call rfl Tryz.call88 (region_at_ok n.1 n.2.1 hx8), mu rfl i9, o1 [(12, none)] rfl fun _ _ h n => ok_fieldAddr rfl fo94_0 (at_RegionStrip_0 _) ((up i12 h n.1)).ptr, o1 [(45, some 7)] rfl fun _ _ h n => ok_load rfl ty3 n.1, o1 [(44, some 6), (46, some 8)] rfl fun _ _ h n => ok_call rfl Tryz.call88 (region_at_ok n.1 n.2.1 hx9), mu rfl i2, o1 [(43, some 5), (47, some 9), (48, some 10)] rfl fun _ _ h n => ok_call rfl Tryz.call87 (region_merge_ok n.1 n.2.1 n.2.2.1 hx11), ob1 rfl fun _ _ h n => ok_indexO rfl Tryz.underlying74 ty94 n.1 n.2.1 hx13, o1 [(50, some 12)] rfl fun _ _ h n => ok_fieldAdrO rfl fo94_2 n.1, trivial⟩ W9 fun b q p => ?_
    have hgq := hg.then p.grow
    have hsb := p.size.trans hs
    have hdb := p.defers.trans hd
    have j2 := p.ke 2 rfl i2
    have j8 := p.ke 8 rfl i8
    have j9 := p.ke 9 rfl i9
    have j10 := p.ke 10 rfl i10
    have y10 : Lo k0 (obF (b.get 10)) := by rw [p.old 10 rfl]; exact n10
    have j31 : b.get 31 = b.get 10 := (p.old 31 rfl).trans (i31.trans (p.old 10 rfl).symm)
    have j32 := p.ke 32 rfl i32
    have j33 := p.ke 33 rfl i33
    have j49 : (IsV x11) (b.get 49) q := p.ou 11 49 rfl
    have j51 : IsAdrO (a.get 10) ((s1.2).toNat * Enc.sz RegionStrip + 2) (b.get 51) q := p.ou 13 51 rfl
    have eo : b.get 10 = a.get 10 := p.old 10 rfl
    have hns := j10.nshF
    refine tail_storeS (i := 14) (u := b.get 10) (m := (s1.2).toNat) (off := 0 + 2) rfl rfl rfl rfl szf90 upd_F94_2 (by rw [eo]; exact j51) j10 (getI_spec hx13).2.1 j49 fun q2 hch hz => ?_
    replace hgq := hgq.step hch y10.wr
    have hle := hch.le hns
    replace j2 := Pers.pers hle j2
    replace j8 := Pers.pers hle j8
    replace j9 := Pers.pers hle j9
    replace j32 := Pers.pers hle j32
    replace j33 := Pers.pers hle j33
    replace j49 := Pers.pers hle j49
    replace j51 := Pers.pers hle j51
    replace j10 := hz
    rw [Option.some.inj hx14] at j10
    clear hns hle hch eo hz
    obtain ⟨q, hqq⟩ : ∃ q, q = q2 := ⟨q2, rfl⟩
    subst hqq
    exact tail_done (k := q) (w8 _ _ ⟨⟨hgq, hsb, hdb⟩, j2, j8, j9, j10, y10, j31, j32, j33, trivial⟩)
   rintro a k ⟨⟨hg, hs, hd⟩, i2, i8, i9, i10, n10, i31, i32, i33, _⟩
   obtain ⟨x15, hx15, hr⟩ := bind_some hr
   refine cut (fun a' k' => Bs noF k0 58 a' k' ∧ (IsFn2 Tryz.prog keep_) (a'.get 2) k' ∧ (IsV x4) (a'.get 8) k' ∧ (IsV x5) (a'.get 9) k' ∧ IsOwn 0 94 x14 (a'.get 10) k' ∧ Lo k0 (obF (a'.get 10)) ∧ a'.get 31 = a'.get 10 ∧ (IsL x6) (a'.get 32) k' ∧ (IsV x15) (a'.get 33) k' ∧ True) ?_ hQ ?_
   ·intro Q10 W10 w9
    refine gS 2 (_ :: _ :: []) hs (by kernel_rfl) ⟨o1 [(33, none)] rfl fun _ _ h n => ok_add rfl (up i33 h n.1) (cI rfl) hx15, cm 0 rfl rfl, trivial⟩ W10 fun b q p => ?_
    exact tail_done (k := q) (w9 _ _ ⟨Bs.post ⟨hg, hs, hd⟩ p, p.ke 2 rfl i2, p.ke 8 rfl i8, p.ke 9 rfl i9, p.ke 10 rfl i10, (by rw [p.old 10 rfl]; exact n10), ((p.old 31 rfl).trans (i31.trans (p.old 10 rfl).symm)), p.ke 32 rfl i32, p.ou 1 33 rfl, trivial⟩)
   rintro a k ⟨⟨hg, hs, hd⟩, i2, i8, i9, i10, n10, i31, i32, i33, _⟩
   exact hgo1162 _ _ _ (Option.some.inj hr).symm ⟨⟨hg, hs, hd⟩, i2, i8, i9, i10, n10, i31, i32, i33, trivial⟩
  rw [if_neg (by rw [hc1176]; decide)] at hr
  refine wp_exit ?_
  obtain ⟨kk, sh1175, ii10⟩ := i10.give
  replace i10 := ii10
  replace hg := hg.hand sh1175 n10.wr
  rw [← sh1175.w]
  clear sh1175
  obtain ⟨k, hkk⟩ : ∃ k, k = kk := ⟨kk, rfl⟩
  subst hkk
  exact hex1163 _ _ _ _ (Option.some.inj hr).symm ⟨rfl, ⟨hg, hs, hd⟩, i10, trivial⟩
 ·rintro r1 a k rfl hR
  dsimp only at hr
  obtain rfl := Option.some.inj hr
  exact hR
 ·rintro _ _ _ rfl _
  simp at hr
 clear hf1
 rintro _ s2 a k rfl ⟨rfl, ⟨hg, hs, hd⟩, i10, _⟩
 dsimp only at hr
 refine wp_seq ?_
 obtain ⟨x16, hx16, hr⟩ := bind_some hr
 obtain ⟨x17, hx17, hr⟩ := bind_some hr
 refine cut (fun a' k' => Bs noF k0 58 a' k' ∧ (IsV x17.1) (a'.get 6) k' ∧ (IsV x17.2) (a'.get 7) k' ∧ True) ?_ hQ ?_
 ·intro Q11 W11 w10
  refine gS 7 (_ :: _ :: _ :: _ :: _ :: _ :: _ :: []) hs (by kernel_rfl) ⟨mu rfl i10, o1 [(53, some 0)] rfl fun _ _ h n => ok_call rfl Tryz.call64 (region_write_ok n.1 hx16), o1 [(54, some 1)] rfl fun _ _ h n => ok_call rfl Tryz.call63 (region_limited_ok n.1 hx17), o1 [(55, some 2)] rfl fun _ _ h n => ok_ext2_0 rfl n.1, o1 [(55, some 2)] rfl fun _ _ h n => ok_ext2_1 rfl n.1, cp 3 rfl rfl, cp 4 rfl rfl, trivial⟩ W11 fun b q p => ?_
  exact tail_done (k := q) (w10 _ _ ⟨Bs.post ⟨hg, hs, hd⟩ p, p.ou 5 6 rfl, p.ou 6 7 rfl, trivial⟩)
 rintro a k ⟨⟨hg, hs, hd⟩, i6, i7, _⟩
 refine wp_ret ?_
 obtain rfl := Option.some.inj hr
 exact retC2 rfl hd hg i6 i7
def region_Minus_1 (a_ : Bool) (b_ : Bool) : Option (Bool) :=
 some (a_ && (!b_))
noncomputable def k72 := mk 72 [.bool, .bool] [.bool] (fun x => region_Minus_1 x.1 x.2) [] [] Tryz.f72 (.n) Tryz.func72 Tryz.call72 rfl rfl fun x => by kernel_rfl
theorem region_Minus_1_ok {k0 : K} {v0 v1 : Value} {x0 : Bool} {x1 : Bool} {r : Bool} (i0 : IsV x0 v0 k0) (i1 : IsV x1 v1 k0) (hr : region_Minus_1 x0 x1 = some r) : Calls Tryz.prog 72 #[v0, v1] k0.w (Ret k0 (IsV r)) := (k72.ok.ok k0 [v0, v1] (x0, x1) r ⟨i0, i1⟩ hr)
def region_Minus (a_ : (List Rect)) (b_ : (List Rect)) : Option ((List Rect) × Int) :=
 (region_combine a_ b_ region_Minus_1).bind fun x1 =>
 some (x1.1, x1.2)
theorem region_Minus_ok {k0 : K} {v0 v1 : Value} {a_ : (List Rect)} {b_ : (List Rect)} {r : (List Rect) × Int} (i0 : (IsV a_) v0 k0) (i1 : (IsV b_) v1 k0) (hr : region_Minus a_ b_ = some r) :
  Calls Tryz.prog 45 #[v0, v1] k0.w (Ret k0 (IsTup2 (IsV r.1) (IsV r.2))) := by
 unfold region_Minus at hr
 refine Ret.ofC ?_
 refine enterK Tryz.func45 rfl Tryz.ntmps45 (show 2 ≤ 11 by decide) fun a k hk0 hs hd ha => ?_
 obtain ⟨e0, e1, _⟩ := ha
 replace i0 : (IsV a_) (a.get 0) k := by rw [e0, hk0]; exact i0
 replace i1 : (IsV b_) (a.get 1) k := by rw [e1, hk0]; exact i1
 have hQ : Gb.LetsOut (bodyPost Tryz.prog Tryz.f45 (RetC noF k0 (IsTup2 (IsV r.1) (IsV r.2)))) := letsOutC
 have hg : Chg noF k0 k := by rw [hk0]; exact Chg.refl _ k0
 refine stepL 2 (⟨some IsE0, []⟩ :: ⟨some (IsI 0), []⟩ :: []) rfl ⟨hg, hs, hd⟩ (by kernel_rfl) ⟨ob1 rfl fun b q h n => ok_assign rfl isE0_nil, aI rfl rfl, trivial⟩ [⟨_, _⟩, ⟨_, _⟩] (fun b q p => ⟨p.ke 0 rfl i0, p.ke 1 rfl i1, trivial⟩) ?_
 rintro a k ⟨⟨hg, hs, hd⟩, i0, i1, _⟩
 refine wp_seq ?_
 obtain ⟨x1, hx1, hr⟩ := bind_some hr
 refine cut (fun a' k' => Bs noF k0 11 a' k' ∧ (IsV x1.1) (a'.get 4) k' ∧ (IsV x1.2) (a'.get 5) k' ∧ True) ?_ hQ ?_
 ·intro Q1 W1 w1
  refine gS 7 (_ :: _ :: _ :: _ :: _ :: _ :: _ :: []) hs (by kernel_rfl) ⟨mu rfl i0, mu rfl i1, o1 [(6, some 0), (7, some 1)] rfl fun _ _ h n => ok_call rfl Tryz.call71 (region_combine_ok n.1 n.2.1 ⟨72, _, _, rfl, Tryz.call72, fun k9 hk9 _ _ _ _ _ hx0 hx1 hy9 => by simpa [evalT] using region_Minus_1_ok hx0 hx1 hy9⟩ hx1), o1 [(8, some 2)] rfl fun _ _ h n => ok_ext2_0 rfl n.1, o1 [(8, some 2)] rfl fun _ _ h n => ok_ext2_1 rfl n.1, cp 3 rfl rfl, cp 4 rfl rfl, trivial⟩ W1 fun b q p => ?_
  exact tail_done (k := q) (w1 _ _ ⟨Bs.post ⟨hg, hs, hd⟩ p, p.ou 5 4 rfl, p.ou 6 5 rfl, trivial⟩)
 rintro a k ⟨⟨hg, hs, hd⟩, i4, i5, _⟩
 refine wp_ret ?_
 obtain rfl := Option.some.inj hr
 exact retC2 rfl hd hg i4 i5
def solid_Minus (a_ : (List Slab)) (b_ : (List Slab)) : Option ((List Slab) × Int) :=
 (solid_combine a_ b_ region_Minus).bind fun x1 =>
 some (x1.1, x1.2)
theorem solid_Minus_ok {k0 : K} {v0 v1 : Value} {a_ : (List Slab)} {b_ : (List Slab)} {r : (List Slab) × Int} (i0 : (IsV a_) v0 k0) (i1 : (IsV b_) v1 k0) (hr : solid_Minus a_ b_ = some r) :
  Calls Tryz.prog 11 #[v0, v1] k0.w (Ret k0 (IsTup2 (IsV r.1) (IsV r.2))) := by
 unfold solid_Minus at hr
 refine Ret.ofC ?_
 refine enterK Tryz.func11 rfl Tryz.ntmps11 (show 2 ≤ 11 by decide) fun a k hk0 hs hd ha => ?_
 obtain ⟨e0, e1, _⟩ := ha
 replace i0 : (IsV a_) (a.get 0) k := by rw [e0, hk0]; exact i0
 replace i1 : (IsV b_) (a.get 1) k := by rw [e1, hk0]; exact i1
 have hQ : Gb.LetsOut (bodyPost Tryz.prog Tryz.f11 (RetC noF k0 (IsTup2 (IsV r.1) (IsV r.2)))) := letsOutC
 have hg : Chg noF k0 k := by rw [hk0]; exact Chg.refl _ k0
 refine stepL 2 (⟨some IsE0, []⟩ :: ⟨some (IsI 0), []⟩ :: []) rfl ⟨hg, hs, hd⟩ (by kernel_rfl) ⟨ob1 rfl fun b q h n => ok_assign rfl isE0_nil, aI rfl rfl, trivial⟩ [⟨_, _⟩, ⟨_, _⟩] (fun b q p => ⟨p.ke 0 rfl i0, p.ke 1 rfl i1, trivial⟩) ?_
 rintro a k ⟨⟨hg, hs, hd⟩, i0, i1, _⟩
 refine wp_seq ?_
 obtain ⟨x1, hx1, hr⟩ := bind_some hr
 refine cut (fun a' k' => Bs noF k0 11 a' k' ∧ (IsV x1.1) (a'.get 4) k' ∧ (IsV x1.2) (a'.get 5) k' ∧ True) ?_ hQ ?_
 ·intro Q1 W1 w1
  refine gS 7 (_ :: _ :: _ :: _ :: _ :: _ :: _ :: []) hs (by kernel_rfl) ⟨mu rfl i0, mu rfl i1, o1 [(6, some 0), (7, some 1)] rfl fun _ _ h n => ok_call rfl Tryz.call44 (solid_combine_ok n.1 n.2.1 ⟨45, _, _, rfl, Tryz.call45, fun k9 hk9 _ _ _ _ _ hx0 hx1 hy9 => by simpa [evalT] using region_Minus_ok hx0 hx1 hy9⟩ hx1), o1 [(8, some 2)] rfl fun _ _ h n => ok_ext2_0 rfl n.1, o1 [(8, some 2)] rfl fun _ _ h n => ok_ext2_1 rfl n.1, cp 3 rfl rfl, cp 4 rfl rfl, trivial⟩ W1 fun b q p => ?_
  exact tail_done (k := q) (w1 _ _ ⟨Bs.post ⟨hg, hs, hd⟩ p, p.ou 5 4 rfl, p.ou 6 5 rfl, trivial⟩)
 rintro a k ⟨⟨hg, hs, hd⟩, i4, i5, _⟩
 refine wp_ret ?_
 obtain rfl := Option.some.inj hr
 exact retC2 rfl hd hg i4 i5
noncomputable def k11 := mkO 11 [.list (.st 3), .list (.st 3)] [.list (.st 3), .int] (fun x => solid_Minus x.1 x.2) Tryz.call11 fun k0 vs x r h hr => by obtain ⟨v0, vs, rfl, i0, h⟩ := h.cons; obtain ⟨v1, rfl, i1⟩ := h.one; exact ret2F (T := tb) (solid_Minus_ok i0 i1 hr)
def law09_square (x0_ : Int) (y0_ : Int) (x1_ : Int) (y1_ : Int) : Option ((List Rect)) :=
 some ([(⟨x0_, y0_, x1_, y1_⟩ : Rect)])
noncomputable def k12 := mk 12 [.int, .int, .int, .int] [.list (.st 0)] (fun x => law09_square x.1 x.2.1 x.2.2.1 x.2.2.2) [] [] Tryz.f12 (.n) Tryz.func12 Tryz.call12 rfl rfl fun x => by kernel_rfl
def ref06_Same_L0 (a_ : (List Rect)) (b_ : (List Rect)) (s1 : Int) : Option (Flow (Int) (Bool)) :=
 if (decide (s1 < (a_.length : Int))) then
  (getI a_ s1).bind fun x1 =>
  (getI b_ s1).bind fun x2 =>
  if (!decide (x1 = x2)) then
   some (.ret false)
  else
   (addI s1 1).bind fun x3 =>
   some (.go x3)
 else
  some (.ex 0 s1)
def ref06_Same (a_ : (List Rect)) (b_ : (List Rect)) : Option (Bool) :=
 if ((a_.length : Int) != (b_.length : Int)) then
  some false
 else
  (iterL (ref06_Same_L0 a_ b_) (a_.length + b_.length + 1) 0).bind fun f1 => match f1 with
   | .go _ => none
   | .ex _ _ =>
    some true
   | .ret r1 => some r1
noncomputable def k43 := mk 43 [.list (.st 0), .list (.st 0)] [.bool] (fun x => ref06_Same x.1 x.2) [] [] Tryz.f43 (.s .n (.s .n (.s (.s .n (.l [] [(5, .v .int)] [(0, [5], [])] (fL [0, 1]) .n)) .n))) Tryz.func43 Tryz.call43 rfl rfl fun x => by kernel_rfl
theorem ref06_Same_ok {k0 : K} {v0 v1 : Value} {x0 : (List Rect)} {x1 : (List Rect)} {r : Bool} (i0 : IsV x0 v0 k0) (i1 : IsV x1 v1 k0) (hr : ref06_Same x0 x1 = some r) : Calls Tryz.prog 43 #[v0, v1] k0.w (Ret k0 (IsV r)) := (k43.ok.ok k0 [v0, v1] (x0, x1) r ⟨i0, i1⟩ hr)
def ref09_Same_L0 (a_ : (List Slab)) (b_ : (List Slab)) (s1 : Int) : Option (Flow (Int) (Bool)) :=
 if (decide (s1 < (a_.length : Int))) then
  (getI a_ s1).bind fun x1 =>
  (getI b_ s1).bind fun x2 =>
  (if (x1.Z0 != x2.Z0) then
   some true
  else
   (getI a_ s1).bind fun x3 =>
   (getI b_ s1).bind fun x4 =>
   some (x3.Z1 != x4.Z1)).bind fun x5 =>
  (if x5 then
   some true
  else
   (getI a_ s1).bind fun x6 =>
   (getI b_ s1).bind fun x7 =>
   (ref06_Same x6.Area x7.Area).bind fun x8 =>
   some (!x8)).bind fun x9 =>
  if x9 then
   some (.ret false)
  else
   (addI s1 1).bind fun x10 =>
   some (.go x10)
 else
  some (.ex 0 s1)
def ref09_Same (a_ : (List Slab)) (b_ : (List Slab)) : Option (Bool) :=
 if ((a_.length : Int) != (b_.length : Int)) then
  some false
 else
  (iterL (ref09_Same_L0 a_ b_) (a_.length + b_.length + 1) 0).bind fun f1 => match f1 with
   | .go _ => none
   | .ex _ _ =>
    some true
   | .ret r1 => some r1
noncomputable def k10 := mk 10 [.list (.st 3), .list (.st 3)] [.bool] (fun x => ref09_Same x.1 x.2) [k43] [] Tryz.f10 (.s .n (.s .n (.s (.s .n (.l [] [(5, .v .int)] [(0, [5], [])] (fL [0, 1]) .n)) .n))) Tryz.func10 Tryz.call10 rfl rfl fun x => by kernel_rfl
def slices_EqualFunc_Slab_Slab_Slab_L0 (s1_ : (List Slab)) (s2_ : (List Slab)) (eq_ : (Slab → Slab → Option (Bool))) (s1 : Int) : Option (Flow (Int) (Bool)) :=
 if (decide (s1 < (s1_.length : Int))) then
  (getI s1_ s1).bind fun x1 =>
  (getI s2_ s1).bind fun x2 =>
  (eq_ x1 x2).bind fun x3 =>
  if (!x3) then
   some (.ret false)
  else
   (addI s1 1).bind fun x4 =>
   some (.go x4)
 else
  some (.ex 0 s1)
def slices_EqualFunc_Slab_Slab_Slab (s1_ : (List Slab)) (s2_ : (List Slab)) (eq_ : (Slab → Slab → Option (Bool))) : Option (Bool) :=
 if ((s1_.length : Int) != (s2_.length : Int)) then
  some false
 else
  (iterL (slices_EqualFunc_Slab_Slab_Slab_L0 s1_ s2_ eq_) (s1_.length + 1) 0).bind fun f1 => match f1 with
   | .go _ => none
   | .ex _ _ =>
    some true
   | .ret r1 => some r1
theorem slices_EqualFunc_Slab_Slab_Slab_ok {k0 : K} {v0 v1 v2 : Value} {s1_ : (List Slab)} {s2_ : (List Slab)} {eq_ : (Slab → Slab → Option (Bool))} {r : Bool} (i0 : (IsV s1_) v0 k0) (i1 : (IsV s2_) v1 k0) (i2 : (IsFn2 Tryz.prog eq_) v2 k0) (hr : slices_EqualFunc_Slab_Slab_Slab s1_ s2_ eq_ = some r) :
  Calls Tryz.prog 46 #[v0, v1, v2] k0.w (Ret k0 (IsV r)) := by
 unfold slices_EqualFunc_Slab_Slab_Slab at hr
 refine Ret.ofC ?_
 refine enterK Tryz.func46 rfl Tryz.ntmps46 (show 3 ≤ 32 by decide) fun a k hk0 hs hd ha => ?_
 obtain ⟨e0, e1, e2, _⟩ := ha
 replace i0 : (IsV s1_) (a.get 0) k := by rw [e0, hk0]; exact i0
 replace i1 : (IsV s2_) (a.get 1) k := by rw [e1, hk0]; exact i1
 replace i2 : (IsFn2 Tryz.prog eq_) (a.get 2) k := by rw [e2, hk0]; exact i2
 have hQ : Gb.LetsOut (bodyPost Tryz.prog Tryz.f46 (RetC noF k0 (IsV r))) := letsOutC
 have hg : Chg noF k0 k := by rw [hk0]; exact Chg.refl _ k0
 refine stepL 1 (⟨some (IsV false), []⟩ :: []) rfl ⟨hg, hs, hd⟩ (by kernel_rfl) ⟨ob1 rfl fun _ _ h n => ok_assign rfl (isV_bool.2 rfl), trivial⟩ [⟨_, _⟩, ⟨_, _⟩, ⟨_, _⟩] (fun b q p => ⟨p.ke 0 rfl i0, p.ke 1 rfl i1, p.ke 2 rfl i2, trivial⟩) ?_
 rintro a k ⟨⟨hg, hs, hd⟩, i0, i1, i2, _⟩
 refine wp_seq ?_
 refine stepL 5 (_ :: _ :: _ :: _ :: ⟨some (IsV ((s1_.length : Int) != (s2_.length : Int))), [(11, some 1), (13, some 3)]⟩ :: []) rfl ⟨hg, hs, hd⟩ (by kernel_rfl) ⟨mu rfl i0, o1 [(10, some 0)] rfl fun _ _ h n => ok_len rfl rfl Tryz.underlying22 (IsV.rd n.1), mu rfl i1, o1 [(12, some 2)] rfl fun _ _ h n => ok_len rfl rfl Tryz.underlying22 (IsV.rd n.1), ob1 rfl fun _ _ h n => ok_neI rfl n.1 n.2.1, trivial⟩ [⟨_, _⟩, ⟨_, _⟩, ⟨_, _⟩, ⟨_, _⟩] (fun b q p => ⟨p.ke 0 rfl i0, p.ke 1 rfl i1, p.ke 2 rfl i2, p.ou 4 14 rfl, trivial⟩) ?_
 rintro a k ⟨⟨hg, hs, hd⟩, i0, i1, i2, i14, _⟩
 refine wp_cond_split (isBool i14) (fun hc1336 => ?_) (fun hc1336 => ?_)
 ·rw [if_pos hc1336] at hr
  refine stepL 1 (⟨some (IsV false), []⟩ :: []) rfl ⟨hg, hs, hd⟩ (by kernel_rfl) ⟨ob1 rfl fun _ _ h n => ok_assign rfl (isV_bool.2 rfl), trivial⟩ [⟨_, _⟩] (fun b q p => ⟨p.ou 0 6 rfl, trivial⟩) ?_
  rintro a k ⟨⟨hg, hs, hd⟩, i6, _⟩
  refine wp_ret ?_
  obtain rfl := Option.some.inj hr
  exact retC1 rfl hd hg i6
 rw [if_neg (by rw [hc1336]; decide)] at hr
 refine wp_skip ?_
 refine wp_seq ?_
 refine stepL 3 (_ :: _ :: ⟨some (IsI 0), []⟩ :: []) rfl ⟨hg, hs, hd⟩ (by kernel_rfl) ⟨mu rfl i0, o1 [(15, some 0)] rfl fun _ _ h n => ok_len rfl rfl Tryz.underlying22 (IsV.rd n.1), ob1 rfl fun _ _ h n => ok_move rfl (cI rfl), trivial⟩ [⟨_, _⟩, ⟨_, _⟩, ⟨_, _⟩, ⟨_, _⟩, ⟨_, _⟩] (fun b q p => ⟨p.ke 1 rfl i1, p.ke 2 rfl i2, p.ou 0 15 rfl, p.ou 1 16 rfl, p.ou 2 17 rfl, trivial⟩) ?_
 rintro a k ⟨⟨hg, hs, hd⟩, i1, i2, i15, i16, i17, _⟩
 refine wp_block ?_
 obtain ⟨f1, hf1, hr⟩ := bind_some hr
 refine cutFe f1 (fun s' c l => Bs noF k0 32 c l ∧ IsV s2_ (c.get 1) l ∧ IsFn2 Tryz.prog eq_ (c.get 2) l ∧ IsV s1_ (c.get 15) l ∧ IsL s1_ (c.get 16) l ∧ IsV s' (c.get 17) l ∧ True) (fun i' s' c l => (i' = 0 ∧ Bs noF k0 32 c l ∧ True)) (fun r' c l => bodyPost Tryz.prog Tryz.f46 (RetC noF k0 (IsV r')) .ret c l.w) ?_ hQ ?_ ?_ ?_
 ·intro Q1 W1 hgo hex hret
  refine sim_loop ?_ _ _ _ _ _ hf1 ⟨⟨hg, hs, hd⟩, i1, i2, i15, i16, i17, trivial⟩ Q1 W1 hgo hex hret
  clear hr hf1 hgo hex hret W1 hQ hg hs hd i1 i15 i16 i17 i2
  intro s1 fl_ a k hr hS Q hQ hgo1304 hex1305 hret1306
  obtain ⟨⟨hg, hs, hd⟩, i1, i2, i15, i16, i17, _⟩ := hS
  unfold slices_EqualFunc_Slab_Slab_Slab_L0 at hr
  refine stepL 1 (_ :: []) rfl ⟨hg, hs, hd⟩ (by kernel_rfl) ⟨o1 [(17, none), (16, none)] rfl fun _ _ h n => ok_lss rfl (up i17 h n.1) (up i16 h n.2.1), trivial⟩ [⟨_, _⟩, ⟨_, _⟩, ⟨_, _⟩, ⟨_, _⟩, ⟨_, _⟩, ⟨_, _⟩] (fun b q p => ⟨p.ke 1 rfl i1, p.ke 2 rfl i2, p.ke 15 rfl i15, p.ke 16 rfl i16, p.ke 17 rfl i17, p.ou 0 18 rfl, trivial⟩) ?_
  rintro a k ⟨⟨hg, hs, hd⟩, i1, i2, i15, i16, i17, i18, _⟩
  refine wp_seq ?_
  refine wp_cond_split (isBool i18) (fun hc1324 => ?_) (fun hc1324 => ?_)
  ·rw [if_pos hc1324] at hr
   refine wp_skip ?_
   refine wp_seq ?_
   refine wp_block ?_
   refine wp_seq ?_
   obtain ⟨x1, hx1, hr⟩ := bind_some hr
   refine cut (fun a' k' => Bs noF k0 32 a' k' ∧ (IsV s2_) (a'.get 1) k' ∧ (IsFn2 Tryz.prog eq_) (a'.get 2) k' ∧ (IsV s1) (a'.get 7) k' ∧ (IsRef x1) (a'.get 8) k' ∧ (IsV s1_) (a'.get 15) k' ∧ (IsL s1_) (a'.get 16) k' ∧ (IsV s1) (a'.get 17) k' ∧ True) ?_ hQ ?_
   ·intro Q2 W2 w1
    refine gS 5 (_ :: _ :: _ :: ⟨some (IsBox k.w.heap.size (⟨0, 0, []⟩ : Slab)), []⟩ :: _ :: []) hs (by kernel_rfl) ⟨mu rfl i17, o1 [(15, none), (17, none)] rfl fun _ _ h n => ok_indexAddr rfl Tryz.underlying22 ty40 (IsV.rd (up i15 h n.1)) (up i17 h n.2.1) hx1, o1 [(20, some 1)] rfl fun _ _ h n => ok_load rfl ty40 n.1, ob1 rfl fun _ _ h n => ok_alloc _ h.size rfl z40, cp 0 rfl rfl, trivial⟩ W2 fun b q p => ?_
    have hgq := hg.then p.grow
    have hsb := p.size.trans hs
    have hdb := p.defers.trans hd
    have j1 := p.ke 1 rfl i1
    have j2 := p.ke 2 rfl i2
    have j7 : (IsV s1) (b.get 7) q := p.ou 4 7 rfl
    obtain ⟨b8, j8, x8, z8⟩ : (IsBox k.w.heap.size (⟨0, 0, []⟩ : Slab)) (b.get 8) q := p.ou 3 8 rfl
    replace x8 : Lo k (Eq b8) := Lo.eq x8
    have y8 : Lo k0 (Eq b8) := x8.chg hg
    have j15 := p.ke 15 rfl i15
    have j16 := p.ke 16 rfl i16
    have j17 := p.ke 17 rfl i17
    have j21 : (IsV x1) (b.get 21) q := p.ou 2 21 rfl
    have hns := z8.nshF
    refine tail_storeB (i := 5) rfl rfl rfl rfl szf40 (Upd.self (α := Slab)) j8 z8 j21 fun q2 hch hz => ?_
    replace hgq := hgq.step hch y8.wr
    have hle := hch.le hns
    replace j1 := Pers.pers hle j1
    replace j2 := Pers.pers hle j2
    replace j7 := Pers.pers hle j7
    replace j15 := Pers.pers hle j15
    replace j16 := Pers.pers hle j16
    replace j17 := Pers.pers hle j17
    replace j21 := Pers.pers hle j21
    replace z8 := hz
    clear hns hle hch
    obtain ⟨q, hqq⟩ : ∃ q, q = q2 := ⟨q2, rfl⟩
    subst hqq
    obtain ⟨q2, hsh, jn⟩ := z8.give
    replace j1 := Pers.pers hsh.le j1
    replace j2 := Pers.pers hsh.le j2
    replace j7 := Pers.pers hsh.le j7
    replace j15 := Pers.pers hsh.le j15
    replace j16 := Pers.pers hsh.le j16
    replace j17 := Pers.pers hsh.le j17
    rw [← j8] at jn
    replace j8 := jn
    replace hgq := hgq.hand hsh y8.wr
    rw [← hsh.w]
    clear hsh
    obtain ⟨q, hqq⟩ : ∃ q, q = q2 := ⟨q2, rfl⟩
    subst hqq
    exact tail_done (k := q) (w1 _ _ ⟨⟨hgq, hsb, hdb⟩, j1, j2, j7, j8, j15, j16, j17, trivial⟩)
   rintro a k ⟨⟨hg, hs, hd⟩, i1, i2, i7, i8, i15, i16, i17, _⟩
   refine wp_seq ?_
   obtain ⟨x2, hx2, hr⟩ := bind_some hr
   refine cut (fun a' k' => Bs noF k0 32 a' k' ∧ (IsV s2_) (a'.get 1) k' ∧ (IsFn2 Tryz.prog eq_) (a'.get 2) k' ∧ (IsRef x1) (a'.get 8) k' ∧ (IsRef x2) (a'.get 9) k' ∧ (IsV s1_) (a'.get 15) k' ∧ (IsL s1_) (a'.get 16) k' ∧ (IsV s1) (a'.get 17) k' ∧ True) ?_ hQ ?_
   ·intro Q3 W3 w2
    refine gS 5 (_ :: _ :: _ :: _ :: ⟨some (IsBox k.w.heap.size (⟨0, 0, []⟩ : Slab)), []⟩ :: []) hs (by kernel_rfl) ⟨mu rfl i1, mu rfl i7, o1 [(22, some 0), (23, some 1)] rfl fun _ _ h n => ok_indexAddr rfl Tryz.underlying22 ty40 (IsV.rd n.1) n.2.1 hx2, o1 [(24, some 2)] rfl fun _ _ h n => ok_load rfl ty40 n.1, ob1 rfl fun _ _ h n => ok_alloc _ h.size rfl z40, trivial⟩ W3 fun b q p => ?_
    have hgq := hg.then p.grow
    have hsb := p.size.trans hs
    have hdb := p.defers.trans hd
    have j1 := p.ke 1 rfl i1
    have j2 := p.ke 2 rfl i2
    have j8 := p.ke 8 rfl i8
    obtain ⟨b9, j9, x9, z9⟩ : (IsBox k.w.heap.size (⟨0, 0, []⟩ : Slab)) (b.get 9) q := p.ou 4 9 rfl
    replace x9 : Lo k (Eq b9) := Lo.eq x9
    have y9 : Lo k0 (Eq b9) := x9.chg hg
    have j15 := p.ke 15 rfl i15
    have j16 := p.ke 16 rfl i16
    have j17 := p.ke 17 rfl i17
    have j25 : (IsV x2) (b.get 25) q := p.ou 3 25 rfl
    have hns := z9.nshF
    refine tail_storeB (i := 5) rfl rfl rfl rfl szf40 (Upd.self (α := Slab)) j9 z9 j25 fun q2 hch hz => ?_
    replace hgq := hgq.step hch y9.wr
    have hle := hch.le hns
    replace j1 := Pers.pers hle j1
    replace j2 := Pers.pers hle j2
    replace j8 := Pers.pers hle j8
    replace j15 := Pers.pers hle j15
    replace j16 := Pers.pers hle j16
    replace j17 := Pers.pers hle j17
    replace j25 := Pers.pers hle j25
    replace z9 := hz
    clear hns hle hch
    obtain ⟨q, hqq⟩ : ∃ q, q = q2 := ⟨q2, rfl⟩
    subst hqq
    obtain ⟨q2, hsh, jn⟩ := z9.give
    replace j1 := Pers.pers hsh.le j1
    replace j2 := Pers.pers hsh.le j2
    replace j8 := Pers.pers hsh.le j8
    replace j15 := Pers.pers hsh.le j15
    replace j16 := Pers.pers hsh.le j16
    replace j17 := Pers.pers hsh.le j17
    rw [← j9] at jn
    replace j9 := jn
    replace hgq := hgq.hand hsh y9.wr
    rw [← hsh.w]
    clear hsh
    obtain ⟨q, hqq⟩ : ∃ q, q = q2 := ⟨q2, rfl⟩
    subst hqq
    exact tail_done (k := q) (w2 _ _ ⟨⟨hgq, hsb, hdb⟩, j1, j2, j8, j9, j15, j16, j17, trivial⟩)
   rintro a k ⟨⟨hg, hs, hd⟩, i1, i2, i8, i9, i15, i16, i17, _⟩
   refine wp_seq ?_
   obtain ⟨x3, hx3, hr⟩ := bind_some hr
   refine cut (fun a' k' => Bs noF k0 32 a' k' ∧ (IsV s2_) (a'.get 1) k' ∧ (IsFn2 Tryz.prog eq_) (a'.get 2) k' ∧ (IsV s1_) (a'.get 15) k' ∧ (IsL s1_) (a'.get 16) k' ∧ (IsV s1) (a'.get 17) k' ∧ (IsV (!x3)) (a'.get 30) k' ∧ True) ?_ hQ ?_
   ·intro Q4 W4 w3
    refine gS 5 (_ :: _ :: _ :: ⟨some (IsV x3), [(26, some 0), (27, some 1), (28, some 2)]⟩ :: _ :: []) hs (by kernel_rfl) ⟨mu rfl i2, o1 [(8, none)] rfl fun _ _ h n => ok_load rfl ty40 ((up i8 h n.1)).ptr, o1 [(9, none)] rfl fun _ _ h n => ok_load rfl ty40 ((up i9 h n.1)).ptr, ob1 rfl fun _ _ h n => ok_callF2 rfl n.1 n.2.1 n.2.2.1 hx3, o1 [(29, some 3)] rfl fun _ _ h n => ok_not rfl n.1, trivial⟩ W4 fun b q p => ?_
    exact tail_done (k := q) (w3 _ _ ⟨Bs.post ⟨hg, hs, hd⟩ p, p.ke 1 rfl i1, p.ke 2 rfl i2, p.ke 15 rfl i15, p.ke 16 rfl i16, p.ke 17 rfl i17, p.ou 4 30 rfl, trivial⟩)
   rintro a k ⟨⟨hg, hs, hd⟩, i1, i2, i15, i16, i17, i30, _⟩
   refine wp_cond_split (isBool i30) (fun hc1317 => ?_) (fun hc1317 => ?_)
   ·rw [if_pos hc1317] at hr
    refine stepL 1 (⟨some (IsV false), []⟩ :: []) rfl ⟨hg, hs, hd⟩ (by kernel_rfl) ⟨ob1 rfl fun _ _ h n => ok_assign rfl (isV_bool.2 rfl), trivial⟩ [⟨_, _⟩] (fun b q p => ⟨p.ou 0 6 rfl, trivial⟩) ?_
    rintro a k ⟨⟨hg, hs, hd⟩, i6, _⟩
    refine wp_ret ?_
    exact hret1306 _ _ _ (Option.some.inj hr).symm (retC1 rfl hd hg i6)
   rw [if_neg (by rw [hc1317]; decide)] at hr
   refine wp_skip ?_
   obtain ⟨x4, hx4, hr⟩ := bind_some hr
   refine cut (fun a' k' => Bs noF k0 32 a' k' ∧ (IsV s2_) (a'.get 1) k' ∧ (IsFn2 Tryz.prog eq_) (a'.get 2) k' ∧ (IsV s1_) (a'.get 15) k' ∧ (IsL s1_) (a'.get 16) k' ∧ (IsV x4) (a'.get 17) k' ∧ True) ?_ hQ ?_
   ·intro Q5 W5 w4
    refine gS 2 (_ :: _ :: []) hs (by kernel_rfl) ⟨o1 [(17, none)] rfl fun _ _ h n => ok_add rfl (up i17 h n.1) (cI rfl) hx4, cm 0 rfl rfl, trivial⟩ W5 fun b q p => ?_
    exact tail_done (k := q) (w4 _ _ ⟨Bs.post ⟨hg, hs, hd⟩ p, p.ke 1 rfl i1, p.ke 2 rfl i2, p.ke 15 rfl i15, p.ke 16 rfl i16, p.ou 1 17 rfl, trivial⟩)
   rintro a k ⟨⟨hg, hs, hd⟩, i1, i2, i15, i16, i17, _⟩
   exact hgo1304 _ _ _ (Option.some.inj hr).symm ⟨⟨hg, hs, hd⟩, i1, i2, i15, i16, i17, trivial⟩
  rw [if_neg (by rw [hc1324]; decide)] at hr
  refine wp_exit ?_
  exact hex1305 _ _ _ _ (Option.some.inj hr).symm ⟨rfl, ⟨hg, hs, hd⟩, trivial⟩
 ·rintro r1 a k rfl hR
  dsimp only at hr
  obtain rfl := Option.some.inj hr
  exact hR
 ·rintro _ _ _ rfl _
  simp at hr
 clear hf1
 rintro _ s2 a k rfl ⟨rfl, ⟨hg, hs, hd⟩, _⟩
 dsimp only at hr
 refine stepL 1 (⟨some (IsV true), []⟩ :: []) rfl ⟨hg, hs, hd⟩ (by kernel_rfl) ⟨ob1 rfl fun _ _ h n => ok_assign rfl (isV_bool.2 rfl), trivial⟩ [⟨_, _⟩] (fun b q p => ⟨p.ou 0 6 rfl, trivial⟩) ?_
 rintro a k ⟨⟨hg, hs, hd⟩, i6, _⟩
 refine wp_ret ?_
 obtain rfl := Option.some.inj hr
 exact retC1 rfl hd hg i6
def solid_Same_1 (x_ : Slab) (y_ : Slab) : Option (Bool) :=
 (if ((x_.Z0 == y_.Z0) && (x_.Z1 == y_.Z1)) then
  (region_Same x_.Area y_.Area).bind fun x1 =>
  some x1
 else
  some false).bind fun x2 =>
 some x2
noncomputable def k47 := mk 47 [.st 3, .st 3] [.bool] (fun x => solid_Same_1 x.1 x.2) [k48] [] Tryz.f47 (.n) Tryz.func47 Tryz.call47 rfl rfl fun x => by kernel_rfl
theorem solid_Same_1_ok {k0 : K} {v0 v1 : Value} {x0 : Slab} {x1 : Slab} {r : Bool} (i0 : IsV x0 v0 k0) (i1 : IsV x1 v1 k0) (hr : solid_Same_1 x0 x1 = some r) : Calls Tryz.prog 47 #[v0, v1] k0.w (Ret k0 (IsV r)) := (k47.ok.ok k0 [v0, v1] (x0, x1) r ⟨i0, i1⟩ hr)
def solid_Same (a_ : (List Slab)) (b_ : (List Slab)) : Option (Bool) :=
 (slices_EqualFunc_Slab_Slab_Slab a_ b_ solid_Same_1).bind fun x1 =>
 some x1
theorem solid_Same_ok {k0 : K} {v0 v1 : Value} {a_ : (List Slab)} {b_ : (List Slab)} {r : Bool} (i0 : (IsV a_) v0 k0) (i1 : (IsV b_) v1 k0) (hr : solid_Same a_ b_ = some r) :
  Calls Tryz.prog 13 #[v0, v1] k0.w (Ret k0 (IsV r)) := by
 unfold solid_Same at hr
 refine Ret.ofC ?_
 refine enterK Tryz.func13 rfl Tryz.ntmps13 (show 2 ≤ 8 by decide) fun a k hk0 hs hd ha => ?_
 obtain ⟨e0, e1, _⟩ := ha
 replace i0 : (IsV a_) (a.get 0) k := by rw [e0, hk0]; exact i0
 replace i1 : (IsV b_) (a.get 1) k := by rw [e1, hk0]; exact i1
 have hQ : Gb.LetsOut (bodyPost Tryz.prog Tryz.f13 (RetC noF k0 (IsV r))) := letsOutC
 have hg : Chg noF k0 k := by rw [hk0]; exact Chg.refl _ k0
 refine stepL 1 (⟨some (IsV false), []⟩ :: []) rfl ⟨hg, hs, hd⟩ (by kernel_rfl) ⟨ob1 rfl fun _ _ h n => ok_assign rfl (isV_bool.2 rfl), trivial⟩ [⟨_, _⟩, ⟨_, _⟩] (fun b q p => ⟨p.ke 0 rfl i0, p.ke 1 rfl i1, trivial⟩) ?_
 rintro a k ⟨⟨hg, hs, hd⟩, i0, i1, _⟩
 refine wp_seq ?_
 obtain ⟨x1, hx1, hr⟩ := bind_some hr
 refine cut (fun a' k' => Bs noF k0 8 a' k' ∧ (IsV x1) (a'.get 4) k' ∧ True) ?_ hQ ?_
 ·intro Q1 W1 w1
  refine gS 4 (_ :: _ :: _ :: _ :: []) hs (by kernel_rfl) ⟨mu rfl i0, mu rfl i1, o1 [(5, some 0), (6, some 1)] rfl fun _ _ h n => ok_call rfl Tryz.call46 (slices_EqualFunc_Slab_Slab_Slab_ok n.1 n.2.1 ⟨47, _, _, rfl, Tryz.call47, fun k9 hk9 _ _ _ _ _ hx0 hx1 hy9 => by simpa [evalT] using solid_Same_1_ok hx0 hx1 hy9⟩ hx1), cp 2 rfl rfl, trivial⟩ W1 fun b q p => ?_
  exact tail_done (k := q) (w1 _ _ ⟨Bs.post ⟨hg, hs, hd⟩ p, p.ou 3 4 rfl, trivial⟩)
 rintro a k ⟨⟨hg, hs, hd⟩, i4, _⟩
 refine wp_ret ?_
 obtain rfl := Option.some.inj hr
 exact retC1 rfl hd hg i4
noncomputable def k13 := mkO 13 [.list (.st 3), .list (.st 3)] [.bool] (fun x => solid_Same x.1 x.2) Tryz.call13 fun k0 vs x r h hr => by obtain ⟨v0, vs, rfl, i0, h⟩ := h.cons; obtain ⟨v1, rfl, i1⟩ := h.one; exact solid_Same_ok i0 i1 hr
def solid_Boxes_L1 (x1 : Slab) (s1 : (List Box) × Int) : Option (Flow ((List Box) × Int) ((List Box))) :=
 if (decide (s1.2 < (x1.Area.length : Int))) then
  (getI x1.Area s1.2).bind fun x2 =>
  (appI s1.1 ([(⟨x2, x1.Z0, x1.Z1⟩ : Box)])).bind fun x3 =>
  (addI s1.2 1).bind fun x4 =>
  some (.go (x3, x4))
 else
  some (.ex 2 (s1.1, s1.2))
def solid_Boxes_L0 (s_ : (List Slab)) (s1 : (List Box) × Int) : Option (Flow ((List Box) × Int) ((List Box))) :=
 if (decide (s1.2 < (s_.length : Int))) then
  (getI s_ s1.2).bind fun x1 =>
  (iterL (solid_Boxes_L1 x1) (x1.Area.length + 1) (s1.1, 0)).bind fun f1 => match f1 with
   | .go _ => none
   | .ex _ s2 =>
    (addI s1.2 1).bind fun x2 =>
    some (.go (s2.1, x2))
   | .ret r1 => some (.ret r1)
 else
  some (.ex 0 (s1.1, s1.2))
def solid_Boxes (s_ : (List Slab)) : Option ((List Box)) :=
 (solid_Right s_).bind fun x1 =>
 if (!x1) then
  some ([] : List Box)
 else
  (iterL (solid_Boxes_L0 s_) (s_.length + 1) (([] : List Box), 0)).bind fun f1 => match f1 with
   | .go _ => none
   | .ex _ s1 =>
    some s1.1
   | .ret r1 => some r1
noncomputable def k17 := mk 17 [.list (.st 3)] [.list (.st 4)] (fun x => solid_Boxes x) [k19] [3, 24, 32] Tryz.f17 (.s .n (.s .n (.s .n (.s (.s .n (.l [] [(3, .o 35 (.st 4)), (13, .v .int)] [(0, [13], [])] (fI 12) (.s .n (.s .n (.s (.s .n (.s .n (.l [] [(3, .o 35 (.st 4)), (20, .v .int)] [(2, [20], [])] (fI 19) .n))) .n))))) (.s (.f [3] .n) .n))))) Tryz.func17 Tryz.call17 rfl rfl fun x => by kernel_rfl
def rect_checked (r_ : Rect) : Option (Rect × Bool) :=
 (rect_Right r_).bind fun x1 =>
 if x1 then
  some (r_, true)
 else
  some ((⟨0, 0, 0, 0⟩ : Rect), false)
noncomputable def k74 := mk 74 [.st 0] [.st 0, .bool] (fun x => rect_checked x) [k33] [2] Tryz.f74 (.n) Tryz.func74 Tryz.call74 rfl rfl fun x => by kernel_rfl
def rect_Area (r_ : Rect) : Option (Int) :=
 (rect_checked r_).bind fun x1 =>
 (subI x1.1.X1 x1.1.X0).bind fun x2 =>
 (subI x1.1.Y1 x1.1.Y0).bind fun x3 =>
 (mulI x2 x3).bind fun x4 =>
 some x4
noncomputable def k49 := mk 49 [.st 0] [.int] (fun x => rect_Area x) [k74] [1] Tryz.f49 (.n) Tryz.func49 Tryz.call49 rfl rfl fun x => by kernel_rfl
def solid_Volume_L0 (x1 : (List Box)) (s1 : Int × Int) : Option (Flow (Int × Int) (Int)) :=
 if (decide (s1.2 < (x1.length : Int))) then
  (getI x1 s1.2).bind fun x2 =>
  (subI x2.Z1 x2.Z0).bind fun x3 =>
  (rect_Area x2.Base).bind fun x4 =>
  (mulI x3 x4).bind fun x5 =>
  (addI s1.1 x5).bind fun x6 =>
  (addI s1.2 1).bind fun x7 =>
  some (.go (x6, x7))
 else
  some (.ex 0 (s1.1, s1.2))
def solid_Volume (s_ : (List Slab)) : Option (Int) :=
 (solid_Boxes s_).bind fun x1 =>
 (iterL (solid_Volume_L0 x1) (x1.length + 1) (0, 0)).bind fun f1 => match f1 with
  | .go _ => none
  | .ex _ s1 =>
   some s1.1
  | .ret r1 => some r1
noncomputable def k14 := mk 14 [.list (.st 3)] [.int] (fun x => solid_Volume x) [k17, k49] [] Tryz.f14 (.s .n (.s .n (.s (.s .n (.l [] [(3, .v .int), (9, .v .int)] [(0, [9], [])] (fI 8) .n)) .n))) Tryz.func14 Tryz.call14 rfl rfl fun x => by kernel_rfl
def rect_Has (r_ : Rect) (x_ : Int) (y_ : Int) : Option (Bool) :=
 (rect_checked r_).bind fun x1 =>
 some ((((decide (x1.1.X0 ≤ x_)) && (decide (x_ < x1.1.X1))) && (decide (x1.1.Y0 ≤ y_))) && (decide (y_ < x1.1.Y1)))
noncomputable def k77 := mk 77 [.st 0, .int, .int] [.bool] (fun x => rect_Has x.1 x.2.1 x.2.2) [k74] [3] Tryz.f77 (.n) Tryz.func77 Tryz.call77 rfl rfl fun x => by kernel_rfl
theorem rect_Has_ok {k0 : K} {v0 v1 v2 : Value} {x0 : Rect} {x1 : Int} {x2 : Int} {r : Bool} (i0 : IsV x0 v0 k0) (i1 : IsV x1 v1 k0) (i2 : IsV x2 v2 k0) (hr : rect_Has x0 x1 x2 = some r) : Calls Tryz.prog 77 #[v0, v1, v2] k0.w (Ret k0 (IsV r)) := (k77.ok.ok k0 [v0, v1, v2] (x0, x1, x2) r ⟨i0, i1, i2⟩ hr)
def slices_IndexFunc_Rect_L0 (s_ : (List Rect)) (f_ : (Rect → Option (Bool))) (s1 : Int) : Option (Flow (Int) (Int)) :=
 if (decide (s1 < (s_.length : Int))) then
  (getI s_ s1).bind fun x1 =>
  (f_ x1).bind fun x2 =>
  if x2 then
   some (.ret s1)
  else
   (addI s1 1).bind fun x3 =>
   some (.go x3)
 else
  some (.ex 0 s1)
def slices_IndexFunc_Rect (s_ : (List Rect)) (f_ : (Rect → Option (Bool))) : Option (Int) :=
 (iterL (slices_IndexFunc_Rect_L0 s_ f_) (s_.length + 1) 0).bind fun f1 => match f1 with
  | .go _ => none
  | .ex _ _ =>
   some (-1)
  | .ret r1 => some r1
theorem slices_IndexFunc_Rect_ok {k0 : K} {v0 v1 : Value} {s_ : (List Rect)} {f_ : (Rect → Option (Bool))} {r : Int} (i0 : (IsV s_) v0 k0) (i1 : (IsFn1 Tryz.prog f_) v1 k0) (hr : slices_IndexFunc_Rect s_ f_ = some r) :
  Calls Tryz.prog 89 #[v0, v1] k0.w (Ret k0 (IsV r)) := by
 unfold slices_IndexFunc_Rect at hr
 refine Ret.ofC ?_
 refine enterK Tryz.func89 rfl Tryz.ntmps89 (show 2 ≤ 19 by decide) fun a k hk0 hs hd ha => ?_
 obtain ⟨e0, e1, _⟩ := ha
 replace i0 : (IsV s_) (a.get 0) k := by rw [e0, hk0]; exact i0
 replace i1 : (IsFn1 Tryz.prog f_) (a.get 1) k := by rw [e1, hk0]; exact i1
 have hQ : Gb.LetsOut (bodyPost Tryz.prog Tryz.f89 (RetC noF k0 (IsV r))) := letsOutC
 have hg : Chg noF k0 k := by rw [hk0]; exact Chg.refl _ k0
 refine stepL 1 (⟨some (IsI 0), []⟩ :: []) rfl ⟨hg, hs, hd⟩ (by kernel_rfl) ⟨aI rfl rfl, trivial⟩ [⟨_, _⟩, ⟨_, _⟩] (fun b q p => ⟨p.ke 0 rfl i0, p.ke 1 rfl i1, trivial⟩) ?_
 rintro a k ⟨⟨hg, hs, hd⟩, i0, i1, _⟩
 refine wp_seq ?_
 refine stepL 3 (_ :: _ :: ⟨some (IsI 0), []⟩ :: []) rfl ⟨hg, hs, hd⟩ (by kernel_rfl) ⟨mu rfl i0, o1 [(6, some 0)] rfl fun _ _ h n => ok_len rfl rfl Tryz.underlying37 (IsV.rd n.1), ob1 rfl fun _ _ h n => ok_move rfl (cI rfl), trivial⟩ [⟨_, _⟩, ⟨_, _⟩, ⟨_, _⟩, ⟨_, _⟩] (fun b q p => ⟨p.ke 0 rfl i0, p.ke 1 rfl i1, p.ou 1 7 rfl, p.ou 2 8 rfl, trivial⟩) ?_
 rintro a k ⟨⟨hg, hs, hd⟩, i0, i1, i7, i8, _⟩
 refine wp_block ?_
 obtain ⟨f1, hf1, hr⟩ := bind_some hr
 refine cutFe f1 (fun s' c l => Bs noF k0 19 c l ∧ IsV s_ (c.get 0) l ∧ IsFn1 Tryz.prog f_ (c.get 1) l ∧ IsL s_ (c.get 7) l ∧ IsV s' (c.get 8) l ∧ True) (fun i' s' c l => (i' = 0 ∧ Bs noF k0 19 c l ∧ True)) (fun r' c l => bodyPost Tryz.prog Tryz.f89 (RetC noF k0 (IsV r')) .ret c l.w) ?_ hQ ?_ ?_ ?_
 ·intro Q1 W1 hgo hex hret
  refine sim_loop ?_ _ _ _ _ _ hf1 ⟨⟨hg, hs, hd⟩, i0, i1, i7, i8, trivial⟩ Q1 W1 hgo hex hret
  clear hr hf1 hgo hex hret W1 hQ hg hs hd i0 i1 i7 i8
  intro s1 fl_ a k hr hS Q hQ hgo1482 hex1483 hret1484
  obtain ⟨⟨hg, hs, hd⟩, i0, i1, i7, i8, _⟩ := hS
  unfold slices_IndexFunc_Rect_L0 at hr
  refine stepL 1 (_ :: []) rfl ⟨hg, hs, hd⟩ (by kernel_rfl) ⟨o1 [(8, none), (7, none)] rfl fun _ _ h n => ok_lss rfl (up i8 h n.1) (up i7 h n.2.1), trivial⟩ [⟨_, _⟩, ⟨_, _⟩, ⟨_, _⟩, ⟨_, _⟩, ⟨_, _⟩] (fun b q p => ⟨p.ke 0 rfl i0, p.ke 1 rfl i1, p.ke 7 rfl i7, p.ke 8 rfl i8, p.ou 0 9 rfl, trivial⟩) ?_
  rintro a k ⟨⟨hg, hs, hd⟩, i0, i1, i7, i8, i9, _⟩
  refine wp_seq ?_
  refine wp_cond_split (isBool i9) (fun hc1499 => ?_) (fun hc1499 => ?_)
  ·rw [if_pos hc1499] at hr
   refine wp_skip ?_
   refine wp_seq ?_
   refine wp_block ?_
   refine stepL 2 (_ :: _ :: []) rfl ⟨hg, hs, hd⟩ (by kernel_rfl) ⟨mu rfl i8, cp 0 rfl rfl, trivial⟩ [⟨_, _⟩, ⟨_, _⟩, ⟨_, _⟩, ⟨_, _⟩, ⟨_, _⟩] (fun b q p => ⟨p.ke 0 rfl i0, p.ke 1 rfl i1, p.ou 1 5 rfl, p.ke 7 rfl i7, p.ke 8 rfl i8, trivial⟩) ?_
   rintro a k ⟨⟨hg, hs, hd⟩, i0, i1, i5, i7, i8, _⟩
   refine wp_seq ?_
   obtain ⟨x1, hx1, hr⟩ := bind_some hr
   obtain ⟨x2, hx2, hr⟩ := bind_some hr
   refine cut (fun a' k' => Bs noF k0 19 a' k' ∧ (IsV s_) (a'.get 0) k' ∧ (IsFn1 Tryz.prog f_) (a'.get 1) k' ∧ (IsV s1) (a'.get 5) k' ∧ (IsL s_) (a'.get 7) k' ∧ (IsV s1) (a'.get 8) k' ∧ (IsV x2) (a'.get 16) k' ∧ True) ?_ hQ ?_
   ·intro Q2 W2 w1
    refine gS 6 (_ :: _ :: _ :: _ :: _ :: ⟨some (IsV x2), [(11, some 0), (15, some 4)]⟩ :: []) hs (by kernel_rfl) ⟨mu rfl i1, mu rfl i0, mu rfl i5, o1 [(12, some 1), (13, some 2)] rfl fun _ _ h n => ok_indexAddr rfl Tryz.underlying37 ty33 (IsV.rd n.1) n.2.1 hx1, o1 [(14, some 3)] rfl fun _ _ h n => ok_load rfl ty33 n.1, ob1 rfl fun _ _ h n => ok_callF1 rfl n.1 n.2.1 hx2, trivial⟩ W2 fun b q p => ?_
    exact tail_done (k := q) (w1 _ _ ⟨Bs.post ⟨hg, hs, hd⟩ p, p.ke 0 rfl i0, p.ke 1 rfl i1, p.ke 5 rfl i5, p.ke 7 rfl i7, p.ke 8 rfl i8, p.ou 5 16 rfl, trivial⟩)
   rintro a k ⟨⟨hg, hs, hd⟩, i0, i1, i5, i7, i8, i16, _⟩
   refine wp_cond_split (isBool i16) (fun hc1494 => ?_) (fun hc1494 => ?_)
   ·rw [if_pos hc1494] at hr
    refine stepL 2 (_ :: _ :: []) rfl ⟨hg, hs, hd⟩ (by kernel_rfl) ⟨mu rfl i5, cp 0 rfl rfl, trivial⟩ [⟨_, _⟩] (fun b q p => ⟨p.ou 1 4 rfl, trivial⟩) ?_
    rintro a k ⟨⟨hg, hs, hd⟩, i4, _⟩
    refine wp_ret ?_
    exact hret1484 _ _ _ (Option.some.inj hr).symm (retC1 rfl hd hg i4)
   rw [if_neg (by rw [hc1494]; decide)] at hr
   refine wp_skip ?_
   obtain ⟨x3, hx3, hr⟩ := bind_some hr
   refine cut (fun a' k' => Bs noF k0 19 a' k' ∧ (IsV s_) (a'.get 0) k' ∧ (IsFn1 Tryz.prog f_) (a'.get 1) k' ∧ (IsL s_) (a'.get 7) k' ∧ (IsV x3) (a'.get 8) k' ∧ True) ?_ hQ ?_
   ·intro Q3 W3 w2
    refine gS 2 (_ :: _ :: []) hs (by kernel_rfl) ⟨o1 [(8, none)] rfl fun _ _ h n => ok_add rfl (up i8 h n.1) (cI rfl) hx3, cm 0 rfl rfl, trivial⟩ W3 fun b q p => ?_
    exact tail_done (k := q) (w2 _ _ ⟨Bs.post ⟨hg, hs, hd⟩ p, p.ke 0 rfl i0, p.ke 1 rfl i1, p.ke 7 rfl i7, p.ou 1 8 rfl, trivial⟩)
   rintro a k ⟨⟨hg, hs, hd⟩, i0, i1, i7, i8, _⟩
   exact hgo1482 _ _ _ (Option.some.inj hr).symm ⟨⟨hg, hs, hd⟩, i0, i1, i7, i8, trivial⟩
  rw [if_neg (by rw [hc1499]; decide)] at hr
  refine wp_exit ?_
  exact hex1483 _ _ _ _ (Option.some.inj hr).symm ⟨rfl, ⟨hg, hs, hd⟩, trivial⟩
 ·rintro r1 a k rfl hR
  dsimp only at hr
  obtain rfl := Option.some.inj hr
  exact hR
 ·rintro _ _ _ rfl _
  simp at hr
 clear hf1
 rintro _ s2 a k rfl ⟨rfl, ⟨hg, hs, hd⟩, _⟩
 dsimp only at hr
 refine stepL 1 (⟨some (IsI (-1)), []⟩ :: []) rfl ⟨hg, hs, hd⟩ (by kernel_rfl) ⟨aI rfl rfl, trivial⟩ [⟨_, _⟩] (fun b q p => ⟨p.ou 0 4 rfl, trivial⟩) ?_
 rintro a k ⟨⟨hg, hs, hd⟩, i4, _⟩
 refine wp_ret ?_
 obtain rfl := Option.some.inj hr
 exact retC1 rfl hd hg i4
def slices_ContainsFunc_Rect (s_ : (List Rect)) (f_ : (Rect → Option (Bool))) : Option (Bool) :=
 (slices_IndexFunc_Rect s_ f_).bind fun x1 =>
 some (decide (0 ≤ x1))
theorem slices_ContainsFunc_Rect_ok {k0 : K} {v0 v1 : Value} {s_ : (List Rect)} {f_ : (Rect → Option (Bool))} {r : Bool} (i0 : (IsV s_) v0 k0) (i1 : (IsFn1 Tryz.prog f_) v1 k0) (hr : slices_ContainsFunc_Rect s_ f_ = some r) :
  Calls Tryz.prog 75 #[v0, v1] k0.w (Ret k0 (IsV r)) := by
 unfold slices_ContainsFunc_Rect at hr
 refine Ret.ofC ?_
 refine enterK Tryz.func75 rfl Tryz.ntmps75 (show 2 ≤ 9 by decide) fun a k hk0 hs hd ha => ?_
 obtain ⟨e0, e1, _⟩ := ha
 replace i0 : (IsV s_) (a.get 0) k := by rw [e0, hk0]; exact i0
 replace i1 : (IsFn1 Tryz.prog f_) (a.get 1) k := by rw [e1, hk0]; exact i1
 have hQ : Gb.LetsOut (bodyPost Tryz.prog Tryz.f75 (RetC noF k0 (IsV r))) := letsOutC
 have hg : Chg noF k0 k := by rw [hk0]; exact Chg.refl _ k0
 refine stepL 1 (⟨some (IsV false), []⟩ :: []) rfl ⟨hg, hs, hd⟩ (by kernel_rfl) ⟨ob1 rfl fun _ _ h n => ok_assign rfl (isV_bool.2 rfl), trivial⟩ [⟨_, _⟩, ⟨_, _⟩] (fun b q p => ⟨p.ke 0 rfl i0, p.ke 1 rfl i1, trivial⟩) ?_
 rintro a k ⟨⟨hg, hs, hd⟩, i0, i1, _⟩
 refine wp_seq ?_
 obtain ⟨x1, hx1, hr⟩ := bind_some hr
 refine cut (fun a' k' => Bs noF k0 9 a' k' ∧ (IsV (decide (0 ≤ x1))) (a'.get 4) k' ∧ True) ?_ hQ ?_
 ·intro Q1 W1 w1
  refine gS 5 (_ :: _ :: _ :: _ :: _ :: []) hs (by kernel_rfl) ⟨mu rfl i0, mu rfl i1, o1 [(5, some 0), (6, some 1)] rfl fun _ _ h n => ok_call rfl Tryz.call89 (slices_IndexFunc_Rect_ok n.1 n.2.1 hx1), o1 [(7, some 2)] rfl fun _ _ h n => ok_geq rfl n.1 (cI rfl), cp 3 rfl rfl, trivial⟩ W1 fun b q p => ?_
  exact tail_done (k := q) (w1 _ _ ⟨Bs.post ⟨hg, hs, hd⟩ p, p.ou 4 4 rfl, trivial⟩)
 rintro a k ⟨⟨hg, hs, hd⟩, i4, _⟩
 refine wp_ret ?_
 obtain rfl := Option.some.inj hr
 exact retC1 rfl hd hg i4
def region_Has_1 (r_ : Rect) (p1_ : Int) (p2_ : Int) : Option (Bool) :=
 (rect_Has r_ p1_ p2_).bind fun x1 =>
 some x1
theorem region_Has_1_ok {k0 : K} {v0 v1 v2 : Value} {r_ : Rect} {p1_ : Int} {p2_ : Int} {r : Bool} (i0 : (IsV r_) v0 k0) (i1 : (IsRef p1_) v1 k0) (i2 : (IsRef p2_) v2 k0) (hr : region_Has_1 r_ p1_ p2_ = some r) :
  Calls Tryz.prog 76 #[v0, v1, v2] k0.w (Ret k0 (IsV r)) := by
 unfold region_Has_1 at hr
 refine Ret.ofC ?_
 refine enterK Tryz.func76 rfl Tryz.ntmps76 (show 3 ≤ 9 by decide) fun a k hk0 hs hd ha => ?_
 obtain ⟨e0, e1, e2, _⟩ := ha
 replace i0 : (IsV r_) (a.get 0) k := by rw [e0, hk0]; exact i0
 replace i1 : (IsRef p1_) (a.get 1) k := by rw [e1, hk0]; exact i1
 replace i2 : (IsRef p2_) (a.get 2) k := by rw [e2, hk0]; exact i2
 have hQ : Gb.LetsOut (bodyPost Tryz.prog Tryz.f76 (RetC noF k0 (IsV r))) := letsOutC
 have hg : Chg noF k0 k := by rw [hk0]; exact Chg.refl _ k0
 refine stepL 2 (⟨some (IsRef r_), [(0, none)]⟩ :: ⟨some (IsV false), []⟩ :: []) rfl ⟨hg, hs, hd⟩ (by kernel_rfl) ⟨ob1 rfl fun _ _ h n => ok_boxR rfl (up i0 h n.1), ob1 rfl fun _ _ h n => ok_assign rfl (isV_bool.2 rfl), trivial⟩ [⟨_, _⟩, ⟨_, _⟩, ⟨_, _⟩] (fun b q p => ⟨p.ke 1 rfl i1, p.ke 2 rfl i2, p.ou 0 3 rfl, trivial⟩) ?_
 rintro a k ⟨⟨hg, hs, hd⟩, i1, i2, i3, _⟩
 refine wp_seq ?_
 obtain ⟨x1, hx1, hr⟩ := bind_some hr
 refine cut (fun a' k' => Bs noF k0 9 a' k' ∧ (IsV x1) (a'.get 4) k' ∧ True) ?_ hQ ?_
 ·intro Q1 W1 w1
  refine gS 5 (_ :: _ :: _ :: _ :: _ :: []) hs (by kernel_rfl) ⟨o1 [(3, none)] rfl fun _ _ h n => ok_load rfl ty33 ((up i3 h n.1)).ptr, o1 [(1, none)] rfl fun _ _ h n => ok_load rfl ty3 ((up i1 h n.1)).ptr, o1 [(2, none)] rfl fun _ _ h n => ok_load rfl ty3 ((up i2 h n.1)).ptr, o1 [(5, some 0), (6, some 1), (7, some 2)] rfl fun _ _ h n => ok_call rfl Tryz.call77 (rect_Has_ok n.1 n.2.1 n.2.2.1 hx1), cp 3 rfl rfl, trivial⟩ W1 fun b q p => ?_
  exact tail_done (k := q) (w1 _ _ ⟨Bs.post ⟨hg, hs, hd⟩ p, p.ou 4 4 rfl, trivial⟩)
 rintro a k ⟨⟨hg, hs, hd⟩, i4, _⟩
 refine wp_ret ?_
 obtain rfl := Option.some.inj hr
 exact retC1 rfl hd hg i4
def region_Has (a_ : (List Rect)) (x_ : Int) (y_ : Int) : Option (Bool) :=
 (slices_ContainsFunc_Rect a_ (fun y0 => region_Has_1 y0 x_ y_)).bind fun x1 =>
 (if x1 then
  (region_Right a_).bind fun x2 =>
  some x2
 else
  some false).bind fun x3 =>
 some x3
theorem region_Has_ok {k0 : K} {v0 v1 v2 : Value} {a_ : (List Rect)} {x_ : Int} {y_ : Int} {r : Bool} (i0 : (IsV a_) v0 k0) (i1 : (IsV x_) v1 k0) (i2 : (IsV y_) v2 k0) (hr : region_Has a_ x_ y_ = some r) :
  Calls Tryz.prog 50 #[v0, v1, v2] k0.w (Ret k0 (IsV r)) := by
 unfold region_Has at hr
 refine Ret.ofC ?_
 refine enterK Tryz.func50 rfl Tryz.ntmps50 (show 3 ≤ 14 by decide) fun a k hk0 hs hd ha => ?_
 obtain ⟨e0, e1, e2, _⟩ := ha
 replace i0 : (IsV a_) (a.get 0) k := by rw [e0, hk0]; exact i0
 replace i1 : (IsV x_) (a.get 1) k := by rw [e1, hk0]; exact i1
 replace i2 : (IsV y_) (a.get 2) k := by rw [e2, hk0]; exact i2
 have hQ : Gb.LetsOut (bodyPost Tryz.prog Tryz.f50 (RetC noF k0 (IsV r))) := letsOutC
 have hg : Chg noF k0 k := by rw [hk0]; exact Chg.refl _ k0
 refine stepL 3 (⟨some (IsRef x_), [(1, none)]⟩ :: ⟨some (IsRef y_), [(2, none)]⟩ :: ⟨some (IsV false), []⟩ :: []) rfl ⟨hg, hs, hd⟩ (by kernel_rfl) ⟨ob1 rfl fun _ _ h n => ok_boxR rfl (up i1 h n.1), ob1 rfl fun _ _ h n => ok_boxR rfl (up i2 h n.1), ob1 rfl fun _ _ h n => ok_assign rfl (isV_bool.2 rfl), trivial⟩ [⟨_, _⟩, ⟨_, _⟩, ⟨_, _⟩] (fun b q p => ⟨p.ke 0 rfl i0, p.ou 0 4 rfl, p.ou 1 5 rfl, trivial⟩) ?_
 rintro a k ⟨⟨hg, hs, hd⟩, i0, i4, i5, _⟩
 refine wp_seq ?_
 obtain ⟨x1, hx1, hr⟩ := bind_some hr
 obtain ⟨x2, hx2, hr⟩ := bind_some hr
 obtain ⟨x3, hx3, hx2⟩ := ite_bind hx2
 refine cut (fun a' k' => Bs noF k0 14 a' k' ∧ (IsV x2) (a'.get 6) k' ∧ True) ?_ hQ ?_
 ·intro Q1 W1 w1
  refine gS 8 (_ :: ⟨some (IsFn1 Tryz.prog (fun y0 => region_Has_1 y0 x_ y_)), [(4, none), (5, none)]⟩ :: _ :: _ :: _ :: _ :: _ :: _ :: []) hs (by kernel_rfl) ⟨mu rfl i0, ob1 rfl fun _ _ h n => ok_makeFunc (first := []) (captured := [.tmp 4, .tmp 5]) rfl ⟨76, _, _, rfl, Tryz.call76, fun k9 hk9 _ _ _ hx0 hy9 => by simpa [evalT] using region_Has_1_ok hx0 (Pers.pers hk9 (up i4 h n.1)) (Pers.pers hk9 (up i5 h n.2.1)) hy9⟩, o1 [(7, some 0), (8, some 1)] rfl fun _ _ h n => ok_call rfl Tryz.call75 (slices_ContainsFunc_Rect_ok n.1 n.2.1 hx1), cm 2 rfl rfl, mT rfl rfl i0, gT [(11, some 4)] rfl rfl fun hp _ _ h n => ok_call rfl Tryz.call53 (region_Right_ok (Gd.get n.1 hp) (hx3 hp)), o1 [(10, some 3), (12, some 5)] rfl fun _ _ h n => ok_pickM rfl n.1 hx2 (Gd.get n.2.1) (cB rfl), cp 6 rfl rfl, trivial⟩ W1 fun b q p => ?_
  exact tail_done (k := q) (w1 _ _ ⟨Bs.post ⟨hg, hs, hd⟩ p, p.ou 7 6 rfl, trivial⟩)
 rintro a k ⟨⟨hg, hs, hd⟩, i6, _⟩
 refine wp_ret ?_
 obtain rfl := Option.some.inj hr
 exact retC1 rfl hd hg i6
noncomputable def k50 := mkO 50 [.list (.st 0), .int, .int] [.bool] (fun x => region_Has x.1 x.2.1 x.2.2) Tryz.call50 fun k0 vs x r h hr => by obtain ⟨v0, vs, rfl, i0, h⟩ := h.cons; obtain ⟨v1, vs, rfl, i1, h⟩ := h.cons; obtain ⟨v2, rfl, i2⟩ := h.one; exact region_Has_ok i0 i1 i2 hr
def solid_Top_L0 (s_ : (List Slab)) (x_ : Int) (y_ : Int) (s1 : Int) : Option (Flow (Int) (Int)) :=
 if (decide (0 ≤ s1)) then
  (getI s_ s1).bind fun x1 =>
  (region_Has x1.Area x_ y_).bind fun x2 =>
  if x2 then
   (getI s_ s1).bind fun x3 =>
   some (.ret x3.Z1)
  else
   (subI s1 1).bind fun x4 =>
   some (.go x4)
 else
  some (.ex 0 s1)
def solid_Top (s_ : (List Slab)) (x_ : Int) (y_ : Int) : Option (Int) :=
 (solid_Right s_).bind fun x1 =>
 if (!x1) then
  some 0
 else
  (subI (s_.length : Int) 1).bind fun x2 =>
  (iterL (solid_Top_L0 s_ x_ y_) (s_.length + 1) x2).bind fun f1 => match f1 with
   | .go _ => none
   | .ex _ _ =>
    some 0
   | .ret r1 => some r1
noncomputable def k15 := mk 15 [.list (.st 3), .int, .int] [.int] (fun x => solid_Top x.1 x.2.1 x.2.2) [k19, k50] [] Tryz.f15 (.s .n (.s .n (.s (.s .n (.l [] [(7, .v .int)] [(0, [7], [])] (fL [0]) .n)) .n))) Tryz.func15 Tryz.call15 rfl rfl fun x => by kernel_rfl
def slices_Clone_Rect (s_ : (List Rect)) : Option ((List Rect)) :=
 (appI [] s_).bind fun x1 =>
 some x1
theorem slices_Clone_Rect_ok {k0 : K} {v0 : Value} {s_ : (List Rect)} {r : (List Rect)} (i0 : (IsV s_) v0 k0) (hr : slices_Clone_Rect s_ = some r) :
  Calls Tryz.prog 51 #[v0] k0.w (Ret k0 (IsV r)) := by
 unfold slices_Clone_Rect at hr
 refine Ret.ofC ?_
 refine enterK Tryz.func51 rfl Tryz.ntmps51 (show 1 ≤ 8 by decide) fun a k hk0 hs hd ha => ?_
 obtain ⟨e0, _⟩ := ha
 replace i0 : (IsV s_) (a.get 0) k := by rw [e0, hk0]; exact i0
 have hQ : Gb.LetsOut (bodyPost Tryz.prog Tryz.f51 (RetC noF k0 (IsV r))) := letsOutC
 have hg : Chg noF k0 k := by rw [hk0]; exact Chg.refl _ k0
 refine stepL 1 (⟨some IsE0, []⟩ :: []) rfl ⟨hg, hs, hd⟩ (by kernel_rfl) ⟨ob1 rfl fun b q h n => ok_assign rfl isE0_nil, trivial⟩ [⟨_, _⟩] (fun b q p => ⟨p.ke 0 rfl i0, trivial⟩) ?_
 rintro a k ⟨⟨hg, hs, hd⟩, i0, _⟩
 refine wp_seq ?_
 refine stepL 2 (_ :: ⟨some (IsNT s_), [(3, some 0)]⟩ :: []) rfl ⟨hg, hs, hd⟩ (by kernel_rfl) ⟨mu rfl i0, ob1 rfl fun _ _ h n => ok_eqNil rfl Tryz.underlying37 (IsV.rd n.1), trivial⟩ [⟨_, _⟩, ⟨_, _⟩] (fun b q p => ⟨p.ke 0 rfl i0, p.ou 1 4 rfl, trivial⟩) ?_
 rintro a k ⟨⟨hg, hs, hd⟩, i0, i4, _⟩
 obtain ⟨bb, hbb, hnil⟩ := i4
 refine wp_cond_split hbb (fun hc1577 => ?_) (fun hc1577 => ?_)
 ·replace hr : some ([] : List Rect) = some r := by rw [hnil hc1577] at hr; simpa [appI] using hr
  refine cutL noF k0 8 [⟨2, IsV ([] : List Rect)⟩] ?_ ?_
  ·intro Q1 W1 w1
   refine gS 1 (⟨some IsE0, []⟩ :: []) hs (by kernel_rfl) ⟨ob1 rfl fun b q h n => ok_assign rfl isE0_nil, trivial⟩ W1 fun b q p => ?_
   have hgq := hg.then p.grow
   have hsb := p.size.trans hs
   have hdb := p.defers.trans hd
   have j2 : IsE0 (b.get 2) q := p.ou 0 2 rfl
   replace j2 : IsV ([] : List Rect) (b.get 2) q := j2.isV
   exact tail_done (k := q) (w1 _ _ ⟨⟨hgq, hsb, hdb⟩, j2, trivial⟩)
  rintro a k ⟨⟨hg, hs, hd⟩, i2, _⟩
  refine wp_ret ?_
  obtain rfl := Option.some.inj hr
  exact retC1 rfl hd hg i2
 ·skip
  refine wp_skip ?_
  refine wp_seq ?_
  obtain ⟨x1, hx1, hr⟩ := bind_some hr
  refine cut (fun a' k' => Bs noF k0 8 a' k' ∧ (IsV x1) (a'.get 2) k' ∧ True) ?_ hQ ?_
  ·intro Q2 W2 w2
   refine gS 4 (⟨some IsE0, []⟩ :: _ :: ⟨some (IsV x1), [(5, some 0), (6, some 1)]⟩ :: _ :: []) hs (by kernel_rfl) ⟨ob1 rfl fun b q h n => ok_buildSlice0 rfl Tryz.underlying37 eo33, mu rfl i0, ob1 rfl fun _ _ h n => ok_append0V rfl Tryz.underlying37 eo33 n.1 (IsV.rd n.2.1) hx1, cp 2 rfl rfl, trivial⟩ W2 fun b q p => ?_
   exact tail_done (k := q) (w2 _ _ ⟨Bs.post ⟨hg, hs, hd⟩ p, p.ou 3 2 rfl, trivial⟩)
  rintro a k ⟨⟨hg, hs, hd⟩, i2, _⟩
  refine wp_ret ?_
  obtain rfl := Option.some.inj hr
  exact retC1 rfl hd hg i2
noncomputable def k51 := mkO 51 [.list (.st 0)] [.list (.st 0)] (fun x => slices_Clone_Rect x) Tryz.call51 fun k0 vs x r h hr => by obtain ⟨v0, rfl, i0⟩ := h.one; exact slices_Clone_Rect_ok i0 hr
def solid_Section (s_ : (List Slab)) (z_ : Int) : Option ((List Rect)) :=
 (solid_Right s_).bind fun x1 =>
 if (!x1) then
  some ([] : List Rect)
 else
  (solid_at s_ z_).bind fun x2 =>
  (slices_Clone_Rect x2).bind fun x3 =>
  some x3
noncomputable def k16 := mk 16 [.list (.st 3), .int] [.list (.st 0)] (fun x => solid_Section x.1 x.2) [k19, k52, k51] [] Tryz.f16 (.n) Tryz.func16 Tryz.call16 rfl rfl fun x => by kernel_rfl
def solid_Has (s_ : (List Slab)) (x_ : Int) (y_ : Int) (z_ : Int) : Option (Bool) :=
 (solid_Section s_ z_).bind fun x1 =>
 (region_Has x1 x_ y_).bind fun x2 =>
 some x2
noncomputable def k18 := mk 18 [.list (.st 3), .int, .int, .int] [.bool] (fun x => solid_Has x.1 x.2.1 x.2.2.1 x.2.2.2) [k16, k50] [] Tryz.f18 (.n) Tryz.func18 Tryz.call18 rfl rfl fun x => by kernel_rfl
def law09_small  : Option (Bool) :=
 (solid_Of ([(⟨(⟨0, 0, 2, 2⟩ : Rect), 0, 3⟩ : Box), (⟨(⟨0, 0, 1, 2⟩ : Rect), 2, 5⟩ : Box)])).bind fun x1 =>
 (solid_Of ([(⟨(⟨0, 0, 2, 1⟩ : Rect), 1, 5⟩ : Box)])).bind fun x2 =>
 (solid_Minus x1.1 x2.1).bind fun x3 =>
 (law09_square 0 0 2 2).bind fun x4 =>
 (law09_square 0 0 1 2).bind fun x5 =>
 (law09_square 0 0 2 2).bind fun x6 =>
 (law09_square 0 1 2 2).bind fun x7 =>
 (law09_square 0 1 1 2).bind fun x8 =>
 (solid_Of ([(⟨(⟨0, 0, 2, 1⟩ : Rect), 1, 1⟩ : Box)])).bind fun x9 =>
 (if ((((x1.2 == 0) && (x2.2 == 0)) && (x3.2 == 0)) && (x9.2 == 1)) then
  (ref09_Same x1.1 ([(⟨0, 3, x4⟩ : Slab), (⟨3, 5, x5⟩ : Slab)])).bind fun x10 =>
  some x10
 else
  some false).bind fun x11 =>
 (if x11 then
  (ref09_Same x3.1 ([(⟨0, 1, x6⟩ : Slab), (⟨1, 3, x7⟩ : Slab), (⟨3, 5, x8⟩ : Slab)])).bind fun x12 =>
  some x12
 else
  some false).bind fun x13 =>
 (if x13 then
  (solid_Same x3.1 ([(⟨0, 1, x6⟩ : Slab), (⟨1, 3, x7⟩ : Slab), (⟨3, 5, x8⟩ : Slab)])).bind fun x14 =>
  some x14
 else
  some false).bind fun x15 =>
 (if x15 then
  (solid_Volume x1.1).bind fun x16 =>
  some (x16 == 16)
 else
  some false).bind fun x17 =>
 (solid_Top x1.1 0 1).bind fun x18 =>
 (if (x18 == 5) then
  (solid_Top x1.1 1 1).bind fun x19 =>
  some (x19 == 3)
 else
  some false).bind fun x20 =>
 (if x20 then
  (solid_Top x1.1 2 0).bind fun x21 =>
  some (x21 == 0)
 else
  some false).bind fun x22 =>
 (if x22 then
  (solid_Section x1.1 2).bind fun x23 =>
  some ((x23.length : Int) == 1)
 else
  some false).bind fun x24 =>
 (if x24 then
  (solid_Section x1.1 5).bind fun x25 =>
  some ((x25.length : Int) == 0)
 else
  some false).bind fun x26 =>
 (if x26 then
  (solid_Boxes x1.1).bind fun x27 =>
  some ((x27.length : Int) == 2)
 else
  some false).bind fun x28 =>
 (if (x17 && x28) then
  (solid_Has x1.1 0 0 4).bind fun x29 =>
  some x29
 else
  some false).bind fun x30 =>
 (if x30 then
  (solid_Has x1.1 1 0 4).bind fun x31 =>
  some (!x31)
 else
  some false).bind fun x32 =>
 (if x32 then
  (solid_Right ([] : List Slab)).bind fun x33 =>
  some x33
 else
  some false).bind fun x34 =>
 (if x34 then
  (solid_Right ([(⟨0, 1, []⟩ : Slab)])).bind fun x35 =>
  some (!x35)
 else
  some false).bind fun x36 =>
 some x36
noncomputable def k5 := mk 5 [] [.bool] (fun x => law09_small) [k8, k11, k12, k10, k13, k14, k15, k16, k17, k18, k19] [] Tryz.f5 (.n) Tryz.func5 Tryz.call5 rfl rfl fun x => by kernel_rfl
def ref06_RightRect (r_ : Rect) : Option (Bool) :=
 some ((((((decide (0 ≤ r_.X0)) && (decide (r_.X0 < r_.X1))) && (decide (r_.X1 ≤ 1048576))) && (decide (0 ≤ r_.Y0))) && (decide (r_.Y0 < r_.Y1))) && (decide (r_.Y1 ≤ 1048576)))
noncomputable def k66 := mk 66 [.st 0] [.bool] (fun x => ref06_RightRect x) [] [] Tryz.f66 (.n) Tryz.func66 Tryz.call66 rfl rfl fun x => by kernel_rfl
def ref09_RightBox (b_ : Box) : Option (Bool) :=
 (ref06_RightRect b_.Base).bind fun x1 =>
 some (((x1 && (decide (0 ≤ b_.Z0))) && (decide (b_.Z0 < b_.Z1))) && (decide (b_.Z1 ≤ 4096)))
noncomputable def k38 := mk 38 [.st 4] [.bool] (fun x => ref09_RightBox x) [k66] [] Tryz.f38 (.n) Tryz.func38 Tryz.call38 rfl rfl fun x => by kernel_rfl
theorem ref09_RightBox_ok {k0 : K} {v0 : Value} {x0 : Box} {r : Bool} (i0 : IsV x0 v0 k0) (hr : ref09_RightBox x0 = some r) : Calls Tryz.prog 38 #[v0] k0.w (Ret k0 (IsV r)) := (k38.ok.ok k0 [v0] x0 r i0 hr)
def ref09_insert_L0 (l_ : (List Int)) (n_ : Int) (s1 : Int) : Option (Flow (Int) ((List Int))) :=
 (if (decide (s1 < (l_.length : Int))) then
  (getI l_ s1).bind fun x1 =>
  some (decide (x1 < n_))
 else
  some false).bind fun x2 =>
 if x2 then
  (addI s1 1).bind fun x3 =>
  some (.go x3)
 else
  some (.ex 0 s1)
def ref09_insert (l_ : (List Int)) (n_ : Int) : Option ((List Int)) :=
 (iterL (ref09_insert_L0 l_ n_) (l_.length + 1) 0).bind fun f1 => match f1 with
  | .go _ => none
  | .ex _ s1 =>
   (if (decide (s1 < (l_.length : Int))) then
    (getI l_ s1).bind fun x1 =>
    some (x1 == n_)
   else
    some false).bind fun x2 =>
   if x2 then
    some l_
   else
    (sliceI l_ 0 s1).bind fun x3 =>
    (appI [] x3).bind fun x4 =>
    (appI x4 ([n_])).bind fun x5 =>
    (sliceI l_ s1 (l_.length : Int)).bind fun x6 =>
    (appI x5 x6).bind fun x7 =>
    some x7
  | .ret r1 => some r1
noncomputable def k39 := mk 39 [.list .int, .int] [.list .int] (fun x => ref09_insert x.1 x.2) [] [6, 34, 38, 39, 42, 43] Tryz.f39 (.s .n (.s .n (.s (.l [] [(5, .v .int)] [(0, [], [])] (fL [0]) .n) .n))) Tryz.func39 Tryz.call39 rfl rfl fun x => by kernel_rfl
theorem ref09_insert_ok {k0 : K} {v0 v1 : Value} {x0 : (List Int)} {x1 : Int} {r : (List Int)} (i0 : IsV x0 v0 k0) (i1 : IsV x1 v1 k0) (hr : ref09_insert x0 x1 = some r) : Calls Tryz.prog 39 #[v0, v1] k0.w (Ret k0 (IsV r)) := (k39.ok.ok k0 [v0, v1] (x0, x1) r ⟨i0, i1⟩ hr)
def ref06_sorted_L1 (l_ : (List Int)) (s1 : (List Int) × Int) (s2 : Int) : Option (Flow (Int) ((List Int))) :=
 (if (decide (0 < s2)) then
  (subI s2 1).bind fun x1 =>
  (getI s1.1 x1).bind fun x2 =>
  (getI l_ s1.2).bind fun x3 =>
  some (decide (x3 < x2))
 else
  some false).bind fun x4 =>
 if x4 then
  (subI s2 1).bind fun x5 =>
  some (.go x5)
 else
  some (.ex 2 s2)
def ref06_sorted_L2 (s1 : Int) (s2 : (List Int) × Int) : Option (Flow ((List Int) × Int) ((List Int))) :=
 if (decide (s1 < s2.2)) then
  (subI s2.2 1).bind fun x1 =>
  (getI s2.1 x1).bind fun x2 =>
  (getI s2.1 s2.2).bind fun x3 =>
  (some (s2.1.set (s2.2).toNat x2)).bind fun x4 =>
  (subI s2.2 1).bind fun x5 =>
  some (.go (x4, x5))
 else
  some (.ex 4 (s2.1, s2.2))
def ref06_sorted_L0 (l_ : (List Int)) (s1 : (List Int) × Int) : Option (Flow ((List Int) × Int) ((List Int))) :=
 if (decide (s1.2 < (l_.length : Int))) then
  ((iterL (ref06_sorted_L1 l_ s1) (l_.length + s1.1.length + 1) (s1.1.length : Int)).bind fun f1 => match f1 with
   | .go _ => none
   | .ex _ s2 =>
    (if (decide (0 < s2)) then
     (subI s2 1).bind fun x1 =>
     (getI s1.1 x1).bind fun x2 =>
     (getI l_ s1.2).bind fun x3 =>
     some (x2 == x3)
    else
     some false).bind fun x4 =>
    if x4 then
     some s1.1
    else
     (appI s1.1 ([0])).bind fun x5 =>
     (subI (x5.length : Int) 1).bind fun x6 =>
     (iterL (ref06_sorted_L2 s2) (l_.length + x5.length + 1) (x5, x6)).bind fun f2 => match f2 with
      | .go _ => none
      | .ex _ s3 =>
       (getI l_ s1.2).bind fun x7 =>
       (getI s3.1 s2).bind fun x8 =>
       (some (s3.1.set (s2).toNat x7)).bind fun x9 =>
       some x9
      | .ret r1 => none
   | .ret r2 => none).bind fun s4 =>
  (addI s1.2 1).bind fun x10 =>
  some (.go (s4, x10))
 else
  some (.ex 0 (s1.1, s1.2))
def ref06_sorted (l_ : (List Int)) : Option ((List Int)) :=
 (iterL (ref06_sorted_L0 l_) (l_.length + ([] : List Int).length + 1) (([] : List Int), 0)).bind fun f1 => match f1 with
  | .go _ => none
  | .ex _ s1 =>
   some s1.1
  | .ret r1 => some r1
noncomputable def k86 := mk 86 [.list .int] [.list .int] (fun x => ref06_sorted x) [] [3, 45, 47] Tryz.f86 (.s .n (.s .n (.s (.s .n (.l [] [(3, .o 3 .int), (4, .v .int)] [(0, [4], [])] (fL [0, 3]) (.s .n (.s (.j [] [(3, .o 3 .int)] ([], []) (.s .n (.s (.l [] [(5, .v .int)] [(2, [], [])] (fL [0, 3]) .n) (.s .n (.s .n (.s (.s .n (.l [] [(3, .o 3 .int), (6, .v .int)] [(4, [6], [])] (fL [0, 3]) .n)) .n)))))) .n)))) (.s (.f [3] .n) .n)))) Tryz.func86 Tryz.call86 rfl rfl fun x => by kernel_rfl
def ref06_edges_L0 (a_ : (List Rect)) (s1 : (List Int) × Int) : Option (Flow ((List Int) × Int) ((List Int))) :=
 if (decide (s1.2 < (a_.length : Int))) then
  (getI a_ s1.2).bind fun x1 =>
  (getI a_ s1.2).bind fun x2 =>
  (appI s1.1 ([x1.X0, x2.X1])).bind fun x3 =>
  (addI s1.2 1).bind fun x4 =>
  some (.go (x3, x4))
 else
  some (.ex 0 (s1.1, s1.2))
def ref06_edges_L1 (b_ : (List Rect)) (s1 : (List Int) × Int) : Option (Flow ((List Int) × Int) ((List Int))) :=
 if (decide (s1.2 < (b_.length : Int))) then
  (getI b_ s1.2).bind fun x1 =>
  (getI b_ s1.2).bind fun x2 =>
  (appI s1.1 ([x1.X0, x2.X1])).bind fun x3 =>
  (addI s1.2 1).bind fun x4 =>
  some (.go (x3, x4))
 else
  some (.ex 2 (s1.1, s1.2))
def ref06_edges (a_ : (List Rect)) (b_ : (List Rect)) : Option ((List Int)) :=
 (iterL (ref06_edges_L0 a_) (a_.length + b_.length + ([] : List Int).length + 1) (([] : List Int), 0)).bind fun f1 => match f1 with
  | .go _ => none
  | .ex _ s1 =>
   (iterL (ref06_edges_L1 b_) (b_.length + s1.1.length + 1) (s1.1, 0)).bind fun f2 => match f2 with
    | .go _ => none
    | .ex _ s2 =>
     (ref06_sorted s2.1).bind fun x1 =>
     some x1
    | .ret r1 => some r1
  | .ret r2 => some r2
noncomputable def k67 := mk 67 [.list (.st 0), .list (.st 0)] [.list .int] (fun x => ref06_edges x.1 x.2) [k86] [5, 14, 26, 33, 45] Tryz.f67 (.s .n (.s .n (.s (.s .n (.l [] [(5, .o 3 .int), (6, .v .int)] [(0, [6], [])] (fL [0, 1, 5]) .n)) (.s (.s .n (.l [] [(5, .o 3 .int), (7, .v .int)] [(2, [7], [])] (fL [1, 5]) .n)) (.s (.f [5] .n) .n))))) Tryz.func67 Tryz.call67 rfl rfl fun x => by kernel_rfl
def ref06_column_L1 (l_ : (List Rect)) (s1 : (List Int) × (List Int) × Int) (s2 : (List Int) × (List Int) × Int) : Option (Flow ((List Int) × (List Int) × Int) ((List Int))) :=
 (if (decide (0 < s2.2.2)) then
  (subI s2.2.2 1).bind fun x1 =>
  (getI s2.1 x1).bind fun x2 =>
  (getI l_ s1.2.2).bind fun x3 =>
  some (decide (x3.Y0 < x2))
 else
  some false).bind fun x4 =>
 if x4 then
  (subI s2.2.2 1).bind fun x5 =>
  (getI s2.1 x5).bind fun x6 =>
  (getI s2.1 s2.2.2).bind fun x7 =>
  (some (s2.1.set (s2.2.2).toNat x6)).bind fun x8 =>
  (subI s2.2.2 1).bind fun x9 =>
  (getI s2.2.1 x9).bind fun x10 =>
  (getI s2.2.1 s2.2.2).bind fun x11 =>
  (some (s2.2.1.set (s2.2.2).toNat x10)).bind fun x12 =>
  (subI s2.2.2 1).bind fun x13 =>
  some (.go (x8, x12, x13))
 else
  some (.ex 2 (s2.1, s2.2.1, s2.2.2))
def ref06_column_L0 (l_ : (List Rect)) (x_ : Int) (s1 : (List Int) × (List Int) × Int) : Option (Flow ((List Int) × (List Int) × Int) ((List Int))) :=
 if (decide (s1.2.2 < (l_.length : Int))) then
  ((getI l_ s1.2.2).bind fun x1 =>
  (if (decide (x_ < x1.X0)) then
   some true
  else
   (getI l_ s1.2.2).bind fun x2 =>
   some (decide (x2.X1 ≤ x_))).bind fun x3 =>
  if x3 then
   some (s1.1, s1.2.1)
  else
   (appI s1.1 ([0])).bind fun x4 =>
   (appI s1.2.1 ([0])).bind fun x5 =>
   (iterL (ref06_column_L1 l_ s1) (l_.length + x4.length + x5.length + 1) (x4, x5, (s1.1.length : Int))).bind fun f1 => match f1 with
    | .go _ => none
    | .ex _ s2 =>
     (getI l_ s1.2.2).bind fun x6 =>
     (getI s2.1 s2.2.2).bind fun x7 =>
     (some (s2.1.set (s2.2.2).toNat x6.Y0)).bind fun x8 =>
     (getI l_ s1.2.2).bind fun x9 =>
     (getI s2.2.1 s2.2.2).bind fun x10 =>
     (some (s2.2.1.set (s2.2.2).toNat x9.Y1)).bind fun x11 =>
     some (x8, x11)
    | .ret r1 => none).bind fun s3 =>
  (addI s1.2.2 1).bind fun x12 =>
  some (.go (s3.1, s3.2, x12))
 else
  some (.ex 0 (s1.1, s1.2.1, s1.2.2))
def ref06_column_L2 (s1 : (List Int) × (List Int) × Int) (s2 : (List Int) × Int) : Option (Flow ((List Int) × Int) ((List Int))) :=
 if (decide (s2.2 < (s1.1.length : Int))) then
  ((if (decide (0 < (s2.1.length : Int))) then
   (getI s1.1 s2.2).bind fun x1 =>
   (subI (s2.1.length : Int) 1).bind fun x2 =>
   (getI s2.1 x2).bind fun x3 =>
   some (decide (x1 ≤ x3))
  else
   some false).bind fun x4 =>
  if x4 then
   (subI (s2.1.length : Int) 1).bind fun x5 =>
   (subI (s2.1.length : Int) 1).bind fun x6 =>
   (getI s2.1 x6).bind fun x7 =>
   (getI s1.2.1 s2.2).bind fun x8 =>
   (getI s2.1 x5).bind fun x9 =>
   (some (s2.1.set (x5).toNat (max x7 x8))).bind fun x10 =>
   some x10
  else
   (getI s1.1 s2.2).bind fun x11 =>
   (getI s1.2.1 s2.2).bind fun x12 =>
   (appI s2.1 ([x11, x12])).bind fun x13 =>
   some x13).bind fun s3 =>
  (addI s2.2 1).bind fun x14 =>
  some (.go (s3, x14))
 else
  some (.ex 4 (s2.1, s2.2))
def ref06_column (l_ : (List Rect)) (x_ : Int) : Option ((List Int)) :=
 (iterL (ref06_column_L0 l_ x_) (l_.length + ([] : List Int).length + ([] : List Int).length + 1) (([] : List Int), ([] : List Int), 0)).bind fun f1 => match f1 with
  | .go _ => none
  | .ex _ s1 =>
   (iterL (ref06_column_L2 s1) (s1.1.length + s1.2.1.length + ([] : List Int).length + 1) (([] : List Int), 0)).bind fun f2 => match f2 with
    | .go _ => none
    | .ex _ s2 =>
     some s2.1
    | .ret r1 => some r1
  | .ret r2 => some r2
noncomputable def k69 := mk 69 [.list (.st 0), .int] [.list .int] (fun x => ref06_column x.1 x.2) [] [5, 6, 9, 35, 37, 38, 40, 128, 138] Tryz.f69 (.s .n (.s .n (.s .n (.s (.s .n (.l [] [(5, .o 3 .int), (6, .o 3 .int), (7, .v .int)] [(0, [7], [])] (fL [0, 5, 6]) (.s .n (.s (.j [] [(5, .o 3 .int), (6, .o 3 .int)] ([], []) (.s .n (.s .n (.s .n (.s .n (.s (.l [] [(5, .o 3 .int), (6, .o 3 .int), (8, .v .int)] [(2, [], [])] (fL [0, 5, 6]) .n) .n)))))) .n)))) (.s (.f [5, 6] .n) (.s (.s (.f [5, 6] .n) (.l [] [(9, .o 3 .int), (10, .v .int)] [(4, [10], [])] (fL [5, 6, 9]) (.s (.s (.f [5, 6] .n) .n) (.s (.j [] [(9, .o 3 .int)] ([], []) (.s (.s (.f [5, 6] .n) (.s (.s (.f [5, 6] .n) .n) .n)) (.f [5, 6] .n))) (.f [5, 6] .n))))) (.s (.f [9] .n) .n))))))) Tryz.func69 Tryz.call69 rfl rfl fun x => by kernel_rfl
def ref06_combine_L0 (a_ : (List Int)) (b_ : (List Int)) (op_ : Int) (s1 : (List Int) × Int × Int × Bool) : Option (Flow ((List Int) × Int × Int × Bool) ((List Int))) :=
 if ((decide (s1.2.1 < (a_.length : Int))) || (decide (s1.2.2.1 < (b_.length : Int)))) then
  (if (decide (s1.2.1 < (a_.length : Int))) then
   (if (decide ((b_.length : Int) ≤ s1.2.2.1)) then
    some true
   else
    (getI a_ s1.2.1).bind fun x1 =>
    (subI (b_.length : Int) 1).bind fun x2 =>
    (getI b_ (min s1.2.2.1 x2)).bind fun x3 =>
    some (decide (x1 ≤ x3))).bind fun x4 =>
   some x4
  else
   some false).bind fun x5 =>
  (if x5 then
   (getI a_ s1.2.1).bind fun x6 =>
   some x6
  else
   (getI b_ s1.2.2.1).bind fun x7 =>
   some x7).bind fun s2 =>
  (if (decide (s1.2.1 < (a_.length : Int))) then
   (getI a_ s1.2.1).bind fun x8 =>
   some (x8 == s2)
  else
   some false).bind fun x9 =>
  (if x9 then
   (addI s1.2.1 1).bind fun x10 =>
   some x10
  else
   some s1.2.1).bind fun s3 =>
  (if (decide (s1.2.2.1 < (b_.length : Int))) then
   (getI b_ s1.2.2.1).bind fun x11 =>
   some (x11 == s2)
  else
   some false).bind fun x12 =>
  (if x12 then
   (addI s1.2.2.1 1).bind fun x13 =>
   some x13
  else
   some s1.2.2.1).bind fun s4 =>
  (remI s3 2).bind fun x14 =>
  (remI s4 2).bind fun x15 =>
  (if (op_ == 1) then
   some ((x14 == 1) && (x15 == 1))
  else
   some ((x14 == 1) || (x15 == 1))).bind fun s5 =>
  (if (op_ == 2) then
   some ((x14 == 1) && (!(x15 == 1)))
  else
   some s5).bind fun s6 =>
  (if (s6 != s1.2.2.2) then
   (appI s1.1 ([s2])).bind fun x16 =>
   some x16
  else
   some s1.1).bind fun s7 =>
  some (.go (s7, s3, s4, s6))
 else
  some (.ex 0 (s1.1, s1.2.1, s1.2.2.1, s1.2.2.2))
def ref06_combine (a_ : (List Int)) (b_ : (List Int)) (op_ : Int) : Option ((List Int)) :=
 (iterL (ref06_combine_L0 a_ b_ op_) (a_.length + b_.length + ([] : List Int).length + 1) (([] : List Int), 0, 0, false)).bind fun f1 => match f1 with
  | .go _ => none
  | .ex _ s1 =>
   some s1.1
  | .ret r1 => some r1
noncomputable def k68 := mk 68 [.list .int, .list .int, .int] [.list .int] (fun x => ref06_combine x.1 x.2.1 x.2.2) [] [7, 112, 115] Tryz.f68 (.s .n (.s .n (.s .n (.s .n (.s .n (.s (.l [] [(7, .o 3 .int), (8, .v .int), (9, .v .int), (10, .v .bool)] [(0, [8, 9, 10], [])] (fL [0, 1, 7]) (.s .n (.s .n (.s (.s .n (.j [] [(11, .v .int)] ([], []) (.s .n .n))) (.s (.s .n (.j [] [(8, .v .int)] ([], []) (.s .n .n))) (.s (.s .n (.j [] [(9, .v .int)] ([], []) (.s .n .n))) (.s .n (.s .n (.s .n (.s (.s .n (.j [] [(14, .v .bool)] ([], []) (.s .n .n))) (.s (.s .n (.j [] [(14, .v .bool)] ([], []) (.s .n .n))) (.s (.s .n (.j [] [(7, .o 3 .int)] ([], []) (.s .n .n))) .n)))))))))))) (.s (.f [7] .n) .n))))))) Tryz.func68 Tryz.call68 rfl rfl fun x => by kernel_rfl
def ref06_ints_L0 (a_ : (List Int)) (b_ : (List Int)) (s1 : Int) : Option (Flow (Int) (Bool)) :=
 if (decide (s1 < (a_.length : Int))) then
  (getI a_ s1).bind fun x1 =>
  (getI b_ s1).bind fun x2 =>
  if (x1 != x2) then
   some (.ret false)
  else
   (addI s1 1).bind fun x3 =>
   some (.go x3)
 else
  some (.ex 0 s1)
def ref06_ints (a_ : (List Int)) (b_ : (List Int)) : Option (Bool) :=
 if ((a_.length : Int) != (b_.length : Int)) then
  some false
 else
  (iterL (ref06_ints_L0 a_ b_) (a_.length + b_.length + 1) 0).bind fun f1 => match f1 with
   | .go _ => none
   | .ex _ _ =>
    some true
   | .ret r1 => some r1
noncomputable def k70 := mk 70 [.list .int, .list .int] [.bool] (fun x => ref06_ints x.1 x.2) [] [] Tryz.f70 (.s .n (.s .n (.s (.s .n (.l [] [(5, .v .int)] [(0, [5], [])] (fL [0, 1]) .n)) .n))) Tryz.func70 Tryz.call70 rfl rfl fun x => by kernel_rfl
def ref06_Form_L1 (x1 : (List Int)) (s1 : (List Rect) × (List Int) × Int × Int) (s2 : (List Rect) × Int) : Option (Flow ((List Rect) × Int) ((List Rect))) :=
 if (decide (s2.2 < (s2.1.length : Int))) then
  (addI s1.2.2.2 1).bind fun x2 =>
  (getI x1 x2).bind fun x3 =>
  (getI s2.1 s2.2).bind fun x4 =>
  (some (s2.1.set (s2.2).toNat ({ x4 with X1 := x3 }))).bind fun x5 =>
  (addI s2.2 1).bind fun x6 =>
  some (.go (x5, x6))
 else
  some (.ex 2 (s2.1, s2.2))
def ref06_Form_L2 (x1 : (List Int)) (s1 : (List Rect) × (List Int) × Int × Int) (x2 : (List Int)) (s2 : (List Rect) × Int) : Option (Flow ((List Rect) × Int) ((List Rect))) :=
 (addI s2.2 1).bind fun x3 =>
 if (decide (x3 < (x2.length : Int))) then
  (getI x1 s1.2.2.2).bind fun x4 =>
  (getI x2 s2.2).bind fun x5 =>
  (addI s1.2.2.2 1).bind fun x6 =>
  (getI x1 x6).bind fun x7 =>
  (addI s2.2 1).bind fun x8 =>
  (getI x2 x8).bind fun x9 =>
  (appI s2.1 ([(⟨x4, x5, x7, x9⟩ : Rect)])).bind fun x10 =>
  (addI s2.2 2).bind fun x11 =>
  some (.go (x10, x11))
 else
  some (.ex 4 (s2.1, s2.2))
def ref06_Form_L0 (a_ : (List Rect)) (b_ : (List Rect)) (op_ : Int) (x1 : (List Int)) (s1 : (List Rect) × (List Int) × Int × Int) : Option (Flow ((List Rect) × (List Int) × Int × Int) ((List Rect))) :=
 (addI s1.2.2.2 1).bind fun x2 =>
 if (decide (x2 < (x1.length : Int))) then
  ((getI x1 s1.2.2.2).bind fun x3 =>
  (ref06_column a_ x3).bind fun x4 =>
  (getI x1 s1.2.2.2).bind fun x5 =>
  (ref06_column b_ x5).bind fun x6 =>
  (ref06_combine x4 x6 op_).bind fun x7 =>
  (if ((decide (0 < s1.2.2.2)) && (decide (0 < (x7.length : Int)))) then
   (ref06_ints x7 s1.2.1).bind fun x8 =>
   some x8
  else
   some false).bind fun x9 =>
  if x9 then
   (iterL (ref06_Form_L1 x1 s1) (a_.length + b_.length + s1.1.length + x1.length + s1.2.1.length + 1) (s1.1, s1.2.2.1)).bind fun f1 => match f1 with
    | .go _ => none
    | .ex _ s2 =>
     some (s2.1, s1.2.1, s1.2.2.1)
    | .ret r1 => none
  else
   (iterL (ref06_Form_L2 x1 s1 x7) (a_.length + b_.length + s1.1.length + x1.length + x7.length + x7.length + 1) (s1.1, 0)).bind fun f2 => match f2 with
    | .go _ => none
    | .ex _ s3 =>
     some (s3.1, x7, (s1.1.length : Int))
    | .ret r2 => none).bind fun s4 =>
  (addI s1.2.2.2 1).bind fun x10 =>
  some (.go (s4.1, s4.2.1, s4.2.2, x10))
 else
  some (.ex 0 (s1.1, s1.2.1, s1.2.2.1, s1.2.2.2))
def ref06_Form (a_ : (List Rect)) (b_ : (List Rect)) (op_ : Int) : Option ((List Rect)) :=
 (ref06_edges a_ b_).bind fun x1 =>
 (iterL (ref06_Form_L0 a_ b_ op_ x1) (a_.length + b_.length + ([] : List Rect).length + x1.length + ([] : List Int).length + 1) (([] : List Rect), ([] : List Int), 0, 0)).bind fun f1 => match f1 with
  | .go _ => none
  | .ex _ s1 =>
   some s1.1
  | .ret r1 => some r1
noncomputable def k41 := mk 41 [.list (.st 0), .list (.st 0), .int] [.list (.st 0)] (fun x => ref06_Form x.1 x.2.1 x.2.2) [k67, k69, k68, k70] [7, 77, 98] Tryz.f41 (.s .n (.s .n (.s .n (.s .n (.s .n (.s (.s .n (.l [] [(7, .o 33 (.st 0)), (9, .v (.list .int)), (10, .v .int), (11, .v .int)] [(0, [9, 10, 11], [])] (fL [0, 1, 7, 8, 9]) (.s .n (.s (.j [] [(7, .o 33 (.st 0)), (9, .v (.list .int)), (10, .v .int)] ([], []) (.s .n (.s (.s .n (.s (.s (.s .n (.l [] [(7, .o 33 (.st 0)), (13, .v .int)] [(2, [13], [])] (fL [0, 1, 7, 8, 9]) .n)) .n) .n)) (.s .n (.s .n (.s .n (.l [] [(7, .o 33 (.st 0)), (14, .v .int)] [(4, [14], [])] (fL [0, 1, 7, 8, 9, 12]) .n))))))) .n)))) (.s (.f [7] .n) .n))))))) Tryz.func41 Tryz.call41 rfl rfl fun x => by kernel_rfl
theorem ref06_Form_ok {k0 : K} {v0 v1 v2 : Value} {x0 : (List Rect)} {x1 : (List Rect)} {x2 : Int} {r : (List Rect)} (i0 : IsV x0 v0 k0) (i1 : IsV x1 v1 k0) (i2 : IsV x2 v2 k0) (hr : ref06_Form x0 x1 x2 = some r) : Calls Tryz.prog 41 #[v0, v1, v2] k0.w (Ret k0 (IsV r)) := (k41.ok.ok k0 [v0, v1, v2] (x0, x1, x2) r ⟨i0, i1, i2⟩ hr)
end Go.Proofs.YtmniloampanhfaaGreat
