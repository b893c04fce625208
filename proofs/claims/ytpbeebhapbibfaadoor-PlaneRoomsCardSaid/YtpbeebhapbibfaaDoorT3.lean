/- What the functions compute that the law reaches, part 3 -/
import Derived.Test.YtpbeebhapbibfaaDoorT2
namespace Go.Proofs.YtpbeebhapbibfaaDoor
open Go.Gb
set_option linter.unusedVariables false
set_option linter.unusedSimpArgs false
set_option maxRecDepth 100000
def plane_valid (b_ : Rect) (l_ : (List Plane)) : Option (Bool) :=
 (rect_Right b_).bind fun x1 =>
 (if x1 then
  (slices_ContainsFunc_Plane l_ plane_valid_1).bind fun x2 =>
  some (!x2)
 else
  some false).bind fun x3 =>
 some x3
theorem plane_valid_ok {k0 : K} {v0 v1 : Value} {b_ : Rect} {l_ : (List Plane)} {r : Bool} (i0 : (IsV b_) v0 k0) (i1 : (IsV l_) v1 k0) (hr : plane_valid b_ l_ = some r) :
  Calls Tryd.prog 21 #[v0, v1] k0.w (Ret k0 (IsV r)) := by
 unfold plane_valid at hr
 refine Ret.ofC ?_
 refine enterK Tryd.func21 rfl Tryd.ntmps21 (show 2 ≤ 12 by decide) fun a k hk0 hs hd ha => ?_
 obtain ⟨e0, e1, _⟩ := ha
 replace i0 : (IsV b_) (a.get 0) k := by rw [e0, hk0]; exact i0
 replace i1 : (IsV l_) (a.get 1) k := by rw [e1, hk0]; exact i1
 have hQ : Gb.LetsOut (bodyPost Tryd.prog Tryd.f21 (RetC noF k0 (IsV r))) := letsOutC
 have hg : Chg noF k0 k := by rw [hk0]; exact Chg.refl _ k0
 refine stepL 2 (⟨some (IsRef b_), [(0, none)]⟩ :: ⟨some (IsV false), []⟩ :: []) rfl ⟨hg, hs, hd⟩ (by kernel_rfl) ⟨ob1 rfl fun _ _ h n => ok_boxR rfl (up i0 h n.1), ob1 rfl fun _ _ h n => ok_assign rfl (isV_bool.2 rfl), trivial⟩ [⟨_, _⟩, ⟨_, _⟩] (fun b q p => ⟨p.ke 1 rfl i1, p.ou 0 2 rfl, trivial⟩) ?_
 rintro a k ⟨⟨hg, hs, hd⟩, i1, i2, _⟩
 refine wp_seq ?_
 obtain ⟨x1, hx1, hr⟩ := bind_some hr
 obtain ⟨x2, hx2, hr⟩ := bind_some hr
 obtain ⟨x3, hx3, hx2⟩ := ite_bind hx2
 refine cut (fun a' k' => Bs noF k0 12 a' k' ∧ (IsV x2) (a'.get 4) k' ∧ True) ?_ hQ ?_
 ·intro Q1 W1 w1
  refine gS 8 (_ :: _ :: _ :: _ :: _ :: _ :: _ :: _ :: []) hs (by kernel_rfl) ⟨o1 [(2, none)] rfl fun _ _ h n => ok_load rfl ty23 ((up i2 h n.1)).ptr, o1 [(5, some 0)] rfl fun _ _ h n => ok_call rfl Tryd.call16 (rect_Right_ok n.1 hx1), cm 1 rfl rfl, mT rfl rfl i1, gT [(8, some 3)] rfl rfl fun hp _ _ h n => ok_call rfl Tryd.call44 (slices_ContainsFunc_Plane_ok (Gd.get n.1 hp) ⟨45, _, _, rfl, Tryd.call45, fun k9 hk9 _ _ _ hx0 hy9 => by simpa [evalT] using plane_valid_1_ok hx0 hy9⟩ (hx3 hp)), gT [(9, some 4)] rfl rfl fun hp _ _ h n => ok_not rfl (Gd.get n.1 hp), o1 [(7, some 2), (10, some 5)] rfl fun _ _ h n => ok_pickM rfl n.1 hx2 (Gd.get n.2.1) (cB rfl), cp 6 rfl rfl, trivial⟩ W1 fun b q p => ?_
  exact tail_done (k := q) (w1 _ _ ⟨Bs.post ⟨hg, hs, hd⟩ p, p.ou 7 4 rfl, trivial⟩)
 rintro a k ⟨⟨hg, hs, hd⟩, i4, _⟩
 refine wp_ret ?_
 obtain rfl := Option.some.inj hr
 exact retC1 rfl hd hg i4
noncomputable def k21 := mkO 21 [.st 0, .list (.st 6)] [.bool] (fun x => plane_valid x.1 x.2) Tryd.call21 fun k0 vs x r _ h hr => by obtain ⟨v0, vs, rfl, i0, h⟩ := h.cons; obtain ⟨v1, rfl, i1⟩ := h.one; exact plane_valid_ok i0 i1 hr
def region_Right (a_ : (List Rect)) : Option (Bool) :=
 (region_Of a_).bind fun x1 =>
 (if (x1.2 == 0) then
  (slices_Equal_Rect x1.1 a_).bind fun x2 =>
  some x2
 else
  some false).bind fun x3 =>
 some x3
noncomputable def k13 := mk 13 [.list (.st 0)] [.bool] (fun x => region_Right x) [k18, k33] [] Tryd.f13 (.n) Tryd.func13 Tryd.call13 rfl rfl fun x => by kernel_rfl
theorem region_Right_ok {k0 : K} {v0 : Value} {x0 : (List Rect)} {r : Bool} (i0 : IsV x0 v0 k0) (hr : region_Right x0 = some r) : Calls Tryd.prog 13 #[v0] k0.w (Ret k0 (IsV r)) := (k13.ok.ok k0 [v0] x0 r (GOk.none fun _ => rfl) i0 hr)
def solid_Right_L0 (s_ : (List Slab)) (s1 : Int) : Option (Flow (Int) (Bool)) :=
 if (decide (s1 < (s_.length : Int))) then
  ((getI s_ s1).bind fun x1 =>
  (if ((((decide (x1.Z0 < 0)) || (decide (x1.Z1 ≤ x1.Z0))) || (decide (4096 < x1.Z1))) || ((x1.Area.length : Int) == 0)) then
   some true
  else
   (region_Right x1.Area).bind fun x2 =>
   some (!x2)).bind fun x3 =>
  if x3 then
   some (.ret false)
  else
   if (s1 == 0) then
    some (.go ())
   else
    (subI s1 1).bind fun x4 =>
    (getI s_ x4).bind fun x5 =>
    (if (decide (x1.Z0 < x5.Z1)) then
     some true
    else
     (if (x5.Z1 == x1.Z0) then
      (region_Same x5.Area x1.Area).bind fun x6 =>
      some x6
     else
      some false).bind fun x7 =>
     some x7).bind fun x8 =>
    if x8 then
     some (.ret false)
    else
     some (.go ()) : Option (Flow (Unit) (Bool))).bind fun f1 => match f1 with
   | .go _ =>
    (addI s1 1).bind fun x9 =>
    some (.go x9)
   | .ex _ _ => none
   | .ret r1 => some (.ret r1)
 else
  some (.ex 0 s1)
def solid_Right (s_ : (List Slab)) : Option (Bool) :=
 if (decide (80 < (s_.length : Int))) then
  some false
 else
  (iterL (solid_Right_L0 s_) (s_.length + 1) 0).bind fun f1 => match f1 with
   | .go _ => none
   | .ex _ _ =>
    some true
   | .ret r1 => some r1
noncomputable def k22 := mk 22 [.list (.st 3)] [.bool] (fun x => solid_Right x) [k13, k43] [] Tryd.f22 (.s .n (.s .n (.s (.s .n (.l [] [(11, .v .int)] [(0, [11], [])] (fI 10) (.s .n (.s .n (.s (.jf [] [] ([], []) [] .n) .n))))) .n))) Tryd.func22 Tryd.call22 rfl rfl fun x => by kernel_rfl
theorem solid_Right_ok {k0 : K} {v0 : Value} {x0 : (List Slab)} {r : Bool} (i0 : IsV x0 v0 k0) (hr : solid_Right x0 = some r) : Calls Tryd.prog 22 #[v0] k0.w (Ret k0 (IsV r)) := (k22.ok.ok k0 [v0] x0 r (GOk.none fun _ => rfl) i0 hr)
def plane_distances (b_ : Rect) (x_ : Int) (y_ : Int) : Option ((Int × Int × Int × Int)) :=
 (subI x_ b_.X0).bind fun x1 =>
 (subI b_.X1 1).bind fun x2 =>
 (subI x2 x_).bind fun x3 =>
 (subI y_ b_.Y0).bind fun x4 =>
 (subI b_.Y1 1).bind fun x5 =>
 (subI x5 y_).bind fun x6 =>
 some ((x1, x3, x4, x6) : (Int × Int × Int × Int))
theorem plane_distances_ok {k0 : K} {v0 v1 v2 : Value} {b_ : Rect} {x_ : Int} {y_ : Int} {r : (Int × Int × Int × Int)} (i0 : (IsV b_) v0 k0) (i1 : (IsV x_) v1 k0) (i2 : (IsV y_) v2 k0) (hr : plane_distances b_ x_ y_ = some r) :
  Calls Tryd.prog 32 #[v0, v1, v2] k0.w (Ret k0 (IsV r)) := by
 unfold plane_distances at hr
 refine Ret.ofC ?_
 refine enterK Tryd.func32 rfl Tryd.ntmps32 (show 3 ≤ 26 by decide) fun a k hk0 hs hd ha => ?_
 obtain ⟨e0, e1, e2, _⟩ := ha
 replace i0 : (IsV b_) (a.get 0) k := by rw [e0, hk0]; exact i0
 replace i1 : (IsV x_) (a.get 1) k := by rw [e1, hk0]; exact i1
 replace i2 : (IsV y_) (a.get 2) k := by rw [e2, hk0]; exact i2
 have hQ : Gb.LetsOut (bodyPost Tryd.prog Tryd.f32 (RetC noF k0 (IsV r))) := letsOutC
 have hg : Chg noF k0 k := by rw [hk0]; exact Chg.refl _ k0
 refine cutS (fun c l => Bs noF k0 26 c l ∧ IsV x_ (c.get 1) l ∧ IsV y_ (c.get 2) l ∧ IsRef b_ (c.get 3) l ∧ (∃ b6, c.get 6 = .pointer (some ⟨b6, 0, none⟩) ∧ Lo k0 (Eq b6) ∧ Gb.Box b6 ((0, 0, 0, 0) : (Int × Int × Int × Int)) l ∧ True)) ?_ ?_
 ·intro Q1 W1 w1
  refine gS 2 (⟨some (IsRef b_), [(0, none)]⟩ :: ⟨some (IsBox k.w.heap.size ((0, 0, 0, 0) : (Int × Int × Int × Int))), []⟩ :: []) hs (by kernel_rfl) ⟨ob1 rfl fun _ _ h n => ok_boxR rfl (up i0 h n.1), ob1 rfl fun _ _ h n => ok_alloc _ h.size rfl z69, trivial⟩ W1 fun b q p => ?_
  have hgq := hg.then p.grow
  have hsb := p.size.trans hs
  have hdb := p.defers.trans hd
  have j1 := p.ke 1 rfl i1
  have j2 := p.ke 2 rfl i2
  have j3 : (IsRef b_) (b.get 3) q := p.ou 0 3 rfl
  obtain ⟨b6, j6, x6, z6⟩ : (IsBox k.w.heap.size ((0, 0, 0, 0) : (Int × Int × Int × Int))) (b.get 6) q := p.ou 1 6 rfl
  replace x6 : Lo k (Eq b6) := Lo.eq x6
  have y6 : Lo k0 (Eq b6) := x6.chg hg
  exact tail_done (k := q) (w1 _ _ ⟨⟨hgq, hsb, hdb⟩, j1, j2, j3, b6, j6, y6, z6, trivial⟩)
 rintro a k ⟨⟨hg, hs, hd⟩, i1, i2, i3, b6, i6, n6, c6, _⟩
 refine wp_seq ?_
 obtain ⟨x1, hx1, hr⟩ := bind_some hr
 obtain ⟨x2, hx2, hr⟩ := bind_some hr
 obtain ⟨x3, hx3, hr⟩ := bind_some hr
 obtain ⟨x4, hx4, hr⟩ := bind_some hr
 obtain ⟨x5, hx5, hr⟩ := bind_some hr
 obtain ⟨x7, hx7, hr⟩ := bind_some hr
 refine cut (fun a' k' => Bs noF k0 26 a' k' ∧ a'.get 6 = .pointer (some ⟨b6, 0, none⟩) ∧ Lo k0 (Eq b6) ∧ Gb.Box b6 ((x1, x3, x4, x7) : (Int × Int × Int × Int)) k' ∧ True) ?_ hQ ?_
 ·intro Q2 W2 w2
  refine gS 19 (_ :: _ :: _ :: _ :: _ :: _ :: _ :: _ :: _ :: _ :: _ :: _ :: _ :: _ :: _ :: _ :: _ :: _ :: ⟨some (IsV ((x1, x3, x4, x7) : (Int × Int × Int × Int))), [(10, some 3), (15, some 8), (19, some 12), (24, some 17)]⟩ :: []) hs (by kernel_rfl) ⟨mu rfl i1, o1 [(3, none)] rfl fun _ _ h n => ok_fieldAddr rfl fo23_0 (at_Rect_0 _) ((up i3 h n.1)).ptr, o1 [(8, some 1)] rfl fun _ _ h n => ok_load rfl ty3 n.1, o1 [(7, some 0), (9, some 2)] rfl fun _ _ h n => ok_sub rfl n.1 n.2.1 hx1, o1 [(3, none)] rfl fun _ _ h n => ok_fieldAddr rfl fo23_2 (at_Rect_2 _) ((up i3 h n.1)).ptr, o1 [(11, some 4)] rfl fun _ _ h n => ok_load rfl ty3 n.1, o1 [(12, some 5)] rfl fun _ _ h n => ok_sub rfl n.1 (cI rfl) hx2, mu rfl i1, o1 [(13, some 6), (14, some 7)] rfl fun _ _ h n => ok_sub rfl n.1 n.2.1 hx3, mu rfl i2, o1 [(3, none)] rfl fun _ _ h n => ok_fieldAddr rfl fo23_1 (at_Rect_1 _) ((up i3 h n.1)).ptr, o1 [(17, some 10)] rfl fun _ _ h n => ok_load rfl ty3 n.1, o1 [(16, some 9), (18, some 11)] rfl fun _ _ h n => ok_sub rfl n.1 n.2.1 hx4, o1 [(3, none)] rfl fun _ _ h n => ok_fieldAddr rfl fo23_3 (at_Rect_3 _) ((up i3 h n.1)).ptr, o1 [(20, some 13)] rfl fun _ _ h n => ok_load rfl ty3 n.1, o1 [(21, some 14)] rfl fun _ _ h n => ok_sub rfl n.1 (cI rfl) hx5, mu rfl i2, o1 [(22, some 15), (23, some 16)] rfl fun _ _ h n => ok_sub rfl n.1 n.2.1 hx7, ob1 rfl fun _ _ h n => ok_build rfl (bld69_0_1_2_3 n.1 n.2.1 n.2.2.1 n.2.2.2.1), trivial⟩ W2 fun b q p => ?_
  have hgq := hg.then p.grow
  have hsb := p.size.trans hs
  have hdb := p.defers.trans hd
  have j6 := upE i6 (p.old 6 rfl)
  have z6 := Gb.Box.grow c6 p.grow
  have y6 := n6
  have j25 : (IsV ((x1, x3, x4, x7) : (Int × Int × Int × Int))) (b.get 25) q := p.ou 18 25 rfl
  have hns := z6.nshF
  refine tail_storeB (i := 19) rfl rfl rfl rfl szf69 (Upd.self (α := (Int × Int × Int × Int))) j6 z6 j25 fun q2 hch hz => ?_
  replace hgq := hgq.step hch y6.wr
  have hle := hch.le hns
  replace j25 := Pers.pers hle j25
  replace z6 := hz
  clear hns hle hch
  obtain ⟨q, hqq⟩ : ∃ q, q = q2 := ⟨q2, rfl⟩
  subst hqq
  exact tail_done (k := q) (w2 _ _ ⟨⟨hgq, hsb, hdb⟩, j6, y6, z6, trivial⟩)
 rintro a k ⟨⟨hg, hs, hd⟩, i6, n6, c6, _⟩
 refine wp_ret ?_
 obtain rfl := Option.some.inj hr
 exact retC1 rfl hd hg (resCell ty69 i6 c6)
noncomputable def k32 := mkO 32 [.st 0, .int, .int] [.st 7] (fun x => plane_distances x.1 x.2.1 x.2.2) Tryd.call32 fun k0 vs x r _ h hr => by obtain ⟨v0, vs, rfl, i0, h⟩ := h.cons; obtain ⟨v1, vs, rfl, i1, h⟩ := h.cons; obtain ⟨v2, rfl, i2⟩ := h.one; exact plane_distances_ok i0 i1 i2 hr
def plane_floorDiv (a_ : Int) (n_ : Int) : Option (Int) :=
 (quoI a_ n_).bind fun x1 =>
 (remI a_ n_).bind fun x2 =>
 (if (decide (x2 < 0)) then
  (subI x1 1).bind fun x3 =>
  some x3
 else
  some x1).bind fun s1 =>
 some s1
noncomputable def k47 := mk 47 [.int, .int] [.int] (fun x => plane_floorDiv x.1 x.2) [] [] Tryd.f47 (.s .n (.s .n (.s (.s .n (.j [] [(5, .v .int)] ([], []) (.s .n .n))) .n))) Tryd.func47 Tryd.call47 rfl rfl fun x => by kernel_rfl
theorem plane_floorDiv_ok {k0 : K} {v0 v1 : Value} {x0 : Int} {x1 : Int} {r : Int} (i0 : IsV x0 v0 k0) (i1 : IsV x1 v1 k0) (hr : plane_floorDiv x0 x1 = some r) : Calls Tryd.prog 47 #[v0, v1] k0.w (Ret k0 (IsV r)) := (k47.ok.ok k0 [v0, v1] (x0, x1) r (GOk.none fun _ => rfl) ⟨i0, i1⟩ hr)
def plane_top_L0 (l_ : (List Plane)) (x1 : (Int × Int × Int × Int)) (s1 : Int × Int) : Option (Flow (Int × Int) (Int)) :=
 if (decide (s1.2 < (l_.length : Int))) then
  (getI l_ s1.2).bind fun x2 =>
  (getI ([x1.1, x1.2.1, x1.2.2.1, x1.2.2.2] : List Int) x2.Side).bind fun x3 =>
  (mulI x2.Num x3).bind fun x4 =>
  (plane_floorDiv x4 x2.Den).bind fun x5 =>
  (addI x2.Base x5).bind fun x6 =>
  (addI s1.2 1).bind fun x7 =>
  some (.go ((min s1.1 x6), x7))
 else
  some (.ex 0 (s1.1, s1.2))
def plane_top (b_ : Rect) (l_ : (List Plane)) (x_ : Int) (y_ : Int) : Option (Int) :=
 (plane_distances b_ x_ y_).bind fun x1 =>
 (iterL (plane_top_L0 l_ x1) (l_.length + 1) (4096, 0)).bind fun f1 => match f1 with
  | .go _ => none
  | .ex _ s1 =>
   some s1.1
  | .ret r1 => some r1
theorem plane_top_ok {k0 : K} {v0 v1 v2 v3 : Value} {b_ : Rect} {l_ : (List Plane)} {x_ : Int} {y_ : Int} {r : Int} (i0 : (IsV b_) v0 k0) (i1 : (IsV l_) v1 k0) (i2 : (IsV x_) v2 k0) (i3 : (IsV y_) v3 k0) (hr : plane_top b_ l_ x_ y_ = some r) :
  Calls Tryd.prog 29 #[v0, v1, v2, v3] k0.w (Ret k0 (IsV r)) := by
 unfold plane_top at hr
 refine Ret.ofC ?_
 refine enterK Tryd.func29 rfl Tryd.ntmps29 (show 4 ≤ 40 by decide) fun a k hk0 hs hd ha => ?_
 obtain ⟨e0, e1, e2, e3, _⟩ := ha
 replace i0 : (IsV b_) (a.get 0) k := by rw [e0, hk0]; exact i0
 replace i1 : (IsV l_) (a.get 1) k := by rw [e1, hk0]; exact i1
 replace i2 : (IsV x_) (a.get 2) k := by rw [e2, hk0]; exact i2
 replace i3 : (IsV y_) (a.get 3) k := by rw [e3, hk0]; exact i3
 have hQ : Gb.LetsOut (bodyPost Tryd.prog Tryd.f29 (RetC noF k0 (IsV r))) := letsOutC
 have hg : Chg noF k0 k := by rw [hk0]; exact Chg.refl _ k0
 refine stepL 2 (⟨some (IsRef b_), [(0, none)]⟩ :: ⟨some (IsI 0), []⟩ :: []) rfl ⟨hg, hs, hd⟩ (by kernel_rfl) ⟨ob1 rfl fun _ _ h n => ok_boxR rfl (up i0 h n.1), aI rfl rfl, trivial⟩ [⟨_, _⟩, ⟨_, _⟩, ⟨_, _⟩, ⟨_, _⟩] (fun b q p => ⟨p.ke 1 rfl i1, p.ke 2 rfl i2, p.ke 3 rfl i3, p.ou 0 4 rfl, trivial⟩) ?_
 rintro a k ⟨⟨hg, hs, hd⟩, i1, i2, i3, i4, _⟩
 refine stepL 1 (⟨some (IsI 4096), []⟩ :: []) rfl ⟨hg, hs, hd⟩ (by kernel_rfl) ⟨aI rfl rfl, trivial⟩ [⟨_, _⟩, ⟨_, _⟩, ⟨_, _⟩, ⟨_, _⟩, ⟨_, _⟩] (fun b q p => ⟨p.ke 1 rfl i1, p.ke 2 rfl i2, p.ke 3 rfl i3, p.ke 4 rfl i4, p.ou 0 9 rfl, trivial⟩) ?_
 rintro a k ⟨⟨hg, hs, hd⟩, i1, i2, i3, i4, i9, _⟩
 refine wp_seq ?_
 obtain ⟨x1, hx1, hr⟩ := bind_some hr
 refine cut (fun a' k' => Bs noF k0 40 a' k' ∧ (IsV l_) (a'.get 1) k' ∧ (IsI 4096) (a'.get 9) k' ∧ (IsRef x1) (a'.get 10) k' ∧ True) ?_ hQ ?_
 ·intro Q1 W1 w1
  refine gS 5 (_ :: _ :: _ :: _ :: ⟨some (IsBox k.w.heap.size ((0, 0, 0, 0) : (Int × Int × Int × Int))), []⟩ :: []) hs (by kernel_rfl) ⟨o1 [(4, none)] rfl fun _ _ h n => ok_load rfl ty23 ((up i4 h n.1)).ptr, mu rfl i2, mu rfl i3, o1 [(13, some 0), (14, some 1), (15, some 2)] rfl fun _ _ h n => ok_call rfl Tryd.call32 (plane_distances_ok n.1 n.2.1 n.2.2.1 hx1), ob1 rfl fun _ _ h n => ok_alloc _ h.size rfl z69, trivial⟩ W1 fun b q p => ?_
  have hgq := hg.then p.grow
  have hsb := p.size.trans hs
  have hdb := p.defers.trans hd
  have j1 := p.ke 1 rfl i1
  have j9 := p.ke 9 rfl i9
  obtain ⟨b10, j10, x10, z10⟩ : (IsBox k.w.heap.size ((0, 0, 0, 0) : (Int × Int × Int × Int))) (b.get 10) q := p.ou 4 10 rfl
  replace x10 : Lo k (Eq b10) := Lo.eq x10
  have y10 : Lo k0 (Eq b10) := x10.chg hg
  have j16 : (IsV x1) (b.get 16) q := p.ou 3 16 rfl
  have hns := z10.nshF
  refine tail_storeB (i := 5) rfl rfl rfl rfl szf69 (Upd.self (α := (Int × Int × Int × Int))) j10 z10 j16 fun q2 hch hz => ?_
  replace hgq := hgq.step hch y10.wr
  have hle := hch.le hns
  replace j1 := Pers.pers hle j1
  replace j9 := Pers.pers hle j9
  replace j16 := Pers.pers hle j16
  replace z10 := hz
  clear hns hle hch
  obtain ⟨q, hqq⟩ : ∃ q, q = q2 := ⟨q2, rfl⟩
  subst hqq
  obtain ⟨q2, hsh, jn⟩ := z10.give
  replace j1 := Pers.pers hsh.le j1
  replace j9 := Pers.pers hsh.le j9
  rw [← j10] at jn
  replace j10 := jn
  replace hgq := hgq.hand hsh y10.wr
  rw [← hsh.w]
  clear hsh
  obtain ⟨q, hqq⟩ : ∃ q, q = q2 := ⟨q2, rfl⟩
  subst hqq
  exact tail_done (k := q) (w1 _ _ ⟨⟨hgq, hsb, hdb⟩, j1, j9, j10, trivial⟩)
 rintro a k ⟨⟨hg, hs, hd⟩, i1, i9, i10, _⟩
 refine wp_seq ?_
 refine stepL 3 (_ :: _ :: ⟨some (IsI 0), []⟩ :: []) rfl ⟨hg, hs, hd⟩ (by kernel_rfl) ⟨mu rfl i1, o1 [(17, some 0)] rfl fun _ _ h n => ok_len rfl rfl Tryd.underlying24 (IsV.rd n.1), ob1 rfl fun _ _ h n => ok_move rfl (cI rfl), trivial⟩ [⟨_, _⟩, ⟨_, _⟩, ⟨_, _⟩, ⟨_, _⟩, ⟨_, _⟩] (fun b q p => ⟨p.ke 9 rfl i9, p.ke 10 rfl i10, p.ou 0 17 rfl, p.ou 1 18 rfl, p.ou 2 19 rfl, trivial⟩) ?_
 rintro a k ⟨⟨hg, hs, hd⟩, i9, i10, i17, i18, i19, _⟩
 refine wp_block ?_
 obtain ⟨f1, hf1, hr⟩ := bind_some hr
 refine cutFe f1 (fun s' c l => Bs noF k0 40 c l ∧ IsV s'.1 (c.get 9) l ∧ IsRef x1 (c.get 10) l ∧ IsV l_ (c.get 17) l ∧ IsL l_ (c.get 18) l ∧ IsV s'.2 (c.get 19) l ∧ True) (fun i' s' c l => (i' = 0 ∧ Bs noF k0 40 c l ∧ IsV s'.1 (c.get 9) l ∧ True)) (fun r' c l => bodyPost Tryd.prog Tryd.f29 (RetC noF k0 (IsV r')) .ret c l.w) ?_ hQ ?_ ?_ ?_
 ·intro Q2 W2 hgo hex hret
  refine sim_loop ?_ _ _ _ _ _ hf1 ⟨⟨hg, hs, hd⟩, i9, i10, i17, i18, i19, trivial⟩ Q2 W2 hgo hex hret
  clear hr hf1 hgo hex hret W2 hQ hg hs hd i10 i17 i18 i19 i9
  intro s1 fl_ a k hr hS Q hQ hgo879 hex880 hret881
  obtain ⟨⟨hg, hs, hd⟩, i9, i10, i17, i18, i19, _⟩ := hS
  unfold plane_top_L0 at hr
  refine stepL 1 (_ :: []) rfl ⟨hg, hs, hd⟩ (by kernel_rfl) ⟨o1 [(19, none), (18, none)] rfl fun _ _ h n => ok_lss rfl (up i19 h n.1) (up i18 h n.2.1), trivial⟩ [⟨_, _⟩, ⟨_, _⟩, ⟨_, _⟩, ⟨_, _⟩, ⟨_, _⟩, ⟨_, _⟩] (fun b q p => ⟨p.ke 9 rfl i9, p.ke 10 rfl i10, p.ke 17 rfl i17, p.ke 18 rfl i18, p.ke 19 rfl i19, p.ou 0 20 rfl, trivial⟩) ?_
  rintro a k ⟨⟨hg, hs, hd⟩, i9, i10, i17, i18, i19, i20, _⟩
  refine wp_seq ?_
  refine wp_cond_split (isBool i20) (fun hc892 => ?_) (fun hc892 => ?_)
  ·rw [if_pos hc892] at hr
   refine wp_skip ?_
   refine wp_seq ?_
   refine wp_block ?_
   refine wp_seq ?_
   obtain ⟨x2, hx2, hr⟩ := bind_some hr
   refine cut (fun a' k' => Bs noF k0 40 a' k' ∧ (IsV s1.1) (a'.get 9) k' ∧ (IsRef x1) (a'.get 10) k' ∧ (IsRef x2) (a'.get 12) k' ∧ (IsV l_) (a'.get 17) k' ∧ (IsL l_) (a'.get 18) k' ∧ (IsV s1.2) (a'.get 19) k' ∧ True) ?_ hQ ?_
   ·intro Q3 W3 w2
    refine gS 3 (_ :: _ :: ⟨some (IsBox k.w.heap.size (⟨0, 0, 0, 0⟩ : Plane)), []⟩ :: []) hs (by kernel_rfl) ⟨o1 [(17, none), (19, none)] rfl fun _ _ h n => ok_indexAddr rfl Tryd.underlying24 ty42 (IsV.rd (up i17 h n.1)) (up i19 h n.2.1) hx2, o1 [(21, some 0)] rfl fun _ _ h n => ok_load rfl ty42 n.1, ob1 rfl fun _ _ h n => ok_alloc _ h.size rfl z42, trivial⟩ W3 fun b q p => ?_
    have hgq := hg.then p.grow
    have hsb := p.size.trans hs
    have hdb := p.defers.trans hd
    have j9 := p.ke 9 rfl i9
    have j10 := p.ke 10 rfl i10
    obtain ⟨b12, j12, x12, z12⟩ : (IsBox k.w.heap.size (⟨0, 0, 0, 0⟩ : Plane)) (b.get 12) q := p.ou 2 12 rfl
    replace x12 : Lo k (Eq b12) := Lo.eq x12
    have y12 : Lo k0 (Eq b12) := x12.chg hg
    have j17 := p.ke 17 rfl i17
    have j18 := p.ke 18 rfl i18
    have j19 := p.ke 19 rfl i19
    have j22 : (IsV x2) (b.get 22) q := p.ou 1 22 rfl
    have hns := z12.nshF
    refine tail_storeB (i := 3) rfl rfl rfl rfl szf42 (Upd.self (α := Plane)) j12 z12 j22 fun q2 hch hz => ?_
    replace hgq := hgq.step hch y12.wr
    have hle := hch.le hns
    replace j9 := Pers.pers hle j9
    replace j10 := Pers.pers hle j10
    replace j17 := Pers.pers hle j17
    replace j18 := Pers.pers hle j18
    replace j19 := Pers.pers hle j19
    replace j22 := Pers.pers hle j22
    replace z12 := hz
    clear hns hle hch
    obtain ⟨q, hqq⟩ : ∃ q, q = q2 := ⟨q2, rfl⟩
    subst hqq
    obtain ⟨q2, hsh, jn⟩ := z12.give
    replace j9 := Pers.pers hsh.le j9
    replace j10 := Pers.pers hsh.le j10
    replace j17 := Pers.pers hsh.le j17
    replace j18 := Pers.pers hsh.le j18
    replace j19 := Pers.pers hsh.le j19
    rw [← j12] at jn
    replace j12 := jn
    replace hgq := hgq.hand hsh y12.wr
    rw [← hsh.w]
    clear hsh
    obtain ⟨q, hqq⟩ : ∃ q, q = q2 := ⟨q2, rfl⟩
    subst hqq
    exact tail_done (k := q) (w2 _ _ ⟨⟨hgq, hsb, hdb⟩, j9, j10, j12, j17, j18, j19, trivial⟩)
   rintro a k ⟨⟨hg, hs, hd⟩, i9, i10, i12, i17, i18, i19, _⟩
   obtain ⟨x3, hx3, hr⟩ := bind_some hr
   obtain ⟨x4, hx4, hr⟩ := bind_some hr
   obtain ⟨x5, hx5, hr⟩ := bind_some hr
   obtain ⟨x6, hx6, hr⟩ := bind_some hr
   refine cut (fun a' k' => Bs noF k0 40 a' k' ∧ (IsI (min s1.1 x6)) (a'.get 9) k' ∧ (IsRef x1) (a'.get 10) k' ∧ (IsV l_) (a'.get 17) k' ∧ (IsL l_) (a'.get 18) k' ∧ (IsV s1.2) (a'.get 19) k' ∧ True) ?_ hQ ?_
   ·intro Q4 W4 w3
    refine region (m := 16) (_ :: _ :: _ :: _ :: _ :: _ :: _ :: ⟨some (IsPtr x3), [(10, none), (29, some 6)]⟩ :: _ :: _ :: _ :: _ :: _ :: _ :: _ :: _ :: []) hmix hs (by kernel_rfl) ⟨mu rfl i9, o1 [(12, none)] rfl fun _ _ h n => ok_fieldAddr rfl fo42_1 (at_Plane_1 _) ((up i12 h n.1)).ptr, o1 [(24, some 1)] rfl fun _ _ h n => ok_load rfl ty3 n.1, o1 [(12, none)] rfl fun _ _ h n => ok_fieldAddr rfl fo42_2 (at_Plane_2 _) ((up i12 h n.1)).ptr, o1 [(26, some 3)] rfl fun _ _ h n => ok_load rfl ty3 n.1, o1 [(12, none)] rfl fun _ _ h n => ok_fieldAddr rfl fo42_0 (at_Plane_0 _) ((up i12 h n.1)).ptr, o1 [(28, some 5)] rfl fun _ _ h n => ok_load rfl ty3 n.1, ob1 rfl fun _ _ h n => ok_arrAddrI rfl ao69 rfl (fun j hj => match j, hj with | 0, _ => aat69_0 _ | 1, _ => aat69_1 _ | 2, _ => aat69_2 _ | 3, _ => aat69_3 _ | _ + 4, h => absurd (show _ < 4 from h) (by omega)) ((up i10 h n.1)).ptr n.2.1 hx3, o1 [(30, some 7)] rfl fun _ _ h n => ok_load rfl ty3 n.1, o1 [(27, some 4), (31, some 8)] rfl fun _ _ h n => ok_mul rfl n.1 n.2.1 hx4, o1 [(12, none)] rfl fun _ _ h n => ok_fieldAddr rfl fo42_3 (at_Plane_3 _) ((up i12 h n.1)).ptr, o1 [(33, some 10)] rfl fun _ _ h n => ok_load rfl ty3 n.1, o1 [(32, some 9), (34, some 11)] rfl fun _ _ h n => ok_call rfl Tryd.call47 (plane_floorDiv_ok n.1 n.2.1 hx5), o1 [(25, some 2), (35, some 12)] rfl fun _ _ h n => ok_add rfl n.1 n.2.1 hx6, o1 [(23, some 0), (36, some 13)] rfl fun _ _ h n => ok_min2 rfl n.1 n.2.1, cp 14 rfl rfl, trivial⟩ W4 fun b q p => ?_
    exact tail_done (k := q) (w3 _ _ ⟨Bs.post ⟨hg, hs, hd⟩ p, p.ou 15 9 rfl, p.ke 10 rfl i10, p.ke 17 rfl i17, p.ke 18 rfl i18, p.ke 19 rfl i19, trivial⟩)
   rintro a k ⟨⟨hg, hs, hd⟩, i9, i10, i17, i18, i19, _⟩
   obtain ⟨x7, hx7, hr⟩ := bind_some hr
   refine cut (fun a' k' => Bs noF k0 40 a' k' ∧ (IsI (min s1.1 x6)) (a'.get 9) k' ∧ (IsRef x1) (a'.get 10) k' ∧ (IsV l_) (a'.get 17) k' ∧ (IsL l_) (a'.get 18) k' ∧ (IsV x7) (a'.get 19) k' ∧ True) ?_ hQ ?_
   ·intro Q5 W5 w4
    refine gS 2 (_ :: _ :: []) hs (by kernel_rfl) ⟨o1 [(19, none)] rfl fun _ _ h n => ok_add rfl (up i19 h n.1) (cI rfl) hx7, cm 0 rfl rfl, trivial⟩ W5 fun b q p => ?_
    exact tail_done (k := q) (w4 _ _ ⟨Bs.post ⟨hg, hs, hd⟩ p, p.ke 9 rfl i9, p.ke 10 rfl i10, p.ke 17 rfl i17, p.ke 18 rfl i18, p.ou 1 19 rfl, trivial⟩)
   rintro a k ⟨⟨hg, hs, hd⟩, i9, i10, i17, i18, i19, _⟩
   exact hgo879 _ _ _ (Option.some.inj hr).symm ⟨⟨hg, hs, hd⟩, i9, i10, i17, i18, i19, trivial⟩
  rw [if_neg (by rw [hc892]; decide)] at hr
  refine wp_exit ?_
  exact hex880 _ _ _ _ (Option.some.inj hr).symm ⟨rfl, ⟨hg, hs, hd⟩, i9, trivial⟩
 ·rintro r1 a k rfl hR
  dsimp only at hr
  obtain rfl := Option.some.inj hr
  exact hR
 ·rintro _ _ _ rfl _
  simp at hr
 clear hf1
 rintro _ s2 a k rfl ⟨rfl, ⟨hg, hs, hd⟩, i9, _⟩
 dsimp only at hr
 refine stepL 2 (_ :: _ :: []) rfl ⟨hg, hs, hd⟩ (by kernel_rfl) ⟨mu rfl i9, cp 0 rfl rfl, trivial⟩ [⟨_, _⟩] (fun b q p => ⟨p.ou 1 8 rfl, trivial⟩) ?_
 rintro a k ⟨⟨hg, hs, hd⟩, i8, _⟩
 refine wp_ret ?_
 obtain rfl := Option.some.inj hr
 exact retC1 rfl hd hg i8
noncomputable def k29 := mkO 29 [.st 0, .list (.st 6), .int, .int] [.int] (fun x => plane_top x.1 x.2.1 x.2.2.1 x.2.2.2) Tryd.call29 fun k0 vs x r _ h hr => by obtain ⟨v0, vs, rfl, i0, h⟩ := h.cons; obtain ⟨v1, vs, rfl, i1, h⟩ := h.cons; obtain ⟨v2, vs, rfl, i2, h⟩ := h.cons; obtain ⟨v3, rfl, i3⟩ := h.one; exact plane_top_ok i0 i1 i2 i3 hr
def plane_lowest_L2 (b_ : Rect) (l_ : (List Plane)) (x1 : Rect) (x2 : Int) (x3 : Int) (s1 : Int × Int) : Option (Flow (Int × Int) (Int)) :=
 if (decide (s1.2 < (([x1.Y0, x3]).length : Int))) then
  (getI ([x1.Y0, x3]) s1.2).bind fun x4 =>
  (plane_top b_ l_ x2 x4).bind fun x5 =>
  (addI s1.2 1).bind fun x6 =>
  some (.go ((min s1.1 x5), x6))
 else
  some (.ex 4 (s1.1, s1.2))
def plane_lowest_L1 (b_ : Rect) (l_ : (List Plane)) (x1 : Rect) (x2 : Int) (s1 : Int × Int) : Option (Flow (Int × Int) (Int)) :=
 if (decide (s1.2 < (([x1.X0, x2]).length : Int))) then
  (getI ([x1.X0, x2]) s1.2).bind fun x3 =>
  (subI x1.Y1 1).bind fun x4 =>
  (iterL (plane_lowest_L2 b_ l_ x1 x3 x4) ([x1.Y0, x4].length + 1) (s1.1, 0)).bind fun f1 => match f1 with
   | .go _ => none
   | .ex _ s2 =>
    (addI s1.2 1).bind fun x5 =>
    some (.go (s2.1, x5))
   | .ret r1 => some (.ret r1)
 else
  some (.ex 2 (s1.1, s1.2))
def plane_lowest_L0 (b_ : Rect) (l_ : (List Plane)) (a_ : (List Rect)) (s1 : Int × Int) : Option (Flow (Int × Int) (Int)) :=
 if (decide (s1.2 < (a_.length : Int))) then
  (getI a_ s1.2).bind fun x1 =>
  (subI x1.X1 1).bind fun x2 =>
  (iterL (plane_lowest_L1 b_ l_ x1 x2) ([x1.X0, x2].length + 1) (s1.1, 0)).bind fun f1 => match f1 with
   | .go _ => none
   | .ex _ s2 =>
    (addI s1.2 1).bind fun x3 =>
    some (.go (s2.1, x3))
   | .ret r1 => some (.ret r1)
 else
  some (.ex 0 (s1.1, s1.2))
def plane_lowest (b_ : Rect) (l_ : (List Plane)) (a_ : (List Rect)) : Option (Int) :=
 (iterL (plane_lowest_L0 b_ l_ a_) (a_.length + 1) (4096, 0)).bind fun f1 => match f1 with
  | .go _ => none
  | .ex _ s1 =>
   some s1.1
  | .ret r1 => some r1
noncomputable def k25 := mk 25 [.st 0, .list (.st 6), .list (.st 0)] [.int] (fun x => plane_lowest x.1 x.2.1 x.2.2) [k29] [] Tryd.f25 (.s .n (.s .n (.s (.s .n (.l [] [(7, .v .int), (16, .v .int)] [(0, [16], [])] (fI 15) (.s .n (.s .n (.s (.s .n (.s .n (.l [] [(7, .v .int), (27, .v .int)] [(2, [27], [])] (fI 26) (.s .n (.s .n (.s (.s .n (.s .n (.l [] [(7, .v .int), (38, .v .int)] [(4, [38], [])] (fI 37) .n))) .n)))))) .n))))) .n))) Tryd.func25 Tryd.call25 rfl rfl fun x => by kernel_rfl
theorem plane_lowest_ok {k0 : K} {v0 v1 v2 : Value} {x0 : Rect} {x1 : (List Plane)} {x2 : (List Rect)} {r : Int} (i0 : IsV x0 v0 k0) (i1 : IsV x1 v1 k0) (i2 : IsV x2 v2 k0) (hr : plane_lowest x0 x1 x2 = some r) : Calls Tryd.prog 25 #[v0, v1, v2] k0.w (Ret k0 (IsV r)) := (k25.ok.ok k0 [v0, v1, v2] (x0, x1, x2) r (GOk.none fun _ => rfl) ⟨i0, i1, i2⟩ hr)
def plane_room_L0 (b_ : Rect) (l_ : (List Plane)) (z_ : Int) (s1 : Int × Rect × Rect) : Option (Flow (Int × Rect × Rect) (Rect × Bool)) :=
 if (decide (s1.1 < (l_.length : Int))) then
  ((getI l_ s1.1).bind fun x1 =>
  if (x1.Num == 0) then
   if (decide (x1.Base < z_)) then
    some (.ret ((⟨0, 0, 0, 0⟩ : Rect), false))
   else
    some (.go (s1.2.1, s1.2.2))
  else
   (subI x1.Base z_).bind fun x2 =>
   (mulI x2 x1.Den).bind fun x3 =>
   (plane_floorDiv x3 x1.Num).bind fun x4 =>
   (subI 0 x4).bind fun x5 =>
   (if (x1.Side == 0) then
    (addI b_.X0 x5).bind fun x6 =>
    some { s1.2.2 with X0 := (max s1.2.2.X0 x6) }
   else
    (if (x1.Side == 1) then
     (subI b_.X1 x5).bind fun x7 =>
     some { s1.2.2 with X1 := (min s1.2.2.X1 x7) }
    else
     (if (x1.Side == 2) then
      (addI b_.Y0 x5).bind fun x8 =>
      some { s1.2.2 with Y0 := (max s1.2.2.Y0 x8) }
     else
      (if (x1.Side == 3) then
       (subI b_.Y1 x5).bind fun x9 =>
       some { s1.2.2 with Y1 := (min s1.2.2.Y1 x9) }
      else
       some s1.2.2).bind fun s2 =>
      some s2).bind fun s3 =>
     some s3).bind fun s4 =>
    some s4).bind fun s5 =>
   some (.go (s1.2.1, s5)) : Option (Flow (Rect × Rect) (Rect × Bool))).bind fun f1 => match f1 with
   | .go s6 =>
    (addI s1.1 1).bind fun x10 =>
    some (.go (x10, s6.1, s6.2))
   | .ex _ _ => none
   | .ret r1 => some (.ret r1)
 else
  some (.ex 0 (s1.1, s1.2.1, s1.2.2))
def plane_room (b_ : Rect) (l_ : (List Plane)) (z_ : Int) : Option (Rect × Bool) :=
 (iterL (plane_room_L0 b_ l_ z_) (l_.length + 1) (0, (⟨0, 0, 0, 0⟩ : Rect), (⟨0, 0, 1048576, 1048576⟩ : Rect))).bind fun f1 => match f1 with
  | .go _ => none
  | .ex _ s1 =>
   some (s1.2.2, ((decide (s1.2.2.X0 < s1.2.2.X1)) && (decide (s1.2.2.Y0 < s1.2.2.Y1))))
  | .ret r1 => some r1
noncomputable def k26 := mkg 26 [.st 0, .list (.st 6), .int] [.st 0, .bool] (fun x => plane_room x.1 x.2.1 x.2.2) [k47.lift glv gl0] [6, 8] Tryd.f26 (.s .n (.s .n (.s (.s .n (.l [] [(15, .v .int), (6, .b (.st 0)), (8, .b (.st 0))] [(0, [15], [])] (fI 14) (.s .n (.s .n (.s (.jf [] [(6, .b (.st 0)), (8, .b (.st 0))] ([], []) [] (.s .n (.s .n (.s .n (.s .n (.s .n (.j [] [(8, .b (.st 0))] ([], []) (.s .n (.s .n (.j [] [(8, .b (.st 0))] ([], []) (.s .n (.s .n (.j [] [(8, .b (.st 0))] ([], []) (.s .n (.s .n (.j [] [(8, .b (.st 0))] ([], []) (.s .n .n))))))))))))))))) .n))))) .n))) Tryd.func26 Tryd.call26 rfl rfl fun x => by kernel_rfl
def slices_BinarySearchFunc_strip_int_L0 (x_ : (List RegionStrip)) (target_ : Int) (cmp_ : (RegionStrip → Int → Option (Int))) (s1 : Int × Int) : Option (Flow (Int × Int) (Int × Bool)) :=
 if (decide (s1.1 < s1.2)) then
  (addI s1.1 s1.2).bind fun x1 =>
  (getI x_ (IntKind.i64.wrap (IK.shr (IK.mk (IntKind.u64.wrap x1) : IK .u64) 1).n)).bind fun x2 =>
  (cmp_ x2 target_).bind fun x3 =>
  (if (decide (x3 < 0)) then
   (addI (IntKind.i64.wrap (IK.shr (IK.mk (IntKind.u64.wrap x1) : IK .u64) 1).n) 1).bind fun x4 =>
   some (x4, s1.2)
  else
   some (s1.1, (IntKind.i64.wrap (IK.shr (IK.mk (IntKind.u64.wrap x1) : IK .u64) 1).n))).bind fun s2 =>
  some (.go (s2.1, s2.2))
 else
  some (.ex 0 (s1.1, s1.2))
def slices_BinarySearchFunc_strip_int (x_ : (List RegionStrip)) (target_ : Int) (cmp_ : (RegionStrip → Int → Option (Int))) : Option (Int × Bool) :=
 (iterL (slices_BinarySearchFunc_strip_int_L0 x_ target_ cmp_) (x_.length + 1) (0, (x_.length : Int))).bind fun f1 => match f1 with
  | .go _ => none
  | .ex _ s1 =>
   (if (decide (s1.1 < (x_.length : Int))) then
    (getI x_ s1.1).bind fun x1 =>
    (cmp_ x1 target_).bind fun x2 =>
    some (x2 == 0)
   else
    some false).bind fun x3 =>
   some (s1.1, x3)
  | .ret r1 => some r1
theorem slices_BinarySearchFunc_strip_int_ok {k0 : K} {v0 v1 v2 : Value} {x_ : (List RegionStrip)} {target_ : Int} {cmp_ : (RegionStrip → Int → Option (Int))} {r : Int × Bool} (i0 : (IsV x_) v0 k0) (i1 : (IsV target_) v1 k0) (i2 : (IsFn2 Tryd.prog cmp_) v2 k0) (hr : slices_BinarySearchFunc_strip_int x_ target_ cmp_ = some r) :
  Calls Tryd.prog 60 #[v0, v1, v2] k0.w (Ret k0 (IsTup2 (IsV r.1) (IsV r.2))) := by
 unfold slices_BinarySearchFunc_strip_int at hr
 refine Ret.ofC ?_
 refine enterK Tryd.func60 rfl Tryd.ntmps60 (show 3 ≤ 49 by decide) fun a k hk0 hs hd ha => ?_
 obtain ⟨e0, e1, e2, _⟩ := ha
 replace i0 : (IsV x_) (a.get 0) k := by rw [e0, hk0]; exact i0
 replace i1 : (IsV target_) (a.get 1) k := by rw [e1, hk0]; exact i1
 replace i2 : (IsFn2 Tryd.prog cmp_) (a.get 2) k := by rw [e2, hk0]; exact i2
 have hQ : Gb.LetsOut (bodyPost Tryd.prog Tryd.f60 (RetC noF k0 (IsTup2 (IsV r.1) (IsV r.2)))) := letsOutC
 have hg : Chg noF k0 k := by rw [hk0]; exact Chg.refl _ k0
 refine stepL 2 (⟨some (IsI 0), []⟩ :: ⟨some (IsV false), []⟩ :: []) rfl ⟨hg, hs, hd⟩ (by kernel_rfl) ⟨aI rfl rfl, ob1 rfl fun _ _ h n => ok_assign rfl (isV_bool.2 rfl), trivial⟩ [⟨_, _⟩, ⟨_, _⟩, ⟨_, _⟩] (fun b q p => ⟨p.ke 0 rfl i0, p.ke 1 rfl i1, p.ke 2 rfl i2, trivial⟩) ?_
 rintro a k ⟨⟨hg, hs, hd⟩, i0, i1, i2, _⟩
 refine stepL 3 (_ :: _ :: _ :: []) rfl ⟨hg, hs, hd⟩ (by kernel_rfl) ⟨mu rfl i0, o1 [(12, some 0)] rfl fun _ _ h n => ok_len rfl rfl Tryd.underlying79 (IsV.rd n.1), cp 1 rfl rfl, trivial⟩ [⟨_, _⟩, ⟨_, _⟩, ⟨_, _⟩, ⟨_, _⟩] (fun b q p => ⟨p.ke 0 rfl i0, p.ke 1 rfl i1, p.ke 2 rfl i2, p.ou 2 8 rfl, trivial⟩) ?_
 rintro a k ⟨⟨hg, hs, hd⟩, i0, i1, i2, i8, _⟩
 refine stepL 3 (_ :: ⟨some (IsI 0), []⟩ :: _ :: []) rfl ⟨hg, hs, hd⟩ (by kernel_rfl) ⟨mu rfl i8, aI rfl rfl, cp 0 rfl rfl, trivial⟩ [⟨_, _⟩, ⟨_, _⟩, ⟨_, _⟩, ⟨_, _⟩, ⟨_, _⟩, ⟨_, _⟩] (fun b q p => ⟨p.ke 0 rfl i0, p.ke 1 rfl i1, p.ke 2 rfl i2, p.ke 8 rfl i8, p.ou 1 9 rfl, p.ou 2 10 rfl, trivial⟩) ?_
 rintro a k ⟨⟨hg, hs, hd⟩, i0, i1, i2, i8, i9, i10, _⟩
 refine wp_seq ?_
 refine wp_block ?_
 obtain ⟨f1, hf1, hr⟩ := bind_some hr
 refine cutFe f1 (fun s' c l => Bs noF k0 49 c l ∧ IsV x_ (c.get 0) l ∧ IsV target_ (c.get 1) l ∧ IsFn2 Tryd.prog cmp_ (c.get 2) l ∧ IsL x_ (c.get 8) l ∧ IsV s'.1 (c.get 9) l ∧ IsV s'.2 (c.get 10) l ∧ True) (fun i' s' c l => (i' = 0 ∧ Bs noF k0 49 c l ∧ IsV x_ (c.get 0) l ∧ IsV target_ (c.get 1) l ∧ IsFn2 Tryd.prog cmp_ (c.get 2) l ∧ IsL x_ (c.get 8) l ∧ IsV s'.1 (c.get 9) l ∧ True)) (fun r' c l => bodyPost Tryd.prog Tryd.f60 (RetC noF k0 (IsTup2 (IsV r'.1) (IsV r'.2))) .ret c l.w) ?_ hQ ?_ ?_ ?_
 ·intro Q1 W1 hgo hex hret
  refine sim_loop ?_ _ _ _ _ _ hf1 ⟨⟨hg, hs, hd⟩, i0, i1, i2, i8, i9, i10, trivial⟩ Q1 W1 hgo hex hret
  clear hr hf1 hgo hex hret W1 hQ hg hs hd i0 i1 i10 i2 i8 i9
  intro s1 fl_ a k hr hS Q hQ hgo1085 hex1086 hret1087
  obtain ⟨⟨hg, hs, hd⟩, i0, i1, i2, i8, i9, i10, _⟩ := hS
  unfold slices_BinarySearchFunc_strip_int_L0 at hr
  refine wp_seq ?_
  refine stepL 3 (_ :: _ :: _ :: []) rfl ⟨hg, hs, hd⟩ (by kernel_rfl) ⟨mu rfl i9, mu rfl i10, o1 [(15, some 0), (16, some 1)] rfl fun _ _ h n => ok_lss rfl n.1 n.2.1, trivial⟩ [⟨_, _⟩, ⟨_, _⟩, ⟨_, _⟩, ⟨_, _⟩, ⟨_, _⟩, ⟨_, _⟩, ⟨_, _⟩] (fun b q p => ⟨p.ke 0 rfl i0, p.ke 1 rfl i1, p.ke 2 rfl i2, p.ke 8 rfl i8, p.ke 9 rfl i9, p.ke 10 rfl i10, p.ou 2 17 rfl, trivial⟩) ?_
  rintro a k ⟨⟨hg, hs, hd⟩, i0, i1, i2, i8, i9, i10, i17, _⟩
  refine wp_cond_split (isBool i17) (fun hc1105 => ?_) (fun hc1105 => ?_)
  ·rw [if_pos hc1105] at hr
   refine wp_skip ?_
   refine wp_block ?_
   refine wp_seq ?_
   obtain ⟨x1, hx1, hr⟩ := bind_some hr
   refine cut (fun a' k' => Bs noF k0 49 a' k' ∧ (IsV x_) (a'.get 0) k' ∧ (IsV target_) (a'.get 1) k' ∧ (IsFn2 Tryd.prog cmp_) (a'.get 2) k' ∧ (IsL x_) (a'.get 8) k' ∧ (IsV s1.1) (a'.get 9) k' ∧ (IsV s1.2) (a'.get 10) k' ∧ (IsI (IntKind.i64.wrap (IK.shr (IK.mk (IntKind.u64.wrap x1) : IK .u64) 1).n)) (a'.get 11) k' ∧ True) ?_ hQ ?_
   ·intro Q2 W2 w1
    refine gS 7 (_ :: _ :: _ :: ⟨some (IsV (IK.mk (IntKind.u64.wrap x1) : IK .u64)), [(20, some 2)]⟩ :: ⟨some (IsV (IK.shr (IK.mk (IntKind.u64.wrap x1) : IK .u64) 1)), [(21, some 3)]⟩ :: ⟨some (IsI (IntKind.i64.wrap (IK.shr (IK.mk (IntKind.u64.wrap x1) : IK .u64) 1).n)), [(22, some 4)]⟩ :: _ :: []) hs (by kernel_rfl) ⟨mu rfl i9, mu rfl i10, o1 [(18, some 0), (19, some 1)] rfl fun _ _ h n => ok_add rfl n.1 n.2.1 hx1, ob1 rfl fun _ _ h n => ok_conv_ik rfl (by rw [Tryd.underlying3]; rfl) Tryd.underlying93 n.1, ob1 rfl fun _ _ h n => ok_shrK rfl n.1 (by decide) (by decide), ob1 rfl fun _ _ h n => ok_conv_ki rfl (by rw [Tryd.underlying93]; rfl) Tryd.underlying3 n.1, cp 5 rfl rfl, trivial⟩ W2 fun b q p => ?_
    exact tail_done (k := q) (w1 _ _ ⟨Bs.post ⟨hg, hs, hd⟩ p, p.ke 0 rfl i0, p.ke 1 rfl i1, p.ke 2 rfl i2, p.ke 8 rfl i8, p.ke 9 rfl i9, p.ke 10 rfl i10, p.ou 6 11 rfl, trivial⟩)
   rintro a k ⟨⟨hg, hs, hd⟩, i0, i1, i2, i8, i9, i10, i11, _⟩
   refine wp_seq ?_
   obtain ⟨x2, hx2, hr⟩ := bind_some hr
   obtain ⟨x3, hx3, hr⟩ := bind_some hr
   refine cut (fun a' k' => Bs noF k0 49 a' k' ∧ (IsV x_) (a'.get 0) k' ∧ (IsV target_) (a'.get 1) k' ∧ (IsFn2 Tryd.prog cmp_) (a'.get 2) k' ∧ (IsL x_) (a'.get 8) k' ∧ (IsV s1.1) (a'.get 9) k' ∧ (IsV s1.2) (a'.get 10) k' ∧ (IsI (IntKind.i64.wrap (IK.shr (IK.mk (IntKind.u64.wrap x1) : IK .u64) 1).n)) (a'.get 11) k' ∧ (IsV (decide (x3 < 0))) (a'.get 31) k' ∧ True) ?_ hQ ?_
   ·intro Q3 W3 w2
    refine gS 8 (_ :: _ :: _ :: _ :: _ :: _ :: ⟨some (IsV x3), [(24, some 0), (28, some 4), (29, some 5)]⟩ :: _ :: []) hs (by kernel_rfl) ⟨mu rfl i2, mu rfl i0, mu rfl i11, o1 [(25, some 1), (26, some 2)] rfl fun _ _ h n => ok_indexAddr rfl Tryd.underlying79 ty87 (IsV.rd n.1) n.2.1 hx2, o1 [(27, some 3)] rfl fun _ _ h n => ok_load rfl ty87 n.1, mu rfl i1, ob1 rfl fun _ _ h n => ok_callF2 rfl n.1 n.2.1 n.2.2.1 hx3, o1 [(30, some 6)] rfl fun _ _ h n => ok_lss rfl n.1 (cI rfl), trivial⟩ W3 fun b q p => ?_
    exact tail_done (k := q) (w2 _ _ ⟨Bs.post ⟨hg, hs, hd⟩ p, p.ke 0 rfl i0, p.ke 1 rfl i1, p.ke 2 rfl i2, p.ke 8 rfl i8, p.ke 9 rfl i9, p.ke 10 rfl i10, p.ke 11 rfl i11, p.ou 7 31 rfl, trivial⟩)
   rintro a k ⟨⟨hg, hs, hd⟩, i0, i1, i2, i8, i9, i10, i11, i31, _⟩
   obtain ⟨s2, hs2, hr⟩ := bind_some hr
   refine cut (fun a' k' => Bs noF k0 49 a' k' ∧ (IsV x_) (a'.get 0) k' ∧ (IsV target_) (a'.get 1) k' ∧ (IsFn2 Tryd.prog cmp_) (a'.get 2) k' ∧ (IsL x_) (a'.get 8) k' ∧ (IsV s2.1) (a'.get 9) k' ∧ (IsV s2.2) (a'.get 10) k' ∧ True) ?_ hQ ?_
   ·intro Q4 W4 w3
    replace hr := hs2
    clear hQ
    have hQ := W4
    refine wp_cond_split (isBool i31) (fun hc1099 => ?_) (fun hc1099 => ?_)
    ·rw [if_pos hc1099] at hr
     obtain ⟨x4, hx4, hr⟩ := bind_some hr
     refine cut (fun a' k' => Bs noF k0 49 a' k' ∧ (IsV x_) (a'.get 0) k' ∧ (IsV target_) (a'.get 1) k' ∧ (IsFn2 Tryd.prog cmp_) (a'.get 2) k' ∧ (IsL x_) (a'.get 8) k' ∧ (IsV x4) (a'.get 9) k' ∧ (IsV s1.2) (a'.get 10) k' ∧ True) ?_ hQ ?_
     ·intro Q5 W5 w4
      refine gS 3 (_ :: _ :: _ :: []) hs (by kernel_rfl) ⟨mu rfl i11, o1 [(32, some 0)] rfl fun _ _ h n => ok_add rfl n.1 (cI rfl) hx4, cp 1 rfl rfl, trivial⟩ W5 fun b q p => ?_
      exact tail_done (k := q) (w4 _ _ ⟨Bs.post ⟨hg, hs, hd⟩ p, p.ke 0 rfl i0, p.ke 1 rfl i1, p.ke 2 rfl i2, p.ke 8 rfl i8, p.ou 2 9 rfl, p.ke 10 rfl i10, trivial⟩)
     rintro a k ⟨⟨hg, hs, hd⟩, i0, i1, i2, i8, i9, i10, _⟩
     obtain rfl := Option.some.inj hr
     exact w3 _ _ ⟨⟨hg, hs, hd⟩, i0, i1, i2, i8, i9, i10, trivial⟩
    rw [if_neg (by rw [hc1099]; decide)] at hr
    refine cut (fun a' k' => Bs noF k0 49 a' k' ∧ (IsV x_) (a'.get 0) k' ∧ (IsV target_) (a'.get 1) k' ∧ (IsFn2 Tryd.prog cmp_) (a'.get 2) k' ∧ (IsL x_) (a'.get 8) k' ∧ (IsV s1.1) (a'.get 9) k' ∧ (IsI (IntKind.i64.wrap (IK.shr (IK.mk (IntKind.u64.wrap x1) : IK .u64) 1).n)) (a'.get 10) k' ∧ True) ?_ hQ ?_
    ·intro Q6 W6 w5
     refine gS 2 (_ :: _ :: []) hs (by kernel_rfl) ⟨mu rfl i11, cp 0 rfl rfl, trivial⟩ W6 fun b q p => ?_
     exact tail_done (k := q) (w5 _ _ ⟨Bs.post ⟨hg, hs, hd⟩ p, p.ke 0 rfl i0, p.ke 1 rfl i1, p.ke 2 rfl i2, p.ke 8 rfl i8, p.ke 9 rfl i9, p.ou 1 10 rfl, trivial⟩)
    rintro a k ⟨⟨hg, hs, hd⟩, i0, i1, i2, i8, i9, i10, _⟩
    obtain rfl := Option.some.inj hr
    exact w3 _ _ ⟨⟨hg, hs, hd⟩, i0, i1, i2, i8, i9, i10, trivial⟩
   clear hs2
   rintro a k ⟨⟨hg, hs, hd⟩, i0, i1, i2, i8, i9, i10, _⟩
   exact hgo1085 _ _ _ (Option.some.inj hr).symm ⟨⟨hg, hs, hd⟩, i0, i1, i2, i8, i9, i10, trivial⟩
  rw [if_neg (by rw [hc1105]; decide)] at hr
  refine wp_exit ?_
  exact hex1086 _ _ _ _ (Option.some.inj hr).symm ⟨rfl, ⟨hg, hs, hd⟩, i0, i1, i2, i8, i9, trivial⟩
 ·rintro r1 a k rfl hR
  dsimp only at hr
  obtain rfl := Option.some.inj hr
  exact hR
 ·rintro _ _ _ rfl _
  simp at hr
 clear hf1
 rintro _ s3 a k rfl ⟨rfl, ⟨hg, hs, hd⟩, i0, i1, i2, i8, i9, _⟩
 dsimp only at hr
 refine wp_seq ?_
 obtain ⟨x5, hx5, hr⟩ := bind_some hr
 obtain ⟨x6, hx6, hx5⟩ := ite_bind hx5
 obtain ⟨x7, hx7, hx5⟩ := ite_bind hx5
 refine cut (fun a' k' => Bs noF k0 49 a' k' ∧ (IsV s3.1) (a'.get 6) k' ∧ (IsV x5) (a'.get 7) k' ∧ True) ?_ hQ ?_
 ·intro Q7 W7 w6
  refine gS 16 (_ :: _ :: _ :: _ :: _ :: _ :: _ :: _ :: _ :: _ :: _ :: ⟨some (Gd ((decide (s3.1 < (x_.length : Int))) = true) (IsV x7)), [(40, some 5), (44, some 9), (45, some 10)]⟩ :: _ :: _ :: _ :: _ :: []) hs (by kernel_rfl) ⟨mu rfl i9, mu rfl i9, mu rfl i8, o1 [(36, some 1), (37, some 2)] rfl fun _ _ h n => ok_lss rfl n.1 n.2.1, cm 3 rfl rfl, mT rfl rfl i2, mT rfl rfl i0, mT rfl rfl i9, gT [(41, some 6), (42, some 7)] rfl rfl fun hp _ _ h n => ok_indexAddr rfl Tryd.underlying79 ty87 (IsV.rd (Gd.get n.1 hp)) (Gd.get n.2.1 hp) (hx6 hp), gT [(43, some 8)] rfl rfl fun hp _ _ h n => ok_load rfl ty87 (Gd.get n.1 hp), mT rfl rfl i1, gdT rfl rfl fun hp _ _ h n => ok_callF2 rfl (Gd.get n.1 hp) (Gd.get n.2.1 hp) (Gd.get n.2.2.1 hp) (hx7 hp), gT [(46, some 11)] rfl rfl fun hp _ _ h n => ok_eqI rfl (Gd.get n.1 hp) (cI rfl), o1 [(39, some 4), (47, some 12)] rfl fun _ _ h n => ok_pickM rfl n.1 hx5 (Gd.get n.2.1) (cB rfl), cp 0 rfl rfl, cp 13 rfl rfl, trivial⟩ W7 fun b q p => ?_
  exact tail_done (k := q) (w6 _ _ ⟨Bs.post ⟨hg, hs, hd⟩ p, p.ou 14 6 rfl, p.ou 15 7 rfl, trivial⟩)
 rintro a k ⟨⟨hg, hs, hd⟩, i6, i7, _⟩
 refine wp_ret ?_
 obtain rfl := Option.some.inj hr
 exact retC2 rfl hd hg i6 i7
def region_at_1 (s_ : RegionStrip) (x_ : Int) : Option (Int) :=
 if (decide (s_.x1 ≤ x_)) then
  some (-1)
 else
  some 1
noncomputable def k61 := mk 61 [.st 2, .int] [.int] (fun x => region_at_1 x.1 x.2) [] [] Tryd.f61 (.n) Tryd.func61 Tryd.call61 rfl rfl fun x => by kernel_rfl
theorem region_at_1_ok {k0 : K} {v0 v1 : Value} {x0 : RegionStrip} {x1 : Int} {r : Int} (i0 : IsV x0 v0 k0) (i1 : IsV x1 v1 k0) (hr : region_at_1 x0 x1 = some r) : Calls Tryd.prog 61 #[v0, v1] k0.w (Ret k0 (IsV r)) := (k61.ok.ok k0 [v0, v1] (x0, x1) r (GOk.none fun _ => rfl) ⟨i0, i1⟩ hr)
def region_at (l_ : (List RegionStrip)) (x_ : Int) : Option ((List RegionSpan)) :=
 (slices_BinarySearchFunc_strip_int l_ x_ region_at_1).bind fun x1 =>
 (if (decide (x1.1 < (l_.length : Int))) then
  (getI l_ x1.1).bind fun x2 =>
  some (decide (x2.x0 ≤ x_))
 else
  some false).bind fun x3 =>
 if x3 then
  (getI l_ x1.1).bind fun x4 =>
  some x4.column
 else
  some ([] : List RegionSpan)
theorem region_at_ok {k0 : K} {v0 v1 : Value} {l_ : (List RegionStrip)} {x_ : Int} {r : (List RegionSpan)} (i0 : (IsV l_) v0 k0) (i1 : (IsV x_) v1 k0) (hr : region_at l_ x_ = some r) :
  Calls Tryd.prog 50 #[v0, v1] k0.w (Ret k0 (IsV r)) := by
 unfold region_at at hr
 refine Ret.ofC ?_
 refine enterK Tryd.func50 rfl Tryd.ntmps50 (show 2 ≤ 31 by decide) fun a k hk0 hs hd ha => ?_
 obtain ⟨e0, e1, _⟩ := ha
 replace i0 : (IsV l_) (a.get 0) k := by rw [e0, hk0]; exact i0
 replace i1 : (IsV x_) (a.get 1) k := by rw [e1, hk0]; exact i1
 have hQ : Gb.LetsOut (bodyPost Tryd.prog Tryd.f50 (RetC noF k0 (IsV r))) := letsOutC
 have hg : Chg noF k0 k := by rw [hk0]; exact Chg.refl _ k0
 refine stepL 1 (⟨some IsE0, []⟩ :: []) rfl ⟨hg, hs, hd⟩ (by kernel_rfl) ⟨ob1 rfl fun b q h n => ok_assign rfl isE0_nil, trivial⟩ [⟨_, _⟩, ⟨_, _⟩] (fun b q p => ⟨p.ke 0 rfl i0, p.ke 1 rfl i1, trivial⟩) ?_
 rintro a k ⟨⟨hg, hs, hd⟩, i0, i1, _⟩
 refine wp_seq ?_
 obtain ⟨x1, hx1, hr⟩ := bind_some hr
 refine cut (fun a' k' => Bs noF k0 31 a' k' ∧ (IsV l_) (a'.get 0) k' ∧ (IsV x_) (a'.get 1) k' ∧ (IsV x1.1) (a'.get 5) k' ∧ True) ?_ hQ ?_
 ·intro Q1 W1 w1
  refine gS 8 (_ :: _ :: _ :: _ :: _ :: _ :: _ :: _ :: []) hs (by kernel_rfl) ⟨mu rfl i0, mu rfl i1, o1 [(8, some 0), (9, some 1)] rfl fun _ _ h n => ok_call rfl Tryd.call60 (slices_BinarySearchFunc_strip_int_ok n.1 n.2.1 ⟨61, _, _, rfl, Tryd.call61, fun k9 hk9 _ _ _ _ _ hx0 hx1 hy9 => by simpa [evalT] using region_at_1_ok hx0 hx1 hy9⟩ hx1), cm 2 rfl rfl, o1 [(7, some 3)] rfl fun _ _ h n => ok_ext2_0 rfl n.1, o1 [(7, some 3)] rfl fun _ _ h n => ok_ext2_1 rfl n.1, cp 4 rfl rfl, cp 5 rfl rfl, trivial⟩ W1 fun b q p => ?_
  exact tail_done (k := q) (w1 _ _ ⟨Bs.post ⟨hg, hs, hd⟩ p, p.ke 0 rfl i0, p.ke 1 rfl i1, p.ou 6 5 rfl, trivial⟩)
 rintro a k ⟨⟨hg, hs, hd⟩, i0, i1, i5, _⟩
 refine wp_seq ?_
 refine wp_seq ?_
 obtain ⟨x2, hx2, hr⟩ := bind_some hr
 obtain ⟨x3, hx3, hx2⟩ := ite_bind hx2
 refine cut (fun a' k' => Bs noF k0 31 a' k' ∧ (IsV l_) (a'.get 0) k' ∧ (IsV x1.1) (a'.get 5) k' ∧ (IsV x2) (a'.get 25) k' ∧ True) ?_ hQ ?_
 ·intro Q2 W2 w2
  refine gS 13 (_ :: _ :: _ :: _ :: _ :: _ :: _ :: _ :: _ :: _ :: _ :: _ :: _ :: []) hs (by kernel_rfl) ⟨mu rfl i5, mu rfl i0, o1 [(14, some 1)] rfl fun _ _ h n => ok_len rfl rfl Tryd.underlying79 (IsV.rd n.1), o1 [(13, some 0), (15, some 2)] rfl fun _ _ h n => ok_lss rfl n.1 n.2.1, cm 3 rfl rfl, mT rfl rfl i0, mT rfl rfl i5, gT [(18, some 5), (19, some 6)] rfl rfl fun hp _ _ h n => ok_indexAddr rfl Tryd.underlying79 ty87 (IsV.rd (Gd.get n.1 hp)) (Gd.get n.2.1 hp) (hx3 hp), gT [(20, some 7)] rfl rfl fun hp _ _ h n => ok_fieldAddr rfl fo87_0 (at_RegionStrip_0 _) (Gd.get n.1 hp), gT [(21, some 8)] rfl rfl fun hp _ _ h n => ok_load rfl ty3 (Gd.get n.1 hp), mT rfl rfl i1, gT [(22, some 9), (23, some 10)] rfl rfl fun hp _ _ h n => ok_leq rfl (Gd.get n.1 hp) (Gd.get n.2.1 hp), o1 [(17, some 4), (24, some 11)] rfl fun _ _ h n => ok_pickM rfl n.1 hx2 (Gd.get n.2.1) (cB rfl), trivial⟩ W2 fun b q p => ?_
  exact tail_done (k := q) (w2 _ _ ⟨Bs.post ⟨hg, hs, hd⟩ p, p.ke 0 rfl i0, p.ke 5 rfl i5, p.ou 12 25 rfl, trivial⟩)
 rintro a k ⟨⟨hg, hs, hd⟩, i0, i5, i25, _⟩
 refine wp_cond_split (isBool i25) (fun hc1143 => ?_) (fun hc1143 => ?_)
 ·rw [if_pos hc1143] at hr
  refine wp_seq ?_
  obtain ⟨x4, hx4, hr⟩ := bind_some hr
  refine cut (fun a' k' => Bs noF k0 31 a' k' ∧ (IsV x4.column) (a'.get 4) k' ∧ True) ?_ hQ ?_
  ·intro Q3 W3 w3
   refine gS 6 (_ :: _ :: _ :: _ :: _ :: _ :: []) hs (by kernel_rfl) ⟨mu rfl i0, mu rfl i5, o1 [(26, some 0), (27, some 1)] rfl fun _ _ h n => ok_indexAddr rfl Tryd.underlying79 ty87 (IsV.rd n.1) n.2.1 hx4, o1 [(28, some 2)] rfl fun _ _ h n => ok_fieldAddr rfl fo87_2 (at_RegionStrip_2 _) n.1, o1 [(29, some 3)] rfl fun _ _ h n => ok_load rfl ty85 n.1, cp 4 rfl rfl, trivial⟩ W3 fun b q p => ?_
   exact tail_done (k := q) (w3 _ _ ⟨Bs.post ⟨hg, hs, hd⟩ p, p.ou 5 4 rfl, trivial⟩)
  rintro a k ⟨⟨hg, hs, hd⟩, i4, _⟩
  refine wp_ret ?_
  obtain rfl := Option.some.inj hr
  exact retC1 rfl hd hg i4
 rw [if_neg (by rw [hc1143]; decide)] at hr
 refine wp_skip ?_
 refine cutL noF k0 31 [⟨4, IsV ([] : List RegionSpan)⟩] ?_ ?_
 ·intro Q4 W4 w4
  refine gS 1 (⟨some IsE0, []⟩ :: []) hs (by kernel_rfl) ⟨ob1 rfl fun b q h n => ok_assign rfl isE0_nil, trivial⟩ W4 fun b q p => ?_
  have hgq := hg.then p.grow
  have hsb := p.size.trans hs
  have hdb := p.defers.trans hd
  have j4 : IsE0 (b.get 4) q := p.ou 0 4 rfl
  replace j4 : IsV ([] : List RegionSpan) (b.get 4) q := j4.isV
  exact tail_done (k := q) (w4 _ _ ⟨⟨hgq, hsb, hdb⟩, j4, trivial⟩)
 rintro a k ⟨⟨hg, hs, hd⟩, i4, _⟩
 refine wp_ret ?_
 obtain rfl := Option.some.inj hr
 exact retC1 rfl hd hg i4
section
open Go.Proofs Go.RowKit Go.Lib Go.Sort Go.Shelf
def Tryd.growL77_ren : Go.Shelf.Ren := ⟨fun | 4 => 77 | n => n, fun | 22 => 85 | 25 => 96 | 3 => 3 | 4 => 4 | 9 => 9 | 20 => 20 | 0 => 0 | 2 => 3 | n => n, fun | n => n⟩
theorem Tryd.growL77 : Go.Proofs.Lays8.n4 Tryd.prog Tryd.growL77_ren := {
 mixed := by kernel_rfl,
 f4 := ⟨Tryd.f77.name, by decide, Tryd.func77.trans (congrArg some (by kernel_rfl))⟩,
 t0 := Tryd.underlying0,
 a0 := Tryd.isAgg0,
 z0 := Tryd.sizeOf0,
 v0 := Tryd.zeroValue0,
 t3 := Tryd.underlying3,
 a3 := Tryd.isAgg3,
 z3 := Tryd.sizeOf3,
 v3 := Tryd.zeroValue3,
 t4 := Tryd.underlying4,
 a4 := Tryd.isAgg4,
 z4 := Tryd.sizeOf4,
 v4 := Tryd.zeroValue4,
 t9 := Tryd.underlying9,
 a9 := Tryd.isAgg9,
 z9 := Tryd.sizeOf9,
 v9 := Tryd.zeroValue9,
 t20 := Tryd.underlying20,
 a20 := Tryd.isAgg20,
 z20 := Tryd.sizeOf20,
 v20 := Tryd.zeroValue20,
 t22 := Tryd.underlying85,
 a22 := Tryd.isAgg85,
 z22 := Tryd.sizeOf85,
 v22 := Tryd.zeroValue85 }
theorem slices_Grow_span_okO {k0 : K} {v0 v1 : Value} {n : Int} {r : List RegionSpan} (i0 : v0 = .slice none 0 0) (i1 : IsV n v1 k0) (hr : growI RegionSpan n = some r) : Calls Tryd.prog 77 #[v0, v1] k0.w (Ret k0 (IsOwn k0.w.heap.size 96 r)) := by
 refine grow_own eo96 i0 i1 hr ?_ fun m i z h0 hm hi hz hs hb => ?_
 ·have hcon := Any8.slices_Grow_room Tryd.growL77 none 0 0 0 k0.w (by omega) (by omega) (by omega) (by omega)
  change Calls Tryd.prog 77 _ _ _ at hcon
  exact hcon
 ·have hcon := Any8.slices_Grow_grow Tryd.growL77 i z hi hz hs none 0 0 m [] k0.w (by omega) (by omega) (by
   have : (0 + m) * i.bytes ≤ 1073741824 * 65536 := Nat.mul_le_mul (by omega) hb
   omega) (by omega) (by simp) (fun _ => rfl) (fun a h => by simp at h)
  change Calls Tryd.prog 77 _ _ _ at hcon
  exact hcon
end
def slices_Concat_span_L0 (slices_ : (List (List RegionSpan))) (s1 : Int × Int) : Option (Flow (Int × Int) ((List RegionSpan))) :=
 if (decide (s1.2 < (slices_.length : Int))) then
  (getI slices_ s1.2).bind fun x1 =>
  (addI s1.1 (x1.length : Int)).bind fun x2 =>
  if (decide (x2 < 0)) then
   none
  else
   (addI s1.2 1).bind fun x3 =>
   some (.go (x2, x3))
 else
  some (.ex 0 (s1.1, s1.2))
def slices_Concat_span_L1 (slices_ : (List (List RegionSpan))) (s1 : (List RegionSpan) × Int) : Option (Flow ((List RegionSpan) × Int) ((List RegionSpan))) :=
 if (decide (s1.2 < (slices_.length : Int))) then
  (getI slices_ s1.2).bind fun x1 =>
  (appI s1.1 x1).bind fun x2 =>
  (addI s1.2 1).bind fun x3 =>
  some (.go (x2, x3))
 else
  some (.ex 2 (s1.1, s1.2))
def slices_Concat_span (slices_ : (List (List RegionSpan))) : Option ((List RegionSpan)) :=
 (iterL (slices_Concat_span_L0 slices_) (slices_.length + 1) (0, 0)).bind fun f1 => match f1 with
  | .go _ => none
  | .ex _ s1 =>
   (growI RegionSpan s1.1).bind fun x1 =>
   (iterL (slices_Concat_span_L1 slices_) (slices_.length + 1) (x1, 0)).bind fun f2 => match f2 with
    | .go _ => none
    | .ex _ s2 =>
     some s2.1
    | .ret r1 => some r1
  | .ret r2 => some r2
theorem slices_Concat_span_okO {k0 : K} {v0 : Value} {slices_ : (List (List RegionSpan))} {r : (List RegionSpan)} (i0 : (IsV slices_) v0 k0) (hr : slices_Concat_span slices_ = some r) :
  Calls Tryd.prog 58 #[v0] k0.w (Ret k0 (IsOwn k0.w.heap.size 96 r)) := by
 unfold slices_Concat_span at hr
 refine Ret.ofC ?_
 refine enterK Tryd.func58 rfl Tryd.ntmps58 (show 1 ≤ 36 by decide) fun a k hk0 hs hd ha => ?_
 obtain ⟨e0, _⟩ := ha
 replace i0 : (IsV slices_) (a.get 0) k := by rw [e0, hk0]; exact i0
 have hQ : Gb.LetsOut (bodyPost Tryd.prog Tryd.f58 (RetC noF k0 (IsOwn k0.w.heap.size 96 r))) := letsOutC
 have hg : Chg noF k0 k := by rw [hk0]; exact Chg.refl _ k0
 refine stepL 1 (⟨some IsE0, []⟩ :: []) rfl ⟨hg, hs, hd⟩ (by kernel_rfl) ⟨ob1 rfl fun b q h n => ok_assign rfl isE0_nil, trivial⟩ [⟨_, _⟩] (fun b q p => ⟨p.ke 0 rfl i0, trivial⟩) ?_
 rintro a k ⟨⟨hg, hs, hd⟩, i0, _⟩
 refine stepL 1 (⟨some (IsI 0), []⟩ :: []) rfl ⟨hg, hs, hd⟩ (by kernel_rfl) ⟨aI rfl rfl, trivial⟩ [⟨_, _⟩, ⟨_, _⟩] (fun b q p => ⟨p.ke 0 rfl i0, p.ou 0 3 rfl, trivial⟩) ?_
 rintro a k ⟨⟨hg, hs, hd⟩, i0, i3, _⟩
 refine wp_seq ?_
 refine stepL 3 (_ :: _ :: ⟨some (IsI 0), []⟩ :: []) rfl ⟨hg, hs, hd⟩ (by kernel_rfl) ⟨mu rfl i0, o1 [(9, some 0)] rfl fun _ _ h n => ok_len rfl rfl Tryd.underlying121 (IsV.rd n.1), ob1 rfl fun _ _ h n => ok_move rfl (cI rfl), trivial⟩ [⟨_, _⟩, ⟨_, _⟩, ⟨_, _⟩, ⟨_, _⟩, ⟨_, _⟩] (fun b q p => ⟨p.ke 0 rfl i0, p.ke 3 rfl i3, p.ou 0 9 rfl, p.ou 1 10 rfl, p.ou 2 11 rfl, trivial⟩) ?_
 rintro a k ⟨⟨hg, hs, hd⟩, i0, i3, i9, i10, i11, _⟩
 refine wp_block ?_
 obtain ⟨f1, hf1, hr⟩ := bind_some hr
 refine cutFe f1 (fun s' c l => Bs noF k0 36 c l ∧ IsV slices_ (c.get 0) l ∧ IsV s'.1 (c.get 3) l ∧ IsV slices_ (c.get 9) l ∧ IsL slices_ (c.get 10) l ∧ IsV s'.2 (c.get 11) l ∧ True) (fun i' s' c l => (i' = 0 ∧ Bs noF k0 36 c l ∧ IsV slices_ (c.get 0) l ∧ IsV s'.1 (c.get 3) l ∧ True)) (fun r' c l => bodyPost Tryd.prog Tryd.f58 (RetC noF k0 (IsOwn k0.w.heap.size 96 r')) .ret c l.w) ?_ hQ ?_ ?_ ?_
 ·intro Q1 W1 hgo hex hret
  refine sim_loop ?_ _ _ _ _ _ hf1 ⟨⟨hg, hs, hd⟩, i0, i3, i9, i10, i11, trivial⟩ Q1 W1 hgo hex hret
  clear hr hf1 hgo hex hret W1 hQ hg hs hd i0 i10 i11 i3 i9
  intro s1 fl_ a k hr hS Q hQ hgo1154 hex1155 hret1156
  obtain ⟨⟨hg, hs, hd⟩, i0, i3, i9, i10, i11, _⟩ := hS
  unfold slices_Concat_span_L0 at hr
  refine stepL 1 (_ :: []) rfl ⟨hg, hs, hd⟩ (by kernel_rfl) ⟨o1 [(11, none), (10, none)] rfl fun _ _ h n => ok_lss rfl (up i11 h n.1) (up i10 h n.2.1), trivial⟩ [⟨_, _⟩, ⟨_, _⟩, ⟨_, _⟩, ⟨_, _⟩, ⟨_, _⟩, ⟨_, _⟩] (fun b q p => ⟨p.ke 0 rfl i0, p.ke 3 rfl i3, p.ke 9 rfl i9, p.ke 10 rfl i10, p.ke 11 rfl i11, p.ou 0 12 rfl, trivial⟩) ?_
  rintro a k ⟨⟨hg, hs, hd⟩, i0, i3, i9, i10, i11, i12, _⟩
  refine wp_seq ?_
  refine wp_cond_split (isBool i12) (fun hc1171 => ?_) (fun hc1171 => ?_)
  ·rw [if_pos hc1171] at hr
   refine wp_skip ?_
   refine wp_seq ?_
   refine wp_block ?_
   refine wp_seq ?_
   obtain ⟨x1, hx1, hr⟩ := bind_some hr
   refine cut (fun a' k' => Bs noF k0 36 a' k' ∧ (IsV slices_) (a'.get 0) k' ∧ (IsV s1.1) (a'.get 3) k' ∧ (IsV x1) (a'.get 5) k' ∧ (IsV slices_) (a'.get 9) k' ∧ (IsL slices_) (a'.get 10) k' ∧ (IsV s1.2) (a'.get 11) k' ∧ True) ?_ hQ ?_
   ·intro Q2 W2 w1
    refine gS 3 (_ :: _ :: _ :: []) hs (by kernel_rfl) ⟨o1 [(9, none), (11, none)] rfl fun _ _ h n => ok_indexAddr rfl Tryd.underlying121 ty85 (IsV.rd (up i9 h n.1)) (up i11 h n.2.1) hx1, o1 [(13, some 0)] rfl fun _ _ h n => ok_load rfl ty85 n.1, cp 1 rfl rfl, trivial⟩ W2 fun b q p => ?_
    exact tail_done (k := q) (w1 _ _ ⟨Bs.post ⟨hg, hs, hd⟩ p, p.ke 0 rfl i0, p.ke 3 rfl i3, p.ou 2 5 rfl, p.ke 9 rfl i9, p.ke 10 rfl i10, p.ke 11 rfl i11, trivial⟩)
   rintro a k ⟨⟨hg, hs, hd⟩, i0, i3, i5, i9, i10, i11, _⟩
   refine wp_seq ?_
   obtain ⟨x2, hx2, hr⟩ := bind_some hr
   refine cut (fun a' k' => Bs noF k0 36 a' k' ∧ (IsV slices_) (a'.get 0) k' ∧ (IsV x2) (a'.get 3) k' ∧ (IsV slices_) (a'.get 9) k' ∧ (IsL slices_) (a'.get 10) k' ∧ (IsV s1.2) (a'.get 11) k' ∧ True) ?_ hQ ?_
   ·intro Q3 W3 w2
    refine gS 5 (_ :: _ :: _ :: _ :: _ :: []) hs (by kernel_rfl) ⟨mu rfl i3, mu rfl i5, o1 [(16, some 1)] rfl fun _ _ h n => ok_len rfl rfl Tryd.underlying85 (IsV.rd n.1), o1 [(15, some 0), (17, some 2)] rfl fun _ _ h n => ok_add rfl n.1 n.2.1 hx2, cp 3 rfl rfl, trivial⟩ W3 fun b q p => ?_
    exact tail_done (k := q) (w2 _ _ ⟨Bs.post ⟨hg, hs, hd⟩ p, p.ke 0 rfl i0, p.ou 4 3 rfl, p.ke 9 rfl i9, p.ke 10 rfl i10, p.ke 11 rfl i11, trivial⟩)
   rintro a k ⟨⟨hg, hs, hd⟩, i0, i3, i9, i10, i11, _⟩
   refine stepL 2 (_ :: _ :: []) rfl ⟨hg, hs, hd⟩ (by kernel_rfl) ⟨mu rfl i3, o1 [(19, some 0)] rfl fun _ _ h n => ok_lss rfl n.1 (cI rfl), trivial⟩ [⟨_, _⟩, ⟨_, _⟩, ⟨_, _⟩, ⟨_, _⟩, ⟨_, _⟩, ⟨_, _⟩] (fun b q p => ⟨p.ke 0 rfl i0, p.ke 3 rfl i3, p.ke 9 rfl i9, p.ke 10 rfl i10, p.ke 11 rfl i11, p.ou 1 20 rfl, trivial⟩) ?_
   rintro a k ⟨⟨hg, hs, hd⟩, i0, i3, i9, i10, i11, i20, _⟩
   refine wp_cond_split (isBool i20) (fun hc1164 => ?_) (fun hc1164 => ?_)
   ·rw [if_pos hc1164] at hr
    simp at hr
   rw [if_neg (by rw [hc1164]; decide)] at hr
   refine wp_skip ?_
   obtain ⟨x3, hx3, hr⟩ := bind_some hr
   refine cut (fun a' k' => Bs noF k0 36 a' k' ∧ (IsV slices_) (a'.get 0) k' ∧ (IsV x2) (a'.get 3) k' ∧ (IsV slices_) (a'.get 9) k' ∧ (IsL slices_) (a'.get 10) k' ∧ (IsV x3) (a'.get 11) k' ∧ True) ?_ hQ ?_
   ·intro Q4 W4 w3
    refine gS 2 (_ :: _ :: []) hs (by kernel_rfl) ⟨o1 [(11, none)] rfl fun _ _ h n => ok_add rfl (up i11 h n.1) (cI rfl) hx3, cm 0 rfl rfl, trivial⟩ W4 fun b q p => ?_
    exact tail_done (k := q) (w3 _ _ ⟨Bs.post ⟨hg, hs, hd⟩ p, p.ke 0 rfl i0, p.ke 3 rfl i3, p.ke 9 rfl i9, p.ke 10 rfl i10, p.ou 1 11 rfl, trivial⟩)
   rintro a k ⟨⟨hg, hs, hd⟩, i0, i3, i9, i10, i11, _⟩
   exact hgo1154 _ _ _ (Option.some.inj hr).symm ⟨⟨hg, hs, hd⟩, i0, i3, i9, i10, i11, trivial⟩
  rw [if_neg (by rw [hc1171]; decide)] at hr
  refine wp_exit ?_
  exact hex1155 _ _ _ _ (Option.some.inj hr).symm ⟨rfl, ⟨hg, hs, hd⟩, i0, i3, trivial⟩
 ·rintro r1 a k rfl hR
  dsimp only at hr
  obtain rfl := Option.some.inj hr
  exact hR
 ·rintro _ _ _ rfl _
  simp at hr
 clear hf1
 rintro _ s2 a k rfl ⟨rfl, ⟨hg, hs, hd⟩, i0, i3, _⟩
 dsimp only at hr
 refine wp_seq ?_
 obtain ⟨x4, hx4, hr⟩ := bind_some hr
 refine cut (fun a' k' => Bs noF k0 36 a' k' ∧ (IsV slices_) (a'.get 0) k' ∧ IsOwn 0 96 x4 (a'.get 6) k' ∧ Lo k0 (obF (a'.get 6)) ∧ True) ?_ hQ ?_
 ·intro Q5 W5 w4
  refine gS 3 (_ :: _ :: _ :: []) hs (by kernel_rfl) ⟨mu rfl i3, o1 [(23, some 0)] rfl fun _ _ h n => ok_call rfl Tryd.call77 (ret_weaken h.size (slices_Grow_span_okO rfl n.1 hx4)), cp 1 rfl rfl, trivial⟩ W5 fun b q p => ?_
  have hgq := hg.then p.grow
  have hsb := p.size.trans hs
  have hdb := p.defers.trans hd
  have j0 := p.ke 0 rfl i0
  have j6 : (IsOwn k.w.heap.size 96 x4) (b.get 6) q := p.ou 2 6 rfl
  have x6 : Lo k (obF (b.get 6)) := j6.loF
  have y6 := x6.chg hg
  replace j6 := j6.weaken (Nat.zero_le _)
  exact tail_done (k := q) (w4 _ _ ⟨⟨hgq, hsb, hdb⟩, j0, j6, y6, trivial⟩)
 rintro a k ⟨⟨hg, hs, hd⟩, i0, i6, n6, _⟩
 refine wp_seq ?_
 refine cutS (fun c l => Bs noF k0 36 c l ∧ IsOwn 0 96 x4 (c.get 6) l ∧ Lo k0 (obF (c.get 6)) ∧ IsV slices_ (c.get 25) l ∧ IsL slices_ (c.get 26) l ∧ IsI 0 (c.get 27) l ∧ True) ?_ ?_
 ·intro Q6 W6 w5
  refine gS 3 (_ :: _ :: ⟨some (IsI 0), []⟩ :: []) hs (by kernel_rfl) ⟨mu rfl i0, o1 [(25, some 0)] rfl fun _ _ h n => ok_len rfl rfl Tryd.underlying121 (IsV.rd n.1), ob1 rfl fun _ _ h n => ok_move rfl (cI rfl), trivial⟩ W6 fun b q p => ?_
  exact tail_done (k := q) (w5 _ _ ⟨Bs.post ⟨hg, hs, hd⟩ p, p.ke 6 rfl i6, (by rw [p.old 6 rfl]; exact n6), p.ou 0 25 rfl, p.ou 1 26 rfl, p.ou 2 27 rfl, trivial⟩)
 rintro a k ⟨⟨hg, hs, hd⟩, i6, n6, i25, i26, i27, _⟩
 refine wp_block ?_
 obtain ⟨f2, hf2, hr⟩ := bind_some hr
 refine cutFe f2 (fun s' c l => Bs noF k0 36 c l ∧ IsOwn 0 96 s'.1 (c.get 6) l ∧ Lo k0 (obF (c.get 6)) ∧ IsV slices_ (c.get 25) l ∧ IsL slices_ (c.get 26) l ∧ IsV s'.2 (c.get 27) l ∧ True) (fun i' s' c l => (i' = 2 ∧ Bs noF k0 36 c l ∧ IsOwn 0 96 s'.1 (c.get 6) l ∧ Lo k0 (obF (c.get 6)) ∧ True)) (fun r' c l => bodyPost Tryd.prog Tryd.f58 (RetC noF k0 (IsOwn k0.w.heap.size 96 r')) .ret c l.w) ?_ hQ ?_ ?_ ?_
 ·intro Q7 W7 hgo hex hret
  refine sim_loop ?_ _ _ _ _ _ hf2 ⟨⟨hg, hs, hd⟩, i6, n6, i25, i26, i27, trivial⟩ Q7 W7 hgo hex hret
  clear hr hf2 hgo hex hret W7 hQ hg hs hd i25 i26 i27 i6 n6
  intro s3 fl_ a k hr hS Q hQ hgo1179 hex1180 hret1181
  obtain ⟨⟨hg, hs, hd⟩, i6, n6, i25, i26, i27, _⟩ := hS
  unfold slices_Concat_span_L1 at hr
  refine cutS (fun c l => Bs noF k0 36 c l ∧ IsOwn 0 96 s3.1 (c.get 6) l ∧ Lo k0 (obF (c.get 6)) ∧ IsV slices_ (c.get 25) l ∧ IsL slices_ (c.get 26) l ∧ IsV s3.2 (c.get 27) l ∧ (IsV (decide (s3.2 < (slices_.length : Int)))) (c.get 28) l ∧ True) ?_ ?_
  ·intro Q8 W8 w6
   refine gS 1 (_ :: []) hs (by kernel_rfl) ⟨o1 [(27, none), (26, none)] rfl fun _ _ h n => ok_lss rfl (up i27 h n.1) (up i26 h n.2.1), trivial⟩ W8 fun b q p => ?_
   exact tail_done (k := q) (w6 _ _ ⟨Bs.post ⟨hg, hs, hd⟩ p, p.ke 6 rfl i6, (by rw [p.old 6 rfl]; exact n6), p.ke 25 rfl i25, p.ke 26 rfl i26, p.ke 27 rfl i27, p.ou 0 28 rfl, trivial⟩)
  rintro a k ⟨⟨hg, hs, hd⟩, i6, n6, i25, i26, i27, i28, _⟩
  refine wp_seq ?_
  refine wp_cond_split (isBool i28) (fun hc1192 => ?_) (fun hc1192 => ?_)
  ·rw [if_pos hc1192] at hr
   refine wp_skip ?_
   refine wp_seq ?_
   refine wp_block ?_
   refine wp_seq ?_
   obtain ⟨x5, hx5, hr⟩ := bind_some hr
   refine cut (fun a' k' => Bs noF k0 36 a' k' ∧ IsOwn 0 96 s3.1 (a'.get 6) k' ∧ Lo k0 (obF (a'.get 6)) ∧ (IsV x5) (a'.get 8) k' ∧ (IsV slices_) (a'.get 25) k' ∧ (IsL slices_) (a'.get 26) k' ∧ (IsV s3.2) (a'.get 27) k' ∧ True) ?_ hQ ?_
   ·intro Q9 W9 w7
    refine gS 3 (_ :: _ :: _ :: []) hs (by kernel_rfl) ⟨o1 [(25, none), (27, none)] rfl fun _ _ h n => ok_indexAddr rfl Tryd.underlying121 ty85 (IsV.rd (up i25 h n.1)) (up i27 h n.2.1) hx5, o1 [(29, some 0)] rfl fun _ _ h n => ok_load rfl ty85 n.1, cp 1 rfl rfl, trivial⟩ W9 fun b q p => ?_
    exact tail_done (k := q) (w7 _ _ ⟨Bs.post ⟨hg, hs, hd⟩ p, p.ke 6 rfl i6, (by rw [p.old 6 rfl]; exact n6), p.ou 2 8 rfl, p.ke 25 rfl i25, p.ke 26 rfl i26, p.ke 27 rfl i27, trivial⟩)
   rintro a k ⟨⟨hg, hs, hd⟩, i6, n6, i8, i25, i26, i27, _⟩
   obtain ⟨x7, hx7, hr⟩ := bind_some hr
   refine cut (fun a' k' => Bs noF k0 36 a' k' ∧ IsOwn 0 96 x7 (a'.get 6) k' ∧ Lo k0 (obF (a'.get 6)) ∧ (IsV slices_) (a'.get 25) k' ∧ (IsL slices_) (a'.get 26) k' ∧ (IsV s3.2) (a'.get 27) k' ∧ True) ?_ hQ ?_
   ·intro Q10 W10 w8
    refine gS 2 (⟨some (OwnAt (a.get 6) 0 96 s3.1), [(6, none)]⟩ :: _ :: []) hs (by kernel_rfl) ⟨ob1 rfl fun _ _ h n => ok_moveOA (.inl rfl) (ownAt n.1 (up i6 h n.1)), mu rfl i8, trivial⟩ W10 fun b q p => ?_
    have hgq := hg.then p.grow
    have hsb := p.size.trans hs
    have hdb := p.defers.trans hd
    have j25 := p.ke 25 rfl i25
    have j26 := p.ke 26 rfl i26
    have j27 := p.ke 27 rfl i27
    have e31 : b.get 31 = a.get 6 := (p.ou 0 31 rfl).1
    have j31 : IsOwn 0 96 s3.1 (b.get 31) q := (p.ou 0 31 rfl).2
    have y31 : Lo k0 (obF (b.get 31)) := by rw [e31]; exact n6
    have j32 : (IsV x5) (b.get 32) q := p.ou 1 32 rfl
    have hns := j31.nshF
    refine tail_appendS (i := 2) (d := 33) rfl rfl rfl rfl (by rw [hsb]; decide) (e := 96) Tryd.underlying85 eo96 j31 (IsV.rd j32) hx7 fun b2 q2 hsz hdf hoth hch hown hob => ?_
    have hle := hch.le hns
    have yn : Lo k0 (obF (b2.get 33)) := y31.app hgq hob
    replace j25 := Pers.pers hle j25
    replace j26 := Pers.pers hle j26
    replace j27 := Pers.pers hle j27
    replace j32 := Pers.pers hle j32
    replace hgq := hgq.step hch y31.wr
    rw [← hoth 25 (by decide)] at j25
    rw [← hoth 26 (by decide)] at j26
    rw [← hoth 27 (by decide)] at j27
    rw [← hoth 32 (by decide)] at j32
    have j33 := hown
    have y33 := yn
    replace hsb := hsz.trans hsb
    replace hdb := hdf.trans hdb
    clear hle hch hown hob hns yn hsz hdf hoth
    obtain ⟨b, hbb⟩ : ∃ b, b = b2 := ⟨b2, rfl⟩
    subst hbb
    obtain ⟨q, hqq⟩ : ∃ q, q = q2 := ⟨q2, rfl⟩
    subst hqq
    refine tail_assign (i := 3) (d := 6) rfl rfl (.inl rfl) rfl (by rw [hsb]; decide) fun b2 hsz hdf hnew hoth => ?_
    have jn : (IsOwn 0 96 x7) (b2.get 6) q := by rw [hnew]; exact j33
    have yn : Lo k0 (obF (b2.get 6)) := by rw [hnew]; exact y33
    rw [← hoth 25 (by decide)] at j25
    rw [← hoth 26 (by decide)] at j26
    rw [← hoth 27 (by decide)] at j27
    rw [← hoth 32 (by decide)] at j32
    have j6 := jn
    have y6 := yn
    replace hsb := hsz.trans hsb
    replace hdb := hdf.trans hdb
    clear hsz hdf hoth
    obtain ⟨b, hbb⟩ : ∃ b, b = b2 := ⟨b2, rfl⟩
    subst hbb
    exact tail_done (k := q) (w8 _ _ ⟨⟨hgq, hsb, hdb⟩, j6, y6, j25, j26, j27, trivial⟩)
   rintro a k ⟨⟨hg, hs, hd⟩, i6, n6, i25, i26, i27, _⟩
   obtain ⟨x8, hx8, hr⟩ := bind_some hr
   refine cut (fun a' k' => Bs noF k0 36 a' k' ∧ IsOwn 0 96 x7 (a'.get 6) k' ∧ Lo k0 (obF (a'.get 6)) ∧ (IsV slices_) (a'.get 25) k' ∧ (IsL slices_) (a'.get 26) k' ∧ (IsV x8) (a'.get 27) k' ∧ True) ?_ hQ ?_
   ·intro Q11 W11 w9
    refine gS 2 (_ :: _ :: []) hs (by kernel_rfl) ⟨o1 [(27, none)] rfl fun _ _ h n => ok_add rfl (up i27 h n.1) (cI rfl) hx8, cm 0 rfl rfl, trivial⟩ W11 fun b q p => ?_
    exact tail_done (k := q) (w9 _ _ ⟨Bs.post ⟨hg, hs, hd⟩ p, p.ke 6 rfl i6, (by rw [p.old 6 rfl]; exact n6), p.ke 25 rfl i25, p.ke 26 rfl i26, p.ou 1 27 rfl, trivial⟩)
   rintro a k ⟨⟨hg, hs, hd⟩, i6, n6, i25, i26, i27, _⟩
   exact hgo1179 _ _ _ (Option.some.inj hr).symm ⟨⟨hg, hs, hd⟩, i6, n6, i25, i26, i27, trivial⟩
  rw [if_neg (by rw [hc1192]; decide)] at hr
  refine wp_exit ?_
  exact hex1180 _ _ _ _ (Option.some.inj hr).symm ⟨rfl, ⟨hg, hs, hd⟩, i6, n6, trivial⟩
 ·rintro r2 a k rfl hR
  dsimp only at hr
  obtain rfl := Option.some.inj hr
  exact hR
 ·rintro _ _ _ rfl _
  simp at hr
 clear hf2
 rintro _ s4 a k rfl ⟨rfl, ⟨hg, hs, hd⟩, i6, n6, _⟩
 dsimp only at hr
 refine cutS (fun c l => Bs noF k0 36 c l ∧ IsOwn 0 96 s4.1 (c.get 2) l ∧ Lo k0 (obF (c.get 2)) ∧ True) ?_ ?_
 ·intro Q12 W12 w10
  refine gS 2 (⟨some (OwnAt (a.get 6) 0 96 s4.1), [(6, none)]⟩ :: ⟨some (OwnAt (a.get 6) 0 96 s4.1), [(35, some 0)]⟩ :: []) hs (by kernel_rfl) ⟨ob1 rfl fun _ _ h n => ok_moveOA (.inl rfl) (ownAt n.1 (up i6 h n.1)), ob1 rfl fun _ _ h n => ok_moveOA (.inr rfl) n.1, trivial⟩ W12 fun b q p => ?_
  have hgq := hg.then p.grow
  have hsb := p.size.trans hs
  have hdb := p.defers.trans hd
  have e2 : b.get 2 = a.get 6 := (p.ou 1 2 rfl).1
  have j2 : IsOwn 0 96 s4.1 (b.get 2) q := (p.ou 1 2 rfl).2
  have y2 : Lo k0 (obF (b.get 2)) := by rw [e2]; exact n6
  exact tail_done (k := q) (w10 _ _ ⟨⟨hgq, hsb, hdb⟩, j2, y2, trivial⟩)
 rintro a k ⟨⟨hg, hs, hd⟩, i2, n2, _⟩
 refine wp_ret ?_
 obtain rfl := Option.some.inj hr
 exact retC1 rfl hd hg (show ResOk _ _ _ (.tmp 2) _ from IsOwn.raise (k0 := k0) i2 n2)
theorem slices_Concat_span_ok {k0 : K} {v0 : Value} {slices_ : (List (List RegionSpan))} {r : (List RegionSpan)} (i0 : (IsV slices_) v0 k0) (hr : slices_Concat_span slices_ = some r) :
  Calls Tryd.prog 58 #[v0] k0.w (Ret k0 (IsV r)) :=
 ret_give (slices_Concat_span_okO i0 hr)
def slices_BinarySearchFunc_span_int_L0 (x_ : (List RegionSpan)) (target_ : Int) (cmp_ : (RegionSpan → Int → Option (Int))) (s1 : Int × Int) : Option (Flow (Int × Int) (Int × Bool)) :=
 if (decide (s1.1 < s1.2)) then
  (addI s1.1 s1.2).bind fun x1 =>
  (getI x_ (IntKind.i64.wrap (IK.shr (IK.mk (IntKind.u64.wrap x1) : IK .u64) 1).n)).bind fun x2 =>
  (cmp_ x2 target_).bind fun x3 =>
  (if (decide (x3 < 0)) then
   (addI (IntKind.i64.wrap (IK.shr (IK.mk (IntKind.u64.wrap x1) : IK .u64) 1).n) 1).bind fun x4 =>
   some (x4, s1.2)
  else
   some (s1.1, (IntKind.i64.wrap (IK.shr (IK.mk (IntKind.u64.wrap x1) : IK .u64) 1).n))).bind fun s2 =>
  some (.go (s2.1, s2.2))
 else
  some (.ex 0 (s1.1, s1.2))
def slices_BinarySearchFunc_span_int (x_ : (List RegionSpan)) (target_ : Int) (cmp_ : (RegionSpan → Int → Option (Int))) : Option (Int × Bool) :=
 (iterL (slices_BinarySearchFunc_span_int_L0 x_ target_ cmp_) (x_.length + 1) (0, (x_.length : Int))).bind fun f1 => match f1 with
  | .go _ => none
  | .ex _ s1 =>
   (if (decide (s1.1 < (x_.length : Int))) then
    (getI x_ s1.1).bind fun x1 =>
    (cmp_ x1 target_).bind fun x2 =>
    some (x2 == 0)
   else
    some false).bind fun x3 =>
   some (s1.1, x3)
  | .ret r1 => some r1
theorem slices_BinarySearchFunc_span_int_ok {k0 : K} {v0 v1 v2 : Value} {x_ : (List RegionSpan)} {target_ : Int} {cmp_ : (RegionSpan → Int → Option (Int))} {r : Int × Bool} (i0 : (IsV x_) v0 k0) (i1 : (IsV target_) v1 k0) (i2 : (IsFn2 Tryd.prog cmp_) v2 k0) (hr : slices_BinarySearchFunc_span_int x_ target_ cmp_ = some r) :
  Calls Tryd.prog 78 #[v0, v1, v2] k0.w (Ret k0 (IsTup2 (IsV r.1) (IsV r.2))) := by
 unfold slices_BinarySearchFunc_span_int at hr
 refine Ret.ofC ?_
 refine enterK Tryd.func78 rfl Tryd.ntmps78 (show 3 ≤ 49 by decide) fun a k hk0 hs hd ha => ?_
 obtain ⟨e0, e1, e2, _⟩ := ha
 replace i0 : (IsV x_) (a.get 0) k := by rw [e0, hk0]; exact i0
 replace i1 : (IsV target_) (a.get 1) k := by rw [e1, hk0]; exact i1
 replace i2 : (IsFn2 Tryd.prog cmp_) (a.get 2) k := by rw [e2, hk0]; exact i2
 have hQ : Gb.LetsOut (bodyPost Tryd.prog Tryd.f78 (RetC noF k0 (IsTup2 (IsV r.1) (IsV r.2)))) := letsOutC
 have hg : Chg noF k0 k := by rw [hk0]; exact Chg.refl _ k0
 refine stepL 2 (⟨some (IsI 0), []⟩ :: ⟨some (IsV false), []⟩ :: []) rfl ⟨hg, hs, hd⟩ (by kernel_rfl) ⟨aI rfl rfl, ob1 rfl fun _ _ h n => ok_assign rfl (isV_bool.2 rfl), trivial⟩ [⟨_, _⟩, ⟨_, _⟩, ⟨_, _⟩] (fun b q p => ⟨p.ke 0 rfl i0, p.ke 1 rfl i1, p.ke 2 rfl i2, trivial⟩) ?_
 rintro a k ⟨⟨hg, hs, hd⟩, i0, i1, i2, _⟩
 refine stepL 3 (_ :: _ :: _ :: []) rfl ⟨hg, hs, hd⟩ (by kernel_rfl) ⟨mu rfl i0, o1 [(12, some 0)] rfl fun _ _ h n => ok_len rfl rfl Tryd.underlying85 (IsV.rd n.1), cp 1 rfl rfl, trivial⟩ [⟨_, _⟩, ⟨_, _⟩, ⟨_, _⟩, ⟨_, _⟩] (fun b q p => ⟨p.ke 0 rfl i0, p.ke 1 rfl i1, p.ke 2 rfl i2, p.ou 2 8 rfl, trivial⟩) ?_
 rintro a k ⟨⟨hg, hs, hd⟩, i0, i1, i2, i8, _⟩
 refine stepL 3 (_ :: ⟨some (IsI 0), []⟩ :: _ :: []) rfl ⟨hg, hs, hd⟩ (by kernel_rfl) ⟨mu rfl i8, aI rfl rfl, cp 0 rfl rfl, trivial⟩ [⟨_, _⟩, ⟨_, _⟩, ⟨_, _⟩, ⟨_, _⟩, ⟨_, _⟩, ⟨_, _⟩] (fun b q p => ⟨p.ke 0 rfl i0, p.ke 1 rfl i1, p.ke 2 rfl i2, p.ke 8 rfl i8, p.ou 1 9 rfl, p.ou 2 10 rfl, trivial⟩) ?_
 rintro a k ⟨⟨hg, hs, hd⟩, i0, i1, i2, i8, i9, i10, _⟩
 refine wp_seq ?_
 refine wp_block ?_
 obtain ⟨f1, hf1, hr⟩ := bind_some hr
 refine cutFe f1 (fun s' c l => Bs noF k0 49 c l ∧ IsV x_ (c.get 0) l ∧ IsV target_ (c.get 1) l ∧ IsFn2 Tryd.prog cmp_ (c.get 2) l ∧ IsL x_ (c.get 8) l ∧ IsV s'.1 (c.get 9) l ∧ IsV s'.2 (c.get 10) l ∧ True) (fun i' s' c l => (i' = 0 ∧ Bs noF k0 49 c l ∧ IsV x_ (c.get 0) l ∧ IsV target_ (c.get 1) l ∧ IsFn2 Tryd.prog cmp_ (c.get 2) l ∧ IsL x_ (c.get 8) l ∧ IsV s'.1 (c.get 9) l ∧ True)) (fun r' c l => bodyPost Tryd.prog Tryd.f78 (RetC noF k0 (IsTup2 (IsV r'.1) (IsV r'.2))) .ret c l.w) ?_ hQ ?_ ?_ ?_
 ·intro Q1 W1 hgo hex hret
  refine sim_loop ?_ _ _ _ _ _ hf1 ⟨⟨hg, hs, hd⟩, i0, i1, i2, i8, i9, i10, trivial⟩ Q1 W1 hgo hex hret
  clear hr hf1 hgo hex hret W1 hQ hg hs hd i0 i1 i10 i2 i8 i9
  intro s1 fl_ a k hr hS Q hQ hgo1218 hex1219 hret1220
  obtain ⟨⟨hg, hs, hd⟩, i0, i1, i2, i8, i9, i10, _⟩ := hS
  unfold slices_BinarySearchFunc_span_int_L0 at hr
  refine wp_seq ?_
  refine stepL 3 (_ :: _ :: _ :: []) rfl ⟨hg, hs, hd⟩ (by kernel_rfl) ⟨mu rfl i9, mu rfl i10, o1 [(15, some 0), (16, some 1)] rfl fun _ _ h n => ok_lss rfl n.1 n.2.1, trivial⟩ [⟨_, _⟩, ⟨_, _⟩, ⟨_, _⟩, ⟨_, _⟩, ⟨_, _⟩, ⟨_, _⟩, ⟨_, _⟩] (fun b q p => ⟨p.ke 0 rfl i0, p.ke 1 rfl i1, p.ke 2 rfl i2, p.ke 8 rfl i8, p.ke 9 rfl i9, p.ke 10 rfl i10, p.ou 2 17 rfl, trivial⟩) ?_
  rintro a k ⟨⟨hg, hs, hd⟩, i0, i1, i2, i8, i9, i10, i17, _⟩
  refine wp_cond_split (isBool i17) (fun hc1238 => ?_) (fun hc1238 => ?_)
  ·rw [if_pos hc1238] at hr
   refine wp_skip ?_
   refine wp_block ?_
   refine wp_seq ?_
   obtain ⟨x1, hx1, hr⟩ := bind_some hr
   refine cut (fun a' k' => Bs noF k0 49 a' k' ∧ (IsV x_) (a'.get 0) k' ∧ (IsV target_) (a'.get 1) k' ∧ (IsFn2 Tryd.prog cmp_) (a'.get 2) k' ∧ (IsL x_) (a'.get 8) k' ∧ (IsV s1.1) (a'.get 9) k' ∧ (IsV s1.2) (a'.get 10) k' ∧ (IsI (IntKind.i64.wrap (IK.shr (IK.mk (IntKind.u64.wrap x1) : IK .u64) 1).n)) (a'.get 11) k' ∧ True) ?_ hQ ?_
   ·intro Q2 W2 w1
    refine gS 7 (_ :: _ :: _ :: ⟨some (IsV (IK.mk (IntKind.u64.wrap x1) : IK .u64)), [(20, some 2)]⟩ :: ⟨some (IsV (IK.shr (IK.mk (IntKind.u64.wrap x1) : IK .u64) 1)), [(21, some 3)]⟩ :: ⟨some (IsI (IntKind.i64.wrap (IK.shr (IK.mk (IntKind.u64.wrap x1) : IK .u64) 1).n)), [(22, some 4)]⟩ :: _ :: []) hs (by kernel_rfl) ⟨mu rfl i9, mu rfl i10, o1 [(18, some 0), (19, some 1)] rfl fun _ _ h n => ok_add rfl n.1 n.2.1 hx1, ob1 rfl fun _ _ h n => ok_conv_ik rfl (by rw [Tryd.underlying3]; rfl) Tryd.underlying93 n.1, ob1 rfl fun _ _ h n => ok_shrK rfl n.1 (by decide) (by decide), ob1 rfl fun _ _ h n => ok_conv_ki rfl (by rw [Tryd.underlying93]; rfl) Tryd.underlying3 n.1, cp 5 rfl rfl, trivial⟩ W2 fun b q p => ?_
    exact tail_done (k := q) (w1 _ _ ⟨Bs.post ⟨hg, hs, hd⟩ p, p.ke 0 rfl i0, p.ke 1 rfl i1, p.ke 2 rfl i2, p.ke 8 rfl i8, p.ke 9 rfl i9, p.ke 10 rfl i10, p.ou 6 11 rfl, trivial⟩)
   rintro a k ⟨⟨hg, hs, hd⟩, i0, i1, i2, i8, i9, i10, i11, _⟩
   refine wp_seq ?_
   obtain ⟨x2, hx2, hr⟩ := bind_some hr
   obtain ⟨x3, hx3, hr⟩ := bind_some hr
   refine cut (fun a' k' => Bs noF k0 49 a' k' ∧ (IsV x_) (a'.get 0) k' ∧ (IsV target_) (a'.get 1) k' ∧ (IsFn2 Tryd.prog cmp_) (a'.get 2) k' ∧ (IsL x_) (a'.get 8) k' ∧ (IsV s1.1) (a'.get 9) k' ∧ (IsV s1.2) (a'.get 10) k' ∧ (IsI (IntKind.i64.wrap (IK.shr (IK.mk (IntKind.u64.wrap x1) : IK .u64) 1).n)) (a'.get 11) k' ∧ (IsV (decide (x3 < 0))) (a'.get 31) k' ∧ True) ?_ hQ ?_
   ·intro Q3 W3 w2
    refine gS 8 (_ :: _ :: _ :: _ :: _ :: _ :: ⟨some (IsV x3), [(24, some 0), (28, some 4), (29, some 5)]⟩ :: _ :: []) hs (by kernel_rfl) ⟨mu rfl i2, mu rfl i0, mu rfl i11, o1 [(25, some 1), (26, some 2)] rfl fun _ _ h n => ok_indexAddr rfl Tryd.underlying85 ty96 (IsV.rd n.1) n.2.1 hx2, o1 [(27, some 3)] rfl fun _ _ h n => ok_load rfl ty96 n.1, mu rfl i1, ob1 rfl fun _ _ h n => ok_callF2 rfl n.1 n.2.1 n.2.2.1 hx3, o1 [(30, some 6)] rfl fun _ _ h n => ok_lss rfl n.1 (cI rfl), trivial⟩ W3 fun b q p => ?_
    exact tail_done (k := q) (w2 _ _ ⟨Bs.post ⟨hg, hs, hd⟩ p, p.ke 0 rfl i0, p.ke 1 rfl i1, p.ke 2 rfl i2, p.ke 8 rfl i8, p.ke 9 rfl i9, p.ke 10 rfl i10, p.ke 11 rfl i11, p.ou 7 31 rfl, trivial⟩)
   rintro a k ⟨⟨hg, hs, hd⟩, i0, i1, i2, i8, i9, i10, i11, i31, _⟩
   obtain ⟨s2, hs2, hr⟩ := bind_some hr
   refine cut (fun a' k' => Bs noF k0 49 a' k' ∧ (IsV x_) (a'.get 0) k' ∧ (IsV target_) (a'.get 1) k' ∧ (IsFn2 Tryd.prog cmp_) (a'.get 2) k' ∧ (IsL x_) (a'.get 8) k' ∧ (IsV s2.1) (a'.get 9) k' ∧ (IsV s2.2) (a'.get 10) k' ∧ True) ?_ hQ ?_
   ·intro Q4 W4 w3
    replace hr := hs2
    clear hQ
    have hQ := W4
    refine wp_cond_split (isBool i31) (fun hc1232 => ?_) (fun hc1232 => ?_)
    ·rw [if_pos hc1232] at hr
     obtain ⟨x4, hx4, hr⟩ := bind_some hr
     refine cut (fun a' k' => Bs noF k0 49 a' k' ∧ (IsV x_) (a'.get 0) k' ∧ (IsV target_) (a'.get 1) k' ∧ (IsFn2 Tryd.prog cmp_) (a'.get 2) k' ∧ (IsL x_) (a'.get 8) k' ∧ (IsV x4) (a'.get 9) k' ∧ (IsV s1.2) (a'.get 10) k' ∧ True) ?_ hQ ?_
     ·intro Q5 W5 w4
      refine gS 3 (_ :: _ :: _ :: []) hs (by kernel_rfl) ⟨mu rfl i11, o1 [(32, some 0)] rfl fun _ _ h n => ok_add rfl n.1 (cI rfl) hx4, cp 1 rfl rfl, trivial⟩ W5 fun b q p => ?_
      exact tail_done (k := q) (w4 _ _ ⟨Bs.post ⟨hg, hs, hd⟩ p, p.ke 0 rfl i0, p.ke 1 rfl i1, p.ke 2 rfl i2, p.ke 8 rfl i8, p.ou 2 9 rfl, p.ke 10 rfl i10, trivial⟩)
     rintro a k ⟨⟨hg, hs, hd⟩, i0, i1, i2, i8, i9, i10, _⟩
     obtain rfl := Option.some.inj hr
     exact w3 _ _ ⟨⟨hg, hs, hd⟩, i0, i1, i2, i8, i9, i10, trivial⟩
    rw [if_neg (by rw [hc1232]; decide)] at hr
    refine cut (fun a' k' => Bs noF k0 49 a' k' ∧ (IsV x_) (a'.get 0) k' ∧ (IsV target_) (a'.get 1) k' ∧ (IsFn2 Tryd.prog cmp_) (a'.get 2) k' ∧ (IsL x_) (a'.get 8) k' ∧ (IsV s1.1) (a'.get 9) k' ∧ (IsI (IntKind.i64.wrap (IK.shr (IK.mk (IntKind.u64.wrap x1) : IK .u64) 1).n)) (a'.get 10) k' ∧ True) ?_ hQ ?_
    ·intro Q6 W6 w5
     refine gS 2 (_ :: _ :: []) hs (by kernel_rfl) ⟨mu rfl i11, cp 0 rfl rfl, trivial⟩ W6 fun b q p => ?_
     exact tail_done (k := q) (w5 _ _ ⟨Bs.post ⟨hg, hs, hd⟩ p, p.ke 0 rfl i0, p.ke 1 rfl i1, p.ke 2 rfl i2, p.ke 8 rfl i8, p.ke 9 rfl i9, p.ou 1 10 rfl, trivial⟩)
    rintro a k ⟨⟨hg, hs, hd⟩, i0, i1, i2, i8, i9, i10, _⟩
    obtain rfl := Option.some.inj hr
    exact w3 _ _ ⟨⟨hg, hs, hd⟩, i0, i1, i2, i8, i9, i10, trivial⟩
   clear hs2
   rintro a k ⟨⟨hg, hs, hd⟩, i0, i1, i2, i8, i9, i10, _⟩
   exact hgo1218 _ _ _ (Option.some.inj hr).symm ⟨⟨hg, hs, hd⟩, i0, i1, i2, i8, i9, i10, trivial⟩
  rw [if_neg (by rw [hc1238]; decide)] at hr
  refine wp_exit ?_
  exact hex1219 _ _ _ _ (Option.some.inj hr).symm ⟨rfl, ⟨hg, hs, hd⟩, i0, i1, i2, i8, i9, trivial⟩
 ·rintro r1 a k rfl hR
  dsimp only at hr
  obtain rfl := Option.some.inj hr
  exact hR
 ·rintro _ _ _ rfl _
  simp at hr
 clear hf1
 rintro _ s3 a k rfl ⟨rfl, ⟨hg, hs, hd⟩, i0, i1, i2, i8, i9, _⟩
 dsimp only at hr
 refine wp_seq ?_
 obtain ⟨x5, hx5, hr⟩ := bind_some hr
 obtain ⟨x6, hx6, hx5⟩ := ite_bind hx5
 obtain ⟨x7, hx7, hx5⟩ := ite_bind hx5
 refine cut (fun a' k' => Bs noF k0 49 a' k' ∧ (IsV s3.1) (a'.get 6) k' ∧ (IsV x5) (a'.get 7) k' ∧ True) ?_ hQ ?_
 ·intro Q7 W7 w6
  refine gS 16 (_ :: _ :: _ :: _ :: _ :: _ :: _ :: _ :: _ :: _ :: _ :: ⟨some (Gd ((decide (s3.1 < (x_.length : Int))) = true) (IsV x7)), [(40, some 5), (44, some 9), (45, some 10)]⟩ :: _ :: _ :: _ :: _ :: []) hs (by kernel_rfl) ⟨mu rfl i9, mu rfl i9, mu rfl i8, o1 [(36, some 1), (37, some 2)] rfl fun _ _ h n => ok_lss rfl n.1 n.2.1, cm 3 rfl rfl, mT rfl rfl i2, mT rfl rfl i0, mT rfl rfl i9, gT [(41, some 6), (42, some 7)] rfl rfl fun hp _ _ h n => ok_indexAddr rfl Tryd.underlying85 ty96 (IsV.rd (Gd.get n.1 hp)) (Gd.get n.2.1 hp) (hx6 hp), gT [(43, some 8)] rfl rfl fun hp _ _ h n => ok_load rfl ty96 (Gd.get n.1 hp), mT rfl rfl i1, gdT rfl rfl fun hp _ _ h n => ok_callF2 rfl (Gd.get n.1 hp) (Gd.get n.2.1 hp) (Gd.get n.2.2.1 hp) (hx7 hp), gT [(46, some 11)] rfl rfl fun hp _ _ h n => ok_eqI rfl (Gd.get n.1 hp) (cI rfl), o1 [(39, some 4), (47, some 12)] rfl fun _ _ h n => ok_pickM rfl n.1 hx5 (Gd.get n.2.1) (cB rfl), cp 0 rfl rfl, cp 13 rfl rfl, trivial⟩ W7 fun b q p => ?_
  exact tail_done (k := q) (w6 _ _ ⟨Bs.post ⟨hg, hs, hd⟩ p, p.ou 14 6 rfl, p.ou 15 7 rfl, trivial⟩)
 rintro a k ⟨⟨hg, hs, hd⟩, i6, i7, _⟩
 refine wp_ret ?_
 obtain rfl := Option.some.inj hr
 exact retC2 rfl hd hg i6 i7
def region_inside_1 (s_ : RegionSpan) (y_ : Int) : Option (Int) :=
 if (decide (s_.to_ ≤ y_)) then
  some (-1)
 else
  some 1
noncomputable def k79 := mk 79 [.st 1, .int] [.int] (fun x => region_inside_1 x.1 x.2) [] [] Tryd.f79 (.n) Tryd.func79 Tryd.call79 rfl rfl fun x => by kernel_rfl
theorem region_inside_1_ok {k0 : K} {v0 v1 : Value} {x0 : RegionSpan} {x1 : Int} {r : Int} (i0 : IsV x0 v0 k0) (i1 : IsV x1 v1 k0) (hr : region_inside_1 x0 x1 = some r) : Calls Tryd.prog 79 #[v0, v1] k0.w (Ret k0 (IsV r)) := (k79.ok.ok k0 [v0, v1] (x0, x1) r (GOk.none fun _ => rfl) ⟨i0, i1⟩ hr)
def region_inside (l_ : (List RegionSpan)) (y_ : Int) : Option (Bool) :=
 (slices_BinarySearchFunc_span_int l_ y_ region_inside_1).bind fun x1 =>
 (if (decide (x1.1 < (l_.length : Int))) then
  (getI l_ x1.1).bind fun x2 =>
  some (decide (x2.from_ ≤ y_))
 else
  some false).bind fun x3 =>
 some x3
theorem region_inside_ok {k0 : K} {v0 v1 : Value} {l_ : (List RegionSpan)} {y_ : Int} {r : Bool} (i0 : (IsV l_) v0 k0) (i1 : (IsV y_) v1 k0) (hr : region_inside l_ y_ = some r) :
  Calls Tryd.prog 59 #[v0, v1] k0.w (Ret k0 (IsV r)) := by
 unfold region_inside at hr
 refine Ret.ofC ?_
 refine enterK Tryd.func59 rfl Tryd.ntmps59 (show 2 ≤ 26 by decide) fun a k hk0 hs hd ha => ?_
 obtain ⟨e0, e1, _⟩ := ha
 replace i0 : (IsV l_) (a.get 0) k := by rw [e0, hk0]; exact i0
 replace i1 : (IsV y_) (a.get 1) k := by rw [e1, hk0]; exact i1
 have hQ : Gb.LetsOut (bodyPost Tryd.prog Tryd.f59 (RetC noF k0 (IsV r))) := letsOutC
 have hg : Chg noF k0 k := by rw [hk0]; exact Chg.refl _ k0
 refine stepL 1 (⟨some (IsV false), []⟩ :: []) rfl ⟨hg, hs, hd⟩ (by kernel_rfl) ⟨ob1 rfl fun _ _ h n => ok_assign rfl (isV_bool.2 rfl), trivial⟩ [⟨_, _⟩, ⟨_, _⟩] (fun b q p => ⟨p.ke 0 rfl i0, p.ke 1 rfl i1, trivial⟩) ?_
 rintro a k ⟨⟨hg, hs, hd⟩, i0, i1, _⟩
 refine wp_seq ?_
 obtain ⟨x1, hx1, hr⟩ := bind_some hr
 refine cut (fun a' k' => Bs noF k0 26 a' k' ∧ (IsV l_) (a'.get 0) k' ∧ (IsV y_) (a'.get 1) k' ∧ (IsV x1.1) (a'.get 5) k' ∧ True) ?_ hQ ?_
 ·intro Q1 W1 w1
  refine gS 8 (_ :: _ :: _ :: _ :: _ :: _ :: _ :: _ :: []) hs (by kernel_rfl) ⟨mu rfl i0, mu rfl i1, o1 [(8, some 0), (9, some 1)] rfl fun _ _ h n => ok_call rfl Tryd.call78 (slices_BinarySearchFunc_span_int_ok n.1 n.2.1 ⟨79, _, _, rfl, Tryd.call79, fun k9 hk9 _ _ _ _ _ hx0 hx1 hy9 => by simpa [evalT] using region_inside_1_ok hx0 hx1 hy9⟩ hx1), cm 2 rfl rfl, o1 [(7, some 3)] rfl fun _ _ h n => ok_ext2_0 rfl n.1, o1 [(7, some 3)] rfl fun _ _ h n => ok_ext2_1 rfl n.1, cp 4 rfl rfl, cp 5 rfl rfl, trivial⟩ W1 fun b q p => ?_
  exact tail_done (k := q) (w1 _ _ ⟨Bs.post ⟨hg, hs, hd⟩ p, p.ke 0 rfl i0, p.ke 1 rfl i1, p.ou 6 5 rfl, trivial⟩)
 rintro a k ⟨⟨hg, hs, hd⟩, i0, i1, i5, _⟩
 refine wp_seq ?_
 obtain ⟨x2, hx2, hr⟩ := bind_some hr
 obtain ⟨x3, hx3, hx2⟩ := ite_bind hx2
 refine cut (fun a' k' => Bs noF k0 26 a' k' ∧ (IsV x2) (a'.get 4) k' ∧ True) ?_ hQ ?_
 ·intro Q2 W2 w2
  refine gS 14 (_ :: _ :: _ :: _ :: _ :: _ :: _ :: _ :: _ :: _ :: _ :: _ :: _ :: _ :: []) hs (by kernel_rfl) ⟨mu rfl i5, mu rfl i0, o1 [(14, some 1)] rfl fun _ _ h n => ok_len rfl rfl Tryd.underlying85 (IsV.rd n.1), o1 [(13, some 0), (15, some 2)] rfl fun _ _ h n => ok_lss rfl n.1 n.2.1, cm 3 rfl rfl, mT rfl rfl i0, mT rfl rfl i5, gT [(18, some 5), (19, some 6)] rfl rfl fun hp _ _ h n => ok_indexAddr rfl Tryd.underlying85 ty96 (IsV.rd (Gd.get n.1 hp)) (Gd.get n.2.1 hp) (hx3 hp), gT [(20, some 7)] rfl rfl fun hp _ _ h n => ok_fieldAddr rfl fo96_0 (at_RegionSpan_0 _) (Gd.get n.1 hp), gT [(21, some 8)] rfl rfl fun hp _ _ h n => ok_load rfl ty3 (Gd.get n.1 hp), mT rfl rfl i1, gT [(22, some 9), (23, some 10)] rfl rfl fun hp _ _ h n => ok_leq rfl (Gd.get n.1 hp) (Gd.get n.2.1 hp), o1 [(17, some 4), (24, some 11)] rfl fun _ _ h n => ok_pickM rfl n.1 hx2 (Gd.get n.2.1) (cB rfl), cp 12 rfl rfl, trivial⟩ W2 fun b q p => ?_
  exact tail_done (k := q) (w2 _ _ ⟨Bs.post ⟨hg, hs, hd⟩ p, p.ou 13 4 rfl, trivial⟩)
 rintro a k ⟨⟨hg, hs, hd⟩, i4, _⟩
 refine wp_ret ?_
 obtain rfl := Option.some.inj hr
 exact retC1 rfl hd hg i4
def region_merge_L0 (x1 : (List RegionSpan)) (s1 : (List Int) × Int) : Option (Flow ((List Int) × Int) ((List RegionSpan))) :=
 if (decide (s1.2 < (x1.length : Int))) then
  (getI x1 s1.2).bind fun x2 =>
  (appI s1.1 ([x2.from_, x2.to_])).bind fun x3 =>
  (addI s1.2 1).bind fun x4 =>
  some (.go (x3, x4))
 else
  some (.ex 0 (s1.1, s1.2))
def region_merge_L1 (a_ : (List RegionSpan)) (b_ : (List RegionSpan)) (keep_ : (Bool → Bool → Option (Bool))) (x1 : (List Int)) (s1 : (List RegionSpan) × Int) : Option (Flow ((List RegionSpan) × Int) ((List RegionSpan))) :=
 if (decide (s1.2 < (x1.length : Int))) then
  ((subI s1.2 1).bind fun x2 =>
  (getI x1 x2).bind fun x3 =>
  (region_inside a_ x3).bind fun x4 =>
  (region_inside b_ x3).bind fun x5 =>
  (keep_ x4 x5).bind fun x6 =>
  if (!x6) then
   some s1.1
  else
   (if (decide (0 < (s1.1.length : Int))) then
    (subI (s1.1.length : Int) 1).bind fun x7 =>
    (getI s1.1 x7).bind fun x8 =>
    some (x8.to_ == x3)
   else
    some false).bind fun x9 =>
   (if x9 then
    (subI (s1.1.length : Int) 1).bind fun x10 =>
    (getI x1 s1.2).bind fun x11 =>
    (getI s1.1 x10).bind fun x12 =>
    (some (s1.1.set (x10).toNat ({ x12 with to_ := x11 }))).bind fun x13 =>
    some x13
   else
    (getI x1 s1.2).bind fun x14 =>
    (appI s1.1 ([(⟨x3, x14⟩ : RegionSpan)])).bind fun x15 =>
    some x15).bind fun s2 =>
   some s2).bind fun s3 =>
  (addI s1.2 1).bind fun x16 =>
  some (.go (s3, x16))
 else
  some (.ex 2 (s1.1, s1.2))
def region_merge (a_ : (List RegionSpan)) (b_ : (List RegionSpan)) (keep_ : (Bool → Bool → Option (Bool))) : Option ((List RegionSpan)) :=
 (slices_Concat_span ([a_, b_])).bind fun x1 =>
 (iterL (region_merge_L0 x1) (x1.length + 1) (([] : List Int), 0)).bind fun f1 => match f1 with
  | .go _ => none
  | .ex _ s1 =>
   (sortInts s1.1).bind fun x2 =>
   (compactInts x2).bind fun x3 =>
   (iterL (region_merge_L1 a_ b_ keep_ x3) (a_.length + b_.length + x3.length + ([] : List RegionSpan).length + 1) (([] : List RegionSpan), 1)).bind fun f2 => match f2 with
    | .go _ => none
    | .ex _ s2 =>
     some s2.1
    | .ret r1 => some r1
  | .ret r2 => some r2
theorem region_merge_ok {k0 : K} {v0 v1 v2 : Value} {a_ : (List RegionSpan)} {b_ : (List RegionSpan)} {keep_ : (Bool → Bool → Option (Bool))} {r : (List RegionSpan)} (i0 : (IsV a_) v0 k0) (i1 : (IsV b_) v1 k0) (i2 : (IsFn2 Tryd.prog keep_) v2 k0) (hr : region_merge a_ b_ keep_ = some r) :
  Calls Tryd.prog 49 #[v0, v1, v2] k0.w (Ret k0 (IsV r)) := by
 unfold region_merge at hr
 refine Ret.ofC ?_
 refine enterK Tryd.func49 rfl Tryd.ntmps49 (show 3 ≤ 88 by decide) fun a k hk0 hs hd ha => ?_
 obtain ⟨e0, e1, e2, _⟩ := ha
 replace i0 : (IsV a_) (a.get 0) k := by rw [e0, hk0]; exact i0
 replace i1 : (IsV b_) (a.get 1) k := by rw [e1, hk0]; exact i1
 replace i2 : (IsFn2 Tryd.prog keep_) (a.get 2) k := by rw [e2, hk0]; exact i2
 have hQ : Gb.LetsOut (bodyPost Tryd.prog Tryd.f49 (RetC noF k0 (IsV r))) := letsOutC
 have hg : Chg noF k0 k := by rw [hk0]; exact Chg.refl _ k0
 refine stepL 1 (⟨some IsE0, []⟩ :: []) rfl ⟨hg, hs, hd⟩ (by kernel_rfl) ⟨ob1 rfl fun b q h n => ok_assign rfl isE0_nil, trivial⟩ [⟨_, _⟩, ⟨_, _⟩, ⟨_, _⟩] (fun b q p => ⟨p.ke 0 rfl i0, p.ke 1 rfl i1, p.ke 2 rfl i2, trivial⟩) ?_
 rintro a k ⟨⟨hg, hs, hd⟩, i0, i1, i2, _⟩
 refine cutS (fun c l => Bs noF k0 88 c l ∧ IsV a_ (c.get 0) l ∧ IsV b_ (c.get 1) l ∧ IsFn2 Tryd.prog keep_ (c.get 2) l ∧ IsOwn 0 3 ([] : List Int) (c.get 7) l ∧ Lo k0 (obF (c.get 7)) ∧ True) ?_ ?_
 ·intro Q1 W1 w1
  refine gS 1 (⟨some IsE0, []⟩ :: []) hs (by kernel_rfl) ⟨ob1 rfl fun b q h n => ok_assign rfl isE0_nil, trivial⟩ W1 fun b q p => ?_
  have hgq := hg.then p.grow
  have hsb := p.size.trans hs
  have hdb := p.defers.trans hd
  have j0 := p.ke 0 rfl i0
  have j1 := p.ke 1 rfl i1
  have j2 := p.ke 2 rfl i2
  have j7 : IsE0 (b.get 7) q := p.ou 0 7 rfl
  have y7 : Lo k0 (obF (b.get 7)) := j7.lo
  replace j7 : IsOwn 0 3 ([] : List Int) (b.get 7) q := j7.own0
  exact tail_done (k := q) (w1 _ _ ⟨⟨hgq, hsb, hdb⟩, j0, j1, j2, j7, y7, trivial⟩)
 rintro a k ⟨⟨hg, hs, hd⟩, i0, i1, i2, i7, n7, _⟩
 refine wp_seq ?_
 refine wp_seq ?_
 obtain ⟨x1, hx1, hr⟩ := bind_some hr
 refine cut (fun a' k' => Bs noF k0 88 a' k' ∧ (IsV a_) (a'.get 0) k' ∧ (IsV b_) (a'.get 1) k' ∧ (IsFn2 Tryd.prog keep_) (a'.get 2) k' ∧ IsOwn 0 3 ([] : List Int) (a'.get 7) k' ∧ Lo k0 (obF (a'.get 7)) ∧ (IsV x1) (a'.get 17) k' ∧ (IsL x1) (a'.get 18) k' ∧ (IsI 0) (a'.get 19) k' ∧ True) ?_ hQ ?_
 ·intro Q2 W2 w2
  refine gS 6 (_ :: _ :: ⟨some (IsV (α := (List (List RegionSpan))) ([a_, b_])), [(14, some 0), (15, some 1)]⟩ :: _ :: _ :: ⟨some (IsI 0), []⟩ :: []) hs (by kernel_rfl) ⟨mu rfl i0, mu rfl i1, ob1 rfl fun _ _ h n => ok_buildSlice rfl Tryd.underlying121 eo85 rfl (by decide) (by decide) ⟨rfl, n.1, rfl, n.2.1, trivial⟩, o1 [(16, some 2)] rfl fun _ _ h n => ok_call rfl Tryd.call58 (slices_Concat_span_ok n.1 hx1), o1 [(17, some 3)] rfl fun _ _ h n => ok_len rfl rfl Tryd.underlying85 (IsV.rd n.1), ob1 rfl fun _ _ h n => ok_move rfl (cI rfl), trivial⟩ W2 fun b q p => ?_
  exact tail_done (k := q) (w2 _ _ ⟨Bs.post ⟨hg, hs, hd⟩ p, p.ke 0 rfl i0, p.ke 1 rfl i1, p.ke 2 rfl i2, p.ke 7 rfl i7, (by rw [p.old 7 rfl]; exact n7), p.ou 3 17 rfl, p.ou 4 18 rfl, p.ou 5 19 rfl, trivial⟩)
 rintro a k ⟨⟨hg, hs, hd⟩, i0, i1, i2, i7, n7, i17, i18, i19, _⟩
 refine wp_block ?_
 obtain ⟨f1, hf1, hr⟩ := bind_some hr
 refine cutFe f1 (fun s' c l => Bs noF k0 88 c l ∧ IsV a_ (c.get 0) l ∧ IsV b_ (c.get 1) l ∧ IsFn2 Tryd.prog keep_ (c.get 2) l ∧ IsOwn 0 3 s'.1 (c.get 7) l ∧ Lo k0 (obF (c.get 7)) ∧ IsV x1 (c.get 17) l ∧ IsL x1 (c.get 18) l ∧ IsV s'.2 (c.get 19) l ∧ True) (fun i' s' c l => (i' = 0 ∧ Bs noF k0 88 c l ∧ IsV a_ (c.get 0) l ∧ IsV b_ (c.get 1) l ∧ IsFn2 Tryd.prog keep_ (c.get 2) l ∧ IsOwn 0 3 s'.1 (c.get 7) l ∧ Lo k0 (obF (c.get 7)) ∧ True)) (fun r' c l => bodyPost Tryd.prog Tryd.f49 (RetC noF k0 (IsV r')) .ret c l.w) ?_ hQ ?_ ?_ ?_
 ·intro Q3 W3 hgo hex hret
  refine sim_loop ?_ _ _ _ _ _ hf1 ⟨⟨hg, hs, hd⟩, i0, i1, i2, i7, n7, i17, i18, i19, trivial⟩ Q3 W3 hgo hex hret
  clear hr hf1 hgo hex hret W3 hQ hg hs hd i0 i1 i17 i18 i19 i2 i7 n7
  intro s1 fl_ a k hr hS Q hQ hgo1280 hex1281 hret1282
  obtain ⟨⟨hg, hs, hd⟩, i0, i1, i2, i7, n7, i17, i18, i19, _⟩ := hS
  unfold region_merge_L0 at hr
  refine cutS (fun c l => Bs noF k0 88 c l ∧ IsV a_ (c.get 0) l ∧ IsV b_ (c.get 1) l ∧ IsFn2 Tryd.prog keep_ (c.get 2) l ∧ IsOwn 0 3 s1.1 (c.get 7) l ∧ Lo k0 (obF (c.get 7)) ∧ IsV x1 (c.get 17) l ∧ IsL x1 (c.get 18) l ∧ IsV s1.2 (c.get 19) l ∧ (IsV (decide (s1.2 < (x1.length : Int)))) (c.get 20) l ∧ True) ?_ ?_
  ·intro Q4 W4 w3
   refine gS 1 (_ :: []) hs (by kernel_rfl) ⟨o1 [(19, none), (18, none)] rfl fun _ _ h n => ok_lss rfl (up i19 h n.1) (up i18 h n.2.1), trivial⟩ W4 fun b q p => ?_
   exact tail_done (k := q) (w3 _ _ ⟨Bs.post ⟨hg, hs, hd⟩ p, p.ke 0 rfl i0, p.ke 1 rfl i1, p.ke 2 rfl i2, p.ke 7 rfl i7, (by rw [p.old 7 rfl]; exact n7), p.ke 17 rfl i17, p.ke 18 rfl i18, p.ke 19 rfl i19, p.ou 0 20 rfl, trivial⟩)
  rintro a k ⟨⟨hg, hs, hd⟩, i0, i1, i2, i7, n7, i17, i18, i19, i20, _⟩
  refine wp_seq ?_
  refine wp_cond_split (isBool i20) (fun hc1293 => ?_) (fun hc1293 => ?_)
  ·rw [if_pos hc1293] at hr
   refine wp_skip ?_
   refine wp_seq ?_
   refine wp_block ?_
   refine wp_seq ?_
   obtain ⟨x2, hx2, hr⟩ := bind_some hr
   refine cut (fun a' k' => Bs noF k0 88 a' k' ∧ (IsV a_) (a'.get 0) k' ∧ (IsV b_) (a'.get 1) k' ∧ (IsFn2 Tryd.prog keep_) (a'.get 2) k' ∧ IsOwn 0 3 s1.1 (a'.get 7) k' ∧ Lo k0 (obF (a'.get 7)) ∧ (IsRef x2) (a'.get 9) k' ∧ (IsV x1) (a'.get 17) k' ∧ (IsL x1) (a'.get 18) k' ∧ (IsV s1.2) (a'.get 19) k' ∧ True) ?_ hQ ?_
   ·intro Q5 W5 w4
    refine gS 3 (_ :: _ :: ⟨some (IsBox k.w.heap.size (⟨0, 0⟩ : RegionSpan)), []⟩ :: []) hs (by kernel_rfl) ⟨o1 [(17, none), (19, none)] rfl fun _ _ h n => ok_indexAddr rfl Tryd.underlying85 ty96 (IsV.rd (up i17 h n.1)) (up i19 h n.2.1) hx2, o1 [(21, some 0)] rfl fun _ _ h n => ok_load rfl ty96 n.1, ob1 rfl fun _ _ h n => ok_alloc _ h.size rfl z96, trivial⟩ W5 fun b q p => ?_
    have hgq := hg.then p.grow
    have hsb := p.size.trans hs
    have hdb := p.defers.trans hd
    have j0 := p.ke 0 rfl i0
    have j1 := p.ke 1 rfl i1
    have j2 := p.ke 2 rfl i2
    have j7 := p.ke 7 rfl i7
    have y7 : Lo k0 (obF (b.get 7)) := by rw [p.old 7 rfl]; exact n7
    obtain ⟨b9, j9, x9, z9⟩ : (IsBox k.w.heap.size (⟨0, 0⟩ : RegionSpan)) (b.get 9) q := p.ou 2 9 rfl
    replace x9 : Lo k (Eq b9) := Lo.eq x9
    have y9 : Lo k0 (Eq b9) := x9.chg hg
    have j17 := p.ke 17 rfl i17
    have j18 := p.ke 18 rfl i18
    have j19 := p.ke 19 rfl i19
    have j22 : (IsV x2) (b.get 22) q := p.ou 1 22 rfl
    have w7_9 : Apart (obF (b.get 7)) (Eq b9) := Apart.new (by rw [p.old 7 rfl]; exact i7.ltF) x9
    have hns := z9.nshF
    refine tail_storeB (i := 3) rfl rfl rfl rfl szf96 (Upd.self (α := RegionSpan)) j9 z9 j22 fun q2 hch hz => ?_
    replace hgq := hgq.step hch y9.wr
    have hle := hch.le hns
    replace j0 := Pers.pers hle j0
    replace j1 := Pers.pers hle j1
    replace j2 := Pers.pers hle j2
    replace j7 := j7.keep hch w7_9 hns
    replace j17 := Pers.pers hle j17
    replace j18 := Pers.pers hle j18
    replace j19 := Pers.pers hle j19
    replace j22 := Pers.pers hle j22
    replace z9 := hz
    clear hns hle hch
    obtain ⟨q, hqq⟩ : ∃ q, q = q2 := ⟨q2, rfl⟩
    subst hqq
    obtain ⟨q2, hsh, jn⟩ := z9.give
    replace j0 := Pers.pers hsh.le j0
    replace j1 := Pers.pers hsh.le j1
    replace j2 := Pers.pers hsh.le j2
    replace j7 := j7.handed hsh w7_9
    replace j17 := Pers.pers hsh.le j17
    replace j18 := Pers.pers hsh.le j18
    replace j19 := Pers.pers hsh.le j19
    rw [← j9] at jn
    replace j9 := jn
    replace hgq := hgq.hand hsh y9.wr
    rw [← hsh.w]
    clear hsh
    obtain ⟨q, hqq⟩ : ∃ q, q = q2 := ⟨q2, rfl⟩
    subst hqq
    exact tail_done (k := q) (w4 _ _ ⟨⟨hgq, hsb, hdb⟩, j0, j1, j2, j7, y7, j9, j17, j18, j19, trivial⟩)
   rintro a k ⟨⟨hg, hs, hd⟩, i0, i1, i2, i7, n7, i9, i17, i18, i19, _⟩
   obtain ⟨x3, hx3, hr⟩ := bind_some hr
   refine cut (fun a' k' => Bs noF k0 88 a' k' ∧ (IsV a_) (a'.get 0) k' ∧ (IsV b_) (a'.get 1) k' ∧ (IsFn2 Tryd.prog keep_) (a'.get 2) k' ∧ IsOwn 0 3 x3 (a'.get 7) k' ∧ Lo k0 (obF (a'.get 7)) ∧ (IsV x1) (a'.get 17) k' ∧ (IsL x1) (a'.get 18) k' ∧ (IsV s1.2) (a'.get 19) k' ∧ True) ?_ hQ ?_
   ·intro Q6 W6 w5
    refine gS 6 (⟨some (OwnAt (a.get 7) 0 3 s1.1), [(7, none)]⟩ :: _ :: _ :: _ :: _ :: ⟨some (IsV (α := (List Int)) ([x2.from_, x2.to_])), [(25, some 2), (27, some 4)]⟩ :: []) hs (by kernel_rfl) ⟨ob1 rfl fun _ _ h n => ok_moveOA (.inl rfl) (ownAt n.1 (up i7 h n.1)), o1 [(9, none)] rfl fun _ _ h n => ok_fieldAddr rfl fo96_0 (at_RegionSpan_0 _) ((up i9 h n.1)).ptr, o1 [(24, some 1)] rfl fun _ _ h n => ok_load rfl ty3 n.1, o1 [(9, none)] rfl fun _ _ h n => ok_fieldAddr rfl fo96_1 (at_RegionSpan_1 _) ((up i9 h n.1)).ptr, o1 [(26, some 3)] rfl fun _ _ h n => ok_load rfl ty3 n.1, ob1 rfl fun _ _ h n => ok_buildSlice rfl Tryd.underlying40 eo3 rfl (by decide) (by decide) ⟨rfl, n.1, rfl, n.2.1, trivial⟩, trivial⟩ W6 fun b q p => ?_
    have hgq := hg.then p.grow
    have hsb := p.size.trans hs
    have hdb := p.defers.trans hd
    have j0 := p.ke 0 rfl i0
    have j1 := p.ke 1 rfl i1
    have j2 := p.ke 2 rfl i2
    have j17 := p.ke 17 rfl i17
    have j18 := p.ke 18 rfl i18
    have j19 := p.ke 19 rfl i19
    have e23 : b.get 23 = a.get 7 := (p.ou 0 23 rfl).1
    have j23 : IsOwn 0 3 s1.1 (b.get 23) q := (p.ou 0 23 rfl).2
    have y23 : Lo k0 (obF (b.get 23)) := by rw [e23]; exact n7
    have j28 : (IsV (α := (List Int)) ([x2.from_, x2.to_])) (b.get 28) q := p.ou 5 28 rfl
    have hns := j23.nshF
    refine tail_appendS (i := 6) (d := 29) rfl rfl rfl rfl (by rw [hsb]; decide) (e := 3) Tryd.underlying40 eo3 j23 (IsV.rd j28) hx3 fun b2 q2 hsz hdf hoth hch hown hob => ?_
    have hle := hch.le hns
    have yn : Lo k0 (obF (b2.get 29)) := y23.app hgq hob
    replace j0 := Pers.pers hle j0
    replace j1 := Pers.pers hle j1
    replace j2 := Pers.pers hle j2
    replace j17 := Pers.pers hle j17
    replace j18 := Pers.pers hle j18
    replace j19 := Pers.pers hle j19
    replace j28 := Pers.pers hle j28
    replace hgq := hgq.step hch y23.wr
    rw [← hoth 0 (by decide)] at j0
    rw [← hoth 1 (by decide)] at j1
    rw [← hoth 2 (by decide)] at j2
    rw [← hoth 17 (by decide)] at j17
    rw [← hoth 18 (by decide)] at j18
    rw [← hoth 19 (by decide)] at j19
    rw [← hoth 28 (by decide)] at j28
    have j29 := hown
    have y29 := yn
    replace hsb := hsz.trans hsb
    replace hdb := hdf.trans hdb
    clear hle hch hown hob hns yn hsz hdf hoth
    obtain ⟨b, hbb⟩ : ∃ b, b = b2 := ⟨b2, rfl⟩
    subst hbb
    obtain ⟨q, hqq⟩ : ∃ q, q = q2 := ⟨q2, rfl⟩
    subst hqq
    refine tail_assign (i := 7) (d := 7) rfl rfl (.inl rfl) rfl (by rw [hsb]; decide) fun b2 hsz hdf hnew hoth => ?_
    have jn : (IsOwn 0 3 x3) (b2.get 7) q := by rw [hnew]; exact j29
    have yn : Lo k0 (obF (b2.get 7)) := by rw [hnew]; exact y29
    rw [← hoth 0 (by decide)] at j0
    rw [← hoth 1 (by decide)] at j1
    rw [← hoth 2 (by decide)] at j2
    rw [← hoth 17 (by decide)] at j17
    rw [← hoth 18 (by decide)] at j18
    rw [← hoth 19 (by decide)] at j19
    rw [← hoth 28 (by decide)] at j28
    have j7 := jn
    have y7 := yn
    replace hsb := hsz.trans hsb
    replace hdb := hdf.trans hdb
    clear hsz hdf hoth
    obtain ⟨b, hbb⟩ : ∃ b, b = b2 := ⟨b2, rfl⟩
    subst hbb
    exact tail_done (k := q) (w5 _ _ ⟨⟨hgq, hsb, hdb⟩, j0, j1, j2, j7, y7, j17, j18, j19, trivial⟩)
   rintro a k ⟨⟨hg, hs, hd⟩, i0, i1, i2, i7, n7, i17, i18, i19, _⟩
   obtain ⟨x4, hx4, hr⟩ := bind_some hr
   refine cut (fun a' k' => Bs noF k0 88 a' k' ∧ (IsV a_) (a'.get 0) k' ∧ (IsV b_) (a'.get 1) k' ∧ (IsFn2 Tryd.prog keep_) (a'.get 2) k' ∧ IsOwn 0 3 x3 (a'.get 7) k' ∧ Lo k0 (obF (a'.get 7)) ∧ (IsV x1) (a'.get 17) k' ∧ (IsL x1) (a'.get 18) k' ∧ (IsV x4) (a'.get 19) k' ∧ True) ?_ hQ ?_
   ·intro Q7 W7 w6
    refine gS 2 (_ :: _ :: []) hs (by kernel_rfl) ⟨o1 [(19, none)] rfl fun _ _ h n => ok_add rfl (up i19 h n.1) (cI rfl) hx4, cm 0 rfl rfl, trivial⟩ W7 fun b q p => ?_
    exact tail_done (k := q) (w6 _ _ ⟨Bs.post ⟨hg, hs, hd⟩ p, p.ke 0 rfl i0, p.ke 1 rfl i1, p.ke 2 rfl i2, p.ke 7 rfl i7, (by rw [p.old 7 rfl]; exact n7), p.ke 17 rfl i17, p.ke 18 rfl i18, p.ou 1 19 rfl, trivial⟩)
   rintro a k ⟨⟨hg, hs, hd⟩, i0, i1, i2, i7, n7, i17, i18, i19, _⟩
   exact hgo1280 _ _ _ (Option.some.inj hr).symm ⟨⟨hg, hs, hd⟩, i0, i1, i2, i7, n7, i17, i18, i19, trivial⟩
  rw [if_neg (by rw [hc1293]; decide)] at hr
  refine wp_exit ?_
  exact hex1281 _ _ _ _ (Option.some.inj hr).symm ⟨rfl, ⟨hg, hs, hd⟩, i0, i1, i2, i7, n7, trivial⟩
 ·rintro r1 a k rfl hR
  dsimp only at hr
  obtain rfl := Option.some.inj hr
  exact hR
 ·rintro _ _ _ rfl _
  simp at hr
 clear hf1
 rintro _ s2 a k rfl ⟨rfl, ⟨hg, hs, hd⟩, i0, i1, i2, i7, n7, _⟩
 dsimp only at hr
 refine wp_seq ?_
 obtain ⟨x5, hx5, hr⟩ := bind_some hr
 refine cut (fun a' k' => Bs noF k0 88 a' k' ∧ (IsV a_) (a'.get 0) k' ∧ (IsV b_) (a'.get 1) k' ∧ (IsFn2 Tryd.prog keep_) (a'.get 2) k' ∧ IsOwn 0 3 x5 (a'.get 7) k' ∧ Lo k0 (obF (a'.get 7)) ∧ True) ?_ hQ ?_
 ·intro Q8 W8 w7
  refine gS 1 (⟨some (OwnAt (a.get 7) 0 3 s2.1), [(7, none)]⟩ :: []) hs (by kernel_rfl) ⟨ob1 rfl fun _ _ h n => ok_moveOA (.inl rfl) (ownAt n.1 (up i7 h n.1)), trivial⟩ W8 fun b q p => ?_
  have hgq := hg.then p.grow
  have hsb := p.size.trans hs
  have hdb := p.defers.trans hd
  have j0 := p.ke 0 rfl i0
  have j1 := p.ke 1 rfl i1
  have j2 := p.ke 2 rfl i2
  have j7 := p.ke 7 rfl i7
  have y7 : Lo k0 (obF (b.get 7)) := by rw [p.old 7 rfl]; exact n7
  have e31 : b.get 31 = a.get 7 := (p.ou 0 31 rfl).1
  have j31 : IsOwn 0 3 s2.1 (b.get 31) q := (p.ou 0 31 rfl).2
  have y31 : Lo k0 (obF (b.get 31)) := by rw [e31]; exact n7
  have hns := j31.nshF
  have eS : b.get 7 = b.get 31 := (p.old 7 rfl).trans e31.symm
  refine tail_call (F := obF (b.get 31)) (i := 1) (d := 32) rfl rfl rfl rfl (by rw [hsb]; decide) Tryd.call38 W8 (sortInts_ok j31 hx5) fun b2 q2 hsz hdf hoth hch hres => ?_
  have hle := hch.le hns
  replace j0 := Pers.pers hle j0
  replace j1 := Pers.pers hle j1
  replace j2 := Pers.pers hle j2
  replace hgq := hgq.step hch y31.wr
  replace j7 : IsOwn 0 3 x5 (b.get 7) q2 := by rw [eS]; exact hres
  clear hres eS
  rw [← hoth 0 (by decide)] at j0
  rw [← hoth 1 (by decide)] at j1
  rw [← hoth 2 (by decide)] at j2
  rw [← hoth 7 (by decide)] at j7
  rw [← hoth 7 (by decide)] at y7
  replace hsb := hsz.trans hsb
  replace hdb := hdf.trans hdb
  clear hle hch hns hsz hdf hoth
  obtain ⟨b, hbb⟩ : ∃ b, b = b2 := ⟨b2, rfl⟩
  subst hbb
  obtain ⟨q, hqq⟩ : ∃ q, q = q2 := ⟨q2, rfl⟩
  subst hqq
  exact tail_done (k := q) (w7 _ _ ⟨⟨hgq, hsb, hdb⟩, j0, j1, j2, j7, y7, trivial⟩)
 rintro a k ⟨⟨hg, hs, hd⟩, i0, i1, i2, i7, n7, _⟩
 refine wp_seq ?_
 obtain ⟨x6, hx6, hr⟩ := bind_some hr
 refine cut (fun a' k' => Bs noF k0 88 a' k' ∧ (IsV a_) (a'.get 0) k' ∧ (IsV b_) (a'.get 1) k' ∧ (IsFn2 Tryd.prog keep_) (a'.get 2) k' ∧ IsOwn 0 3 x6 (a'.get 7) k' ∧ Lo k0 (obF (a'.get 7)) ∧ True) ?_ hQ ?_
 ·intro Q9 W9 w8
  refine gS 1 (⟨some (OwnAt (a.get 7) 0 3 x5), [(7, none)]⟩ :: []) hs (by kernel_rfl) ⟨ob1 rfl fun _ _ h n => ok_moveOA (.inl rfl) (ownAt n.1 (up i7 h n.1)), trivial⟩ W9 fun b q p => ?_
  have hgq := hg.then p.grow
  have hsb := p.size.trans hs
  have hdb := p.defers.trans hd
  have j0 := p.ke 0 rfl i0
  have j1 := p.ke 1 rfl i1
  have j2 := p.ke 2 rfl i2
  have e33 : b.get 33 = a.get 7 := (p.ou 0 33 rfl).1
  have j33 : IsOwn 0 3 x5 (b.get 33) q := (p.ou 0 33 rfl).2
  have y33 : Lo k0 (obF (b.get 33)) := by rw [e33]; exact n7
  have hns := j33.nshF
  refine tail_call (F := obF (b.get 33)) (i := 1) (d := 34) rfl rfl rfl rfl (by rw [hsb]; decide) Tryd.call39 W9 (compactInts_ok j33 hx6) fun b2 q2 hsz hdf hoth hch hres => ?_
  have hle := hch.le hns
  obtain ⟨hown, hob⟩ := hres
  have yn : Lo k0 (obF (b2.get 34)) := y33.app hgq hob
  replace j0 := Pers.pers hle j0
  replace j1 := Pers.pers hle j1
  replace j2 := Pers.pers hle j2
  replace hgq := hgq.step hch y33.wr
  rw [← hoth 0 (by decide)] at j0
  rw [← hoth 1 (by decide)] at j1
  rw [← hoth 2 (by decide)] at j2
  have j34 := hown
  have y34 := yn
  have hres := True.intro
  clear hown hob yn
  replace hsb := hsz.trans hsb
  replace hdb := hdf.trans hdb
  clear hle hch hres hns hsz hdf hoth
  obtain ⟨b, hbb⟩ : ∃ b, b = b2 := ⟨b2, rfl⟩
  subst hbb
  obtain ⟨q, hqq⟩ : ∃ q, q = q2 := ⟨q2, rfl⟩
  subst hqq
  refine tail_assign (i := 2) (d := 7) rfl rfl (.inl rfl) rfl (by rw [hsb]; decide) fun b2 hsz hdf hnew hoth => ?_
  have jn : (IsOwn 0 3 x6) (b2.get 7) q := by rw [hnew]; exact j34
  have yn : Lo k0 (obF (b2.get 7)) := by rw [hnew]; exact y34
  rw [← hoth 0 (by decide)] at j0
  rw [← hoth 1 (by decide)] at j1
  rw [← hoth 2 (by decide)] at j2
  have j7 := jn
  have y7 := yn
  replace hsb := hsz.trans hsb
  replace hdb := hdf.trans hdb
  clear hsz hdf hoth
  obtain ⟨b, hbb⟩ : ∃ b, b = b2 := ⟨b2, rfl⟩
  subst hbb
  exact tail_done (k := q) (w8 _ _ ⟨⟨hgq, hsb, hdb⟩, j0, j1, j2, j7, y7, trivial⟩)
 rintro a k ⟨⟨hg, hs, hd⟩, i0, i1, i2, i7, n7, _⟩
 refine wp_seq ?_
 obtain ⟨kk, sh1300, ii7⟩ := i7.give
 replace i0 := Pers.pers sh1300.le i0
 replace i1 := Pers.pers sh1300.le i1
 replace i2 := Pers.pers sh1300.le i2
 replace i7 := ii7
 replace hg := hg.hand sh1300 n7.wr
 rw [← sh1300.w]
 clear sh1300
 obtain ⟨k, hkk⟩ : ∃ k, k = kk := ⟨kk, rfl⟩
 subst hkk
 refine cut (fun a' k' => Bs noF k0 88 a' k' ∧ (IsV a_) (a'.get 0) k' ∧ (IsV b_) (a'.get 1) k' ∧ (IsFn2 Tryd.prog keep_) (a'.get 2) k' ∧ (IsV x6) (a'.get 7) k' ∧ IsOwn 0 96 ([] : List RegionSpan) (a'.get 10) k' ∧ Lo k0 (obF (a'.get 10)) ∧ True) ?_ hQ ?_
 ·intro Q10 W10 w9
  refine gS 1 (⟨some IsE0, []⟩ :: []) hs (by kernel_rfl) ⟨ob1 rfl fun b q h n => ok_assign rfl isE0_nil, trivial⟩ W10 fun b q p => ?_
  have hgq := hg.then p.grow
  have hsb := p.size.trans hs
  have hdb := p.defers.trans hd
  have j0 := p.ke 0 rfl i0
  have j1 := p.ke 1 rfl i1
  have j2 := p.ke 2 rfl i2
  have j7 := p.ke 7 rfl i7
  have j10 : IsE0 (b.get 10) q := p.ou 0 10 rfl
  have y10 : Lo k0 (obF (b.get 10)) := j10.lo
  replace j10 : IsOwn 0 96 ([] : List RegionSpan) (b.get 10) q := j10.own0
  exact tail_done (k := q) (w9 _ _ ⟨⟨hgq, hsb, hdb⟩, j0, j1, j2, j7, j10, y10, trivial⟩)
 rintro a k ⟨⟨hg, hs, hd⟩, i0, i1, i2, i7, i10, n10, _⟩
 refine wp_seq ?_
 refine cutS (fun c l => Bs noF k0 88 c l ∧ IsV a_ (c.get 0) l ∧ IsV b_ (c.get 1) l ∧ IsFn2 Tryd.prog keep_ (c.get 2) l ∧ IsV x6 (c.get 7) l ∧ IsOwn 0 96 ([] : List RegionSpan) (c.get 10) l ∧ Lo k0 (obF (c.get 10)) ∧ IsI 1 (c.get 11) l ∧ True) ?_ ?_
 ·intro Q11 W11 w10
  refine gS 1 (⟨some (IsI 1), []⟩ :: []) hs (by kernel_rfl) ⟨aI rfl rfl, trivial⟩ W11 fun b q p => ?_
  exact tail_done (k := q) (w10 _ _ ⟨Bs.post ⟨hg, hs, hd⟩ p, p.ke 0 rfl i0, p.ke 1 rfl i1, p.ke 2 rfl i2, p.ke 7 rfl i7, p.ke 10 rfl i10, (by rw [p.old 10 rfl]; exact n10), p.ou 0 11 rfl, trivial⟩)
 rintro a k ⟨⟨hg, hs, hd⟩, i0, i1, i2, i7, i10, n10, i11, _⟩
 refine wp_block ?_
 obtain ⟨f2, hf2, hr⟩ := bind_some hr
 refine cutFe f2 (fun s' c l => Bs noF k0 88 c l ∧ IsV a_ (c.get 0) l ∧ IsV b_ (c.get 1) l ∧ IsFn2 Tryd.prog keep_ (c.get 2) l ∧ IsV x6 (c.get 7) l ∧ IsOwn 0 96 s'.1 (c.get 10) l ∧ Lo k0 (obF (c.get 10)) ∧ IsV s'.2 (c.get 11) l ∧ True) (fun i' s' c l => (i' = 2 ∧ Bs noF k0 88 c l ∧ IsV s'.1 (c.get 10) l ∧ True)) (fun r' c l => bodyPost Tryd.prog Tryd.f49 (RetC noF k0 (IsV r')) .ret c l.w) ?_ hQ ?_ ?_ ?_
 ·intro Q12 W12 hgo hex hret
  refine sim_loop ?_ _ _ _ _ _ hf2 ⟨⟨hg, hs, hd⟩, i0, i1, i2, i7, i10, n10, i11, trivial⟩ Q12 W12 hgo hex hret
  clear hr hf2 hgo hex hret W12 hQ hg hs hd i0 i1 i10 i11 i2 i7 n10
  intro s3 fl_ a k hr hS Q hQ hgo1304 hex1305 hret1306
  obtain ⟨⟨hg, hs, hd⟩, i0, i1, i2, i7, i10, n10, i11, _⟩ := hS
  unfold region_merge_L1 at hr
  refine wp_seq ?_
  refine cutS (fun c l => Bs noF k0 88 c l ∧ IsV a_ (c.get 0) l ∧ IsV b_ (c.get 1) l ∧ IsFn2 Tryd.prog keep_ (c.get 2) l ∧ IsV x6 (c.get 7) l ∧ IsOwn 0 96 s3.1 (c.get 10) l ∧ Lo k0 (obF (c.get 10)) ∧ IsV s3.2 (c.get 11) l ∧ (IsV (decide (s3.2 < (x6.length : Int)))) (c.get 38) l ∧ True) ?_ ?_
  ·intro Q13 W13 w11
   refine gS 4 (_ :: _ :: _ :: _ :: []) hs (by kernel_rfl) ⟨mu rfl i11, mu rfl i7, o1 [(36, some 1)] rfl fun _ _ h n => ok_len rfl rfl Tryd.underlying40 (IsV.rd n.1), o1 [(35, some 0), (37, some 2)] rfl fun _ _ h n => ok_lss rfl n.1 n.2.1, trivial⟩ W13 fun b q p => ?_
   exact tail_done (k := q) (w11 _ _ ⟨Bs.post ⟨hg, hs, hd⟩ p, p.ke 0 rfl i0, p.ke 1 rfl i1, p.ke 2 rfl i2, p.ke 7 rfl i7, p.ke 10 rfl i10, (by rw [p.old 10 rfl]; exact n10), p.ke 11 rfl i11, p.ou 3 38 rfl, trivial⟩)
  rintro a k ⟨⟨hg, hs, hd⟩, i0, i1, i2, i7, i10, n10, i11, i38, _⟩
  refine wp_cond_split (isBool i38) (fun hc1338 => ?_) (fun hc1338 => ?_)
  ·rw [if_pos hc1338] at hr
   refine wp_skip ?_
   refine wp_seq ?_
   obtain ⟨s4, hs4, hr⟩ := bind_some hr
   refine cut (fun a' k' => Bs noF k0 88 a' k' ∧ (IsV a_) (a'.get 0) k' ∧ (IsV b_) (a'.get 1) k' ∧ (IsFn2 Tryd.prog keep_) (a'.get 2) k' ∧ (IsV x6) (a'.get 7) k' ∧ IsOwn 0 96 s4 (a'.get 10) k' ∧ Lo k0 (obF (a'.get 10)) ∧ (IsV s3.2) (a'.get 11) k' ∧ True) ?_ hQ ?_
   ·intro Q14 W14 w12
    replace hr := hs4
    clear hQ
    have hQ := W14
    refine wp_block ?_
    refine wp_seq ?_
    obtain ⟨x7, hx7, hr⟩ := bind_some hr
    obtain ⟨x8, hx8, hr⟩ := bind_some hr
    refine cut (fun a' k' => Bs noF k0 88 a' k' ∧ (IsV a_) (a'.get 0) k' ∧ (IsV b_) (a'.get 1) k' ∧ (IsFn2 Tryd.prog keep_) (a'.get 2) k' ∧ (IsV x6) (a'.get 7) k' ∧ IsOwn 0 96 s3.1 (a'.get 10) k' ∧ Lo k0 (obF (a'.get 10)) ∧ (IsV s3.2) (a'.get 11) k' ∧ (IsV x8) (a'.get 12) k' ∧ True) ?_ hQ ?_
    ·intro Q15 W15 w13
     refine gS 6 (_ :: _ :: _ :: _ :: _ :: _ :: []) hs (by kernel_rfl) ⟨mu rfl i7, mu rfl i11, o1 [(42, some 1)] rfl fun _ _ h n => ok_sub rfl n.1 (cI rfl) hx7, o1 [(41, some 0), (43, some 2)] rfl fun _ _ h n => ok_indexAddr rfl Tryd.underlying40 ty3 (IsV.rd n.1) n.2.1 hx8, o1 [(44, some 3)] rfl fun _ _ h n => ok_load rfl ty3 n.1, cp 4 rfl rfl, trivial⟩ W15 fun b q p => ?_
     exact tail_done (k := q) (w13 _ _ ⟨Bs.post ⟨hg, hs, hd⟩ p, p.ke 0 rfl i0, p.ke 1 rfl i1, p.ke 2 rfl i2, p.ke 7 rfl i7, p.ke 10 rfl i10, (by rw [p.old 10 rfl]; exact n10), p.ke 11 rfl i11, p.ou 5 12 rfl, trivial⟩)
    rintro a k ⟨⟨hg, hs, hd⟩, i0, i1, i2, i7, i10, n10, i11, i12, _⟩
    refine wp_seq ?_
    refine wp_seq ?_
    obtain ⟨x10, hx10, hr⟩ := bind_some hr
    obtain ⟨x11, hx11, hr⟩ := bind_some hr
    obtain ⟨x12, hx12, hr⟩ := bind_some hr
    refine cut (fun a' k' => Bs noF k0 88 a' k' ∧ (IsV a_) (a'.get 0) k' ∧ (IsV b_) (a'.get 1) k' ∧ (IsFn2 Tryd.prog keep_) (a'.get 2) k' ∧ (IsV x6) (a'.get 7) k' ∧ IsOwn 0 96 s3.1 (a'.get 10) k' ∧ Lo k0 (obF (a'.get 10)) ∧ (IsV s3.2) (a'.get 11) k' ∧ (IsV x8) (a'.get 12) k' ∧ (IsV (!x12)) (a'.get 54) k' ∧ True) ?_ hQ ?_
    ·intro Q16 W16 w14
     refine gS 9 (_ :: _ :: _ :: _ :: _ :: _ :: _ :: ⟨some (IsV x12), [(46, some 0), (49, some 3), (52, some 6)]⟩ :: _ :: []) hs (by kernel_rfl) ⟨mu rfl i2, mu rfl i0, mu rfl i12, o1 [(47, some 1), (48, some 2)] rfl fun _ _ h n => ok_call rfl Tryd.call59 (region_inside_ok n.1 n.2.1 hx10), mu rfl i1, mu rfl i12, o1 [(50, some 4), (51, some 5)] rfl fun _ _ h n => ok_call rfl Tryd.call59 (region_inside_ok n.1 n.2.1 hx11), ob1 rfl fun _ _ h n => ok_callF2 rfl n.1 n.2.1 n.2.2.1 hx12, o1 [(53, some 7)] rfl fun _ _ h n => ok_not rfl n.1, trivial⟩ W16 fun b q p => ?_
     exact tail_done (k := q) (w14 _ _ ⟨Bs.post ⟨hg, hs, hd⟩ p, p.ke 0 rfl i0, p.ke 1 rfl i1, p.ke 2 rfl i2, p.ke 7 rfl i7, p.ke 10 rfl i10, (by rw [p.old 10 rfl]; exact n10), p.ke 11 rfl i11, p.ke 12 rfl i12, p.ou 8 54 rfl, trivial⟩)
    rintro a k ⟨⟨hg, hs, hd⟩, i0, i1, i2, i7, i10, n10, i11, i12, i54, _⟩
    refine wp_cond_split (isBool i54) (fun hc1328 => ?_) (fun hc1328 => ?_)
    ·rw [if_pos hc1328] at hr
     refine wp_exit ?_
     obtain rfl := Option.some.inj hr
     exact w12 _ _ ⟨⟨hg, hs, hd⟩, i0, i1, i2, i7, i10, n10, i11, trivial⟩
    rw [if_neg (by rw [hc1328]; decide)] at hr
    refine wp_skip ?_
    refine cutS (fun c l => Bs noF k0 88 c l ∧ IsV a_ (c.get 0) l ∧ IsV b_ (c.get 1) l ∧ IsFn2 Tryd.prog keep_ (c.get 2) l ∧ IsV x6 (c.get 7) l ∧ IsOwn 0 96 s3.1 (c.get 10) l ∧ Lo k0 (obF (c.get 10)) ∧ IsV s3.2 (c.get 11) l ∧ IsV x8 (c.get 12) l ∧ IsI (s3.1.length : Int) (c.get 13) l ∧ True) ?_ ?_
    ·intro Q17 W17 w15
     refine gS 3 (⟨some (OwnAt (a.get 10) 0 96 s3.1), [(10, none)]⟩ :: _ :: _ :: []) hs (by kernel_rfl) ⟨ob1 rfl fun _ _ h n => ok_moveOA (.inl rfl) (ownAt n.1 (up i10 h n.1)), o1 [(55, some 0)] rfl fun _ _ h n => ok_len rfl rfl Tryd.underlying85 (IsOwn.rd (n.1).2), cp 1 rfl rfl, trivial⟩ W17 fun b q p => ?_
     exact tail_done (k := q) (w15 _ _ ⟨Bs.post ⟨hg, hs, hd⟩ p, p.ke 0 rfl i0, p.ke 1 rfl i1, p.ke 2 rfl i2, p.ke 7 rfl i7, p.ke 10 rfl i10, (by rw [p.old 10 rfl]; exact n10), p.ke 11 rfl i11, p.ke 12 rfl i12, p.ou 2 13 rfl, trivial⟩)
    rintro a k ⟨⟨hg, hs, hd⟩, i0, i1, i2, i7, i10, n10, i11, i12, i13, _⟩
    refine wp_seq ?_
    obtain ⟨x13, hx13, hr⟩ := bind_some hr
    obtain ⟨x14, hx14, hx13⟩ := ite_bind hx13
    obtain ⟨x15, hx15, hx13⟩ := ite_bind hx13
    refine cut (fun a' k' => Bs noF k0 88 a' k' ∧ (IsV a_) (a'.get 0) k' ∧ (IsV b_) (a'.get 1) k' ∧ (IsFn2 Tryd.prog keep_) (a'.get 2) k' ∧ (IsV x6) (a'.get 7) k' ∧ IsOwn 0 96 s3.1 (a'.get 10) k' ∧ Lo k0 (obF (a'.get 10)) ∧ (IsV s3.2) (a'.get 11) k' ∧ (IsV x8) (a'.get 12) k' ∧ (IsI (s3.1.length : Int)) (a'.get 13) k' ∧ (IsV x13) (a'.get 68) k' ∧ True) ?_ hQ ?_
    ·intro Q18 W18 w16
     refine gS 12 (_ :: _ :: _ :: ⟨some (Gd ((decide (0 < (s3.1.length : Int))) = true) (OwnAt (a.get 10) 0 96 s3.1)), [(10, none)]⟩ :: _ :: _ :: _ :: _ :: _ :: _ :: _ :: _ :: []) hs (by kernel_rfl) ⟨mu rfl i13, o1 [(57, some 0)] rfl fun _ _ h n => ok_gtr rfl n.1 (cI rfl), cm 1 rfl rfl, gdT rfl rfl fun hp _ _ h n => ok_moveOA (.inl rfl) (ownAt n.1 (up i10 h n.1)), mT rfl rfl i13, gT [(61, some 4)] rfl rfl fun hp _ _ h n => ok_sub rfl (Gd.get n.1 hp) (cI rfl) (hx14 hp), gT [(60, some 3), (62, some 5)] rfl rfl fun hp _ _ h n => ok_indexAddr rfl Tryd.underlying85 ty96 (IsOwn.rd ((Gd.get n.1 hp)).2) (Gd.get n.2.1 hp) (hx15 hp), gT [(63, some 6)] rfl rfl fun hp _ _ h n => ok_fieldAddr rfl fo96_1 (at_RegionSpan_1 _) (Gd.get n.1 hp), gT [(64, some 7)] rfl rfl fun hp _ _ h n => ok_load rfl ty3 (Gd.get n.1 hp), mT rfl rfl i12, gT [(65, some 8), (66, some 9)] rfl rfl fun hp _ _ h n => ok_eqI rfl (Gd.get n.1 hp) (Gd.get n.2.1 hp), o1 [(59, some 2), (67, some 10)] rfl fun _ _ h n => ok_pickM rfl n.1 hx13 (Gd.get n.2.1) (cB rfl), trivial⟩ W18 fun b q p => ?_
     exact tail_done (k := q) (w16 _ _ ⟨Bs.post ⟨hg, hs, hd⟩ p, p.ke 0 rfl i0, p.ke 1 rfl i1, p.ke 2 rfl i2, p.ke 7 rfl i7, p.ke 10 rfl i10, (by rw [p.old 10 rfl]; exact n10), p.ke 11 rfl i11, p.ke 12 rfl i12, p.ke 13 rfl i13, p.ou 11 68 rfl, trivial⟩)
    rintro a k ⟨⟨hg, hs, hd⟩, i0, i1, i2, i7, i10, n10, i11, i12, i13, i68, _⟩
    obtain ⟨s5, hs5, hr⟩ := bind_some hr
    refine cut (fun a' k' => Bs noF k0 88 a' k' ∧ (IsV a_) (a'.get 0) k' ∧ (IsV b_) (a'.get 1) k' ∧ (IsFn2 Tryd.prog keep_) (a'.get 2) k' ∧ (IsV x6) (a'.get 7) k' ∧ IsOwn 0 96 s5 (a'.get 10) k' ∧ Lo k0 (obF (a'.get 10)) ∧ (IsV s3.2) (a'.get 11) k' ∧ True) ?_ hQ ?_
    ·intro Q19 W19 w17
     replace hr := hs5
     clear hQ
     have hQ := W19
     refine wp_cond_split (isBool i68) (fun hc1322 => ?_) (fun hc1322 => ?_)
     ·rw [if_pos hc1322] at hr
      obtain ⟨x16, hx16, hr⟩ := bind_some hr
      obtain ⟨x17, hx17, hr⟩ := bind_some hr
      obtain ⟨x18, hx18, hr⟩ := bind_some hr
      obtain ⟨x19, hx19, hr⟩ := bind_some hr
      refine cut (fun a' k' => Bs noF k0 88 a' k' ∧ (IsV a_) (a'.get 0) k' ∧ (IsV b_) (a'.get 1) k' ∧ (IsFn2 Tryd.prog keep_) (a'.get 2) k' ∧ (IsV x6) (a'.get 7) k' ∧ IsOwn 0 96 x19 (a'.get 10) k' ∧ Lo k0 (obF (a'.get 10)) ∧ (IsV s3.2) (a'.get 11) k' ∧ True) ?_ hQ ?_
      ·intro Q20 W20 w18
       refine gS 9 (⟨some (OwnAt (a.get 10) 0 96 s3.1), [(10, none)]⟩ :: _ :: _ :: _ :: _ :: _ :: _ :: ⟨some (IsAdrO (a.get 10) ((x16).toNat * Enc.sz RegionSpan)), [(69, some 0), (71, some 2)]⟩ :: _ :: []) hs (by kernel_rfl) ⟨ob1 rfl fun _ _ h n => ok_moveOA (.inl rfl) (ownAt n.1 (up i10 h n.1)), mu rfl i13, o1 [(70, some 1)] rfl fun _ _ h n => ok_sub rfl n.1 (cI rfl) hx16, mu rfl i7, mu rfl i11, o1 [(72, some 3), (73, some 4)] rfl fun _ _ h n => ok_indexAddr rfl Tryd.underlying40 ty3 (IsV.rd n.1) n.2.1 hx17, o1 [(74, some 5)] rfl fun _ _ h n => ok_load rfl ty3 n.1, ob1 rfl fun _ _ h n => ok_indexO rfl Tryd.underlying85 ty96 n.1 n.2.1 hx18, o1 [(76, some 7)] rfl fun _ _ h n => ok_fieldAdrO rfl fo96_1 n.1, trivial⟩ W20 fun b q p => ?_
       have hgq := hg.then p.grow
       have hsb := p.size.trans hs
       have hdb := p.defers.trans hd
       have j0 := p.ke 0 rfl i0
       have j1 := p.ke 1 rfl i1
       have j2 := p.ke 2 rfl i2
       have j7 := p.ke 7 rfl i7
       have j10 := p.ke 10 rfl i10
       have y10 : Lo k0 (obF (b.get 10)) := by rw [p.old 10 rfl]; exact n10
       have j11 := p.ke 11 rfl i11
       have j75 : (IsV x17) (b.get 75) q := p.ou 6 75 rfl
       have j77 : IsAdrO (a.get 10) ((x16).toNat * Enc.sz RegionSpan + 1) (b.get 77) q := p.ou 8 77 rfl
       have eo : b.get 10 = a.get 10 := p.old 10 rfl
       have hns := j10.nshF
       refine tail_storeS (i := 9) (u := b.get 10) (m := (x16).toNat) (off := 0 + 1) rfl rfl rfl rfl szf3 upd_F96_1 (by rw [eo]; exact j77) j10 (getI_spec hx18).2.1 j75 fun q2 hch hz => ?_
       replace hgq := hgq.step hch y10.wr
       have hle := hch.le hns
       replace j0 := Pers.pers hle j0
       replace j1 := Pers.pers hle j1
       replace j2 := Pers.pers hle j2
       replace j7 := Pers.pers hle j7
       replace j11 := Pers.pers hle j11
       replace j75 := Pers.pers hle j75
       replace j77 := Pers.pers hle j77
       replace j10 := hz
       rw [Option.some.inj hx19] at j10
       clear hns hle hch eo hz
       obtain ⟨q, hqq⟩ : ∃ q, q = q2 := ⟨q2, rfl⟩
       subst hqq
       exact tail_done (k := q) (w18 _ _ ⟨⟨hgq, hsb, hdb⟩, j0, j1, j2, j7, j10, y10, j11, trivial⟩)
      rintro a k ⟨⟨hg, hs, hd⟩, i0, i1, i2, i7, i10, n10, i11, _⟩
      obtain rfl := Option.some.inj hr
      exact w17 _ _ ⟨⟨hg, hs, hd⟩, i0, i1, i2, i7, i10, n10, i11, trivial⟩
     rw [if_neg (by rw [hc1322]; decide)] at hr
     obtain ⟨x20, hx20, hr⟩ := bind_some hr
     obtain ⟨x21, hx21, hr⟩ := bind_some hr
     refine cut (fun a' k' => Bs noF k0 88 a' k' ∧ (IsV a_) (a'.get 0) k' ∧ (IsV b_) (a'.get 1) k' ∧ (IsFn2 Tryd.prog keep_) (a'.get 2) k' ∧ (IsV x6) (a'.get 7) k' ∧ IsOwn 0 96 x21 (a'.get 10) k' ∧ Lo k0 (obF (a'.get 10)) ∧ (IsV s3.2) (a'.get 11) k' ∧ True) ?_ hQ ?_
     ·intro Q21 W21 w19
      refine gS 8 (⟨some (OwnAt (a.get 10) 0 96 s3.1), [(10, none)]⟩ :: _ :: _ :: _ :: _ :: _ :: ⟨some (IsV (⟨x8, x20⟩ : RegionSpan)), [(79, some 1), (83, some 5)]⟩ :: ⟨some (IsV (α := (List RegionSpan)) ([(⟨x8, x20⟩ : RegionSpan)])), [(84, some 6)]⟩ :: []) hs (by kernel_rfl) ⟨ob1 rfl fun _ _ h n => ok_moveOA (.inl rfl) (ownAt n.1 (up i10 h n.1)), mu rfl i12, mu rfl i7, mu rfl i11, o1 [(80, some 2), (81, some 3)] rfl fun _ _ h n => ok_indexAddr rfl Tryd.underlying40 ty3 (IsV.rd n.1) n.2.1 hx20, o1 [(82, some 4)] rfl fun _ _ h n => ok_load rfl ty3 n.1, ob1 rfl fun _ _ h n => ok_build rfl (bld96_0_1 n.1 n.2.1), ob1 rfl fun _ _ h n => ok_buildSlice rfl Tryd.underlying85 eo96 rfl (by decide) (by decide) ⟨rfl, n.1, trivial⟩, trivial⟩ W21 fun b q p => ?_
      have hgq := hg.then p.grow
      have hsb := p.size.trans hs
      have hdb := p.defers.trans hd
      have j0 := p.ke 0 rfl i0
      have j1 := p.ke 1 rfl i1
      have j2 := p.ke 2 rfl i2
      have j7 := p.ke 7 rfl i7
      have j11 := p.ke 11 rfl i11
      have e78 : b.get 78 = a.get 10 := (p.ou 0 78 rfl).1
      have j78 : IsOwn 0 96 s3.1 (b.get 78) q := (p.ou 0 78 rfl).2
      have y78 : Lo k0 (obF (b.get 78)) := by rw [e78]; exact n10
      have j85 : (IsV (α := (List RegionSpan)) ([(⟨x8, x20⟩ : RegionSpan)])) (b.get 85) q := p.ou 7 85 rfl
      have hns := j78.nshF
      refine tail_appendS (i := 8) (d := 86) rfl rfl rfl rfl (by rw [hsb]; decide) (e := 96) Tryd.underlying85 eo96 j78 (IsV.rd j85) hx21 fun b2 q2 hsz hdf hoth hch hown hob => ?_
      have hle := hch.le hns
      have yn : Lo k0 (obF (b2.get 86)) := y78.app hgq hob
      replace j0 := Pers.pers hle j0
      replace j1 := Pers.pers hle j1
      replace j2 := Pers.pers hle j2
      replace j7 := Pers.pers hle j7
      replace j11 := Pers.pers hle j11
      replace j85 := Pers.pers hle j85
      replace hgq := hgq.step hch y78.wr
      rw [← hoth 0 (by decide)] at j0
      rw [← hoth 1 (by decide)] at j1
      rw [← hoth 2 (by decide)] at j2
      rw [← hoth 7 (by decide)] at j7
      rw [← hoth 11 (by decide)] at j11
      rw [← hoth 85 (by decide)] at j85
      have j86 := hown
      have y86 := yn
      replace hsb := hsz.trans hsb
      replace hdb := hdf.trans hdb
      clear hle hch hown hob hns yn hsz hdf hoth
      obtain ⟨b, hbb⟩ : ∃ b, b = b2 := ⟨b2, rfl⟩
      subst hbb
      obtain ⟨q, hqq⟩ : ∃ q, q = q2 := ⟨q2, rfl⟩
      subst hqq
      refine tail_assign (i := 9) (d := 10) rfl rfl (.inl rfl) rfl (by rw [hsb]; decide) fun b2 hsz hdf hnew hoth => ?_
      have jn : (IsOwn 0 96 x21) (b2.get 10) q := by rw [hnew]; exact j86
      have yn : Lo k0 (obF (b2.get 10)) := by rw [hnew]; exact y86
      rw [← hoth 0 (by decide)] at j0
      rw [← hoth 1 (by decide)] at j1
      rw [← hoth 2 (by decide)] at j2
      rw [← hoth 7 (by decide)] at j7
      rw [← hoth 11 (by decide)] at j11
      rw [← hoth 85 (by decide)] at j85
      have j10 := jn
      have y10 := yn
      replace hsb := hsz.trans hsb
      replace hdb := hdf.trans hdb
      clear hsz hdf hoth
      obtain ⟨b, hbb⟩ : ∃ b, b = b2 := ⟨b2, rfl⟩
      subst hbb
      exact tail_done (k := q) (w19 _ _ ⟨⟨hgq, hsb, hdb⟩, j0, j1, j2, j7, j10, y10, j11, trivial⟩)
     rintro a k ⟨⟨hg, hs, hd⟩, i0, i1, i2, i7, i10, n10, i11, _⟩
     obtain rfl := Option.some.inj hr
     exact w17 _ _ ⟨⟨hg, hs, hd⟩, i0, i1, i2, i7, i10, n10, i11, trivial⟩
    clear hs5
    rintro a k ⟨⟨hg, hs, hd⟩, i0, i1, i2, i7, i10, n10, i11, _⟩
    obtain rfl := Option.some.inj hr
    exact w12 _ _ ⟨⟨hg, hs, hd⟩, i0, i1, i2, i7, i10, n10, i11, trivial⟩
   clear hs4
   rintro a k ⟨⟨hg, hs, hd⟩, i0, i1, i2, i7, i10, n10, i11, _⟩
   obtain ⟨x22, hx22, hr⟩ := bind_some hr
   refine cut (fun a' k' => Bs noF k0 88 a' k' ∧ (IsV a_) (a'.get 0) k' ∧ (IsV b_) (a'.get 1) k' ∧ (IsFn2 Tryd.prog keep_) (a'.get 2) k' ∧ (IsV x6) (a'.get 7) k' ∧ IsOwn 0 96 s4 (a'.get 10) k' ∧ Lo k0 (obF (a'.get 10)) ∧ (IsV x22) (a'.get 11) k' ∧ True) ?_ hQ ?_
   ·intro Q22 W22 w20
    refine gS 3 (_ :: _ :: _ :: []) hs (by kernel_rfl) ⟨mu rfl i11, o1 [(39, some 0)] rfl fun _ _ h n => ok_add rfl n.1 (cI rfl) hx22, cp 1 rfl rfl, trivial⟩ W22 fun b q p => ?_
    exact tail_done (k := q) (w20 _ _ ⟨Bs.post ⟨hg, hs, hd⟩ p, p.ke 0 rfl i0, p.ke 1 rfl i1, p.ke 2 rfl i2, p.ke 7 rfl i7, p.ke 10 rfl i10, (by rw [p.old 10 rfl]; exact n10), p.ou 2 11 rfl, trivial⟩)
   rintro a k ⟨⟨hg, hs, hd⟩, i0, i1, i2, i7, i10, n10, i11, _⟩
   exact hgo1304 _ _ _ (Option.some.inj hr).symm ⟨⟨hg, hs, hd⟩, i0, i1, i2, i7, i10, n10, i11, trivial⟩
  rw [if_neg (by rw [hc1338]; decide)] at hr
  refine wp_exit ?_
  obtain ⟨kk, sh1337, ii10⟩ := i10.give
  replace i10 := ii10
  replace hg := hg.hand sh1337 n10.wr
  rw [← sh1337.w]
  clear sh1337
  obtain ⟨k, hkk⟩ : ∃ k, k = kk := ⟨kk, rfl⟩
  subst hkk
  exact hex1305 _ _ _ _ (Option.some.inj hr).symm ⟨rfl, ⟨hg, hs, hd⟩, i10, trivial⟩
 ·rintro r2 a k rfl hR
  dsimp only at hr
  obtain rfl := Option.some.inj hr
  exact hR
 ·rintro _ _ _ rfl _
  simp at hr
 clear hf2
 rintro _ s6 a k rfl ⟨rfl, ⟨hg, hs, hd⟩, i10, _⟩
 dsimp only at hr
 refine stepL 2 (_ :: _ :: []) rfl ⟨hg, hs, hd⟩ (by kernel_rfl) ⟨mu rfl i10, cp 0 rfl rfl, trivial⟩ [⟨_, _⟩] (fun b q p => ⟨p.ou 1 6 rfl, trivial⟩) ?_
 rintro a k ⟨⟨hg, hs, hd⟩, i6, _⟩
 refine wp_ret ?_
 obtain rfl := Option.some.inj hr
 exact retC1 rfl hd hg i6
def region_combine_L0 (keep_ : (Bool → Bool → Option (Bool))) (x1 : (List RegionStrip)) (x2 : (List RegionStrip)) (x3 : (List RegionStrip)) (s1 : (List RegionStrip) × Int) : Option (Flow ((List RegionStrip) × Int) ((List Rect) × Int)) :=
 if (decide (s1.2 < (x3.length : Int))) then
  (getI s1.1 s1.2).bind fun x4 =>
  (region_at x1 x4.x0).bind fun x5 =>
  (region_at x2 x4.x0).bind fun x6 =>
  (region_merge x5 x6 keep_).bind fun x7 =>
  (getI s1.1 s1.2).bind fun x8 =>
  (some (s1.1.set (s1.2).toNat ({ x8 with column := x7 }))).bind fun x9 =>
  (addI s1.2 1).bind fun x10 =>
  some (.go (x9, x10))
 else
  some (.ex 0 (s1.1, s1.2))
def region_combine (a_ : (List Rect)) (b_ : (List Rect)) (keep_ : (Bool → Bool → Option (Bool))) : Option ((List Rect) × Int) :=
 (region_Right a_).bind fun x1 =>
 (if (!x1) then
  some true
 else
  (region_Right b_).bind fun x2 =>
  some (!x2)).bind fun x3 =>
 if x3 then
  some (([] : List Rect), 1)
 else
  (region_strips ([a_])).bind fun x4 =>
  (region_strips ([b_])).bind fun x5 =>
  (region_strips ([a_, b_])).bind fun x6 =>
  (iterL (region_combine_L0 keep_ x4 x5 x6) (x6.length + 1) (x6, 0)).bind fun f1 => match f1 with
   | .go _ => none
   | .ex _ s1 =>
    (region_write s1.1).bind fun x7 =>
    (region_limited x7).bind fun x8 =>
    some (x8.1, x8.2)
   | .ret r1 => some r1
theorem region_combine_ok {k0 : K} {v0 v1 v2 : Value} {a_ : (List Rect)} {b_ : (List Rect)} {keep_ : (Bool → Bool → Option (Bool))} {r : (List Rect) × Int} (i0 : (IsV a_) v0 k0) (i1 : (IsV b_) v1 k0) (i2 : (IsFn2 Tryd.prog keep_) v2 k0) (hr : region_combine a_ b_ keep_ = some r) :
  Calls Tryd.prog 34 #[v0, v1, v2] k0.w (Ret k0 (IsTup2 (IsV r.1) (IsV r.2))) := by
 unfold region_combine at hr
 refine Ret.ofC ?_
 refine enterK Tryd.func34 rfl Tryd.ntmps34 (show 3 ≤ 58 by decide) fun a k hk0 hs hd ha => ?_
 obtain ⟨e0, e1, e2, _⟩ := ha
 replace i0 : (IsV a_) (a.get 0) k := by rw [e0, hk0]; exact i0
 replace i1 : (IsV b_) (a.get 1) k := by rw [e1, hk0]; exact i1
 replace i2 : (IsFn2 Tryd.prog keep_) (a.get 2) k := by rw [e2, hk0]; exact i2
 have hQ : Gb.LetsOut (bodyPost Tryd.prog Tryd.f34 (RetC noF k0 (IsTup2 (IsV r.1) (IsV r.2)))) := letsOutC
 have hg : Chg noF k0 k := by rw [hk0]; exact Chg.refl _ k0
 refine stepL 2 (⟨some IsE0, []⟩ :: ⟨some (IsI 0), []⟩ :: []) rfl ⟨hg, hs, hd⟩ (by kernel_rfl) ⟨ob1 rfl fun b q h n => ok_assign rfl isE0_nil, aI rfl rfl, trivial⟩ [⟨_, _⟩, ⟨_, _⟩, ⟨_, _⟩] (fun b q p => ⟨p.ke 0 rfl i0, p.ke 1 rfl i1, p.ke 2 rfl i2, trivial⟩) ?_
 rintro a k ⟨⟨hg, hs, hd⟩, i0, i1, i2, _⟩
 refine wp_seq ?_
 refine wp_seq ?_
 obtain ⟨x1, hx1, hr⟩ := bind_some hr
 obtain ⟨x2, hx2, hr⟩ := bind_some hr
 obtain ⟨x3, hx3, hx2⟩ := ite_bindF hx2
 refine cut (fun a' k' => Bs noF k0 58 a' k' ∧ (IsV a_) (a'.get 0) k' ∧ (IsV b_) (a'.get 1) k' ∧ (IsFn2 Tryd.prog keep_) (a'.get 2) k' ∧ (IsV x2) (a'.get 20) k' ∧ True) ?_ hQ ?_
 ·intro Q1 W1 w1
  refine gS 8 (_ :: _ :: _ :: _ :: _ :: _ :: _ :: _ :: []) hs (by kernel_rfl) ⟨mu rfl i0, o1 [(13, some 0)] rfl fun _ _ h n => ok_call rfl Tryd.call13 (region_Right_ok n.1 hx1), o1 [(14, some 1)] rfl fun _ _ h n => ok_not rfl n.1, cm 2 rfl rfl, mF rfl rfl i1, gF [(17, some 4)] rfl rfl fun hp _ _ h n => ok_call rfl Tryd.call13 (region_Right_ok (Gd.get n.1 hp) (hx3 hp)), gF [(18, some 5)] rfl rfl fun hp _ _ h n => ok_not rfl (Gd.get n.1 hp), o1 [(16, some 3), (19, some 6)] rfl fun _ _ h n => ok_pickM rfl n.1 hx2 (cB rfl) (Gd.get n.2.1), trivial⟩ W1 fun b q p => ?_
  exact tail_done (k := q) (w1 _ _ ⟨Bs.post ⟨hg, hs, hd⟩ p, p.ke 0 rfl i0, p.ke 1 rfl i1, p.ke 2 rfl i2, p.ou 7 20 rfl, trivial⟩)
 rintro a k ⟨⟨hg, hs, hd⟩, i0, i1, i2, i20, _⟩
 refine wp_cond_split (isBool i20) (fun hc1403 => ?_) (fun hc1403 => ?_)
 ·rw [if_pos hc1403] at hr
  refine cutL noF k0 58 [⟨6, IsV ([] : List Rect)⟩, ⟨7, IsI 1⟩] ?_ ?_
  ·intro Q2 W2 w2
   refine gS 2 (⟨some IsE0, []⟩ :: ⟨some (IsI 1), []⟩ :: []) hs (by kernel_rfl) ⟨ob1 rfl fun b q h n => ok_assign rfl isE0_nil, aI rfl rfl, trivial⟩ W2 fun b q p => ?_
   have hgq := hg.then p.grow
   have hsb := p.size.trans hs
   have hdb := p.defers.trans hd
   have j6 : IsE0 (b.get 6) q := p.ou 0 6 rfl
   have j7 : (IsI 1) (b.get 7) q := p.ou 1 7 rfl
   replace j6 : IsV ([] : List Rect) (b.get 6) q := j6.isV
   exact tail_done (k := q) (w2 _ _ ⟨⟨hgq, hsb, hdb⟩, j6, j7, trivial⟩)
  rintro a k ⟨⟨hg, hs, hd⟩, i6, i7, _⟩
  refine wp_ret ?_
  obtain rfl := Option.some.inj hr
  exact retC2 rfl hd hg i6 i7
 rw [if_neg (by rw [hc1403]; decide)] at hr
 refine wp_skip ?_
 refine wp_seq ?_
 obtain ⟨x4, hx4, hr⟩ := bind_some hr
 obtain ⟨x5, hx5, hr⟩ := bind_some hr
 refine cut (fun a' k' => Bs noF k0 58 a' k' ∧ (IsV a_) (a'.get 0) k' ∧ (IsV b_) (a'.get 1) k' ∧ (IsFn2 Tryd.prog keep_) (a'.get 2) k' ∧ (IsV x4) (a'.get 8) k' ∧ (IsV x5) (a'.get 9) k' ∧ True) ?_ hQ ?_
 ·intro Q3 W3 w3
  refine gS 8 (_ :: ⟨some (IsV (α := (List (List Rect))) ([a_])), [(21, some 0)]⟩ :: _ :: _ :: ⟨some (IsV (α := (List (List Rect))) ([b_])), [(24, some 3)]⟩ :: _ :: _ :: _ :: []) hs (by kernel_rfl) ⟨mu rfl i0, ob1 rfl fun _ _ h n => ok_buildSlice rfl Tryd.underlying97 eo45 rfl (by decide) (by decide) ⟨rfl, n.1, trivial⟩, o1 [(22, some 1)] rfl fun _ _ h n => ok_call rfl Tryd.call42 (region_strips_ok n.1 hx4), mu rfl i1, ob1 rfl fun _ _ h n => ok_buildSlice rfl Tryd.underlying97 eo45 rfl (by decide) (by decide) ⟨rfl, n.1, trivial⟩, o1 [(25, some 4)] rfl fun _ _ h n => ok_call rfl Tryd.call42 (region_strips_ok n.1 hx5), cp 2 rfl rfl, cp 5 rfl rfl, trivial⟩ W3 fun b q p => ?_
  exact tail_done (k := q) (w3 _ _ ⟨Bs.post ⟨hg, hs, hd⟩ p, p.ke 0 rfl i0, p.ke 1 rfl i1, p.ke 2 rfl i2, p.ou 6 8 rfl, p.ou 7 9 rfl, trivial⟩)
 rintro a k ⟨⟨hg, hs, hd⟩, i0, i1, i2, i8, i9, _⟩
 refine wp_seq ?_
 obtain ⟨x6, hx6, hr⟩ := bind_some hr
 refine cut (fun a' k' => Bs noF k0 58 a' k' ∧ (IsFn2 Tryd.prog keep_) (a'.get 2) k' ∧ (IsV x4) (a'.get 8) k' ∧ (IsV x5) (a'.get 9) k' ∧ IsOwn 0 87 x6 (a'.get 10) k' ∧ Lo k0 (obF (a'.get 10)) ∧ True) ?_ hQ ?_
 ·intro Q4 W4 w4
  refine gS 5 (_ :: _ :: ⟨some (IsV (α := (List (List Rect))) ([a_, b_])), [(27, some 0), (28, some 1)]⟩ :: _ :: _ :: []) hs (by kernel_rfl) ⟨mu rfl i0, mu rfl i1, ob1 rfl fun _ _ h n => ok_buildSlice rfl Tryd.underlying97 eo45 rfl (by decide) (by decide) ⟨rfl, n.1, rfl, n.2.1, trivial⟩, o1 [(29, some 2)] rfl fun _ _ h n => ok_call rfl Tryd.call42 (ret_weaken h.size (region_strips_okO n.1 hx6)), cp 3 rfl rfl, trivial⟩ W4 fun b q p => ?_
  have hgq := hg.then p.grow
  have hsb := p.size.trans hs
  have hdb := p.defers.trans hd
  have j2 := p.ke 2 rfl i2
  have j8 := p.ke 8 rfl i8
  have j9 := p.ke 9 rfl i9
  have j10 : (IsOwn k.w.heap.size 87 x6) (b.get 10) q := p.ou 4 10 rfl
  have x10 : Lo k (obF (b.get 10)) := j10.loF
  have y10 := x10.chg hg
  replace j10 := j10.weaken (Nat.zero_le _)
  exact tail_done (k := q) (w4 _ _ ⟨⟨hgq, hsb, hdb⟩, j2, j8, j9, j10, y10, trivial⟩)
 rintro a k ⟨⟨hg, hs, hd⟩, i2, i8, i9, i10, n10, _⟩
 refine wp_seq ?_
 refine cutS (fun c l => Bs noF k0 58 c l ∧ IsFn2 Tryd.prog keep_ (c.get 2) l ∧ IsV x4 (c.get 8) l ∧ IsV x5 (c.get 9) l ∧ IsOwn 0 87 x6 (c.get 10) l ∧ Lo k0 (obF (c.get 10)) ∧ c.get 31 = c.get 10 ∧ IsL x6 (c.get 32) l ∧ IsI 0 (c.get 33) l ∧ True) ?_ ?_
 ·intro Q5 W5 w5
  refine gS 3 (⟨some (OwnAt (a.get 10) 0 87 x6), [(10, none)]⟩ :: _ :: ⟨some (IsI 0), []⟩ :: []) hs (by kernel_rfl) ⟨ob1 rfl fun _ _ h n => ok_moveOA (.inl rfl) (ownAt n.1 (up i10 h n.1)), o1 [(31, some 0)] rfl fun _ _ h n => ok_len rfl rfl Tryd.underlying79 (IsOwn.rd (n.1).2), ob1 rfl fun _ _ h n => ok_move rfl (cI rfl), trivial⟩ W5 fun b q p => ?_
  have hgq := hg.then p.grow
  have hsb := p.size.trans hs
  have hdb := p.defers.trans hd
  have j2 := p.ke 2 rfl i2
  have j8 := p.ke 8 rfl i8
  have j9 := p.ke 9 rfl i9
  have j10 := p.ke 10 rfl i10
  have y10 : Lo k0 (obF (b.get 10)) := by rw [p.old 10 rfl]; exact n10
  have j31 : b.get 31 = b.get 10 := (show b.get 31 = a.get 10 from (p.ou 0 31 rfl).1).trans (p.old 10 rfl).symm
  have j32 : (IsL x6) (b.get 32) q := p.ou 1 32 rfl
  have j33 : (IsI 0) (b.get 33) q := p.ou 2 33 rfl
  exact tail_done (k := q) (w5 _ _ ⟨⟨hgq, hsb, hdb⟩, j2, j8, j9, j10, y10, j31, j32, j33, trivial⟩)
 rintro a k ⟨⟨hg, hs, hd⟩, i2, i8, i9, i10, n10, i31, i32, i33, _⟩
 refine wp_block ?_
 obtain ⟨f1, hf1, hr⟩ := bind_some hr
 refine cutFe f1 (fun s' c l => Bs noF k0 58 c l ∧ IsFn2 Tryd.prog keep_ (c.get 2) l ∧ IsV x4 (c.get 8) l ∧ IsV x5 (c.get 9) l ∧ IsOwn 0 87 s'.1 (c.get 10) l ∧ Lo k0 (obF (c.get 10)) ∧ c.get 31 = c.get 10 ∧ IsL x6 (c.get 32) l ∧ IsV s'.2 (c.get 33) l ∧ True) (fun i' s' c l => (i' = 0 ∧ Bs noF k0 58 c l ∧ IsV s'.1 (c.get 10) l ∧ True)) (fun r' c l => bodyPost Tryd.prog Tryd.f34 (RetC noF k0 (IsTup2 (IsV r'.1) (IsV r'.2))) .ret c l.w) ?_ hQ ?_ ?_ ?_
 ·intro Q6 W6 hgo hex hret
  refine sim_loop ?_ _ _ _ _ _ hf1 ⟨⟨hg, hs, hd⟩, i2, i8, i9, i10, n10, i31, i32, i33, trivial⟩ Q6 W6 hgo hex hret
  clear hr hf1 hgo hex hret W6 hQ hg hs hd i10 i2 i31 i32 i33 i8 i9 n10
  intro s1 fl_ a k hr hS Q hQ hgo1373 hex1374 hret1375
  obtain ⟨⟨hg, hs, hd⟩, i2, i8, i9, i10, n10, i31, i32, i33, _⟩ := hS
  unfold region_combine_L0 at hr
  refine cutS (fun c l => Bs noF k0 58 c l ∧ IsFn2 Tryd.prog keep_ (c.get 2) l ∧ IsV x4 (c.get 8) l ∧ IsV x5 (c.get 9) l ∧ IsOwn 0 87 s1.1 (c.get 10) l ∧ Lo k0 (obF (c.get 10)) ∧ c.get 31 = c.get 10 ∧ IsL x6 (c.get 32) l ∧ IsV s1.2 (c.get 33) l ∧ (IsV (decide (s1.2 < (x6.length : Int)))) (c.get 34) l ∧ True) ?_ ?_
  ·intro Q7 W7 w6
   refine gS 1 (_ :: []) hs (by kernel_rfl) ⟨o1 [(33, none), (32, none)] rfl fun _ _ h n => ok_lss rfl (up i33 h n.1) (up i32 h n.2.1), trivial⟩ W7 fun b q p => ?_
   exact tail_done (k := q) (w6 _ _ ⟨Bs.post ⟨hg, hs, hd⟩ p, p.ke 2 rfl i2, p.ke 8 rfl i8, p.ke 9 rfl i9, p.ke 10 rfl i10, (by rw [p.old 10 rfl]; exact n10), ((p.old 31 rfl).trans (i31.trans (p.old 10 rfl).symm)), p.ke 32 rfl i32, p.ke 33 rfl i33, p.ou 0 34 rfl, trivial⟩)
  rintro a k ⟨⟨hg, hs, hd⟩, i2, i8, i9, i10, n10, i31, i32, i33, i34, _⟩
  refine wp_seq ?_
  refine wp_cond_split (isBool i34) (fun hc1387 => ?_) (fun hc1387 => ?_)
  ·rw [if_pos hc1387] at hr
   refine wp_skip ?_
   refine wp_seq ?_
   refine wp_block ?_
   refine wp_seq ?_
   obtain ⟨x7, hx7, hr⟩ := bind_some hr
   refine cut (fun a' k' => Bs noF k0 58 a' k' ∧ (IsFn2 Tryd.prog keep_) (a'.get 2) k' ∧ (IsV x4) (a'.get 8) k' ∧ (IsV x5) (a'.get 9) k' ∧ IsOwn 0 87 s1.1 (a'.get 10) k' ∧ Lo k0 (obF (a'.get 10)) ∧ (IsV s1.2) (a'.get 11) k' ∧ (IsRef x7) (a'.get 12) k' ∧ a'.get 31 = a'.get 10 ∧ (IsL x6) (a'.get 32) k' ∧ (IsV s1.2) (a'.get 33) k' ∧ True) ?_ hQ ?_
   ·intro Q8 W8 w7
    refine gS 5 (_ :: _ :: _ :: ⟨some (IsBox k.w.heap.size (⟨0, 0, []⟩ : RegionStrip)), []⟩ :: _ :: []) hs (by kernel_rfl) ⟨mu rfl i33, o1 [(31, none), (33, none)] rfl fun _ _ h n => ok_indexAddr rfl Tryd.underlying79 ty87 (IsOwn.rd ((ownAt ((n.1).trans i31) (upT i10 h ((n.1).trans i31)))).2) (up i33 h n.2.1) hx7, o1 [(36, some 1)] rfl fun _ _ h n => ok_load rfl ty87 n.1, ob1 rfl fun _ _ h n => ok_alloc _ h.size rfl z87, cp 0 rfl rfl, trivial⟩ W8 fun b q p => ?_
    have hgq := hg.then p.grow
    have hsb := p.size.trans hs
    have hdb := p.defers.trans hd
    have j2 := p.ke 2 rfl i2
    have j8 := p.ke 8 rfl i8
    have j9 := p.ke 9 rfl i9
    have j10 := p.ke 10 rfl i10
    have y10 : Lo k0 (obF (b.get 10)) := by rw [p.old 10 rfl]; exact n10
    have j11 : (IsV s1.2) (b.get 11) q := p.ou 4 11 rfl
    obtain ⟨b12, j12, x12, z12⟩ : (IsBox k.w.heap.size (⟨0, 0, []⟩ : RegionStrip)) (b.get 12) q := p.ou 3 12 rfl
    replace x12 : Lo k (Eq b12) := Lo.eq x12
    have y12 : Lo k0 (Eq b12) := x12.chg hg
    have j31 : b.get 31 = b.get 10 := (p.old 31 rfl).trans (i31.trans (p.old 10 rfl).symm)
    have j32 := p.ke 32 rfl i32
    have j33 := p.ke 33 rfl i33
    have j37 : (IsV x7) (b.get 37) q := p.ou 2 37 rfl
    have w10_12 : Apart (obF (b.get 10)) (Eq b12) := Apart.new (by rw [p.old 10 rfl]; exact i10.ltF) x12
    have hns := z12.nshF
    refine tail_storeB (i := 5) rfl rfl rfl rfl szf87 (Upd.self (α := RegionStrip)) j12 z12 j37 fun q2 hch hz => ?_
    replace hgq := hgq.step hch y12.wr
    have hle := hch.le hns
    replace j2 := Pers.pers hle j2
    replace j8 := Pers.pers hle j8
    replace j9 := Pers.pers hle j9
    replace j10 := j10.keep hch w10_12 hns
    replace j11 := Pers.pers hle j11
    replace j32 := Pers.pers hle j32
    replace j33 := Pers.pers hle j33
    replace j37 := Pers.pers hle j37
    replace z12 := hz
    clear hns hle hch
    obtain ⟨q, hqq⟩ : ∃ q, q = q2 := ⟨q2, rfl⟩
    subst hqq
    obtain ⟨q2, hsh, jn⟩ := z12.give
    replace j2 := Pers.pers hsh.le j2
    replace j8 := Pers.pers hsh.le j8
    replace j9 := Pers.pers hsh.le j9
    replace j10 := j10.handed hsh w10_12
    replace j11 := Pers.pers hsh.le j11
    replace j32 := Pers.pers hsh.le j32
    replace j33 := Pers.pers hsh.le j33
    rw [← j12] at jn
    replace j12 := jn
    replace hgq := hgq.hand hsh y12.wr
    rw [← hsh.w]
    clear hsh
    obtain ⟨q, hqq⟩ : ∃ q, q = q2 := ⟨q2, rfl⟩
    subst hqq
    exact tail_done (k := q) (w7 _ _ ⟨⟨hgq, hsb, hdb⟩, j2, j8, j9, j10, y10, j11, j12, j31, j32, j33, trivial⟩)
   rintro a k ⟨⟨hg, hs, hd⟩, i2, i8, i9, i10, n10, i11, i12, i31, i32, i33, _⟩
   obtain ⟨x8, hx8, hr⟩ := bind_some hr
   obtain ⟨x9, hx9, hr⟩ := bind_some hr
   obtain ⟨x11, hx11, hr⟩ := bind_some hr
   obtain ⟨x13, hx13, hr⟩ := bind_some hr
   obtain ⟨x14, hx14, hr⟩ := bind_some hr
   refine cut (fun a' k' => Bs noF k0 58 a' k' ∧ (IsFn2 Tryd.prog keep_) (a'.get 2) k' ∧ (IsV x4) (a'.get 8) k' ∧ (IsV x5) (a'.get 9) k' ∧ IsOwn 0 87 x14 (a'.get 10) k' ∧ Lo k0 (obF (a'.get 10)) ∧ a'.get 31 = a'.get 10 ∧ (IsL x6) (a'.get 32) k' ∧ (IsV s1.2) (a'.get 33) k' ∧ True) ?_ hQ ?_
   ·intro Q9 W9 w8
    refine region (m := 14) (⟨some (OwnAt (a.get 10) 0 87 s1.1), [(10, none)]⟩ :: _ :: _ :: _ :: _ :: _ :: _ :: _ :: _ :: _ :: _ :: _ :: ⟨some (IsAdrO (a.get 10) ((s1.2).toNat * Enc.sz RegionStrip)), [(38, some 0), (39, some 1)]⟩ :: _ :: []) hmix hs (by kernel_rfl) ⟨ob1 rfl fun _ _ h n => ok_moveOA (.inl rfl) (ownAt n.1 (up i10 h n.1)), mu rfl i11, mu rfl i8, o1 [(12, none)] rfl fun _ _ h n => ok_fieldAddr rfl fo87_0 (at_RegionStrip_0 _) ((up i12 h n.1)).ptr, o1 [(41, some 3)] rfl fun _ _ h n => ok_load rfl ty3 n.1, o1 [(40, some 2), (42, some 4)] rfl fun _ _ h n => ok_call rfl Tryd.call50 (region_at_ok n.1 n.2.1 hx8), mu rfl i9, o1 [(12, none)] rfl fun _ _ h n => ok_fieldAddr rfl fo87_0 (at_RegionStrip_0 _) ((up i12 h n.1)).ptr, o1 [(45, some 7)] rfl fun _ _ h n => ok_load rfl ty3 n.1, o1 [(44, some 6), (46, some 8)] rfl fun _ _ h n => ok_call rfl Tryd.call50 (region_at_ok n.1 n.2.1 hx9), mu rfl i2, o1 [(43, some 5), (47, some 9), (48, some 10)] rfl fun _ _ h n => ok_call rfl Tryd.call49 (region_merge_ok n.1 n.2.1 n.2.2.1 hx11), ob1 rfl fun _ _ h n => ok_indexO rfl Tryd.underlying79 ty87 n.1 n.2.1 hx13, o1 [(50, some 12)] rfl fun _ _ h n => ok_fieldAdrO rfl fo87_2 n.1, trivial⟩ W9 fun b q p => ?_
    have hgq := hg.then p.grow
    have hsb := p.size.trans hs
    have hdb := p.defers.trans hd
    have j2 := p.ke 2 rfl i2
    have j8 := p.ke 8 rfl i8
    have j9 := p.ke 9 rfl i9
    have j10 := p.ke 10 rfl i10
    have y10 : Lo k0 (obF (b.get 10)) := by rw [p.old 10 rfl]; exact n10
    have j31 : b.get 31 = b.get 10 := (p.old 31 rfl).trans (i31.trans (p.old 10 rfl).symm)
    have j32 := p.ke 32 rfl i32
    have j33 := p.ke 33 rfl i33
    have j49 : (IsV x11) (b.get 49) q := p.ou 11 49 rfl
    have j51 : IsAdrO (a.get 10) ((s1.2).toNat * Enc.sz RegionStrip + 2) (b.get 51) q := p.ou 13 51 rfl
    have eo : b.get 10 = a.get 10 := p.old 10 rfl
    have hns := j10.nshF
    refine tail_storeS (i := 14) (u := b.get 10) (m := (s1.2).toNat) (off := 0 + 2) rfl rfl rfl rfl szf85 upd_F87_2 (by rw [eo]; exact j51) j10 (getI_spec hx13).2.1 j49 fun q2 hch hz => ?_
    replace hgq := hgq.step hch y10.wr
    have hle := hch.le hns
    replace j2 := Pers.pers hle j2
    replace j8 := Pers.pers hle j8
    replace j9 := Pers.pers hle j9
    replace j32 := Pers.pers hle j32
    replace j33 := Pers.pers hle j33
    replace j49 := Pers.pers hle j49
    replace j51 := Pers.pers hle j51
    replace j10 := hz
    rw [Option.some.inj hx14] at j10
    clear hns hle hch eo hz
    obtain ⟨q, hqq⟩ : ∃ q, q = q2 := ⟨q2, rfl⟩
    subst hqq
    exact tail_done (k := q) (w8 _ _ ⟨⟨hgq, hsb, hdb⟩, j2, j8, j9, j10, y10, j31, j32, j33, trivial⟩)
   rintro a k ⟨⟨hg, hs, hd⟩, i2, i8, i9, i10, n10, i31, i32, i33, _⟩
   obtain ⟨x15, hx15, hr⟩ := bind_some hr
   refine cut (fun a' k' => Bs noF k0 58 a' k' ∧ (IsFn2 Tryd.prog keep_) (a'.get 2) k' ∧ (IsV x4) (a'.get 8) k' ∧ (IsV x5) (a'.get 9) k' ∧ IsOwn 0 87 x14 (a'.get 10) k' ∧ Lo k0 (obF (a'.get 10)) ∧ a'.get 31 = a'.get 10 ∧ (IsL x6) (a'.get 32) k' ∧ (IsV x15) (a'.get 33) k' ∧ True) ?_ hQ ?_
   ·intro Q10 W10 w9
    refine gS 2 (_ :: _ :: []) hs (by kernel_rfl) ⟨o1 [(33, none)] rfl fun _ _ h n => ok_add rfl (up i33 h n.1) (cI rfl) hx15, cm 0 rfl rfl, trivial⟩ W10 fun b q p => ?_
    exact tail_done (k := q) (w9 _ _ ⟨Bs.post ⟨hg, hs, hd⟩ p, p.ke 2 rfl i2, p.ke 8 rfl i8, p.ke 9 rfl i9, p.ke 10 rfl i10, (by rw [p.old 10 rfl]; exact n10), ((p.old 31 rfl).trans (i31.trans (p.old 10 rfl).symm)), p.ke 32 rfl i32, p.ou 1 33 rfl, trivial⟩)
   rintro a k ⟨⟨hg, hs, hd⟩, i2, i8, i9, i10, n10, i31, i32, i33, _⟩
   exact hgo1373 _ _ _ (Option.some.inj hr).symm ⟨⟨hg, hs, hd⟩, i2, i8, i9, i10, n10, i31, i32, i33, trivial⟩
  rw [if_neg (by rw [hc1387]; decide)] at hr
  refine wp_exit ?_
  obtain ⟨kk, sh1386, ii10⟩ := i10.give
  replace i10 := ii10
  replace hg := hg.hand sh1386 n10.wr
  rw [← sh1386.w]
  clear sh1386
  obtain ⟨k, hkk⟩ : ∃ k, k = kk := ⟨kk, rfl⟩
  subst hkk
  exact hex1374 _ _ _ _ (Option.some.inj hr).symm ⟨rfl, ⟨hg, hs, hd⟩, i10, trivial⟩
 ·rintro r1 a k rfl hR
  dsimp only at hr
  obtain rfl := Option.some.inj hr
  exact hR
 ·rintro _ _ _ rfl _
  simp at hr
 clear hf1
 rintro _ s2 a k rfl ⟨rfl, ⟨hg, hs, hd⟩, i10, _⟩
 dsimp only at hr
 refine wp_seq ?_
 obtain ⟨x16, hx16, hr⟩ := bind_some hr
 obtain ⟨x17, hx17, hr⟩ := bind_some hr
 refine cut (fun a' k' => Bs noF k0 58 a' k' ∧ (IsV x17.1) (a'.get 6) k' ∧ (IsV x17.2) (a'.get 7) k' ∧ True) ?_ hQ ?_
 ·intro Q11 W11 w10
  refine gS 7 (_ :: _ :: _ :: _ :: _ :: _ :: _ :: []) hs (by kernel_rfl) ⟨mu rfl i10, o1 [(53, some 0)] rfl fun _ _ h n => ok_call rfl Tryd.call41 (region_write_ok n.1 hx16), o1 [(54, some 1)] rfl fun _ _ h n => ok_call rfl Tryd.call40 (region_limited_ok n.1 hx17), o1 [(55, some 2)] rfl fun _ _ h n => ok_ext2_0 rfl n.1, o1 [(55, some 2)] rfl fun _ _ h n => ok_ext2_1 rfl n.1, cp 3 rfl rfl, cp 4 rfl rfl, trivial⟩ W11 fun b q p => ?_
  exact tail_done (k := q) (w10 _ _ ⟨Bs.post ⟨hg, hs, hd⟩ p, p.ou 5 6 rfl, p.ou 6 7 rfl, trivial⟩)
 rintro a k ⟨⟨hg, hs, hd⟩, i6, i7, _⟩
 refine wp_ret ?_
 obtain rfl := Option.some.inj hr
 exact retC2 rfl hd hg i6 i7
def region_Minus_1 (a_ : Bool) (b_ : Bool) : Option (Bool) :=
 some (a_ && (!b_))
noncomputable def k35 := mk 35 [.bool, .bool] [.bool] (fun x => region_Minus_1 x.1 x.2) [] [] Tryd.f35 (.n) Tryd.func35 Tryd.call35 rfl rfl fun x => by kernel_rfl
theorem region_Minus_1_ok {k0 : K} {v0 v1 : Value} {x0 : Bool} {x1 : Bool} {r : Bool} (i0 : IsV x0 v0 k0) (i1 : IsV x1 v1 k0) (hr : region_Minus_1 x0 x1 = some r) : Calls Tryd.prog 35 #[v0, v1] k0.w (Ret k0 (IsV r)) := (k35.ok.ok k0 [v0, v1] (x0, x1) r (GOk.none fun _ => rfl) ⟨i0, i1⟩ hr)
def region_Minus (a_ : (List Rect)) (b_ : (List Rect)) : Option ((List Rect) × Int) :=
 (region_combine a_ b_ region_Minus_1).bind fun x1 =>
 some (x1.1, x1.2)
theorem region_Minus_ok {k0 : K} {v0 v1 : Value} {a_ : (List Rect)} {b_ : (List Rect)} {r : (List Rect) × Int} (i0 : (IsV a_) v0 k0) (i1 : (IsV b_) v1 k0) (hr : region_Minus a_ b_ = some r) :
  Calls Tryd.prog 14 #[v0, v1] k0.w (Ret k0 (IsTup2 (IsV r.1) (IsV r.2))) := by
 unfold region_Minus at hr
 refine Ret.ofC ?_
 refine enterK Tryd.func14 rfl Tryd.ntmps14 (show 2 ≤ 11 by decide) fun a k hk0 hs hd ha => ?_
 obtain ⟨e0, e1, _⟩ := ha
 replace i0 : (IsV a_) (a.get 0) k := by rw [e0, hk0]; exact i0
 replace i1 : (IsV b_) (a.get 1) k := by rw [e1, hk0]; exact i1
 have hQ : Gb.LetsOut (bodyPost Tryd.prog Tryd.f14 (RetC noF k0 (IsTup2 (IsV r.1) (IsV r.2)))) := letsOutC
 have hg : Chg noF k0 k := by rw [hk0]; exact Chg.refl _ k0
 refine stepL 2 (⟨some IsE0, []⟩ :: ⟨some (IsI 0), []⟩ :: []) rfl ⟨hg, hs, hd⟩ (by kernel_rfl) ⟨ob1 rfl fun b q h n => ok_assign rfl isE0_nil, aI rfl rfl, trivial⟩ [⟨_, _⟩, ⟨_, _⟩] (fun b q p => ⟨p.ke 0 rfl i0, p.ke 1 rfl i1, trivial⟩) ?_
 rintro a k ⟨⟨hg, hs, hd⟩, i0, i1, _⟩
 refine wp_seq ?_
 obtain ⟨x1, hx1, hr⟩ := bind_some hr
 refine cut (fun a' k' => Bs noF k0 11 a' k' ∧ (IsV x1.1) (a'.get 4) k' ∧ (IsV x1.2) (a'.get 5) k' ∧ True) ?_ hQ ?_
 ·intro Q1 W1 w1
  refine gS 7 (_ :: _ :: _ :: _ :: _ :: _ :: _ :: []) hs (by kernel_rfl) ⟨mu rfl i0, mu rfl i1, o1 [(6, some 0), (7, some 1)] rfl fun _ _ h n => ok_call rfl Tryd.call34 (region_combine_ok n.1 n.2.1 ⟨35, _, _, rfl, Tryd.call35, fun k9 hk9 _ _ _ _ _ hx0 hx1 hy9 => by simpa [evalT] using region_Minus_1_ok hx0 hx1 hy9⟩ hx1), o1 [(8, some 2)] rfl fun _ _ h n => ok_ext2_0 rfl n.1, o1 [(8, some 2)] rfl fun _ _ h n => ok_ext2_1 rfl n.1, cp 3 rfl rfl, cp 4 rfl rfl, trivial⟩ W1 fun b q p => ?_
  exact tail_done (k := q) (w1 _ _ ⟨Bs.post ⟨hg, hs, hd⟩ p, p.ou 5 4 rfl, p.ou 6 5 rfl, trivial⟩)
 rintro a k ⟨⟨hg, hs, hd⟩, i4, i5, _⟩
 refine wp_ret ?_
 obtain rfl := Option.some.inj hr
 exact retC2 rfl hd hg i4 i5
noncomputable def k14 := mkO 14 [.list (.st 0), .list (.st 0)] [.list (.st 0), .int] (fun x => region_Minus x.1 x.2) Tryd.call14 fun k0 vs x r _ h hr => by obtain ⟨v0, vs, rfl, i0, h⟩ := h.cons; obtain ⟨v1, rfl, i1⟩ := h.one; exact ret2F (T := tb) (region_Minus_ok i0 i1 hr)
def plane_first_L0 (a_ : (List Rect)) (x1 : Rect × Bool) (s1 : Int × Point3) : Option (Flow (Int × Point3) (Point3)) :=
 if (decide (s1.1 < (a_.length : Int))) then
  (getI a_ s1.1).bind fun x2 =>
  (if x1.2 then
   (appI ([] : List Rect) ([x1.1])).bind fun x3 =>
   some x3
  else
   some ([] : List Rect)).bind fun s2 =>
  (region_Minus ([x2]) s2).bind fun x4 =>
  (if (decide (0 < (x4.1.length : Int))) then
   (getI x4.1 0).bind fun x5 =>
   (if (decide (x5.X0 < s1.2.X)) then
    some true
   else
    (getI x4.1 0).bind fun x6 =>
    (if (x6.X0 == s1.2.X) then
     (getI x4.1 0).bind fun x7 =>
     some (decide (x7.Y0 < s1.2.Y))
    else
     some false).bind fun x8 =>
    some x8).bind fun x9 =>
   some x9
  else
   some false).bind fun x10 =>
  (if x10 then
   (getI x4.1 0).bind fun x11 =>
   (getI x4.1 0).bind fun x12 =>
   some { { s1.2 with X := x11.X0 } with Y := x12.Y0 }
  else
   some s1.2).bind fun s3 =>
  (addI s1.1 1).bind fun x13 =>
  some (.go (x13, s3))
 else
  some (.ex 0 (s1.1, s1.2))
def plane_first (b_ : Rect) (l_ : (List Plane)) (a_ : (List Rect)) (z_ : Int) : Option (Point3) :=
 (addI z_ 1).bind fun x1 =>
 (plane_room b_ l_ x1).bind fun x2 =>
 (iterL (plane_first_L0 a_ x2) (a_.length + 1) (0, (⟨1048576, 0, z_⟩ : Point3))).bind fun f1 => match f1 with
  | .go _ => none
  | .ex _ s1 =>
   some s1.2
  | .ret r1 => some r1
noncomputable def k27 := mkg 27 [.st 0, .list (.st 6), .list (.st 0), .int] [.st 4] (fun x => plane_first x.1 x.2.1 x.2.2.1 x.2.2.2) [k26, k14.lift glv gl0] [8, 9, 14, 34] Tryd.f27 (.s .n (.s .n (.s .n (.s (.s .n (.l [] [(29, .v .int), (9, .b (.st 4))] [(0, [29], [])] (fI 28) (.s .n (.s .n (.s (.s .n (.s .n (.s (.s .n (.j [] [(14, .v (.list (.st 0)))] ([], []) (.s .n .n))) (.s (.f [14] .n) (.s .n (.j [] [(9, .b (.st 4))] ([], []) (.s .n .n))))))) .n))))) .n)))) Tryd.func27 Tryd.call27 rfl rfl fun x => by kernel_rfl
def plane_First_L0 (b_ : Rect) (l_ : (List Plane)) (s_ : (List Slab)) (s1 : Int × Point3) : Option (Flow (Int × Point3) (Point3 × Bool)) :=
 if (decide (s1.1 < (s_.length : Int))) then
  (getI s_ s1.1).bind fun x1 =>
  (plane_lowest b_ l_ x1.Area).bind fun x2 =>
  if (decide (x1.Z1 ≤ (max x1.Z0 x2))) then
   (addI s1.1 1).bind fun x3 =>
   some (.go (x3, s1.2))
  else
   (addI (max x1.Z0 x2) 1).bind fun x4 =>
   (plane_room b_ l_ x4).bind fun x5 =>
   (if x5.2 then
    (appI ([] : List Rect) ([x5.1])).bind fun x6 =>
    some x6
   else
    some ([] : List Rect)).bind fun s2 =>
   (region_Minus x1.Area s2).bind fun x7 =>
   if ((x7.2 == 0) && (decide (0 < (x7.1.length : Int)))) then
    (getI x7.1 0).bind fun x8 =>
    (getI x7.1 0).bind fun x9 =>
    some (.ret ((⟨x8.X0, x9.Y0, (max x1.Z0 x2)⟩ : Point3), true))
   else
    (plane_first b_ l_ x1.Area (max x1.Z0 x2)).bind fun x10 =>
    some (.ret (x10, true))
 else
  some (.ex 0 (s1.1, s1.2))
def plane_First (b_ : Rect) (l_ : (List Plane)) (s_ : (List Slab)) : Option (Point3 × Bool) :=
 (plane_valid b_ l_).bind fun x1 =>
 (if (!x1) then
  some true
 else
  (solid_Right s_).bind fun x2 =>
  some (!x2)).bind fun x3 =>
 if x3 then
  some ((⟨0, 0, 0⟩ : Point3), false)
 else
  (iterL (plane_First_L0 b_ l_ s_) (s_.length + 1) (0, (⟨0, 0, 0⟩ : Point3))).bind fun f1 => match f1 with
   | .go _ => none
   | .ex _ _ =>
    some ((⟨0, 0, 0⟩ : Point3), false)
   | .ret r1 => some r1
noncomputable def k8 := mkg 8 [.st 0, .list (.st 6), .list (.st 3)] [.st 4, .bool] (fun x => plane_First x.1 x.2.1 x.2.2) [k21.lift glv gl0, k22.lift glv gl0, k25.lift glv gl0, k26, k14.lift glv gl0, k27] [6, 11, 53] Tryd.f8 (.s .n (.s .n (.s (.s .n (.l [] [(28, .v .int), (6, .b (.st 4))] [(0, [28], [])] (fI 27) (.s .n (.s .n (.s (.s .n (.s .n (.s .n (.s .n (.s (.s .n (.s .n (.j [] [(11, .v (.list (.st 0)))] ([], []) (.s .n .n)))) (.s (.f [11] .n) .n)))))) .n))))) .n))) Tryd.func8 Tryd.call8 rfl rfl fun x => by kernel_rfl
def plane_Room (b_ : Rect) (l_ : (List Plane)) (z_ : Int) : Option ((List Rect) × Int) :=
 (plane_valid b_ l_).bind fun x1 =>
 if (!x1) then
  some (([] : List Rect), 1)
 else
  (plane_within z_ 0 4096).bind fun x2 =>
  if (!x2) then
   some (([] : List Rect), 3)
  else
   if (z_ == 0) then
    some ([(⟨0, 0, 1048576, 1048576⟩ : Rect)], 0)
   else
    (plane_room b_ l_ z_).bind fun x3 =>
    if x3.2 then
     some ([x3.1], 0)
    else
     some (([] : List Rect), 0)
noncomputable def k12 := mkg 12 [.st 0, .list (.st 6), .int] [.list (.st 0), .int] (fun x => plane_Room x.1 x.2.1 x.2.2) [k21.lift glv gl0, k31.lift glv gl0, k26] [] Tryd.f12 (.n) Tryd.func12 Tryd.call12 rfl rfl fun x => by kernel_rfl
def rect_checked (r_ : Rect) : Option (Rect × Bool) :=
 (rect_Right r_).bind fun x1 =>
 if x1 then
  some (r_, true)
 else
  some ((⟨0, 0, 0, 0⟩ : Rect), false)
noncomputable def k48 := mk 48 [.st 0] [.st 0, .bool] (fun x => rect_checked x) [k16] [2] Tryd.f48 (.n) Tryd.func48 Tryd.call48 rfl rfl fun x => by kernel_rfl
def rect_Has (r_ : Rect) (x_ : Int) (y_ : Int) : Option (Bool) :=
 (rect_checked r_).bind fun x1 =>
 some ((((decide (x1.1.X0 ≤ x_)) && (decide (x_ < x1.1.X1))) && (decide (x1.1.Y0 ≤ y_))) && (decide (y_ < x1.1.Y1)))
noncomputable def k28 := mk 28 [.st 0, .int, .int] [.bool] (fun x => rect_Has x.1 x.2.1 x.2.2) [k48] [3] Tryd.f28 (.n) Tryd.func28 Tryd.call28 rfl rfl fun x => by kernel_rfl
theorem rect_Has_ok {k0 : K} {v0 v1 v2 : Value} {x0 : Rect} {x1 : Int} {x2 : Int} {r : Bool} (i0 : IsV x0 v0 k0) (i1 : IsV x1 v1 k0) (i2 : IsV x2 v2 k0) (hr : rect_Has x0 x1 x2 = some r) : Calls Tryd.prog 28 #[v0, v1, v2] k0.w (Ret k0 (IsV r)) := (k28.ok.ok k0 [v0, v1, v2] (x0, x1, x2) r (GOk.none fun _ => rfl) ⟨i0, i1, i2⟩ hr)
def plane_Top (b_ : Rect) (l_ : (List Plane)) (x_ : Int) (y_ : Int) : Option (Int) :=
 (plane_valid b_ l_).bind fun x1 =>
 (if (!x1) then
  some true
 else
  (rect_Has (⟨0, 0, 1048576, 1048576⟩ : Rect) x_ y_).bind fun x2 =>
  some (!x2)).bind fun x3 =>
 if x3 then
  some (-1)
 else
  (plane_top b_ l_ x_ y_).bind fun x4 =>
  some (max 0 x4)
noncomputable def k9 := mkg 9 [.st 0, .list (.st 6), .int, .int] [.int] (fun x => plane_Top x.1 x.2.1 x.2.2.1 x.2.2.2) [k21.lift glv gl0, k28.lift glv gl0, k29.lift glv gl0] [] Tryd.f9 (.n) Tryd.func9 Tryd.call9 rfl rfl fun x => by kernel_rfl
def slices_IndexFunc_Slab_L0 (s_ : (List Slab)) (f_ : (Slab → Option (Bool))) (s1 : Int) : Option (Flow (Int) (Int)) :=
 if (decide (s1 < (s_.length : Int))) then
  (getI s_ s1).bind fun x1 =>
  (f_ x1).bind fun x2 =>
  if x2 then
   some (.ret s1)
  else
   (addI s1 1).bind fun x3 =>
   some (.go x3)
 else
  some (.ex 0 s1)
def slices_IndexFunc_Slab (s_ : (List Slab)) (f_ : (Slab → Option (Bool))) : Option (Int) :=
 (iterL (slices_IndexFunc_Slab_L0 s_ f_) (s_.length + 1) 0).bind fun f1 => match f1 with
  | .go _ => none
  | .ex _ _ =>
   some (-1)
  | .ret r1 => some r1
theorem slices_IndexFunc_Slab_ok {k0 : K} {v0 v1 : Value} {s_ : (List Slab)} {f_ : (Slab → Option (Bool))} {r : Int} (i0 : (IsV s_) v0 k0) (i1 : (IsFn1 Tryd.prog f_) v1 k0) (hr : slices_IndexFunc_Slab s_ f_ = some r) :
  Calls Tryd.prog 46 #[v0, v1] k0.w (Ret k0 (IsV r)) := by
 unfold slices_IndexFunc_Slab at hr
 refine Ret.ofC ?_
 refine enterK Tryd.func46 rfl Tryd.ntmps46 (show 2 ≤ 19 by decide) fun a k hk0 hs hd ha => ?_
 obtain ⟨e0, e1, _⟩ := ha
 replace i0 : (IsV s_) (a.get 0) k := by rw [e0, hk0]; exact i0
 replace i1 : (IsFn1 Tryd.prog f_) (a.get 1) k := by rw [e1, hk0]; exact i1
 have hQ : Gb.LetsOut (bodyPost Tryd.prog Tryd.f46 (RetC noF k0 (IsV r))) := letsOutC
 have hg : Chg noF k0 k := by rw [hk0]; exact Chg.refl _ k0
 refine stepL 1 (⟨some (IsI 0), []⟩ :: []) rfl ⟨hg, hs, hd⟩ (by kernel_rfl) ⟨aI rfl rfl, trivial⟩ [⟨_, _⟩, ⟨_, _⟩] (fun b q p => ⟨p.ke 0 rfl i0, p.ke 1 rfl i1, trivial⟩) ?_
 rintro a k ⟨⟨hg, hs, hd⟩, i0, i1, _⟩
 refine wp_seq ?_
 refine stepL 3 (_ :: _ :: ⟨some (IsI 0), []⟩ :: []) rfl ⟨hg, hs, hd⟩ (by kernel_rfl) ⟨mu rfl i0, o1 [(6, some 0)] rfl fun _ _ h n => ok_len rfl rfl Tryd.underlying26 (IsV.rd n.1), ob1 rfl fun _ _ h n => ok_move rfl (cI rfl), trivial⟩ [⟨_, _⟩, ⟨_, _⟩, ⟨_, _⟩, ⟨_, _⟩] (fun b q p => ⟨p.ke 0 rfl i0, p.ke 1 rfl i1, p.ou 1 7 rfl, p.ou 2 8 rfl, trivial⟩) ?_
 rintro a k ⟨⟨hg, hs, hd⟩, i0, i1, i7, i8, _⟩
 refine wp_block ?_
 obtain ⟨f1, hf1, hr⟩ := bind_some hr
 refine cutFe f1 (fun s' c l => Bs noF k0 19 c l ∧ IsV s_ (c.get 0) l ∧ IsFn1 Tryd.prog f_ (c.get 1) l ∧ IsL s_ (c.get 7) l ∧ IsV s' (c.get 8) l ∧ True) (fun i' s' c l => (i' = 0 ∧ Bs noF k0 19 c l ∧ True)) (fun r' c l => bodyPost Tryd.prog Tryd.f46 (RetC noF k0 (IsV r')) .ret c l.w) ?_ hQ ?_ ?_ ?_
 ·intro Q1 W1 hgo hex hret
  refine sim_loop ?_ _ _ _ _ _ hf1 ⟨⟨hg, hs, hd⟩, i0, i1, i7, i8, trivial⟩ Q1 W1 hgo hex hret
  clear hr hf1 hgo hex hret W1 hQ hg hs hd i0 i1 i7 i8
  intro s1 fl_ a k hr hS Q hQ hgo1628 hex1629 hret1630
  obtain ⟨⟨hg, hs, hd⟩, i0, i1, i7, i8, _⟩ := hS
  unfold slices_IndexFunc_Slab_L0 at hr
  refine stepL 1 (_ :: []) rfl ⟨hg, hs, hd⟩ (by kernel_rfl) ⟨o1 [(8, none), (7, none)] rfl fun _ _ h n => ok_lss rfl (up i8 h n.1) (up i7 h n.2.1), trivial⟩ [⟨_, _⟩, ⟨_, _⟩, ⟨_, _⟩, ⟨_, _⟩, ⟨_, _⟩] (fun b q p => ⟨p.ke 0 rfl i0, p.ke 1 rfl i1, p.ke 7 rfl i7, p.ke 8 rfl i8, p.ou 0 9 rfl, trivial⟩) ?_
  rintro a k ⟨⟨hg, hs, hd⟩, i0, i1, i7, i8, i9, _⟩
  refine wp_seq ?_
  refine wp_cond_split (isBool i9) (fun hc1645 => ?_) (fun hc1645 => ?_)
  ·rw [if_pos hc1645] at hr
   refine wp_skip ?_
   refine wp_seq ?_
   refine wp_block ?_
   refine stepL 2 (_ :: _ :: []) rfl ⟨hg, hs, hd⟩ (by kernel_rfl) ⟨mu rfl i8, cp 0 rfl rfl, trivial⟩ [⟨_, _⟩, ⟨_, _⟩, ⟨_, _⟩, ⟨_, _⟩, ⟨_, _⟩] (fun b q p => ⟨p.ke 0 rfl i0, p.ke 1 rfl i1, p.ou 1 5 rfl, p.ke 7 rfl i7, p.ke 8 rfl i8, trivial⟩) ?_
   rintro a k ⟨⟨hg, hs, hd⟩, i0, i1, i5, i7, i8, _⟩
   refine wp_seq ?_
   obtain ⟨x1, hx1, hr⟩ := bind_some hr
   obtain ⟨x2, hx2, hr⟩ := bind_some hr
   refine cut (fun a' k' => Bs noF k0 19 a' k' ∧ (IsV s_) (a'.get 0) k' ∧ (IsFn1 Tryd.prog f_) (a'.get 1) k' ∧ (IsV s1) (a'.get 5) k' ∧ (IsL s_) (a'.get 7) k' ∧ (IsV s1) (a'.get 8) k' ∧ (IsV x2) (a'.get 16) k' ∧ True) ?_ hQ ?_
   ·intro Q2 W2 w1
    refine gS 6 (_ :: _ :: _ :: _ :: _ :: ⟨some (IsV x2), [(11, some 0), (15, some 4)]⟩ :: []) hs (by kernel_rfl) ⟨mu rfl i1, mu rfl i0, mu rfl i5, o1 [(12, some 1), (13, some 2)] rfl fun _ _ h n => ok_indexAddr rfl Tryd.underlying26 ty54 (IsV.rd n.1) n.2.1 hx1, o1 [(14, some 3)] rfl fun _ _ h n => ok_load rfl ty54 n.1, ob1 rfl fun _ _ h n => ok_callF1 rfl n.1 n.2.1 hx2, trivial⟩ W2 fun b q p => ?_
    exact tail_done (k := q) (w1 _ _ ⟨Bs.post ⟨hg, hs, hd⟩ p, p.ke 0 rfl i0, p.ke 1 rfl i1, p.ke 5 rfl i5, p.ke 7 rfl i7, p.ke 8 rfl i8, p.ou 5 16 rfl, trivial⟩)
   rintro a k ⟨⟨hg, hs, hd⟩, i0, i1, i5, i7, i8, i16, _⟩
   refine wp_cond_split (isBool i16) (fun hc1640 => ?_) (fun hc1640 => ?_)
   ·rw [if_pos hc1640] at hr
    refine stepL 2 (_ :: _ :: []) rfl ⟨hg, hs, hd⟩ (by kernel_rfl) ⟨mu rfl i5, cp 0 rfl rfl, trivial⟩ [⟨_, _⟩] (fun b q p => ⟨p.ou 1 4 rfl, trivial⟩) ?_
    rintro a k ⟨⟨hg, hs, hd⟩, i4, _⟩
    refine wp_ret ?_
    exact hret1630 _ _ _ (Option.some.inj hr).symm (retC1 rfl hd hg i4)
   rw [if_neg (by rw [hc1640]; decide)] at hr
   refine wp_skip ?_
   obtain ⟨x3, hx3, hr⟩ := bind_some hr
   refine cut (fun a' k' => Bs noF k0 19 a' k' ∧ (IsV s_) (a'.get 0) k' ∧ (IsFn1 Tryd.prog f_) (a'.get 1) k' ∧ (IsL s_) (a'.get 7) k' ∧ (IsV x3) (a'.get 8) k' ∧ True) ?_ hQ ?_
   ·intro Q3 W3 w2
    refine gS 2 (_ :: _ :: []) hs (by kernel_rfl) ⟨o1 [(8, none)] rfl fun _ _ h n => ok_add rfl (up i8 h n.1) (cI rfl) hx3, cm 0 rfl rfl, trivial⟩ W3 fun b q p => ?_
    exact tail_done (k := q) (w2 _ _ ⟨Bs.post ⟨hg, hs, hd⟩ p, p.ke 0 rfl i0, p.ke 1 rfl i1, p.ke 7 rfl i7, p.ou 1 8 rfl, trivial⟩)
   rintro a k ⟨⟨hg, hs, hd⟩, i0, i1, i7, i8, _⟩
   exact hgo1628 _ _ _ (Option.some.inj hr).symm ⟨⟨hg, hs, hd⟩, i0, i1, i7, i8, trivial⟩
  rw [if_neg (by rw [hc1645]; decide)] at hr
  refine wp_exit ?_
  exact hex1629 _ _ _ _ (Option.some.inj hr).symm ⟨rfl, ⟨hg, hs, hd⟩, trivial⟩
 ·rintro r1 a k rfl hR
  dsimp only at hr
  obtain rfl := Option.some.inj hr
  exact hR
 ·rintro _ _ _ rfl _
  simp at hr
 clear hf1
 rintro _ s2 a k rfl ⟨rfl, ⟨hg, hs, hd⟩, _⟩
 dsimp only at hr
 refine stepL 1 (⟨some (IsI (-1)), []⟩ :: []) rfl ⟨hg, hs, hd⟩ (by kernel_rfl) ⟨aI rfl rfl, trivial⟩ [⟨_, _⟩] (fun b q p => ⟨p.ou 0 4 rfl, trivial⟩) ?_
 rintro a k ⟨⟨hg, hs, hd⟩, i4, _⟩
 refine wp_ret ?_
 obtain rfl := Option.some.inj hr
 exact retC1 rfl hd hg i4
def slices_ContainsFunc_Slab (s_ : (List Slab)) (f_ : (Slab → Option (Bool))) : Option (Bool) :=
 (slices_IndexFunc_Slab s_ f_).bind fun x1 =>
 some (decide (0 ≤ x1))
theorem slices_ContainsFunc_Slab_ok {k0 : K} {v0 v1 : Value} {s_ : (List Slab)} {f_ : (Slab → Option (Bool))} {r : Bool} (i0 : (IsV s_) v0 k0) (i1 : (IsFn1 Tryd.prog f_) v1 k0) (hr : slices_ContainsFunc_Slab s_ f_ = some r) :
  Calls Tryd.prog 23 #[v0, v1] k0.w (Ret k0 (IsV r)) := by
 unfold slices_ContainsFunc_Slab at hr
 refine Ret.ofC ?_
 refine enterK Tryd.func23 rfl Tryd.ntmps23 (show 2 ≤ 9 by decide) fun a k hk0 hs hd ha => ?_
 obtain ⟨e0, e1, _⟩ := ha
 replace i0 : (IsV s_) (a.get 0) k := by rw [e0, hk0]; exact i0
 replace i1 : (IsFn1 Tryd.prog f_) (a.get 1) k := by rw [e1, hk0]; exact i1
 have hQ : Gb.LetsOut (bodyPost Tryd.prog Tryd.f23 (RetC noF k0 (IsV r))) := letsOutC
 have hg : Chg noF k0 k := by rw [hk0]; exact Chg.refl _ k0
 refine stepL 1 (⟨some (IsV false), []⟩ :: []) rfl ⟨hg, hs, hd⟩ (by kernel_rfl) ⟨ob1 rfl fun _ _ h n => ok_assign rfl (isV_bool.2 rfl), trivial⟩ [⟨_, _⟩, ⟨_, _⟩] (fun b q p => ⟨p.ke 0 rfl i0, p.ke 1 rfl i1, trivial⟩) ?_
 rintro a k ⟨⟨hg, hs, hd⟩, i0, i1, _⟩
 refine wp_seq ?_
 obtain ⟨x1, hx1, hr⟩ := bind_some hr
 refine cut (fun a' k' => Bs noF k0 9 a' k' ∧ (IsV (decide (0 ≤ x1))) (a'.get 4) k' ∧ True) ?_ hQ ?_
 ·intro Q1 W1 w1
  refine gS 5 (_ :: _ :: _ :: _ :: _ :: []) hs (by kernel_rfl) ⟨mu rfl i0, mu rfl i1, o1 [(5, some 0), (6, some 1)] rfl fun _ _ h n => ok_call rfl Tryd.call46 (slices_IndexFunc_Slab_ok n.1 n.2.1 hx1), o1 [(7, some 2)] rfl fun _ _ h n => ok_geq rfl n.1 (cI rfl), cp 3 rfl rfl, trivial⟩ W1 fun b q p => ?_
  exact tail_done (k := q) (w1 _ _ ⟨Bs.post ⟨hg, hs, hd⟩ p, p.ou 4 4 rfl, trivial⟩)
 rintro a k ⟨⟨hg, hs, hd⟩, i4, _⟩
 refine wp_ret ?_
 obtain rfl := Option.some.inj hr
 exact retC1 rfl hd hg i4
def plane_Allows_1 (c_ : Slab) (p1_ : Rect) (p2_ : (List Plane)) : Option (Bool) :=
 (plane_lowest p1_ p2_ c_.Area).bind fun x1 =>
 some (decide (x1 < c_.Z1))
theorem plane_Allows_1_ok {k0 : K} {v0 v1 v2 : Value} {c_ : Slab} {p1_ : Rect} {p2_ : (List Plane)} {r : Bool} (i0 : (IsV c_) v0 k0) (i1 : (IsRef p1_) v1 k0) (i2 : (IsRef p2_) v2 k0) (hr : plane_Allows_1 c_ p1_ p2_ = some r) :
  Calls Tryd.prog 24 #[v0, v1, v2] k0.w (Ret k0 (IsV r)) := by
 unfold plane_Allows_1 at hr
 refine Ret.ofC ?_
 refine enterK Tryd.func24 rfl Tryd.ntmps24 (show 3 ≤ 13 by decide) fun a k hk0 hs hd ha => ?_
 obtain ⟨e0, e1, e2, _⟩ := ha
 replace i0 : (IsV c_) (a.get 0) k := by rw [e0, hk0]; exact i0
 replace i1 : (IsRef p1_) (a.get 1) k := by rw [e1, hk0]; exact i1
 replace i2 : (IsRef p2_) (a.get 2) k := by rw [e2, hk0]; exact i2
 have hQ : Gb.LetsOut (bodyPost Tryd.prog Tryd.f24 (RetC noF k0 (IsV r))) := letsOutC
 have hg : Chg noF k0 k := by rw [hk0]; exact Chg.refl _ k0
 refine stepL 2 (⟨some (IsRef c_), [(0, none)]⟩ :: ⟨some (IsV false), []⟩ :: []) rfl ⟨hg, hs, hd⟩ (by kernel_rfl) ⟨ob1 rfl fun _ _ h n => ok_boxR rfl (up i0 h n.1), ob1 rfl fun _ _ h n => ok_assign rfl (isV_bool.2 rfl), trivial⟩ [⟨_, _⟩, ⟨_, _⟩, ⟨_, _⟩] (fun b q p => ⟨p.ke 1 rfl i1, p.ke 2 rfl i2, p.ou 0 3 rfl, trivial⟩) ?_
 rintro a k ⟨⟨hg, hs, hd⟩, i1, i2, i3, _⟩
 refine wp_seq ?_
 obtain ⟨x1, hx1, hr⟩ := bind_some hr
 refine cut (fun a' k' => Bs noF k0 13 a' k' ∧ (IsV (decide (x1 < c_.Z1))) (a'.get 4) k' ∧ True) ?_ hQ ?_
 ·intro Q1 W1 w1
  refine region (m := 9) (_ :: _ :: _ :: _ :: _ :: _ :: _ :: _ :: _ :: []) hmix hs (by kernel_rfl) ⟨o1 [(1, none)] rfl fun _ _ h n => ok_load rfl ty23 ((up i1 h n.1)).ptr, o1 [(2, none)] rfl fun _ _ h n => ok_load rfl ty24 ((up i2 h n.1)).ptr, o1 [(3, none)] rfl fun _ _ h n => ok_fieldAddr rfl fo54_2 (at_Slab_2 _) ((up i3 h n.1)).ptr, o1 [(7, some 2)] rfl fun _ _ h n => ok_load rfl ty45 n.1, o1 [(5, some 0), (6, some 1), (8, some 3)] rfl fun _ _ h n => ok_call rfl Tryd.call25 (plane_lowest_ok n.1 n.2.1 n.2.2.1 hx1), o1 [(3, none)] rfl fun _ _ h n => ok_fieldAddr rfl fo54_1 (at_Slab_1 _) ((up i3 h n.1)).ptr, o1 [(10, some 5)] rfl fun _ _ h n => ok_load rfl ty3 n.1, o1 [(9, some 4), (11, some 6)] rfl fun _ _ h n => ok_lss rfl n.1 n.2.1, cp 7 rfl rfl, trivial⟩ W1 fun b q p => ?_
  exact tail_done (k := q) (w1 _ _ ⟨Bs.post ⟨hg, hs, hd⟩ p, p.ou 8 4 rfl, trivial⟩)
 rintro a k ⟨⟨hg, hs, hd⟩, i4, _⟩
 refine wp_ret ?_
 obtain rfl := Option.some.inj hr
 exact retC1 rfl hd hg i4
def plane_Allows (b_ : Rect) (l_ : (List Plane)) (s_ : (List Slab)) : Option (Bool) :=
 (plane_valid b_ l_).bind fun x1 =>
 (if (!x1) then
  some true
 else
  (solid_Right s_).bind fun x2 =>
  some (!x2)).bind fun x3 =>
 if x3 then
  some false
 else
  (slices_ContainsFunc_Slab s_ (fun y0 => plane_Allows_1 y0 b_ l_)).bind fun x4 =>
  some (!x4)
theorem plane_Allows_ok {k0 : K} {v0 v1 v2 : Value} {b_ : Rect} {l_ : (List Plane)} {s_ : (List Slab)} {r : Bool} (i0 : (IsV b_) v0 k0) (i1 : (IsV l_) v1 k0) (i2 : (IsV s_) v2 k0) (hr : plane_Allows b_ l_ s_ = some r) :
  Calls Tryd.prog 7 #[v0, v1, v2] k0.w (Ret k0 (IsV r)) := by
 unfold plane_Allows at hr
 refine Ret.ofC ?_
 refine enterK Tryd.func7 rfl Tryd.ntmps7 (show 3 ≤ 20 by decide) fun a k hk0 hs hd ha => ?_
 obtain ⟨e0, e1, e2, _⟩ := ha
 replace i0 : (IsV b_) (a.get 0) k := by rw [e0, hk0]; exact i0
 replace i1 : (IsV l_) (a.get 1) k := by rw [e1, hk0]; exact i1
 replace i2 : (IsV s_) (a.get 2) k := by rw [e2, hk0]; exact i2
 have hQ : Gb.LetsOut (bodyPost Tryd.prog Tryd.f7 (RetC noF k0 (IsV r))) := letsOutC
 have hg : Chg noF k0 k := by rw [hk0]; exact Chg.refl _ k0
 refine stepL 3 (⟨some (IsRef b_), [(0, none)]⟩ :: ⟨some (IsRef l_), [(1, none)]⟩ :: ⟨some (IsV false), []⟩ :: []) rfl ⟨hg, hs, hd⟩ (by kernel_rfl) ⟨ob1 rfl fun _ _ h n => ok_boxR rfl (up i0 h n.1), ob1 rfl fun _ _ h n => ok_boxR rfl (up i1 h n.1), ob1 rfl fun _ _ h n => ok_assign rfl (isV_bool.2 rfl), trivial⟩ [⟨_, _⟩, ⟨_, _⟩, ⟨_, _⟩] (fun b q p => ⟨p.ke 2 rfl i2, p.ou 0 3 rfl, p.ou 1 4 rfl, trivial⟩) ?_
 rintro a k ⟨⟨hg, hs, hd⟩, i2, i3, i4, _⟩
 refine wp_seq ?_
 refine wp_seq ?_
 obtain ⟨x1, hx1, hr⟩ := bind_some hr
 obtain ⟨x2, hx2, hr⟩ := bind_some hr
 obtain ⟨x3, hx3, hx2⟩ := ite_bindF hx2
 refine cut (fun a' k' => Bs noF k0 20 a' k' ∧ (IsV s_) (a'.get 2) k' ∧ (IsRef b_) (a'.get 3) k' ∧ (IsRef l_) (a'.get 4) k' ∧ (IsV x2) (a'.get 15) k' ∧ True) ?_ hQ ?_
 ·intro Q1 W1 w1
  refine gS 9 (_ :: _ :: _ :: _ :: _ :: _ :: _ :: _ :: _ :: []) hs (by kernel_rfl) ⟨o1 [(3, none)] rfl fun _ _ h n => ok_load rfl ty23 ((up i3 h n.1)).ptr, o1 [(4, none)] rfl fun _ _ h n => ok_load rfl ty24 ((up i4 h n.1)).ptr, o1 [(7, some 0), (8, some 1)] rfl fun _ _ h n => ok_call rfl Tryd.call21 (plane_valid_ok n.1 n.2.1 hx1), o1 [(9, some 2)] rfl fun _ _ h n => ok_not rfl n.1, cm 3 rfl rfl, mF rfl rfl i2, gF [(12, some 5)] rfl rfl fun hp _ _ h n => ok_call rfl Tryd.call22 (solid_Right_ok (Gd.get n.1 hp) (hx3 hp)), gF [(13, some 6)] rfl rfl fun hp _ _ h n => ok_not rfl (Gd.get n.1 hp), o1 [(11, some 4), (14, some 7)] rfl fun _ _ h n => ok_pickM rfl n.1 hx2 (cB rfl) (Gd.get n.2.1), trivial⟩ W1 fun b q p => ?_
  exact tail_done (k := q) (w1 _ _ ⟨Bs.post ⟨hg, hs, hd⟩ p, p.ke 2 rfl i2, p.ke 3 rfl i3, p.ke 4 rfl i4, p.ou 8 15 rfl, trivial⟩)
 rintro a k ⟨⟨hg, hs, hd⟩, i2, i3, i4, i15, _⟩
 refine wp_cond_split (isBool i15) (fun hc1679 => ?_) (fun hc1679 => ?_)
 ·rw [if_pos hc1679] at hr
  refine stepL 1 (⟨some (IsV false), []⟩ :: []) rfl ⟨hg, hs, hd⟩ (by kernel_rfl) ⟨ob1 rfl fun _ _ h n => ok_assign rfl (isV_bool.2 rfl), trivial⟩ [⟨_, _⟩] (fun b q p => ⟨p.ou 0 6 rfl, trivial⟩) ?_
  rintro a k ⟨⟨hg, hs, hd⟩, i6, _⟩
  refine wp_ret ?_
  obtain rfl := Option.some.inj hr
  exact retC1 rfl hd hg i6
 rw [if_neg (by rw [hc1679]; decide)] at hr
 refine wp_skip ?_
 refine wp_seq ?_
 obtain ⟨x4, hx4, hr⟩ := bind_some hr
 refine cut (fun a' k' => Bs noF k0 20 a' k' ∧ (IsV (!x4)) (a'.get 6) k' ∧ True) ?_ hQ ?_
 ·intro Q2 W2 w2
  refine gS 5 (_ :: ⟨some (IsFn1 Tryd.prog (fun y0 => plane_Allows_1 y0 b_ l_)), [(3, none), (4, none)]⟩ :: _ :: _ :: _ :: []) hs (by kernel_rfl) ⟨mu rfl i2, ob1 rfl fun _ _ h n => ok_makeFunc (first := []) (captured := [.tmp 3, .tmp 4]) rfl ⟨24, _, _, rfl, Tryd.call24, fun k9 hk9 _ _ _ hx0 hy9 => by simpa [evalT] using plane_Allows_1_ok hx0 (Pers.pers hk9 (up i3 h n.1)) (Pers.pers hk9 (up i4 h n.2.1)) hy9⟩, o1 [(16, some 0), (17, some 1)] rfl fun _ _ h n => ok_call rfl Tryd.call23 (slices_ContainsFunc_Slab_ok n.1 n.2.1 hx4), o1 [(18, some 2)] rfl fun _ _ h n => ok_not rfl n.1, cp 3 rfl rfl, trivial⟩ W2 fun b q p => ?_
  exact tail_done (k := q) (w2 _ _ ⟨Bs.post ⟨hg, hs, hd⟩ p, p.ou 4 6 rfl, trivial⟩)
 rintro a k ⟨⟨hg, hs, hd⟩, i6, _⟩
 refine wp_ret ?_
 obtain rfl := Option.some.inj hr
 exact retC1 rfl hd hg i6
noncomputable def k7 := mkO 7 [.st 0, .list (.st 6), .list (.st 3)] [.bool] (fun x => plane_Allows x.1 x.2.1 x.2.2) Tryd.call7 fun k0 vs x r _ h hr => by obtain ⟨v0, vs, rfl, i0, h⟩ := h.cons; obtain ⟨v1, vs, rfl, i1, h⟩ := h.cons; obtain ⟨v2, rfl, i2⟩ := h.one; exact plane_Allows_ok i0 i1 i2 hr
def plane_Distance (b_ : Rect) (side_ : Int) (x_ : Int) (y_ : Int) : Option (Int) :=
 (rect_Right b_).bind fun x1 =>
 (if (!x1) then
  some true
 else
  (plane_within side_ 0 3).bind fun x2 =>
  some (!x2)).bind fun x3 =>
 (if x3 then
  some true
 else
  (rect_Has (⟨0, 0, 1048576, 1048576⟩ : Rect) x_ y_).bind fun x4 =>
  some (!x4)).bind fun x5 =>
 if x5 then
  some 0
 else
  (plane_distances b_ x_ y_).bind fun x6 =>
  (getI ([x6.1, x6.2.1, x6.2.2.1, x6.2.2.2] : List Int) side_).bind fun x7 =>
  some x7
noncomputable def k11 := mkg 11 [.st 0, .int, .int, .int] [.int] (fun x => plane_Distance x.1 x.2.1 x.2.2.1 x.2.2.2) [k16.lift glv gl0, k31.lift glv gl0, k28.lift glv gl0, k32.lift glv gl0] [] Tryd.f11 (.n) Tryd.func11 Tryd.call11 rfl rfl fun x => by kernel_rfl
def law10_small  : Option (Bool) :=
 (solid_Of ([(⟨(⟨0, 0, 2, 2⟩ : Rect), 0, 10⟩ : Box)])).bind fun x1 =>
 (plane_First (⟨0, 0, 10, 10⟩ : Rect) ([(⟨0, 9, 3, 2⟩ : Plane)]) x1.1).bind fun x2 =>
 (plane_Room (⟨0, 0, 10, 10⟩ : Rect) ([(⟨0, 9, 3, 2⟩ : Plane)]) 9).bind fun x3 =>
 (plane_Room (⟨0, 0, 10, 10⟩ : Rect) ([(⟨0, 9, 3, 2⟩ : Plane)]) 12).bind fun x4 =>
 if (((x3.1.length : Int) != 1) || ((x4.1.length : Int) != 1)) then
  some false
 else
  (plane_Top (⟨0, 0, 10, 10⟩ : Rect) ([(⟨0, 9, 3, 2⟩ : Plane)]) 0 0).bind fun x5 =>
  (if (x5 == 9) then
   (plane_Top (⟨0, 0, 10, 10⟩ : Rect) ([(⟨0, 9, 3, 2⟩ : Plane)]) 1 0).bind fun x6 =>
   some (x6 == 10)
  else
   some false).bind fun x7 =>
  (if x7 then
   (plane_Top (⟨0, 0, 10, 10⟩ : Rect) ([(⟨0, 9, 3, 2⟩ : Plane)]) 2 5).bind fun x8 =>
   some (x8 == 12)
  else
   some false).bind fun x9 =>
  (if x9 then
   (plane_Top (⟨0, 0, 10, 10⟩ : Rect) ([(⟨0, 9, 3, 2⟩ : Plane)]) 10 0).bind fun x10 =>
   some (x10 == 24)
  else
   some false).bind fun x11 =>
  (getI x3.1 0).bind fun x12 =>
  (if (decide (x12 = (⟨0, 0, 1048576, 1048576⟩ : Rect))) then
   (getI x4.1 0).bind fun x13 =>
   some (decide (x13 = (⟨2, 0, 1048576, 1048576⟩ : Rect)))
  else
   some false).bind fun x14 =>
  (if (((((((x1.2 == 0) && (x3.2 == 0)) && (x4.2 == 0)) && x2.2) && (decide (x2.1 = (⟨0, 0, 9⟩ : Point3)))) && x11) && x14) then
   (plane_Allows (⟨0, 0, 10, 10⟩ : Rect) ([(⟨0, 9, 3, 2⟩ : Plane)]) x1.1).bind fun x15 =>
   some (!x15)
  else
   some false).bind fun x16 =>
  (if x16 then
   (appI ([(⟨0, 9, 3, 2⟩ : Plane)]) ([(⟨1, 0, 1, 1⟩ : Plane)])).bind fun x17 =>
   (plane_Top (⟨0, 0, 10, 10⟩ : Rect) x17 0 0).bind fun x18 =>
   some (x18 == 9)
  else
   some false).bind fun x19 =>
  (if x19 then
   (plane_Distance (⟨0, 0, 10, 10⟩ : Rect) 3 0 3).bind fun x20 =>
   some (x20 == 6)
  else
   some false).bind fun x21 =>
  some x21
noncomputable def k5 := mkg 5 [] [.bool] (fun x => law10_small) [k6.lift glv gl0, k8, k12, k9, k7.lift glv gl0, k11] [] Tryd.f5 (.n) Tryd.func5 Tryd.call5 rfl rfl fun x => by kernel_rfl
def law10_valid_L0 (l_ : (List Plane)) (s1 : Int) : Option (Flow (Int) (Bool)) :=
 if (decide (s1 < (l_.length : Int))) then
  (getI l_ s1).bind fun x1 =>
  (plane_Right x1).bind fun x2 =>
  if (!x2) then
   some (.ret false)
  else
   (addI s1 1).bind fun x3 =>
   some (.go x3)
 else
  some (.ex 0 s1)
def law10_valid (b_ : Rect) (l_ : (List Plane)) : Option (Bool) :=
 (iterL (law10_valid_L0 l_) (l_.length + 1) 0).bind fun f1 => match f1 with
  | .go _ => none
  | .ex _ _ =>
   (rect_Right b_).bind fun x1 =>
   some x1
  | .ret r1 => some r1
noncomputable def k10 := mk 10 [.st 0, .list (.st 6)] [.bool] (fun x => law10_valid x.1 x.2) [k30, k16] [] Tryd.f10 (.s .n (.s (.s .n (.l [] [(5, .v .int)] [(0, [5], [])] (fL [1]) .n)) .n)) Tryd.func10 Tryd.call10 rfl rfl fun x => by kernel_rfl
def slices_IndexFunc_Rect_L0 (s_ : (List Rect)) (f_ : (Rect → Option (Bool))) (s1 : Int) : Option (Flow (Int) (Int)) :=
 if (decide (s1 < (s_.length : Int))) then
  (getI s_ s1).bind fun x1 =>
  (f_ x1).bind fun x2 =>
  if x2 then
   some (.ret s1)
  else
   (addI s1 1).bind fun x3 =>
   some (.go x3)
 else
  some (.ex 0 s1)
def slices_IndexFunc_Rect (s_ : (List Rect)) (f_ : (Rect → Option (Bool))) : Option (Int) :=
 (iterL (slices_IndexFunc_Rect_L0 s_ f_) (s_.length + 1) 0).bind fun f1 => match f1 with
  | .go _ => none
  | .ex _ _ =>
   some (-1)
  | .ret r1 => some r1
theorem slices_IndexFunc_Rect_ok {k0 : K} {v0 v1 : Value} {s_ : (List Rect)} {f_ : (Rect → Option (Bool))} {r : Int} (i0 : (IsV s_) v0 k0) (i1 : (IsFn1 Tryd.prog f_) v1 k0) (hr : slices_IndexFunc_Rect s_ f_ = some r) :
  Calls Tryd.prog 51 #[v0, v1] k0.w (Ret k0 (IsV r)) := by
 unfold slices_IndexFunc_Rect at hr
 refine Ret.ofC ?_
 refine enterK Tryd.func51 rfl Tryd.ntmps51 (show 2 ≤ 19 by decide) fun a k hk0 hs hd ha => ?_
 obtain ⟨e0, e1, _⟩ := ha
 replace i0 : (IsV s_) (a.get 0) k := by rw [e0, hk0]; exact i0
 replace i1 : (IsFn1 Tryd.prog f_) (a.get 1) k := by rw [e1, hk0]; exact i1
 have hQ : Gb.LetsOut (bodyPost Tryd.prog Tryd.f51 (RetC noF k0 (IsV r))) := letsOutC
 have hg : Chg noF k0 k := by rw [hk0]; exact Chg.refl _ k0
 refine stepL 1 (⟨some (IsI 0), []⟩ :: []) rfl ⟨hg, hs, hd⟩ (by kernel_rfl) ⟨aI rfl rfl, trivial⟩ [⟨_, _⟩, ⟨_, _⟩] (fun b q p => ⟨p.ke 0 rfl i0, p.ke 1 rfl i1, trivial⟩) ?_
 rintro a k ⟨⟨hg, hs, hd⟩, i0, i1, _⟩
 refine wp_seq ?_
 refine stepL 3 (_ :: _ :: ⟨some (IsI 0), []⟩ :: []) rfl ⟨hg, hs, hd⟩ (by kernel_rfl) ⟨mu rfl i0, o1 [(6, some 0)] rfl fun _ _ h n => ok_len rfl rfl Tryd.underlying45 (IsV.rd n.1), ob1 rfl fun _ _ h n => ok_move rfl (cI rfl), trivial⟩ [⟨_, _⟩, ⟨_, _⟩, ⟨_, _⟩, ⟨_, _⟩] (fun b q p => ⟨p.ke 0 rfl i0, p.ke 1 rfl i1, p.ou 1 7 rfl, p.ou 2 8 rfl, trivial⟩) ?_
 rintro a k ⟨⟨hg, hs, hd⟩, i0, i1, i7, i8, _⟩
 refine wp_block ?_
 obtain ⟨f1, hf1, hr⟩ := bind_some hr
 refine cutFe f1 (fun s' c l => Bs noF k0 19 c l ∧ IsV s_ (c.get 0) l ∧ IsFn1 Tryd.prog f_ (c.get 1) l ∧ IsL s_ (c.get 7) l ∧ IsV s' (c.get 8) l ∧ True) (fun i' s' c l => (i' = 0 ∧ Bs noF k0 19 c l ∧ True)) (fun r' c l => bodyPost Tryd.prog Tryd.f51 (RetC noF k0 (IsV r')) .ret c l.w) ?_ hQ ?_ ?_ ?_
 ·intro Q1 W1 hgo hex hret
  refine sim_loop ?_ _ _ _ _ _ hf1 ⟨⟨hg, hs, hd⟩, i0, i1, i7, i8, trivial⟩ Q1 W1 hgo hex hret
  clear hr hf1 hgo hex hret W1 hQ hg hs hd i0 i1 i7 i8
  intro s1 fl_ a k hr hS Q hQ hgo1768 hex1769 hret1770
  obtain ⟨⟨hg, hs, hd⟩, i0, i1, i7, i8, _⟩ := hS
  unfold slices_IndexFunc_Rect_L0 at hr
  refine stepL 1 (_ :: []) rfl ⟨hg, hs, hd⟩ (by kernel_rfl) ⟨o1 [(8, none), (7, none)] rfl fun _ _ h n => ok_lss rfl (up i8 h n.1) (up i7 h n.2.1), trivial⟩ [⟨_, _⟩, ⟨_, _⟩, ⟨_, _⟩, ⟨_, _⟩, ⟨_, _⟩] (fun b q p => ⟨p.ke 0 rfl i0, p.ke 1 rfl i1, p.ke 7 rfl i7, p.ke 8 rfl i8, p.ou 0 9 rfl, trivial⟩) ?_
  rintro a k ⟨⟨hg, hs, hd⟩, i0, i1, i7, i8, i9, _⟩
  refine wp_seq ?_
  refine wp_cond_split (isBool i9) (fun hc1785 => ?_) (fun hc1785 => ?_)
  ·rw [if_pos hc1785] at hr
   refine wp_skip ?_
   refine wp_seq ?_
   refine wp_block ?_
   refine stepL 2 (_ :: _ :: []) rfl ⟨hg, hs, hd⟩ (by kernel_rfl) ⟨mu rfl i8, cp 0 rfl rfl, trivial⟩ [⟨_, _⟩, ⟨_, _⟩, ⟨_, _⟩, ⟨_, _⟩, ⟨_, _⟩] (fun b q p => ⟨p.ke 0 rfl i0, p.ke 1 rfl i1, p.ou 1 5 rfl, p.ke 7 rfl i7, p.ke 8 rfl i8, trivial⟩) ?_
   rintro a k ⟨⟨hg, hs, hd⟩, i0, i1, i5, i7, i8, _⟩
   refine wp_seq ?_
   obtain ⟨x1, hx1, hr⟩ := bind_some hr
   obtain ⟨x2, hx2, hr⟩ := bind_some hr
   refine cut (fun a' k' => Bs noF k0 19 a' k' ∧ (IsV s_) (a'.get 0) k' ∧ (IsFn1 Tryd.prog f_) (a'.get 1) k' ∧ (IsV s1) (a'.get 5) k' ∧ (IsL s_) (a'.get 7) k' ∧ (IsV s1) (a'.get 8) k' ∧ (IsV x2) (a'.get 16) k' ∧ True) ?_ hQ ?_
   ·intro Q2 W2 w1
    refine gS 6 (_ :: _ :: _ :: _ :: _ :: ⟨some (IsV x2), [(11, some 0), (15, some 4)]⟩ :: []) hs (by kernel_rfl) ⟨mu rfl i1, mu rfl i0, mu rfl i5, o1 [(12, some 1), (13, some 2)] rfl fun _ _ h n => ok_indexAddr rfl Tryd.underlying45 ty23 (IsV.rd n.1) n.2.1 hx1, o1 [(14, some 3)] rfl fun _ _ h n => ok_load rfl ty23 n.1, ob1 rfl fun _ _ h n => ok_callF1 rfl n.1 n.2.1 hx2, trivial⟩ W2 fun b q p => ?_
    exact tail_done (k := q) (w1 _ _ ⟨Bs.post ⟨hg, hs, hd⟩ p, p.ke 0 rfl i0, p.ke 1 rfl i1, p.ke 5 rfl i5, p.ke 7 rfl i7, p.ke 8 rfl i8, p.ou 5 16 rfl, trivial⟩)
   rintro a k ⟨⟨hg, hs, hd⟩, i0, i1, i5, i7, i8, i16, _⟩
   refine wp_cond_split (isBool i16) (fun hc1780 => ?_) (fun hc1780 => ?_)
   ·rw [if_pos hc1780] at hr
    refine stepL 2 (_ :: _ :: []) rfl ⟨hg, hs, hd⟩ (by kernel_rfl) ⟨mu rfl i5, cp 0 rfl rfl, trivial⟩ [⟨_, _⟩] (fun b q p => ⟨p.ou 1 4 rfl, trivial⟩) ?_
    rintro a k ⟨⟨hg, hs, hd⟩, i4, _⟩
    refine wp_ret ?_
    exact hret1770 _ _ _ (Option.some.inj hr).symm (retC1 rfl hd hg i4)
   rw [if_neg (by rw [hc1780]; decide)] at hr
   refine wp_skip ?_
   obtain ⟨x3, hx3, hr⟩ := bind_some hr
   refine cut (fun a' k' => Bs noF k0 19 a' k' ∧ (IsV s_) (a'.get 0) k' ∧ (IsFn1 Tryd.prog f_) (a'.get 1) k' ∧ (IsL s_) (a'.get 7) k' ∧ (IsV x3) (a'.get 8) k' ∧ True) ?_ hQ ?_
   ·intro Q3 W3 w2
    refine gS 2 (_ :: _ :: []) hs (by kernel_rfl) ⟨o1 [(8, none)] rfl fun _ _ h n => ok_add rfl (up i8 h n.1) (cI rfl) hx3, cm 0 rfl rfl, trivial⟩ W3 fun b q p => ?_
    exact tail_done (k := q) (w2 _ _ ⟨Bs.post ⟨hg, hs, hd⟩ p, p.ke 0 rfl i0, p.ke 1 rfl i1, p.ke 7 rfl i7, p.ou 1 8 rfl, trivial⟩)
   rintro a k ⟨⟨hg, hs, hd⟩, i0, i1, i7, i8, _⟩
   exact hgo1768 _ _ _ (Option.some.inj hr).symm ⟨⟨hg, hs, hd⟩, i0, i1, i7, i8, trivial⟩
  rw [if_neg (by rw [hc1785]; decide)] at hr
  refine wp_exit ?_
  exact hex1769 _ _ _ _ (Option.some.inj hr).symm ⟨rfl, ⟨hg, hs, hd⟩, trivial⟩
 ·rintro r1 a k rfl hR
  dsimp only at hr
  obtain rfl := Option.some.inj hr
  exact hR
 ·rintro _ _ _ rfl _
  simp at hr
 clear hf1
 rintro _ s2 a k rfl ⟨rfl, ⟨hg, hs, hd⟩, _⟩
 dsimp only at hr
 refine stepL 1 (⟨some (IsI (-1)), []⟩ :: []) rfl ⟨hg, hs, hd⟩ (by kernel_rfl) ⟨aI rfl rfl, trivial⟩ [⟨_, _⟩] (fun b q p => ⟨p.ou 0 4 rfl, trivial⟩) ?_
 rintro a k ⟨⟨hg, hs, hd⟩, i4, _⟩
 refine wp_ret ?_
 obtain rfl := Option.some.inj hr
 exact retC1 rfl hd hg i4
def slices_ContainsFunc_Rect (s_ : (List Rect)) (f_ : (Rect → Option (Bool))) : Option (Bool) :=
 (slices_IndexFunc_Rect s_ f_).bind fun x1 =>
 some (decide (0 ≤ x1))
theorem slices_ContainsFunc_Rect_ok {k0 : K} {v0 v1 : Value} {s_ : (List Rect)} {f_ : (Rect → Option (Bool))} {r : Bool} (i0 : (IsV s_) v0 k0) (i1 : (IsFn1 Tryd.prog f_) v1 k0) (hr : slices_ContainsFunc_Rect s_ f_ = some r) :
  Calls Tryd.prog 36 #[v0, v1] k0.w (Ret k0 (IsV r)) := by
 unfold slices_ContainsFunc_Rect at hr
 refine Ret.ofC ?_
 refine enterK Tryd.func36 rfl Tryd.ntmps36 (show 2 ≤ 9 by decide) fun a k hk0 hs hd ha => ?_
 obtain ⟨e0, e1, _⟩ := ha
 replace i0 : (IsV s_) (a.get 0) k := by rw [e0, hk0]; exact i0
 replace i1 : (IsFn1 Tryd.prog f_) (a.get 1) k := by rw [e1, hk0]; exact i1
 have hQ : Gb.LetsOut (bodyPost Tryd.prog Tryd.f36 (RetC noF k0 (IsV r))) := letsOutC
 have hg : Chg noF k0 k := by rw [hk0]; exact Chg.refl _ k0
 refine stepL 1 (⟨some (IsV false), []⟩ :: []) rfl ⟨hg, hs, hd⟩ (by kernel_rfl) ⟨ob1 rfl fun _ _ h n => ok_assign rfl (isV_bool.2 rfl), trivial⟩ [⟨_, _⟩, ⟨_, _⟩] (fun b q p => ⟨p.ke 0 rfl i0, p.ke 1 rfl i1, trivial⟩) ?_
 rintro a k ⟨⟨hg, hs, hd⟩, i0, i1, _⟩
 refine wp_seq ?_
 obtain ⟨x1, hx1, hr⟩ := bind_some hr
 refine cut (fun a' k' => Bs noF k0 9 a' k' ∧ (IsV (decide (0 ≤ x1))) (a'.get 4) k' ∧ True) ?_ hQ ?_
 ·intro Q1 W1 w1
  refine gS 5 (_ :: _ :: _ :: _ :: _ :: []) hs (by kernel_rfl) ⟨mu rfl i0, mu rfl i1, o1 [(5, some 0), (6, some 1)] rfl fun _ _ h n => ok_call rfl Tryd.call51 (slices_IndexFunc_Rect_ok n.1 n.2.1 hx1), o1 [(7, some 2)] rfl fun _ _ h n => ok_geq rfl n.1 (cI rfl), cp 3 rfl rfl, trivial⟩ W1 fun b q p => ?_
  exact tail_done (k := q) (w1 _ _ ⟨Bs.post ⟨hg, hs, hd⟩ p, p.ou 4 4 rfl, trivial⟩)
 rintro a k ⟨⟨hg, hs, hd⟩, i4, _⟩
 refine wp_ret ?_
 obtain rfl := Option.some.inj hr
 exact retC1 rfl hd hg i4
def region_Has_1 (r_ : Rect) (p1_ : Int) (p2_ : Int) : Option (Bool) :=
 (rect_Has r_ p1_ p2_).bind fun x1 =>
 some x1
theorem region_Has_1_ok {k0 : K} {v0 v1 v2 : Value} {r_ : Rect} {p1_ : Int} {p2_ : Int} {r : Bool} (i0 : (IsV r_) v0 k0) (i1 : (IsRef p1_) v1 k0) (i2 : (IsRef p2_) v2 k0) (hr : region_Has_1 r_ p1_ p2_ = some r) :
  Calls Tryd.prog 37 #[v0, v1, v2] k0.w (Ret k0 (IsV r)) := by
 unfold region_Has_1 at hr
 refine Ret.ofC ?_
 refine enterK Tryd.func37 rfl Tryd.ntmps37 (show 3 ≤ 9 by decide) fun a k hk0 hs hd ha => ?_
 obtain ⟨e0, e1, e2, _⟩ := ha
 replace i0 : (IsV r_) (a.get 0) k := by rw [e0, hk0]; exact i0
 replace i1 : (IsRef p1_) (a.get 1) k := by rw [e1, hk0]; exact i1
 replace i2 : (IsRef p2_) (a.get 2) k := by rw [e2, hk0]; exact i2
 have hQ : Gb.LetsOut (bodyPost Tryd.prog Tryd.f37 (RetC noF k0 (IsV r))) := letsOutC
 have hg : Chg noF k0 k := by rw [hk0]; exact Chg.refl _ k0
 refine stepL 2 (⟨some (IsRef r_), [(0, none)]⟩ :: ⟨some (IsV false), []⟩ :: []) rfl ⟨hg, hs, hd⟩ (by kernel_rfl) ⟨ob1 rfl fun _ _ h n => ok_boxR rfl (up i0 h n.1), ob1 rfl fun _ _ h n => ok_assign rfl (isV_bool.2 rfl), trivial⟩ [⟨_, _⟩, ⟨_, _⟩, ⟨_, _⟩] (fun b q p => ⟨p.ke 1 rfl i1, p.ke 2 rfl i2, p.ou 0 3 rfl, trivial⟩) ?_
 rintro a k ⟨⟨hg, hs, hd⟩, i1, i2, i3, _⟩
 refine wp_seq ?_
 obtain ⟨x1, hx1, hr⟩ := bind_some hr
 refine cut (fun a' k' => Bs noF k0 9 a' k' ∧ (IsV x1) (a'.get 4) k' ∧ True) ?_ hQ ?_
 ·intro Q1 W1 w1
  refine gS 5 (_ :: _ :: _ :: _ :: _ :: []) hs (by kernel_rfl) ⟨o1 [(3, none)] rfl fun _ _ h n => ok_load rfl ty23 ((up i3 h n.1)).ptr, o1 [(1, none)] rfl fun _ _ h n => ok_load rfl ty3 ((up i1 h n.1)).ptr, o1 [(2, none)] rfl fun _ _ h n => ok_load rfl ty3 ((up i2 h n.1)).ptr, o1 [(5, some 0), (6, some 1), (7, some 2)] rfl fun _ _ h n => ok_call rfl Tryd.call28 (rect_Has_ok n.1 n.2.1 n.2.2.1 hx1), cp 3 rfl rfl, trivial⟩ W1 fun b q p => ?_
  exact tail_done (k := q) (w1 _ _ ⟨Bs.post ⟨hg, hs, hd⟩ p, p.ou 4 4 rfl, trivial⟩)
 rintro a k ⟨⟨hg, hs, hd⟩, i4, _⟩
 refine wp_ret ?_
 obtain rfl := Option.some.inj hr
 exact retC1 rfl hd hg i4
def region_Has (a_ : (List Rect)) (x_ : Int) (y_ : Int) : Option (Bool) :=
 (slices_ContainsFunc_Rect a_ (fun y0 => region_Has_1 y0 x_ y_)).bind fun x1 =>
 (if x1 then
  (region_Right a_).bind fun x2 =>
  some x2
 else
  some false).bind fun x3 =>
 some x3
theorem region_Has_ok {k0 : K} {v0 v1 v2 : Value} {a_ : (List Rect)} {x_ : Int} {y_ : Int} {r : Bool} (i0 : (IsV a_) v0 k0) (i1 : (IsV x_) v1 k0) (i2 : (IsV y_) v2 k0) (hr : region_Has a_ x_ y_ = some r) :
  Calls Tryd.prog 15 #[v0, v1, v2] k0.w (Ret k0 (IsV r)) := by
 unfold region_Has at hr
 refine Ret.ofC ?_
 refine enterK Tryd.func15 rfl Tryd.ntmps15 (show 3 ≤ 14 by decide) fun a k hk0 hs hd ha => ?_
 obtain ⟨e0, e1, e2, _⟩ := ha
 replace i0 : (IsV a_) (a.get 0) k := by rw [e0, hk0]; exact i0
 replace i1 : (IsV x_) (a.get 1) k := by rw [e1, hk0]; exact i1
 replace i2 : (IsV y_) (a.get 2) k := by rw [e2, hk0]; exact i2
 have hQ : Gb.LetsOut (bodyPost Tryd.prog Tryd.f15 (RetC noF k0 (IsV r))) := letsOutC
 have hg : Chg noF k0 k := by rw [hk0]; exact Chg.refl _ k0
 refine stepL 3 (⟨some (IsRef x_), [(1, none)]⟩ :: ⟨some (IsRef y_), [(2, none)]⟩ :: ⟨some (IsV false), []⟩ :: []) rfl ⟨hg, hs, hd⟩ (by kernel_rfl) ⟨ob1 rfl fun _ _ h n => ok_boxR rfl (up i1 h n.1), ob1 rfl fun _ _ h n => ok_boxR rfl (up i2 h n.1), ob1 rfl fun _ _ h n => ok_assign rfl (isV_bool.2 rfl), trivial⟩ [⟨_, _⟩, ⟨_, _⟩, ⟨_, _⟩] (fun b q p => ⟨p.ke 0 rfl i0, p.ou 0 4 rfl, p.ou 1 5 rfl, trivial⟩) ?_
 rintro a k ⟨⟨hg, hs, hd⟩, i0, i4, i5, _⟩
 refine wp_seq ?_
 obtain ⟨x1, hx1, hr⟩ := bind_some hr
 obtain ⟨x2, hx2, hr⟩ := bind_some hr
 obtain ⟨x3, hx3, hx2⟩ := ite_bind hx2
 refine cut (fun a' k' => Bs noF k0 14 a' k' ∧ (IsV x2) (a'.get 6) k' ∧ True) ?_ hQ ?_
 ·intro Q1 W1 w1
  refine gS 8 (_ :: ⟨some (IsFn1 Tryd.prog (fun y0 => region_Has_1 y0 x_ y_)), [(4, none), (5, none)]⟩ :: _ :: _ :: _ :: _ :: _ :: _ :: []) hs (by kernel_rfl) ⟨mu rfl i0, ob1 rfl fun _ _ h n => ok_makeFunc (first := []) (captured := [.tmp 4, .tmp 5]) rfl ⟨37, _, _, rfl, Tryd.call37, fun k9 hk9 _ _ _ hx0 hy9 => by simpa [evalT] using region_Has_1_ok hx0 (Pers.pers hk9 (up i4 h n.1)) (Pers.pers hk9 (up i5 h n.2.1)) hy9⟩, o1 [(7, some 0), (8, some 1)] rfl fun _ _ h n => ok_call rfl Tryd.call36 (slices_ContainsFunc_Rect_ok n.1 n.2.1 hx1), cm 2 rfl rfl, mT rfl rfl i0, gT [(11, some 4)] rfl rfl fun hp _ _ h n => ok_call rfl Tryd.call13 (region_Right_ok (Gd.get n.1 hp) (hx3 hp)), o1 [(10, some 3), (12, some 5)] rfl fun _ _ h n => ok_pickM rfl n.1 hx2 (Gd.get n.2.1) (cB rfl), cp 6 rfl rfl, trivial⟩ W1 fun b q p => ?_
  exact tail_done (k := q) (w1 _ _ ⟨Bs.post ⟨hg, hs, hd⟩ p, p.ou 7 6 rfl, trivial⟩)
 rintro a k ⟨⟨hg, hs, hd⟩, i6, _⟩
 refine wp_ret ?_
 obtain rfl := Option.some.inj hr
 exact retC1 rfl hd hg i6
noncomputable def k15 := mkO 15 [.list (.st 0), .int, .int] [.bool] (fun x => region_Has x.1 x.2.1 x.2.2) Tryd.call15 fun k0 vs x r _ h hr => by obtain ⟨v0, vs, rfl, i0, h⟩ := h.cons; obtain ⟨v1, vs, rfl, i1, h⟩ := h.cons; obtain ⟨v2, rfl, i2⟩ := h.one; exact region_Has_ok i0 i1 i2 hr
def law10_PlaneRooms (b_ : Rect) (l_ : (List Plane)) (x_ : Int) (y_ : Int) (z_ : Int) (w_ : Int) (many_ : Int) : Option (Bool) :=
 (law10_small).bind fun x1 =>
 if (decide (12 < (l_.length : Int))) then
  some x1
 else
  (plane_Room b_ l_ z_).bind fun x2 =>
  (law10_valid b_ l_).bind fun x3 =>
  if (!x3) then
   some ((x1 && (x2.2 == 1)) && ((x2.1.length : Int) == 0))
  else
   if (!((decide (0 ≤ z_)) && (decide (z_ ≤ 4096)))) then
    some ((x1 && (x2.2 == 3)) && ((x2.1.length : Int) == 0))
   else
    (if ((x2.2 != 0) || (decide (1 < (x2.1.length : Int)))) then
     some true
    else
     (region_Right x2.1).bind fun x4 =>
     some (!x4)).bind fun x5 =>
    if x5 then
     some false
    else
     (plane_Room b_ l_ (min (max z_ w_) 4096)).bind fun x6 =>
     (sliceI l_ 0 (max 0 (min many_ (l_.length : Int)))).bind fun x7 =>
     (plane_Room b_ x7 z_).bind fun x8 =>
     (region_Minus x6.1 x2.1).bind fun x9 =>
     (region_Minus x2.1 x8.1).bind fun x10 =>
     (if ((((x6.2 != 0) || (x8.2 != 0)) || (decide (0 < (x9.1.length : Int)))) || (decide (0 < (x10.1.length : Int)))) then
      some true
     else
      (region_Right x6.1).bind fun x11 =>
      some (!x11)).bind fun x12 =>
     (if x12 then
      some true
     else
      (region_Right x8.1).bind fun x13 =>
      some (!x13)).bind fun x14 =>
     if x14 then
      some false
     else
      (if x1 then
       (region_Has x2.1 x_ y_).bind fun x15 =>
       (if ((((decide (0 ≤ x_)) && (decide (x_ < 1048576))) && (decide (0 ≤ y_))) && (decide (y_ < 1048576))) then
        (plane_Top b_ l_ x_ y_).bind fun x16 =>
        some (decide (z_ ≤ x16))
       else
        some false).bind fun x17 =>
       some (x15 == x17)
      else
       some false).bind fun x18 =>
      some x18
noncomputable def k4 := mkg 4 [.st 0, .list (.st 6), .int, .int, .int, .int, .int] [.bool] (fun x => law10_PlaneRooms x.1 x.2.1 x.2.2.1 x.2.2.2.1 x.2.2.2.2.1 x.2.2.2.2.2.1 x.2.2.2.2.2.2) [k5, k12, k10.lift glv gl0, k13.lift glv gl0, k14.lift glv gl0, k15.lift glv gl0, k9] [] Tryd.f4 (.n) Tryd.func4 Tryd.call4 rfl rfl fun x => by kernel_rfl
theorem law10_PlaneRooms_ok {k0 : K} {v0 v1 v2 v3 v4 v5 v6 : Value} {x0 : Rect} {x1 : (List Plane)} {x2 : Int} {x3 : Int} {x4 : Int} {x5 : Int} {x6 : Int} {r : Bool} (hG : GOk tbg k0) (i0 : IsV x0 v0 k0) (i1 : IsV x1 v1 k0) (i2 : IsV x2 v2 k0) (i3 : IsV x3 v3 k0) (i4 : IsV x4 v4 k0) (i5 : IsV x5 v5 k0) (i6 : IsV x6 v6 k0) (hr : law10_PlaneRooms x0 x1 x2 x3 x4 x5 x6 = some r) : Calls Tryd.prog 4 #[v0, v1, v2, v3, v4, v5, v6] k0.w (Ret k0 (IsV r)) := (k4.ok.ok k0 [v0, v1, v2, v3, v4, v5, v6] (x0, x1, x2, x3, x4, x5, x6) r hG ⟨i0, i1, i2, i3, i4, i5, i6⟩ hr)
end Go.Proofs.YtpbeebhapbibfaaDoor
