/- What the functions compute that the law reaches, part 5 -/
import Derived.Test.YtmniloampanhfaaT4
namespace Go.Proofs.Ytmniloampanhfaa
open Go.Gb
set_option linter.unusedVariables false
set_option linter.unusedSimpArgs false
set_option maxRecDepth 100000
def law09_small  : Option (Bool) :=
 (solid_Of ([(⟨(⟨0, 0, 2, 2⟩ : Rect), 0, 3⟩ : Box), (⟨(⟨0, 0, 1, 2⟩ : Rect), 2, 5⟩ : Box)])).bind fun x1603_1 =>
 (solid_Of ([(⟨(⟨0, 0, 2, 1⟩ : Rect), 1, 5⟩ : Box)])).bind fun x1604_3 =>
 (solid_Minus x1603_1.1 x1604_3.1).bind fun x1605_2 =>
 (law09_square 0 0 2 2).bind fun x1606_0 =>
 (law09_square 0 0 1 2).bind fun x1606_2 =>
 (law09_square 0 0 2 2).bind fun x1607_0 =>
 (law09_square 0 1 2 2).bind fun x1607_2 =>
 (law09_square 0 1 1 2).bind fun x1607_4 =>
 (solid_Of ([(⟨(⟨0, 0, 2, 1⟩ : Rect), 1, 1⟩ : Box)])).bind fun x1608_3 =>
 (if ((((x1603_1.2 == 0) && (x1604_3.2 == 0)) && (x1605_2.2 == 0)) && (x1608_3.2 == 1)) then
  (ref09_Same x1603_1.1 ([(⟨0, 3, x1606_0⟩ : Slab), (⟨3, 5, x1606_2⟩ : Slab)])).bind fun x1609_17 =>
  some x1609_17
 else
  some false).bind fun x1609_18 =>
 (if x1609_18 then
  (ref09_Same x1605_2.1 ([(⟨0, 1, x1607_0⟩ : Slab), (⟨1, 3, x1607_2⟩ : Slab), (⟨3, 5, x1607_4⟩ : Slab)])).bind fun x1609_22 =>
  some x1609_22
 else
  some false).bind fun x1609_23 =>
 (if x1609_23 then
  (solid_Same x1605_2.1 ([(⟨0, 1, x1607_0⟩ : Slab), (⟨1, 3, x1607_2⟩ : Slab), (⟨3, 5, x1607_4⟩ : Slab)])).bind fun x1609_27 =>
  some x1609_27
 else
  some false).bind fun x1609_28 =>
 (if x1609_28 then
  (solid_Volume x1603_1.1).bind fun x1609_31 =>
  some (x1609_31 == 16)
 else
  some false).bind fun x1609_33 =>
 (solid_Top x1603_1.1 0 1).bind fun x1610_1 =>
 (if (x1610_1 == 5) then
  (solid_Top x1603_1.1 1 1).bind fun x1610_5 =>
  some (x1610_5 == 3)
 else
  some false).bind fun x1610_7 =>
 (if x1610_7 then
  (solid_Top x1603_1.1 2 0).bind fun x1610_10 =>
  some (x1610_10 == 0)
 else
  some false).bind fun x1610_12 =>
 (if x1610_12 then
  (solid_Section x1603_1.1 2).bind fun x1610_15 =>
  some ((x1610_15.length : Int) == 1)
 else
  some false).bind fun x1610_18 =>
 (if x1610_18 then
  (solid_Section x1603_1.1 5).bind fun x1610_21 =>
  some ((x1610_21.length : Int) == 0)
 else
  some false).bind fun x1610_24 =>
 (if x1610_24 then
  (solid_Boxes x1603_1.1).bind fun x1610_27 =>
  some ((x1610_27.length : Int) == 2)
 else
  some false).bind fun x1610_30 =>
 (if (x1609_33 && x1610_30) then
  (solid_Has x1603_1.1 0 0 4).bind fun x1611_6 =>
  some x1611_6
 else
  some false).bind fun x1611_7 =>
 (if x1611_7 then
  (solid_Has x1603_1.1 1 0 4).bind fun x1611_10 =>
  some (!x1611_10)
 else
  some false).bind fun x1611_12 =>
 (if x1611_12 then
  (solid_Right ([] : List Slab)).bind fun x1611_14 =>
  some x1611_14
 else
  some false).bind fun x1611_15 =>
 (if x1611_15 then
  (solid_Right ([(⟨0, 1, []⟩ : Slab)])).bind fun x1611_19 =>
  some (!x1611_19)
 else
  some false).bind fun x1611_21 =>
 some x1611_21
theorem law09_small_ok {k0 : K} {r : Bool} (hr : law09_small = some r) :
  Calls Try.prog 8 #[] k0.w (Ret k0 (IsV r)) := by
 unfold law09_small at hr
 refine Ret.ofC ?_
 refine enterK Try.func8 rfl Try.ntmps8 (show 0 ≤ 143 by decide) fun a k hk0 hs hd ha => ?_
 have hQ : Gb.LetsOut (bodyPost Try.prog Try.f8 (RetC noF k0 (IsV r))) := letsOutC
 have hg : Chg noF k0 k := by rw [hk0]; exact Chg.refl _ k0
 refine cutL noF k0 143 [] ?_ ?_
 ·intro Q1632 hQQ1632 hp1633
  refine gS 1 (⟨some (IsV false), []⟩ :: []) hs (by kernel_rfl) ⟨ob1 rfl fun _ _ h n => ok_assign rfl (isV_bool.2 rfl), trivial⟩ hQQ1632 fun b q p => ?_
  exact tail_done (k := q) (hp1633 _ _ ⟨Bs.post ⟨hg, hs, hd⟩ p, trivial⟩)
 rintro a k ⟨⟨hg, hs, hd⟩, _⟩
 refine stepL 6 (⟨some (IsV (⟨0, 0, 2, 2⟩ : Rect)), []⟩ :: ⟨some (IsV (⟨(⟨0, 0, 2, 2⟩ : Rect), 0, 3⟩ : Box)), [(14, some 0)]⟩ :: ⟨some (IsV (⟨0, 0, 1, 2⟩ : Rect)), []⟩ :: ⟨some (IsV (⟨(⟨0, 0, 1, 2⟩ : Rect), 2, 5⟩ : Box)), [(16, some 2)]⟩ :: ⟨some (IsV ([(⟨(⟨0, 0, 2, 2⟩ : Rect), 0, 3⟩ : Box), (⟨(⟨0, 0, 1, 2⟩ : Rect), 2, 5⟩ : Box)])), [(15, some 1), (17, some 3)]⟩ :: _ :: []) rfl ⟨hg, hs, hd⟩ (by kernel_rfl) ⟨ob1 rfl fun _ _ h n => ok_build rfl (bld30_0_1_2_3 (cI rfl) (cI rfl) (cI rfl) (cI rfl)), ob1 rfl fun _ _ h n => ok_build rfl (bld32_0_1_2 n.1 (cI rfl) (cI rfl)), ob1 rfl fun _ _ h n => ok_build rfl (bld30_0_1_2_3 (cI rfl) (cI rfl) (cI rfl) (cI rfl)), ob1 rfl fun _ _ h n => ok_build rfl (bld32_0_1_2 n.1 (cI rfl) (cI rfl)), ob1 rfl fun _ _ h n => ok_buildSlice rfl Try.underlying22 eo32 rfl (by decide) (by decide) ⟨rfl, n.1, rfl, n.2.1, trivial⟩, cp 4 rfl rfl, trivial⟩ [⟨_, _⟩] (fun b q p => ⟨p.ou 5 1 rfl, trivial⟩) ?_
 rintro a k ⟨⟨hg, hs, hd⟩, i1, _⟩
 refine wp_seq ?_
 obtain ⟨x1603_1, hx1603_1, hr⟩ := bind_some hr
 refine cut (fun a' k' => Bs noF k0 143 a' k' ∧ (IsV x1603_1.1) (a'.get 2) k' ∧ (IsV x1603_1.2) (a'.get 3) k' ∧ True) ?_ hQ ?_
 ·intro Q1628 hQQ1628 hp1629
  refine gS 7 (_ :: _ :: _ :: _ :: _ :: _ :: _ :: []) hs (by kernel_rfl) ⟨mu rfl i1, o1 [(20, some 0)] rfl fun _ _ h n => ok_call rfl Try.call9 (solid_Of_ok n.1 hx1603_1), cm 1 rfl rfl, o1 [(19, some 2)] rfl fun _ _ h n => ok_ext2_0 rfl n.1, o1 [(19, some 2)] rfl fun _ _ h n => ok_ext2_1 rfl n.1, cp 3 rfl rfl, cp 4 rfl rfl, trivial⟩ hQQ1628 fun b q p => ?_
  exact tail_done (k := q) (hp1629 _ _ ⟨Bs.post ⟨hg, hs, hd⟩ p, p.ou 5 2 rfl, p.ou 6 3 rfl, trivial⟩)
 rintro a k ⟨⟨hg, hs, hd⟩, i2, i3, _⟩
 refine wp_seq ?_
 obtain ⟨x1604_3, hx1604_3, hr⟩ := bind_some hr
 refine cut (fun a' k' => Bs noF k0 143 a' k' ∧ (IsV x1603_1.1) (a'.get 2) k' ∧ (IsV x1603_1.2) (a'.get 3) k' ∧ (IsV x1604_3.1) (a'.get 4) k' ∧ (IsV x1604_3.2) (a'.get 5) k' ∧ True) ?_ hQ ?_
 ·intro Q1626 hQQ1626 hp1627
  refine gS 9 (⟨some (IsV (⟨0, 0, 2, 1⟩ : Rect)), []⟩ :: ⟨some (IsV (⟨(⟨0, 0, 2, 1⟩ : Rect), 1, 5⟩ : Box)), [(25, some 0)]⟩ :: ⟨some (IsV ([(⟨(⟨0, 0, 2, 1⟩ : Rect), 1, 5⟩ : Box)])), [(26, some 1)]⟩ :: _ :: _ :: _ :: _ :: _ :: _ :: []) hs (by kernel_rfl) ⟨ob1 rfl fun _ _ h n => ok_build rfl (bld30_0_1_2_3 (cI rfl) (cI rfl) (cI rfl) (cI rfl)), ob1 rfl fun _ _ h n => ok_build rfl (bld32_0_1_2 n.1 (cI rfl) (cI rfl)), ob1 rfl fun _ _ h n => ok_buildSlice rfl Try.underlying22 eo32 rfl (by decide) (by decide) ⟨rfl, n.1, trivial⟩, o1 [(27, some 2)] rfl fun _ _ h n => ok_call rfl Try.call9 (solid_Of_ok n.1 hx1604_3), cm 3 rfl rfl, o1 [(24, some 4)] rfl fun _ _ h n => ok_ext2_0 rfl n.1, o1 [(24, some 4)] rfl fun _ _ h n => ok_ext2_1 rfl n.1, cp 5 rfl rfl, cp 6 rfl rfl, trivial⟩ hQQ1626 fun b q p => ?_
  exact tail_done (k := q) (hp1627 _ _ ⟨Bs.post ⟨hg, hs, hd⟩ p, p.ke 2 rfl i2, p.ke 3 rfl i3, p.ou 7 4 rfl, p.ou 8 5 rfl, trivial⟩)
 rintro a k ⟨⟨hg, hs, hd⟩, i2, i3, i4, i5, _⟩
 refine wp_seq ?_
 obtain ⟨x1605_2, hx1605_2, hr⟩ := bind_some hr
 refine cut (fun a' k' => Bs noF k0 143 a' k' ∧ (IsV x1603_1.1) (a'.get 2) k' ∧ (IsV x1603_1.2) (a'.get 3) k' ∧ (IsV x1604_3.2) (a'.get 5) k' ∧ (IsV x1605_2.1) (a'.get 6) k' ∧ (IsV x1605_2.2) (a'.get 7) k' ∧ True) ?_ hQ ?_
 ·intro Q1624 hQQ1624 hp1625
  refine gS 8 (_ :: _ :: _ :: _ :: _ :: _ :: _ :: _ :: []) hs (by kernel_rfl) ⟨mu rfl i2, mu rfl i4, o1 [(32, some 0), (33, some 1)] rfl fun _ _ h n => ok_call rfl Try.call16 (solid_Minus_ok n.1 n.2.1 hx1605_2), cm 2 rfl rfl, o1 [(31, some 3)] rfl fun _ _ h n => ok_ext2_0 rfl n.1, o1 [(31, some 3)] rfl fun _ _ h n => ok_ext2_1 rfl n.1, cp 4 rfl rfl, cp 5 rfl rfl, trivial⟩ hQQ1624 fun b q p => ?_
  exact tail_done (k := q) (hp1625 _ _ ⟨Bs.post ⟨hg, hs, hd⟩ p, p.ke 2 rfl i2, p.ke 3 rfl i3, p.ke 5 rfl i5, p.ou 6 6 rfl, p.ou 7 7 rfl, trivial⟩)
 rintro a k ⟨⟨hg, hs, hd⟩, i2, i3, i5, i6, i7, _⟩
 refine wp_seq ?_
 obtain ⟨x1606_0, hx1606_0, hr⟩ := bind_some hr
 obtain ⟨x1606_2, hx1606_2, hr⟩ := bind_some hr
 refine cut (fun a' k' => Bs noF k0 143 a' k' ∧ (IsV x1603_1.1) (a'.get 2) k' ∧ (IsV x1603_1.2) (a'.get 3) k' ∧ (IsV x1604_3.2) (a'.get 5) k' ∧ (IsV x1605_2.1) (a'.get 6) k' ∧ (IsV x1605_2.2) (a'.get 7) k' ∧ (IsV ([(⟨0, 3, x1606_0⟩ : Slab), (⟨3, 5, x1606_2⟩ : Slab)])) (a'.get 8) k' ∧ True) ?_ hQ ?_
 ·intro Q1622 hQQ1622 hp1623
  refine gS 6 (_ :: ⟨some (IsV (⟨0, 3, x1606_0⟩ : Slab)), [(37, some 0)]⟩ :: _ :: ⟨some (IsV (⟨3, 5, x1606_2⟩ : Slab)), [(39, some 2)]⟩ :: ⟨some (IsV ([(⟨0, 3, x1606_0⟩ : Slab), (⟨3, 5, x1606_2⟩ : Slab)])), [(38, some 1), (40, some 3)]⟩ :: _ :: []) hs (by kernel_rfl) ⟨o1 [] rfl fun _ _ h n => ok_call rfl Try.call21 (law09_square_ok (cI rfl) (cI rfl) (cI rfl) (cI rfl) hx1606_0), ob1 rfl fun _ _ h n => ok_build rfl (bld47_0_1_2 (cI rfl) (cI rfl) n.1), o1 [] rfl fun _ _ h n => ok_call rfl Try.call21 (law09_square_ok (cI rfl) (cI rfl) (cI rfl) (cI rfl) hx1606_2), ob1 rfl fun _ _ h n => ok_build rfl (bld47_0_1_2 (cI rfl) (cI rfl) n.1), ob1 rfl fun _ _ h n => ok_buildSlice rfl Try.underlying24 eo47 rfl (by decide) (by decide) ⟨rfl, n.1, rfl, n.2.1, trivial⟩, cp 4 rfl rfl, trivial⟩ hQQ1622 fun b q p => ?_
  exact tail_done (k := q) (hp1623 _ _ ⟨Bs.post ⟨hg, hs, hd⟩ p, p.ke 2 rfl i2, p.ke 3 rfl i3, p.ke 5 rfl i5, p.ke 6 rfl i6, p.ke 7 rfl i7, p.ou 5 8 rfl, trivial⟩)
 rintro a k ⟨⟨hg, hs, hd⟩, i2, i3, i5, i6, i7, i8, _⟩
 refine wp_seq ?_
 obtain ⟨x1607_0, hx1607_0, hr⟩ := bind_some hr
 obtain ⟨x1607_2, hx1607_2, hr⟩ := bind_some hr
 obtain ⟨x1607_4, hx1607_4, hr⟩ := bind_some hr
 refine cut (fun a' k' => Bs noF k0 143 a' k' ∧ (IsV x1603_1.1) (a'.get 2) k' ∧ (IsV x1603_1.2) (a'.get 3) k' ∧ (IsV x1604_3.2) (a'.get 5) k' ∧ (IsV x1605_2.1) (a'.get 6) k' ∧ (IsV x1605_2.2) (a'.get 7) k' ∧ (IsV ([(⟨0, 3, x1606_0⟩ : Slab), (⟨3, 5, x1606_2⟩ : Slab)])) (a'.get 8) k' ∧ (IsV ([(⟨0, 1, x1607_0⟩ : Slab), (⟨1, 3, x1607_2⟩ : Slab), (⟨3, 5, x1607_4⟩ : Slab)])) (a'.get 9) k' ∧ True) ?_ hQ ?_
 ·intro Q1620 hQQ1620 hp1621
  refine gS 8 (_ :: ⟨some (IsV (⟨0, 1, x1607_0⟩ : Slab)), [(42, some 0)]⟩ :: _ :: ⟨some (IsV (⟨1, 3, x1607_2⟩ : Slab)), [(44, some 2)]⟩ :: _ :: ⟨some (IsV (⟨3, 5, x1607_4⟩ : Slab)), [(46, some 4)]⟩ :: ⟨some (IsV ([(⟨0, 1, x1607_0⟩ : Slab), (⟨1, 3, x1607_2⟩ : Slab), (⟨3, 5, x1607_4⟩ : Slab)])), [(43, some 1), (45, some 3), (47, some 5)]⟩ :: _ :: []) hs (by kernel_rfl) ⟨o1 [] rfl fun _ _ h n => ok_call rfl Try.call21 (law09_square_ok (cI rfl) (cI rfl) (cI rfl) (cI rfl) hx1607_0), ob1 rfl fun _ _ h n => ok_build rfl (bld47_0_1_2 (cI rfl) (cI rfl) n.1), o1 [] rfl fun _ _ h n => ok_call rfl Try.call21 (law09_square_ok (cI rfl) (cI rfl) (cI rfl) (cI rfl) hx1607_2), ob1 rfl fun _ _ h n => ok_build rfl (bld47_0_1_2 (cI rfl) (cI rfl) n.1), o1 [] rfl fun _ _ h n => ok_call rfl Try.call21 (law09_square_ok (cI rfl) (cI rfl) (cI rfl) (cI rfl) hx1607_4), ob1 rfl fun _ _ h n => ok_build rfl (bld47_0_1_2 (cI rfl) (cI rfl) n.1), ob1 rfl fun _ _ h n => ok_buildSlice rfl Try.underlying24 eo47 rfl (by decide) (by decide) ⟨rfl, n.1, rfl, n.2.1, rfl, n.2.2.1, trivial⟩, cp 6 rfl rfl, trivial⟩ hQQ1620 fun b q p => ?_
  exact tail_done (k := q) (hp1621 _ _ ⟨Bs.post ⟨hg, hs, hd⟩ p, p.ke 2 rfl i2, p.ke 3 rfl i3, p.ke 5 rfl i5, p.ke 6 rfl i6, p.ke 7 rfl i7, p.ke 8 rfl i8, p.ou 7 9 rfl, trivial⟩)
 rintro a k ⟨⟨hg, hs, hd⟩, i2, i3, i5, i6, i7, i8, i9, _⟩
 refine wp_seq ?_
 obtain ⟨x1608_3, hx1608_3, hr⟩ := bind_some hr
 refine cut (fun a' k' => Bs noF k0 143 a' k' ∧ (IsV x1603_1.1) (a'.get 2) k' ∧ (IsV x1603_1.2) (a'.get 3) k' ∧ (IsV x1604_3.2) (a'.get 5) k' ∧ (IsV x1605_2.1) (a'.get 6) k' ∧ (IsV x1605_2.2) (a'.get 7) k' ∧ (IsV ([(⟨0, 3, x1606_0⟩ : Slab), (⟨3, 5, x1606_2⟩ : Slab)])) (a'.get 8) k' ∧ (IsV ([(⟨0, 1, x1607_0⟩ : Slab), (⟨1, 3, x1607_2⟩ : Slab), (⟨3, 5, x1607_4⟩ : Slab)])) (a'.get 9) k' ∧ (IsV x1608_3.2) (a'.get 11) k' ∧ True) ?_ hQ ?_
 ·intro Q1618 hQQ1618 hp1619
  refine gS 9 (⟨some (IsV (⟨0, 0, 2, 1⟩ : Rect)), []⟩ :: ⟨some (IsV (⟨(⟨0, 0, 2, 1⟩ : Rect), 1, 1⟩ : Box)), [(50, some 0)]⟩ :: ⟨some (IsV ([(⟨(⟨0, 0, 2, 1⟩ : Rect), 1, 1⟩ : Box)])), [(51, some 1)]⟩ :: _ :: _ :: _ :: _ :: _ :: _ :: []) hs (by kernel_rfl) ⟨ob1 rfl fun _ _ h n => ok_build rfl (bld30_0_1_2_3 (cI rfl) (cI rfl) (cI rfl) (cI rfl)), ob1 rfl fun _ _ h n => ok_build rfl (bld32_0_1_2 n.1 (cI rfl) (cI rfl)), ob1 rfl fun _ _ h n => ok_buildSlice rfl Try.underlying22 eo32 rfl (by decide) (by decide) ⟨rfl, n.1, trivial⟩, o1 [(52, some 2)] rfl fun _ _ h n => ok_call rfl Try.call9 (solid_Of_ok n.1 hx1608_3), cm 3 rfl rfl, o1 [(49, some 4)] rfl fun _ _ h n => ok_ext2_0 rfl n.1, o1 [(49, some 4)] rfl fun _ _ h n => ok_ext2_1 rfl n.1, cp 5 rfl rfl, cp 6 rfl rfl, trivial⟩ hQQ1618 fun b q p => ?_
  exact tail_done (k := q) (hp1619 _ _ ⟨Bs.post ⟨hg, hs, hd⟩ p, p.ke 2 rfl i2, p.ke 3 rfl i3, p.ke 5 rfl i5, p.ke 6 rfl i6, p.ke 7 rfl i7, p.ke 8 rfl i8, p.ke 9 rfl i9, p.ou 8 11 rfl, trivial⟩)
 rintro a k ⟨⟨hg, hs, hd⟩, i2, i3, i5, i6, i7, i8, i9, i11, _⟩
 refine wp_seq ?_
 obtain ⟨x1609_18, hx1609_18, hr⟩ := bind_some hr
 obtain ⟨x1609_17, hx1609_17, hx1609_18⟩ := ite_bind hx1609_18
 obtain ⟨x1609_23, hx1609_23, hr⟩ := bind_some hr
 obtain ⟨x1609_22, hx1609_22, hx1609_23⟩ := ite_bind hx1609_23
 obtain ⟨x1609_28, hx1609_28, hr⟩ := bind_some hr
 obtain ⟨x1609_27, hx1609_27, hx1609_28⟩ := ite_bind hx1609_28
 obtain ⟨x1609_33, hx1609_33, hr⟩ := bind_some hr
 obtain ⟨x1609_31, hx1609_31, hx1609_33⟩ := ite_bind hx1609_33
 refine cut (fun a' k' => Bs noF k0 143 a' k' ∧ (IsV x1603_1.1) (a'.get 2) k' ∧ (IsV x1609_33) (a'.get 12) k' ∧ True) ?_ hQ ?_
 ·intro Q1616 hQQ1616 hp1617
  refine gS 35 (_ :: _ :: _ :: _ :: _ :: _ :: _ :: _ :: _ :: _ :: _ :: _ :: _ :: _ :: _ :: _ :: _ :: _ :: _ :: _ :: _ :: _ :: _ :: _ :: _ :: _ :: _ :: _ :: _ :: _ :: _ :: _ :: _ :: _ :: _ :: []) hs (by kernel_rfl) ⟨mu rfl i3, o1 [(56, some 0)] rfl fun _ _ h n => ok_eqI rfl n.1 (cI rfl), cm 1 rfl rfl, mT rfl rfl i5, gT [(59, some 3)] rfl rfl fun hp _ _ h n => ok_eqI rfl (Gd.get n.1 hp) (cI rfl), o1 [(58, some 2), (60, some 4)] rfl fun _ _ h n => ok_pickAnd rfl n.1 (Gd.get n.2.1) (cB rfl), cm 5 rfl rfl, mT rfl rfl i7, gT [(63, some 7)] rfl rfl fun hp _ _ h n => ok_eqI rfl (Gd.get n.1 hp) (cI rfl), o1 [(62, some 6), (64, some 8)] rfl fun _ _ h n => ok_pickAnd rfl n.1 (Gd.get n.2.1) (cB rfl), cm 9 rfl rfl, mT rfl rfl i11, gT [(67, some 11)] rfl rfl fun hp _ _ h n => ok_eqI rfl (Gd.get n.1 hp) (cI rfl), o1 [(66, some 10), (68, some 12)] rfl fun _ _ h n => ok_pickAnd rfl n.1 (Gd.get n.2.1) (cB rfl), cm 13 rfl rfl, mT rfl rfl i2, mT rfl rfl i8, gT [(71, some 15), (72, some 16)] rfl rfl fun hp _ _ h n => ok_call rfl Try.call28 (ref09_Same_ok (Gd.get n.1 hp) (Gd.get n.2.1 hp) (hx1609_17 hp)), o1 [(70, some 14), (73, some 17)] rfl fun _ _ h n => ok_pickM rfl n.1 hx1609_18 (Gd.get n.2.1) (cB rfl), cm 18 rfl rfl, mT rfl rfl i6, mT rfl rfl i9, gT [(76, some 20), (77, some 21)] rfl rfl fun hp _ _ h n => ok_call rfl Try.call28 (ref09_Same_ok (Gd.get n.1 hp) (Gd.get n.2.1 hp) (hx1609_22 hp)), o1 [(75, some 19), (78, some 22)] rfl fun _ _ h n => ok_pickM rfl n.1 hx1609_23 (Gd.get n.2.1) (cB rfl), cm 23 rfl rfl, mT rfl rfl i6, mT rfl rfl i9, gT [(81, some 25), (82, some 26)] rfl rfl fun hp _ _ h n => ok_call rfl Try.call11 (solid_Same_ok (Gd.get n.1 hp) (Gd.get n.2.1 hp) (hx1609_27 hp)), o1 [(80, some 24), (83, some 27)] rfl fun _ _ h n => ok_pickM rfl n.1 hx1609_28 (Gd.get n.2.1) (cB rfl), cm 28 rfl rfl, mT rfl rfl i2, gT [(86, some 30)] rfl rfl fun hp _ _ h n => ok_call rfl Try.call12 (solid_Volume_ok (Gd.get n.1 hp) (hx1609_31 hp)), gT [(87, some 31)] rfl rfl fun hp _ _ h n => ok_eqI rfl (Gd.get n.1 hp) (cI rfl), o1 [(85, some 29), (88, some 32)] rfl fun _ _ h n => ok_pickM rfl n.1 hx1609_33 (Gd.get n.2.1) (cB rfl), cp 33 rfl rfl, trivial⟩ hQQ1616 fun b q p => ?_
  exact tail_done (k := q) (hp1617 _ _ ⟨Bs.post ⟨hg, hs, hd⟩ p, p.ke 2 rfl i2, p.ou 34 12 rfl, trivial⟩)
 rintro a k ⟨⟨hg, hs, hd⟩, i2, i12, _⟩
 refine wp_seq ?_
 obtain ⟨x1610_1, hx1610_1, hr⟩ := bind_some hr
 obtain ⟨x1610_7, hx1610_7, hr⟩ := bind_some hr
 obtain ⟨x1610_5, hx1610_5, hx1610_7⟩ := ite_bind hx1610_7
 obtain ⟨x1610_12, hx1610_12, hr⟩ := bind_some hr
 obtain ⟨x1610_10, hx1610_10, hx1610_12⟩ := ite_bind hx1610_12
 obtain ⟨x1610_18, hx1610_18, hr⟩ := bind_some hr
 obtain ⟨x1610_15, hx1610_15, hx1610_18⟩ := ite_bind hx1610_18
 obtain ⟨x1610_24, hx1610_24, hr⟩ := bind_some hr
 obtain ⟨x1610_21, hx1610_21, hx1610_24⟩ := ite_bind hx1610_24
 obtain ⟨x1610_30, hx1610_30, hr⟩ := bind_some hr
 obtain ⟨x1610_27, hx1610_27, hx1610_30⟩ := ite_bind hx1610_30
 refine cut (fun a' k' => Bs noF k0 143 a' k' ∧ (IsV x1603_1.1) (a'.get 2) k' ∧ (IsV x1609_33) (a'.get 12) k' ∧ (IsV x1610_30) (a'.get 13) k' ∧ True) ?_ hQ ?_
 ·intro Q1614 hQQ1614 hp1615
  refine gS 32 (_ :: _ :: _ :: _ :: _ :: _ :: _ :: _ :: _ :: _ :: _ :: _ :: _ :: _ :: _ :: _ :: _ :: _ :: _ :: _ :: _ :: _ :: _ :: _ :: _ :: _ :: _ :: _ :: _ :: _ :: _ :: _ :: []) hs (by kernel_rfl) ⟨mu rfl i2, o1 [(90, some 0)] rfl fun _ _ h n => ok_call rfl Try.call22 (solid_Top_ok n.1 (cI rfl) (cI rfl) hx1610_1), o1 [(91, some 1)] rfl fun _ _ h n => ok_eqI rfl n.1 (cI rfl), cm 2 rfl rfl, mT rfl rfl i2, gT [(94, some 4)] rfl rfl fun hp _ _ h n => ok_call rfl Try.call22 (solid_Top_ok (Gd.get n.1 hp) (cI rfl) (cI rfl) (hx1610_5 hp)), gT [(95, some 5)] rfl rfl fun hp _ _ h n => ok_eqI rfl (Gd.get n.1 hp) (cI rfl), o1 [(93, some 3), (96, some 6)] rfl fun _ _ h n => ok_pickM rfl n.1 hx1610_7 (Gd.get n.2.1) (cB rfl), cm 7 rfl rfl, mT rfl rfl i2, gT [(99, some 9)] rfl rfl fun hp _ _ h n => ok_call rfl Try.call22 (solid_Top_ok (Gd.get n.1 hp) (cI rfl) (cI rfl) (hx1610_10 hp)), gT [(100, some 10)] rfl rfl fun hp _ _ h n => ok_eqI rfl (Gd.get n.1 hp) (cI rfl), o1 [(98, some 8), (101, some 11)] rfl fun _ _ h n => ok_pickM rfl n.1 hx1610_12 (Gd.get n.2.1) (cB rfl), cm 12 rfl rfl, mT rfl rfl i2, gT [(104, some 14)] rfl rfl fun hp _ _ h n => ok_call rfl Try.call23 (solid_Section_ok (Gd.get n.1 hp) (cI rfl) (hx1610_15 hp)), gT [(105, some 15)] rfl rfl fun hp _ _ h n => ok_len rfl rfl Try.underlying44 (IsV.rd (Gd.get n.1 hp)), gT [(106, some 16)] rfl rfl fun hp _ _ h n => ok_eqI rfl (Gd.get n.1 hp) (cI rfl), o1 [(103, some 13), (107, some 17)] rfl fun _ _ h n => ok_pickM rfl n.1 hx1610_18 (Gd.get n.2.1) (cB rfl), cm 18 rfl rfl, mT rfl rfl i2, gT [(110, some 20)] rfl rfl fun hp _ _ h n => ok_call rfl Try.call23 (solid_Section_ok (Gd.get n.1 hp) (cI rfl) (hx1610_21 hp)), gT [(111, some 21)] rfl rfl fun hp _ _ h n => ok_len rfl rfl Try.underlying44 (IsV.rd (Gd.get n.1 hp)), gT [(112, some 22)] rfl rfl fun hp _ _ h n => ok_eqI rfl (Gd.get n.1 hp) (cI rfl), o1 [(109, some 19), (113, some 23)] rfl fun _ _ h n => ok_pickM rfl n.1 hx1610_24 (Gd.get n.2.1) (cB rfl), cm 24 rfl rfl, mT rfl rfl i2, gT [(116, some 26)] rfl rfl fun hp _ _ h n => ok_call rfl Try.call10 (solid_Boxes_ok (Gd.get n.1 hp) (hx1610_27 hp)), gT [(117, some 27)] rfl rfl fun hp _ _ h n => ok_len rfl rfl Try.underlying22 (IsV.rd (Gd.get n.1 hp)), gT [(118, some 28)] rfl rfl fun hp _ _ h n => ok_eqI rfl (Gd.get n.1 hp) (cI rfl), o1 [(115, some 25), (119, some 29)] rfl fun _ _ h n => ok_pickM rfl n.1 hx1610_30 (Gd.get n.2.1) (cB rfl), cp 30 rfl rfl, trivial⟩ hQQ1614 fun b q p => ?_
  exact tail_done (k := q) (hp1615 _ _ ⟨Bs.post ⟨hg, hs, hd⟩ p, p.ke 2 rfl i2, p.ke 12 rfl i12, p.ou 31 13 rfl, trivial⟩)
 rintro a k ⟨⟨hg, hs, hd⟩, i2, i12, i13, _⟩
 refine wp_seq ?_
 obtain ⟨x1611_7, hx1611_7, hr⟩ := bind_some hr
 obtain ⟨x1611_6, hx1611_6, hx1611_7⟩ := ite_bind hx1611_7
 obtain ⟨x1611_12, hx1611_12, hr⟩ := bind_some hr
 obtain ⟨x1611_10, hx1611_10, hx1611_12⟩ := ite_bind hx1611_12
 obtain ⟨x1611_15, hx1611_15, hr⟩ := bind_some hr
 obtain ⟨x1611_14, hx1611_14, hx1611_15⟩ := ite_bind hx1611_15
 obtain ⟨x1611_21, hx1611_21, hr⟩ := bind_some hr
 obtain ⟨x1611_19, hx1611_19, hx1611_21⟩ := ite_bind hx1611_21
 refine cut (fun a' k' => Bs noF k0 143 a' k' ∧ (IsV x1611_21) (a'.get 0) k' ∧ True) ?_ hQ ?_
 ·intro Q1612 hQQ1612 hp1613
  refine gS 23 (_ :: _ :: _ :: _ :: _ :: _ :: _ :: _ :: _ :: _ :: _ :: _ :: _ :: _ :: _ :: _ :: _ :: ⟨some (Gd (x1611_15 = true) (IsV (⟨0, 1, []⟩ : Slab))), []⟩ :: ⟨some (Gd (x1611_15 = true) (IsV ([(⟨0, 1, []⟩ : Slab)]))), [(138, some 17)]⟩ :: _ :: _ :: _ :: _ :: []) hs (by kernel_rfl) ⟨mu rfl i12, cm 0 rfl rfl, mT rfl rfl i13, o1 [(122, some 1), (123, some 2)] rfl fun _ _ h n => ok_pickAnd rfl n.1 (Gd.get n.2.1) (cB rfl), cm 3 rfl rfl, mT rfl rfl i2, gT [(126, some 5)] rfl rfl fun hp _ _ h n => ok_call rfl Try.call19 (solid_Has_ok (Gd.get n.1 hp) (cI rfl) (cI rfl) (cI rfl) (hx1611_6 hp)), o1 [(125, some 4), (127, some 6)] rfl fun _ _ h n => ok_pickM rfl n.1 hx1611_7 (Gd.get n.2.1) (cB rfl), cm 7 rfl rfl, mT rfl rfl i2, gT [(130, some 9)] rfl rfl fun hp _ _ h n => ok_call rfl Try.call19 (solid_Has_ok (Gd.get n.1 hp) (cI rfl) (cI rfl) (cI rfl) (hx1611_10 hp)), gT [(131, some 10)] rfl rfl fun hp _ _ h n => ok_not rfl (Gd.get n.1 hp), o1 [(129, some 8), (132, some 11)] rfl fun _ _ h n => ok_pickM rfl n.1 hx1611_12 (Gd.get n.2.1) (cB rfl), cm 12 rfl rfl, gT [] rfl rfl fun hp _ _ h n => ok_call rfl Try.call17 (solid_Right_ok (isV_list.2 (.inl ⟨rfl, rfl⟩)) (hx1611_14 hp)), o1 [(134, some 13), (135, some 14)] rfl fun _ _ h n => ok_pickM rfl n.1 hx1611_15 (Gd.get n.2.1) (cB rfl), cm 15 rfl rfl, gdT rfl rfl fun hp _ _ h n => ok_build rfl (bld47_0_1 (cI rfl) (cI rfl)), gdT rfl rfl fun hp _ _ h n => ok_buildSlice rfl Try.underlying24 eo47 rfl (by decide) (by decide) ⟨rfl, (Gd.get n.1 hp), trivial⟩, gT [(139, some 18)] rfl rfl fun hp _ _ h n => ok_call rfl Try.call17 (solid_Right_ok (Gd.get n.1 hp) (hx1611_19 hp)), gT [(140, some 19)] rfl rfl fun hp _ _ h n => ok_not rfl (Gd.get n.1 hp), o1 [(137, some 16), (141, some 20)] rfl fun _ _ h n => ok_pickM rfl n.1 hx1611_21 (Gd.get n.2.1) (cB rfl), cp 21 rfl rfl, trivial⟩ hQQ1612 fun b q p => ?_
  exact tail_done (k := q) (hp1613 _ _ ⟨Bs.post ⟨hg, hs, hd⟩ p, p.ou 22 0 rfl, trivial⟩)
 rintro a k ⟨⟨hg, hs, hd⟩, i0, _⟩
 refine wp_ret ?_
 obtain rfl := Option.some.inj hr
 exact retC1 rfl hd hg i0
def law09_SolidBoxes_L0 (x1645_1 : (List Box)) (s1652 : Int × Int) : Option (Flow (Int × Int) (Bool)) :=
 if (decide (s1652.2 < (x1645_1.length : Int))) then
  (getI x1645_1 s1652.2).bind fun x1657_3 =>
  (getI x1645_1 s1652.2).bind fun x1657_8 =>
  (subI x1657_3.Z1 x1657_8.Z0).bind fun x1657_11 =>
  (getI x1645_1 s1652.2).bind fun x1657_14 =>
  (getI x1645_1 s1652.2).bind fun x1657_20 =>
  (subI x1657_14.Base.X1 x1657_20.Base.X0).bind fun x1657_24 =>
  (mulI x1657_11 x1657_24).bind fun x1657_25 =>
  (getI x1645_1 s1652.2).bind fun x1657_28 =>
  (getI x1645_1 s1652.2).bind fun x1657_34 =>
  (subI x1657_28.Base.Y1 x1657_34.Base.Y0).bind fun x1657_38 =>
  (mulI x1657_25 x1657_38).bind fun x1657_39 =>
  (addI s1652.1 x1657_39).bind fun x1657_40 =>
  (addI s1652.2 1).bind fun x1658_1 =>
  some (.go (x1657_40, x1658_1))
 else
  some (.ex 0 (s1652.1, s1652.2))
def law09_SolidBoxes (l_ : (List Box)) : Option (Bool) :=
 (law09_small).bind fun x1635_0 =>
 if (decide (10 < (l_.length : Int))) then
  some x1635_0
 else
  (solid_Of l_).bind fun x1640_1 =>
  if (x1640_1.2 != 0) then
   (if (x1635_0 && (x1640_1.2 == 1)) then
    (solid_Boxes x1640_1.1).bind fun x1642_7 =>
    some ((x1642_7.length : Int) == 0)
   else
    some false).bind fun x1642_10 =>
   some x1642_10
  else
   (solid_Boxes x1640_1.1).bind fun x1645_1 =>
   if (decide (200 < (x1645_1.length : Int))) then
    some x1635_0
   else
    (iterL (law09_SolidBoxes_L0 x1645_1) (x1640_1.1.length + x1645_1.length + 1) (0, 0)).bind fun f1666 => match f1666 with
     | .go _ => none
     | .ex _ s1667 =>
      (solid_Of x1645_1).bind fun x1668_1 =>
      (if (x1635_0 && (x1668_1.2 == 0)) then
       (solid_Same x1640_1.1 x1668_1.1).bind fun x1669_8 =>
       some x1669_8
      else
       some false).bind fun x1669_9 =>
      (if x1669_9 then
       (solid_Volume x1640_1.1).bind fun x1669_13 =>
       some (s1667.1 == x1669_13)
      else
       some false).bind fun x1669_15 =>
      some x1669_15
     | .ret r1674 => some r1674
theorem law09_SolidBoxes_ok {k0 : K} {v0 : Value} {l_ : (List Box)} {r : Bool} (i0 : (IsV l_) v0 k0) (hr : law09_SolidBoxes l_ = some r) :
  Calls Try.prog 3 #[v0] k0.w (Ret k0 (IsV r)) := by
 unfold law09_SolidBoxes at hr
 refine Ret.ofC ?_
 refine enterK Try.func3 rfl Try.ntmps3 (show 1 ≤ 108 by decide) fun a k hk0 hs hd ha => ?_
 obtain ⟨e0, _⟩ := ha
 replace i0 : (IsV l_) (a.get 0) k := by rw [e0, hk0]; exact i0
 have hQ : Gb.LetsOut (bodyPost Try.prog Try.f3 (RetC noF k0 (IsV r))) := letsOutC
 have hg : Chg noF k0 k := by rw [hk0]; exact Chg.refl _ k0
 refine stepL 1 (⟨some (IsV false), []⟩ :: []) rfl ⟨hg, hs, hd⟩ (by kernel_rfl) ⟨ob1 rfl fun _ _ h n => ok_assign rfl (isV_bool.2 rfl), trivial⟩ [⟨_, _⟩] (fun b q p => ⟨p.ke 0 rfl i0, trivial⟩) ?_
 rintro a k ⟨⟨hg, hs, hd⟩, i0, _⟩
 refine wp_seq ?_
 obtain ⟨x1635_0, hx1635_0, hr⟩ := bind_some hr
 refine cut (fun a' k' => Bs noF k0 108 a' k' ∧ (IsV l_) (a'.get 0) k' ∧ (IsV x1635_0) (a'.get 3) k' ∧ True) ?_ hQ ?_
 ·intro Q1693 hQQ1693 hp1694
  refine gS 2 (_ :: _ :: []) hs (by kernel_rfl) ⟨o1 [] rfl fun _ _ h n => ok_call rfl Try.call8 (law09_small_ok hx1635_0), cp 0 rfl rfl, trivial⟩ hQQ1693 fun b q p => ?_
  exact tail_done (k := q) (hp1694 _ _ ⟨Bs.post ⟨hg, hs, hd⟩ p, p.ke 0 rfl i0, p.ou 1 3 rfl, trivial⟩)
 rintro a k ⟨⟨hg, hs, hd⟩, i0, i3, _⟩
 refine wp_seq ?_
 refine stepL 3 (_ :: _ :: _ :: []) rfl ⟨hg, hs, hd⟩ (by kernel_rfl) ⟨mu rfl i0, o1 [(12, some 0)] rfl fun _ _ h n => ok_len rfl rfl Try.underlying22 (IsV.rd n.1), o1 [(13, some 1)] rfl fun _ _ h n => ok_gtr rfl n.1 (cI rfl), trivial⟩ [⟨_, _⟩, ⟨_, _⟩, ⟨_, _⟩] (fun b q p => ⟨p.ke 0 rfl i0, p.ke 3 rfl i3, p.ou 2 14 rfl, trivial⟩) ?_
 rintro a k ⟨⟨hg, hs, hd⟩, i0, i3, i14, _⟩
 refine wp_cond_split (isBool i14) (fun hc1690 => ?_) (fun hc1690 => ?_)
 ·rw [if_pos hc1690] at hr
  refine stepL 2 (_ :: _ :: []) rfl ⟨hg, hs, hd⟩ (by kernel_rfl) ⟨mu rfl i3, cp 0 rfl rfl, trivial⟩ [⟨_, _⟩] (fun b q p => ⟨p.ou 1 2 rfl, trivial⟩) ?_
  rintro a k ⟨⟨hg, hs, hd⟩, i2, _⟩
  refine wp_ret ?_
  obtain rfl := Option.some.inj hr
  exact retC1 rfl hd hg i2
 rw [if_neg (by rw [hc1690]; decide)] at hr
 refine wp_skip ?_
 refine wp_seq ?_
 obtain ⟨x1640_1, hx1640_1, hr⟩ := bind_some hr
 refine cut (fun a' k' => Bs noF k0 108 a' k' ∧ (IsV x1635_0) (a'.get 3) k' ∧ (IsV x1640_1.1) (a'.get 4) k' ∧ (IsV x1640_1.2) (a'.get 5) k' ∧ True) ?_ hQ ?_
 ·intro Q1688 hQQ1688 hp1689
  refine gS 7 (_ :: _ :: _ :: _ :: _ :: _ :: _ :: []) hs (by kernel_rfl) ⟨mu rfl i0, o1 [(17, some 0)] rfl fun _ _ h n => ok_call rfl Try.call9 (solid_Of_ok n.1 hx1640_1), cm 1 rfl rfl, o1 [(16, some 2)] rfl fun _ _ h n => ok_ext2_0 rfl n.1, o1 [(16, some 2)] rfl fun _ _ h n => ok_ext2_1 rfl n.1, cp 3 rfl rfl, cp 4 rfl rfl, trivial⟩ hQQ1688 fun b q p => ?_
  exact tail_done (k := q) (hp1689 _ _ ⟨Bs.post ⟨hg, hs, hd⟩ p, p.ke 3 rfl i3, p.ou 5 4 rfl, p.ou 6 5 rfl, trivial⟩)
 rintro a k ⟨⟨hg, hs, hd⟩, i3, i4, i5, _⟩
 refine wp_seq ?_
 refine stepL 2 (_ :: ⟨some (IsV (x1640_1.2 != 0)), [(21, some 0)]⟩ :: []) rfl ⟨hg, hs, hd⟩ (by kernel_rfl) ⟨mu rfl i5, ob1 rfl fun _ _ h n => ok_neI rfl n.1 (cI rfl), trivial⟩ [⟨_, _⟩, ⟨_, _⟩, ⟨_, _⟩, ⟨_, _⟩] (fun b q p => ⟨p.ke 3 rfl i3, p.ke 4 rfl i4, p.ke 5 rfl i5, p.ou 1 22 rfl, trivial⟩) ?_
 rintro a k ⟨⟨hg, hs, hd⟩, i3, i4, i5, i22, _⟩
 refine wp_cond_split (isBool i22) (fun hc1685 => ?_) (fun hc1685 => ?_)
 ·rw [if_pos hc1685] at hr
  refine wp_seq ?_
  obtain ⟨x1642_10, hx1642_10, hr⟩ := bind_some hr
  obtain ⟨x1642_7, hx1642_7, hx1642_10⟩ := ite_bind hx1642_10
  refine cut (fun a' k' => Bs noF k0 108 a' k' ∧ (IsV x1642_10) (a'.get 2) k' ∧ True) ?_ hQ ?_
  ·intro Q1643 hQQ1643 hp1644
   refine gS 12 (_ :: _ :: _ :: _ :: _ :: _ :: _ :: _ :: _ :: _ :: _ :: _ :: []) hs (by kernel_rfl) ⟨mu rfl i3, cm 0 rfl rfl, mT rfl rfl i5, gT [(25, some 2)] rfl rfl fun hp _ _ h n => ok_eqI rfl (Gd.get n.1 hp) (cI rfl), o1 [(24, some 1), (26, some 3)] rfl fun _ _ h n => ok_pickAnd rfl n.1 (Gd.get n.2.1) (cB rfl), cm 4 rfl rfl, mT rfl rfl i4, gT [(29, some 6)] rfl rfl fun hp _ _ h n => ok_call rfl Try.call10 (solid_Boxes_ok (Gd.get n.1 hp) (hx1642_7 hp)), gT [(30, some 7)] rfl rfl fun hp _ _ h n => ok_len rfl rfl Try.underlying22 (IsV.rd (Gd.get n.1 hp)), gT [(31, some 8)] rfl rfl fun hp _ _ h n => ok_eqI rfl (Gd.get n.1 hp) (cI rfl), o1 [(28, some 5), (32, some 9)] rfl fun _ _ h n => ok_pickM rfl n.1 hx1642_10 (Gd.get n.2.1) (cB rfl), cp 10 rfl rfl, trivial⟩ hQQ1643 fun b q p => ?_
   exact tail_done (k := q) (hp1644 _ _ ⟨Bs.post ⟨hg, hs, hd⟩ p, p.ou 11 2 rfl, trivial⟩)
  rintro a k ⟨⟨hg, hs, hd⟩, i2, _⟩
  refine wp_ret ?_
  obtain rfl := Option.some.inj hr
  exact retC1 rfl hd hg i2
 rw [if_neg (by rw [hc1685]; decide)] at hr
 refine wp_skip ?_
 refine wp_seq ?_
 obtain ⟨x1645_1, hx1645_1, hr⟩ := bind_some hr
 refine cut (fun a' k' => Bs noF k0 108 a' k' ∧ (IsV x1635_0) (a'.get 3) k' ∧ (IsV x1640_1.1) (a'.get 4) k' ∧ (IsV x1645_1) (a'.get 6) k' ∧ True) ?_ hQ ?_
 ·intro Q1683 hQQ1683 hp1684
  refine gS 3 (_ :: _ :: _ :: []) hs (by kernel_rfl) ⟨mu rfl i4, o1 [(34, some 0)] rfl fun _ _ h n => ok_call rfl Try.call10 (solid_Boxes_ok n.1 hx1645_1), cp 1 rfl rfl, trivial⟩ hQQ1683 fun b q p => ?_
  exact tail_done (k := q) (hp1684 _ _ ⟨Bs.post ⟨hg, hs, hd⟩ p, p.ke 3 rfl i3, p.ke 4 rfl i4, p.ou 2 6 rfl, trivial⟩)
 rintro a k ⟨⟨hg, hs, hd⟩, i3, i4, i6, _⟩
 refine wp_seq ?_
 refine stepL 3 (_ :: _ :: _ :: []) rfl ⟨hg, hs, hd⟩ (by kernel_rfl) ⟨mu rfl i6, o1 [(36, some 0)] rfl fun _ _ h n => ok_len rfl rfl Try.underlying22 (IsV.rd n.1), o1 [(37, some 1)] rfl fun _ _ h n => ok_gtr rfl n.1 (cI rfl), trivial⟩ [⟨_, _⟩, ⟨_, _⟩, ⟨_, _⟩, ⟨_, _⟩] (fun b q p => ⟨p.ke 3 rfl i3, p.ke 4 rfl i4, p.ke 6 rfl i6, p.ou 2 38 rfl, trivial⟩) ?_
 rintro a k ⟨⟨hg, hs, hd⟩, i3, i4, i6, i38, _⟩
 refine wp_cond_split (isBool i38) (fun hc1680 => ?_) (fun hc1680 => ?_)
 ·rw [if_pos hc1680] at hr
  refine stepL 2 (_ :: _ :: []) rfl ⟨hg, hs, hd⟩ (by kernel_rfl) ⟨mu rfl i3, cp 0 rfl rfl, trivial⟩ [⟨_, _⟩] (fun b q p => ⟨p.ou 1 2 rfl, trivial⟩) ?_
  rintro a k ⟨⟨hg, hs, hd⟩, i2, _⟩
  refine wp_ret ?_
  obtain rfl := Option.some.inj hr
  exact retC1 rfl hd hg i2
 rw [if_neg (by rw [hc1680]; decide)] at hr
 refine wp_skip ?_
 refine stepL 1 (⟨some (IsI 0), []⟩ :: []) rfl ⟨hg, hs, hd⟩ (by kernel_rfl) ⟨aI rfl rfl, trivial⟩ [⟨_, _⟩, ⟨_, _⟩, ⟨_, _⟩, ⟨_, _⟩] (fun b q p => ⟨p.ke 3 rfl i3, p.ke 4 rfl i4, p.ke 6 rfl i6, p.ou 0 7 rfl, trivial⟩) ?_
 rintro a k ⟨⟨hg, hs, hd⟩, i3, i4, i6, i7, _⟩
 refine wp_seq ?_
 refine stepL 1 (⟨some (IsI 0), []⟩ :: []) rfl ⟨hg, hs, hd⟩ (by kernel_rfl) ⟨aI rfl rfl, trivial⟩ [⟨_, _⟩, ⟨_, _⟩, ⟨_, _⟩, ⟨_, _⟩, ⟨_, _⟩] (fun b q p => ⟨p.ke 3 rfl i3, p.ke 4 rfl i4, p.ke 6 rfl i6, p.ke 7 rfl i7, p.ou 0 8 rfl, trivial⟩) ?_
 rintro a k ⟨⟨hg, hs, hd⟩, i3, i4, i6, i7, i8, _⟩
 refine wp_block ?_
 obtain ⟨f1666, hf1666, hr⟩ := bind_some hr
 refine cutFe f1666 (fun s' a' k' => Bs noF k0 108 a' k' ∧ (IsV x1635_0) (a'.get 3) k' ∧ (IsV x1640_1.1) (a'.get 4) k' ∧ (IsV x1645_1) (a'.get 6) k' ∧ (IsV s'.1) (a'.get 7) k' ∧ (IsV s'.2) (a'.get 8) k' ∧ True) (fun i' s' a' k' => (i' = 0 ∧ Bs noF k0 108 a' k' ∧ (IsV x1635_0) (a'.get 3) k' ∧ (IsV x1640_1.1) (a'.get 4) k' ∧ (IsV x1645_1) (a'.get 6) k' ∧ (IsV s'.1) (a'.get 7) k' ∧ True)) (fun r' a' k' => bodyPost Try.prog Try.f3 (RetC noF k0 (IsV r')) .ret a' k'.w) ?_ hQ ?_ ?_ ?_
 ·intro Q1675 hQQ1675 hgo hex hret
  refine sim_loop ?_ _ _ _ _ _ hf1666 ⟨⟨hg, hs, hd⟩, i3, i4, i6, i7, i8, trivial⟩ Q1675 hQQ1675 hgo hex hret
  clear hr hf1666 hgo hex hret hQQ1675 hQ hg hs hd i3 i4 i6 i7 i8
  intro s1652 fl_ a k hr hS Q hQ hgo1653 hex1654 hret1655
  obtain ⟨⟨hg, hs, hd⟩, i3, i4, i6, i7, i8, _⟩ := hS
  unfold law09_SolidBoxes_L0 at hr
  refine wp_seq ?_
  refine stepL 4 (_ :: _ :: _ :: _ :: []) rfl ⟨hg, hs, hd⟩ (by kernel_rfl) ⟨mu rfl i8, mu rfl i6, o1 [(41, some 1)] rfl fun _ _ h n => ok_len rfl rfl Try.underlying22 (IsV.rd n.1), o1 [(40, some 0), (42, some 2)] rfl fun _ _ h n => ok_lss rfl n.1 n.2.1, trivial⟩ [⟨_, _⟩, ⟨_, _⟩, ⟨_, _⟩, ⟨_, _⟩, ⟨_, _⟩, ⟨_, _⟩] (fun b q p => ⟨p.ke 3 rfl i3, p.ke 4 rfl i4, p.ke 6 rfl i6, p.ke 7 rfl i7, p.ke 8 rfl i8, p.ou 3 43 rfl, trivial⟩) ?_
  rintro a k ⟨⟨hg, hs, hd⟩, i3, i4, i6, i7, i8, i43, _⟩
  refine wp_cond_split (isBool i43) (fun hc1663 => ?_) (fun hc1663 => ?_)
  ·rw [if_pos hc1663] at hr
   refine wp_skip ?_
   refine wp_seq ?_
   refine wp_block ?_
   obtain ⟨x1657_3, hx1657_3, hr⟩ := bind_some hr
   obtain ⟨x1657_8, hx1657_8, hr⟩ := bind_some hr
   obtain ⟨x1657_11, hx1657_11, hr⟩ := bind_some hr
   obtain ⟨x1657_14, hx1657_14, hr⟩ := bind_some hr
   obtain ⟨x1657_20, hx1657_20, hr⟩ := bind_some hr
   obtain ⟨x1657_24, hx1657_24, hr⟩ := bind_some hr
   obtain ⟨x1657_25, hx1657_25, hr⟩ := bind_some hr
   obtain ⟨x1657_28, hx1657_28, hr⟩ := bind_some hr
   obtain ⟨x1657_34, hx1657_34, hr⟩ := bind_some hr
   obtain ⟨x1657_38, hx1657_38, hr⟩ := bind_some hr
   obtain ⟨x1657_39, hx1657_39, hr⟩ := bind_some hr
   obtain ⟨x1657_40, hx1657_40, hr⟩ := bind_some hr
   refine cut (fun a' k' => Bs noF k0 108 a' k' ∧ (IsV x1635_0) (a'.get 3) k' ∧ (IsV x1640_1.1) (a'.get 4) k' ∧ (IsV x1645_1) (a'.get 6) k' ∧ (IsV x1657_40) (a'.get 7) k' ∧ (IsV s1652.2) (a'.get 8) k' ∧ True) ?_ hQ ?_
   ·intro Q1661 hQQ1661 hp1662
    refine region (a0 := a) (k0 := k) (n := 108) (m := 42) (⟨some (IsV s1652.1), [(7, none)]⟩ :: ⟨some (IsV x1645_1), [(6, none)]⟩ :: ⟨some (IsV s1652.2), [(8, none)]⟩ :: ⟨some (IsPtr x1657_3), [(47, some 1), (48, some 2)]⟩ :: ⟨some (IsPtr x1657_3.Z1), [(49, some 3)]⟩ :: ⟨some (IsV x1657_3.Z1), [(50, some 4)]⟩ :: ⟨some (IsV x1645_1), [(6, none)]⟩ :: ⟨some (IsV s1652.2), [(8, none)]⟩ :: ⟨some (IsPtr x1657_8), [(52, some 6), (53, some 7)]⟩ :: ⟨some (IsPtr x1657_8.Z0), [(54, some 8)]⟩ :: ⟨some (IsV x1657_8.Z0), [(55, some 9)]⟩ :: ⟨some (IsV x1657_11), [(51, some 5), (56, some 10)]⟩ :: ⟨some (IsV x1645_1), [(6, none)]⟩ :: ⟨some (IsV s1652.2), [(8, none)]⟩ :: ⟨some (IsPtr x1657_14), [(58, some 12), (59, some 13)]⟩ :: ⟨some (IsPtr x1657_14.Base), [(60, some 14)]⟩ :: ⟨some (IsPtr x1657_14.Base.X1), [(61, some 15)]⟩ :: ⟨some (IsV x1657_14.Base.X1), [(62, some 16)]⟩ :: ⟨some (IsV x1645_1), [(6, none)]⟩ :: ⟨some (IsV s1652.2), [(8, none)]⟩ :: ⟨some (IsPtr x1657_20), [(64, some 18), (65, some 19)]⟩ :: ⟨some (IsPtr x1657_20.Base), [(66, some 20)]⟩ :: ⟨some (IsPtr x1657_20.Base.X0), [(67, some 21)]⟩ :: ⟨some (IsV x1657_20.Base.X0), [(68, some 22)]⟩ :: ⟨some (IsV x1657_24), [(63, some 17), (69, some 23)]⟩ :: ⟨some (IsV x1657_25), [(57, some 11), (70, some 24)]⟩ :: ⟨some (IsV x1645_1), [(6, none)]⟩ :: ⟨some (IsV s1652.2), [(8, none)]⟩ :: ⟨some (IsPtr x1657_28), [(72, some 26), (73, some 27)]⟩ :: ⟨some (IsPtr x1657_28.Base), [(74, some 28)]⟩ :: ⟨some (IsPtr x1657_28.Base.Y1), [(75, some 29)]⟩ :: ⟨some (IsV x1657_28.Base.Y1), [(76, some 30)]⟩ :: ⟨some (IsV x1645_1), [(6, none)]⟩ :: ⟨some (IsV s1652.2), [(8, none)]⟩ :: ⟨some (IsPtr x1657_34), [(78, some 32), (79, some 33)]⟩ :: ⟨some (IsPtr x1657_34.Base), [(80, some 34)]⟩ :: ⟨some (IsPtr x1657_34.Base.Y0), [(81, some 35)]⟩ :: ⟨some (IsV x1657_34.Base.Y0), [(82, some 36)]⟩ :: ⟨some (IsV x1657_38), [(77, some 31), (83, some 37)]⟩ :: ⟨some (IsV x1657_39), [(71, some 25), (84, some 38)]⟩ :: ⟨some (IsV x1657_40), [(46, some 0), (85, some 39)]⟩ :: ⟨some (IsV x1657_40), [(86, some 40)]⟩ :: []) hmix hs (by kernel_rfl) ⟨ob1 rfl fun b q hk hn => ok_move rfl (up i7 hk hn.1), ob1 rfl fun b q hk hn => ok_move rfl (up i6 hk hn.1), ob1 rfl fun b q hk hn => ok_move rfl (up i8 hk hn.1), ob1 rfl fun b q hk hn => ok_indexAddr rfl Try.underlying22 ty32 (IsV.rd hn.1) hn.2.1 hx1657_3, ob1 rfl fun b q hk hn => ok_fieldAddr rfl fo32_2 (at_Box_2 _) hn.1, ob1 rfl fun b q hk hn => ok_load rfl ty3 hn.1, ob1 rfl fun b q hk hn => ok_move rfl (up i6 hk hn.1), ob1 rfl fun b q hk hn => ok_move rfl (up i8 hk hn.1), ob1 rfl fun b q hk hn => ok_indexAddr rfl Try.underlying22 ty32 (IsV.rd hn.1) hn.2.1 hx1657_8, ob1 rfl fun b q hk hn => ok_fieldAddr rfl fo32_1 (at_Box_1 _) hn.1, ob1 rfl fun b q hk hn => ok_load rfl ty3 hn.1, ob1 rfl fun b q hk hn => ok_sub rfl hn.1 hn.2.1 hx1657_11, ob1 rfl fun b q hk hn => ok_move rfl (up i6 hk hn.1), ob1 rfl fun b q hk hn => ok_move rfl (up i8 hk hn.1), ob1 rfl fun b q hk hn => ok_indexAddr rfl Try.underlying22 ty32 (IsV.rd hn.1) hn.2.1 hx1657_14, ob1 rfl fun b q hk hn => ok_fieldAddr rfl fo32_0 (at_Box_0 _) hn.1, ob1 rfl fun b q hk hn => ok_fieldAddr rfl fo30_2 (at_Rect_2 _) hn.1, ob1 rfl fun b q hk hn => ok_load rfl ty3 hn.1, ob1 rfl fun b q hk hn => ok_move rfl (up i6 hk hn.1), ob1 rfl fun b q hk hn => ok_move rfl (up i8 hk hn.1), ob1 rfl fun b q hk hn => ok_indexAddr rfl Try.underlying22 ty32 (IsV.rd hn.1) hn.2.1 hx1657_20, ob1 rfl fun b q hk hn => ok_fieldAddr rfl fo32_0 (at_Box_0 _) hn.1, ob1 rfl fun b q hk hn => ok_fieldAddr rfl fo30_0 (at_Rect_0 _) hn.1, ob1 rfl fun b q hk hn => ok_load rfl ty3 hn.1, ob1 rfl fun b q hk hn => ok_sub rfl hn.1 hn.2.1 hx1657_24, ob1 rfl fun b q hk hn => ok_mul rfl hn.1 hn.2.1 hx1657_25, ob1 rfl fun b q hk hn => ok_move rfl (up i6 hk hn.1), ob1 rfl fun b q hk hn => ok_move rfl (up i8 hk hn.1), ob1 rfl fun b q hk hn => ok_indexAddr rfl Try.underlying22 ty32 (IsV.rd hn.1) hn.2.1 hx1657_28, ob1 rfl fun b q hk hn => ok_fieldAddr rfl fo32_0 (at_Box_0 _) hn.1, ob1 rfl fun b q hk hn => ok_fieldAddr rfl fo30_3 (at_Rect_3 _) hn.1, ob1 rfl fun b q hk hn => ok_load rfl ty3 hn.1, ob1 rfl fun b q hk hn => ok_move rfl (up i6 hk hn.1), ob1 rfl fun b q hk hn => ok_move rfl (up i8 hk hn.1), ob1 rfl fun b q hk hn => ok_indexAddr rfl Try.underlying22 ty32 (IsV.rd hn.1) hn.2.1 hx1657_34, ob1 rfl fun b q hk hn => ok_fieldAddr rfl fo32_0 (at_Box_0 _) hn.1, ob1 rfl fun b q hk hn => ok_fieldAddr rfl fo30_1 (at_Rect_1 _) hn.1, ob1 rfl fun b q hk hn => ok_load rfl ty3 hn.1, ob1 rfl fun b q hk hn => ok_sub rfl hn.1 hn.2.1 hx1657_38, ob1 rfl fun b q hk hn => ok_mul rfl hn.1 hn.2.1 hx1657_39, ob1 rfl fun b q hk hn => ok_add rfl hn.1 hn.2.1 hx1657_40, ob1 rfl fun b q hk hn => ok_assign rfl hn.1, trivial⟩ hQQ1661 fun b q p => ?_
    exact tail_done (k := q) (hp1662 _ _ ⟨Bs.post ⟨hg, hs, hd⟩ p, p.ke 3 rfl i3, p.ke 4 rfl i4, p.ke 6 rfl i6, p.ou 41 7 rfl, p.ke 8 rfl i8, trivial⟩)
   rintro a k ⟨⟨hg, hs, hd⟩, i3, i4, i6, i7, i8, _⟩
   obtain ⟨x1658_1, hx1658_1, hr⟩ := bind_some hr
   refine cut (fun a' k' => Bs noF k0 108 a' k' ∧ (IsV x1635_0) (a'.get 3) k' ∧ (IsV x1640_1.1) (a'.get 4) k' ∧ (IsV x1645_1) (a'.get 6) k' ∧ (IsV x1657_40) (a'.get 7) k' ∧ (IsV x1658_1) (a'.get 8) k' ∧ True) ?_ hQ ?_
   ·intro Q1659 hQQ1659 hp1660
    refine gS 3 (_ :: _ :: _ :: []) hs (by kernel_rfl) ⟨mu rfl i8, o1 [(44, some 0)] rfl fun _ _ h n => ok_add rfl n.1 (cI rfl) hx1658_1, cp 1 rfl rfl, trivial⟩ hQQ1659 fun b q p => ?_
    exact tail_done (k := q) (hp1660 _ _ ⟨Bs.post ⟨hg, hs, hd⟩ p, p.ke 3 rfl i3, p.ke 4 rfl i4, p.ke 6 rfl i6, p.ke 7 rfl i7, p.ou 2 8 rfl, trivial⟩)
   rintro a k ⟨⟨hg, hs, hd⟩, i3, i4, i6, i7, i8, _⟩
   exact hgo1653 _ _ _ (Option.some.inj hr).symm ⟨⟨hg, hs, hd⟩, i3, i4, i6, i7, i8, trivial⟩
  rw [if_neg (by rw [hc1663]; decide)] at hr
  refine wp_exit ?_
  exact hex1654 _ _ _ _ (Option.some.inj hr).symm ⟨rfl, ⟨hg, hs, hd⟩, i3, i4, i6, i7, trivial⟩
 ·rintro r1674 a k rfl hR
  dsimp only at hr
  obtain rfl := Option.some.inj hr
  exact hR
 ·rintro _ _ _ rfl _
  simp at hr
 clear hf1666
 rintro _ s1667 a k rfl ⟨rfl, ⟨hg, hs, hd⟩, i3, i4, i6, i7, _⟩
 dsimp only at hr
 refine wp_seq ?_
 obtain ⟨x1668_1, hx1668_1, hr⟩ := bind_some hr
 refine cut (fun a' k' => Bs noF k0 108 a' k' ∧ (IsV x1635_0) (a'.get 3) k' ∧ (IsV x1640_1.1) (a'.get 4) k' ∧ (IsV s1667.1) (a'.get 7) k' ∧ (IsV x1668_1.1) (a'.get 9) k' ∧ (IsV x1668_1.2) (a'.get 10) k' ∧ True) ?_ hQ ?_
 ·intro Q1672 hQQ1672 hp1673
  refine gS 7 (_ :: _ :: _ :: _ :: _ :: _ :: _ :: []) hs (by kernel_rfl) ⟨mu rfl i6, o1 [(88, some 0)] rfl fun _ _ h n => ok_call rfl Try.call9 (solid_Of_ok n.1 hx1668_1), cm 1 rfl rfl, o1 [(87, some 2)] rfl fun _ _ h n => ok_ext2_0 rfl n.1, o1 [(87, some 2)] rfl fun _ _ h n => ok_ext2_1 rfl n.1, cp 3 rfl rfl, cp 4 rfl rfl, trivial⟩ hQQ1672 fun b q p => ?_
  exact tail_done (k := q) (hp1673 _ _ ⟨Bs.post ⟨hg, hs, hd⟩ p, p.ke 3 rfl i3, p.ke 4 rfl i4, p.ke 7 rfl i7, p.ou 5 9 rfl, p.ou 6 10 rfl, trivial⟩)
 rintro a k ⟨⟨hg, hs, hd⟩, i3, i4, i7, i9, i10, _⟩
 refine wp_seq ?_
 obtain ⟨x1669_9, hx1669_9, hr⟩ := bind_some hr
 obtain ⟨x1669_8, hx1669_8, hx1669_9⟩ := ite_bind hx1669_9
 obtain ⟨x1669_15, hx1669_15, hr⟩ := bind_some hr
 obtain ⟨x1669_13, hx1669_13, hx1669_15⟩ := ite_bind hx1669_15
 refine cut (fun a' k' => Bs noF k0 108 a' k' ∧ (IsV x1669_15) (a'.get 2) k' ∧ True) ?_ hQ ?_
 ·intro Q1670 hQQ1670 hp1671
  refine gS 17 (_ :: _ :: _ :: _ :: _ :: _ :: _ :: _ :: _ :: _ :: _ :: _ :: _ :: _ :: _ :: _ :: _ :: []) hs (by kernel_rfl) ⟨mu rfl i3, cm 0 rfl rfl, mT rfl rfl i10, gT [(94, some 2)] rfl rfl fun hp _ _ h n => ok_eqI rfl (Gd.get n.1 hp) (cI rfl), o1 [(93, some 1), (95, some 3)] rfl fun _ _ h n => ok_pickAnd rfl n.1 (Gd.get n.2.1) (cB rfl), cm 4 rfl rfl, mT rfl rfl i4, mT rfl rfl i9, gT [(98, some 6), (99, some 7)] rfl rfl fun hp _ _ h n => ok_call rfl Try.call11 (solid_Same_ok (Gd.get n.1 hp) (Gd.get n.2.1 hp) (hx1669_8 hp)), o1 [(97, some 5), (100, some 8)] rfl fun _ _ h n => ok_pickM rfl n.1 hx1669_9 (Gd.get n.2.1) (cB rfl), cm 9 rfl rfl, mT rfl rfl i7, mT rfl rfl i4, gT [(104, some 12)] rfl rfl fun hp _ _ h n => ok_call rfl Try.call12 (solid_Volume_ok (Gd.get n.1 hp) (hx1669_13 hp)), gT [(103, some 11), (105, some 13)] rfl rfl fun hp _ _ h n => ok_eqI rfl (Gd.get n.1 hp) (Gd.get n.2.1 hp), o1 [(102, some 10), (106, some 14)] rfl fun _ _ h n => ok_pickM rfl n.1 hx1669_15 (Gd.get n.2.1) (cB rfl), cp 15 rfl rfl, trivial⟩ hQQ1670 fun b q p => ?_
  exact tail_done (k := q) (hp1671 _ _ ⟨Bs.post ⟨hg, hs, hd⟩ p, p.ou 16 2 rfl, trivial⟩)
 rintro a k ⟨⟨hg, hs, hd⟩, i2, _⟩
 refine wp_ret ?_
 obtain rfl := Option.some.inj hr
 exact retC1 rfl hd hg i2
def law09_near_L0 (l_ : (List Box)) (n_ : Int) (s1699 : Int) : Option (Flow (Int) (Bool)) :=
 if ((decide (s1699 < (l_.length : Int))) && (decide (s1699 ≤ n_))) then
  (getI l_ s1699).bind fun x1704_2 =>
  if (((((((((decide (x1704_2.Base.X0 < 0)) || (decide (x1704_2.Base.X1 ≤ x1704_2.Base.X0))) || (decide (8 < x1704_2.Base.X1))) || (decide (x1704_2.Base.Y0 < 0))) || (decide (x1704_2.Base.Y1 ≤ x1704_2.Base.Y0))) || (decide (8 < x1704_2.Base.Y1))) || (decide (x1704_2.Z0 < 0))) || (decide (x1704_2.Z1 ≤ x1704_2.Z0))) || (decide (8 < x1704_2.Z1))) then
   some (.ret false)
  else
   (addI s1699 1).bind fun x1709_1 =>
   some (.go x1709_1)
 else
  some (.ex 0 s1699)
def law09_near (l_ : (List Box)) (n_ : Int) : Option (Bool) :=
 (iterL (law09_near_L0 l_ n_) (l_.length + 1) 0).bind fun f1720 => match f1720 with
  | .go _ => none
  | .ex _ _ =>
   some (decide ((l_.length : Int) ≤ n_))
  | .ret r1725 => some r1725
theorem law09_near_ok {k0 : K} {v0 v1 : Value} {l_ : (List Box)} {n_ : Int} {r : Bool} (i0 : (IsV l_) v0 k0) (i1 : (IsV n_) v1 k0) (hr : law09_near l_ n_ = some r) :
  Calls Try.prog 13 #[v0, v1] k0.w (Ret k0 (IsV r)) := by
 unfold law09_near at hr
 refine Ret.ofC ?_
 refine enterK Try.func13 rfl Try.ntmps13 (show 2 ≤ 83 by decide) fun a k hk0 hs hd ha => ?_
 obtain ⟨e0, e1, _⟩ := ha
 replace i0 : (IsV l_) (a.get 0) k := by rw [e0, hk0]; exact i0
 replace i1 : (IsV n_) (a.get 1) k := by rw [e1, hk0]; exact i1
 have hQ : Gb.LetsOut (bodyPost Try.prog Try.f13 (RetC noF k0 (IsV r))) := letsOutC
 have hg : Chg noF k0 k := by rw [hk0]; exact Chg.refl _ k0
 refine stepL 1 (⟨some (IsV false), []⟩ :: []) rfl ⟨hg, hs, hd⟩ (by kernel_rfl) ⟨ob1 rfl fun _ _ h n => ok_assign rfl (isV_bool.2 rfl), trivial⟩ [⟨_, _⟩, ⟨_, _⟩] (fun b q p => ⟨p.ke 0 rfl i0, p.ke 1 rfl i1, trivial⟩) ?_
 rintro a k ⟨⟨hg, hs, hd⟩, i0, i1, _⟩
 refine wp_seq ?_
 refine stepL 1 (⟨some (IsI 0), []⟩ :: []) rfl ⟨hg, hs, hd⟩ (by kernel_rfl) ⟨aI rfl rfl, trivial⟩ [⟨_, _⟩, ⟨_, _⟩, ⟨_, _⟩] (fun b q p => ⟨p.ke 0 rfl i0, p.ke 1 rfl i1, p.ou 0 5 rfl, trivial⟩) ?_
 rintro a k ⟨⟨hg, hs, hd⟩, i0, i1, i5, _⟩
 refine wp_block ?_
 obtain ⟨f1720, hf1720, hr⟩ := bind_some hr
 refine cutFe f1720 (fun s' a' k' => Bs noF k0 83 a' k' ∧ (IsV l_) (a'.get 0) k' ∧ (IsV n_) (a'.get 1) k' ∧ (IsV s') (a'.get 5) k' ∧ True) (fun i' s' a' k' => (i' = 0 ∧ Bs noF k0 83 a' k' ∧ (IsV l_) (a'.get 0) k' ∧ (IsV n_) (a'.get 1) k' ∧ True)) (fun r' a' k' => bodyPost Try.prog Try.f13 (RetC noF k0 (IsV r')) .ret a' k'.w) ?_ hQ ?_ ?_ ?_
 ·intro Q1726 hQQ1726 hgo hex hret
  refine sim_loop ?_ _ _ _ _ _ hf1720 ⟨⟨hg, hs, hd⟩, i0, i1, i5, trivial⟩ Q1726 hQQ1726 hgo hex hret
  clear hr hf1720 hgo hex hret hQQ1726 hQ hg hs hd i0 i1 i5
  intro s1699 fl_ a k hr hS Q hQ hgo1700 hex1701 hret1702
  obtain ⟨⟨hg, hs, hd⟩, i0, i1, i5, _⟩ := hS
  unfold law09_near_L0 at hr
  refine wp_seq ?_
  refine stepL 9 (_ :: _ :: _ :: _ :: _ :: _ :: _ :: _ :: _ :: []) rfl ⟨hg, hs, hd⟩ (by kernel_rfl) ⟨mu rfl i5, mu rfl i0, o1 [(8, some 1)] rfl fun _ _ h n => ok_len rfl rfl Try.underlying22 (IsV.rd n.1), o1 [(7, some 0), (9, some 2)] rfl fun _ _ h n => ok_lss rfl n.1 n.2.1, cm 3 rfl rfl, mT rfl rfl i5, mT rfl rfl i1, gT [(12, some 5), (13, some 6)] rfl rfl fun hp _ _ h n => ok_leq rfl (Gd.get n.1 hp) (Gd.get n.2.1 hp), o1 [(11, some 4), (14, some 7)] rfl fun _ _ h n => ok_pickAnd rfl n.1 (Gd.get n.2.1) (cB rfl), trivial⟩ [⟨_, _⟩, ⟨_, _⟩, ⟨_, _⟩, ⟨_, _⟩] (fun b q p => ⟨p.ke 0 rfl i0, p.ke 1 rfl i1, p.ke 5 rfl i5, p.ou 8 15 rfl, trivial⟩) ?_
  rintro a k ⟨⟨hg, hs, hd⟩, i0, i1, i5, i15, _⟩
  refine wp_cond_split (isBool i15) (fun hc1717 => ?_) (fun hc1717 => ?_)
  ·rw [if_pos hc1717] at hr
   refine wp_skip ?_
   refine wp_seq ?_
   refine wp_block ?_
   refine wp_seq ?_
   obtain ⟨x1704_2, hx1704_2, hr⟩ := bind_some hr
   refine cut (fun a' k' => Bs noF k0 83 a' k' ∧ (IsV l_) (a'.get 0) k' ∧ (IsV n_) (a'.get 1) k' ∧ (IsV s1699) (a'.get 5) k' ∧ (IsRef x1704_2) (a'.get 6) k' ∧ True) ?_ hQ ?_
   ·intro Q1715 hQQ1715 hp1716
    refine gS 5 (_ :: _ :: _ :: _ :: ⟨some (IsBox k.w.heap.size (⟨(⟨0, 0, 0, 0⟩ : Rect), 0, 0⟩ : Box)), []⟩ :: []) hs (by kernel_rfl) ⟨mu rfl i0, mu rfl i5, o1 [(18, some 0), (19, some 1)] rfl fun _ _ h n => ok_indexAddr rfl Try.underlying22 ty32 (IsV.rd n.1) n.2.1 hx1704_2, o1 [(20, some 2)] rfl fun _ _ h n => ok_load rfl ty32 n.1, ob1 rfl fun _ _ h n => ok_alloc _ h.size rfl z32, trivial⟩ hQQ1715 fun b q p => ?_
    have hgq := hg.then p.grow
    have hsb := p.size.trans hs
    have hdb := p.defers.trans hd
    have j0 := p.ke 0 rfl i0
    have j1 := p.ke 1 rfl i1
    have j5 := p.ke 5 rfl i5
    obtain ⟨b6, j6, x6, z6⟩ : (IsBox k.w.heap.size (⟨(⟨0, 0, 0, 0⟩ : Rect), 0, 0⟩ : Box)) (b.get 6) q := p.ou 4 6 rfl
    replace x6 : Lo k (Eq b6) := Lo.eq x6
    have y6 : Lo k0 (Eq b6) := x6.chg hg
    have j21 : (IsV x1704_2) (b.get 21) q := p.ou 3 21 rfl
    have hns := z6.nshF
    refine tail_storeB (i := 5) rfl rfl rfl rfl szf32 (Upd.self (α := Box)) j6 z6 j21 fun q2 hch hz => ?_
    replace hgq := hgq.step hch y6.wr
    have hle := hch.le hns
    replace j0 := Pers.pers hle j0
    replace j1 := Pers.pers hle j1
    replace j5 := Pers.pers hle j5
    replace j21 := Pers.pers hle j21
    replace z6 := hz
    clear hns hle hch
    obtain ⟨q, hqq⟩ : ∃ q, q = q2 := ⟨q2, rfl⟩
    subst hqq
    obtain ⟨q2, hsh, jn⟩ := z6.give
    replace j0 := Pers.pers hsh.le j0
    replace j1 := Pers.pers hsh.le j1
    replace j5 := Pers.pers hsh.le j5
    rw [← j6] at jn
    replace j6 := jn
    replace hgq := hgq.hand hsh y6.wr
    rw [← hsh.w]
    clear hsh
    obtain ⟨q, hqq⟩ : ∃ q, q = q2 := ⟨q2, rfl⟩
    subst hqq
    exact tail_done (k := q) (hp1716 _ _ ⟨⟨hgq, hsb, hdb⟩, j0, j1, j5, j6, trivial⟩)
   rintro a k ⟨⟨hg, hs, hd⟩, i0, i1, i5, i6, _⟩
   refine stepL 57 (_ :: _ :: _ :: _ :: _ :: _ :: _ :: _ :: _ :: _ :: _ :: _ :: _ :: _ :: _ :: _ :: _ :: _ :: _ :: _ :: _ :: _ :: _ :: _ :: _ :: _ :: _ :: _ :: _ :: _ :: _ :: _ :: _ :: _ :: _ :: _ :: _ :: _ :: _ :: _ :: _ :: _ :: _ :: _ :: _ :: _ :: _ :: _ :: _ :: _ :: _ :: _ :: _ :: _ :: _ :: _ :: _ :: []) rfl ⟨hg, hs, hd⟩ (by kernel_rfl) ⟨o1 [(6, none)] rfl fun _ _ h n => ok_fieldAddr rfl fo32_0 (at_Box_0 _) ((up i6 h n.1)).ptr, o1 [(22, some 0)] rfl fun _ _ h n => ok_fieldAddr rfl fo30_0 (at_Rect_0 _) n.1, o1 [(23, some 1)] rfl fun _ _ h n => ok_load rfl ty3 n.1, o1 [(24, some 2)] rfl fun _ _ h n => ok_lss rfl n.1 (cI rfl), cm 3 rfl rfl, gF [(6, none)] rfl rfl fun hp _ _ h n => ok_fieldAddr rfl fo32_0 (at_Box_0 _) ((up i6 h n.1)).ptr, gF [(27, some 5)] rfl rfl fun hp _ _ h n => ok_fieldAddr rfl fo30_0 (at_Rect_0 _) (Gd.get n.1 hp), gF [(28, some 6)] rfl rfl fun hp _ _ h n => ok_load rfl ty3 (Gd.get n.1 hp), gF [(6, none)] rfl rfl fun hp _ _ h n => ok_fieldAddr rfl fo32_0 (at_Box_0 _) ((up i6 h n.1)).ptr, gF [(30, some 8)] rfl rfl fun hp _ _ h n => ok_fieldAddr rfl fo30_2 (at_Rect_2 _) (Gd.get n.1 hp), gF [(31, some 9)] rfl rfl fun hp _ _ h n => ok_load rfl ty3 (Gd.get n.1 hp), gF [(29, some 7), (32, some 10)] rfl rfl fun hp _ _ h n => ok_geq rfl (Gd.get n.1 hp) (Gd.get n.2.1 hp), o1 [(26, some 4), (33, some 11)] rfl fun _ _ h n => ok_pickOr rfl n.1 (cB rfl) (Gd.get n.2.1), cm 12 rfl rfl, gF [(6, none)] rfl rfl fun hp _ _ h n => ok_fieldAddr rfl fo32_0 (at_Box_0 _) ((up i6 h n.1)).ptr, gF [(36, some 14)] rfl rfl fun hp _ _ h n => ok_fieldAddr rfl fo30_2 (at_Rect_2 _) (Gd.get n.1 hp), gF [(37, some 15)] rfl rfl fun hp _ _ h n => ok_load rfl ty3 (Gd.get n.1 hp), gF [(38, some 16)] rfl rfl fun hp _ _ h n => ok_gtr rfl (Gd.get n.1 hp) (cI rfl), o1 [(35, some 13), (39, some 17)] rfl fun _ _ h n => ok_pickOr rfl n.1 (cB rfl) (Gd.get n.2.1), cm 18 rfl rfl, gF [(6, none)] rfl rfl fun hp _ _ h n => ok_fieldAddr rfl fo32_0 (at_Box_0 _) ((up i6 h n.1)).ptr, gF [(42, some 20)] rfl rfl fun hp _ _ h n => ok_fieldAddr rfl fo30_1 (at_Rect_1 _) (Gd.get n.1 hp), gF [(43, some 21)] rfl rfl fun hp _ _ h n => ok_load rfl ty3 (Gd.get n.1 hp), gF [(44, some 22)] rfl rfl fun hp _ _ h n => ok_lss rfl (Gd.get n.1 hp) (cI rfl), o1 [(41, some 19), (45, some 23)] rfl fun _ _ h n => ok_pickOr rfl n.1 (cB rfl) (Gd.get n.2.1), cm 24 rfl rfl, gF [(6, none)] rfl rfl fun hp _ _ h n => ok_fieldAddr rfl fo32_0 (at_Box_0 _) ((up i6 h n.1)).ptr, gF [(48, some 26)] rfl rfl fun hp _ _ h n => ok_fieldAddr rfl fo30_1 (at_Rect_1 _) (Gd.get n.1 hp), gF [(49, some 27)] rfl rfl fun hp _ _ h n => ok_load rfl ty3 (Gd.get n.1 hp), gF [(6, none)] rfl rfl fun hp _ _ h n => ok_fieldAddr rfl fo32_0 (at_Box_0 _) ((up i6 h n.1)).ptr, gF [(51, some 29)] rfl rfl fun hp _ _ h n => ok_fieldAddr rfl fo30_3 (at_Rect_3 _) (Gd.get n.1 hp), gF [(52, some 30)] rfl rfl fun hp _ _ h n => ok_load rfl ty3 (Gd.get n.1 hp), gF [(50, some 28), (53, some 31)] rfl rfl fun hp _ _ h n => ok_geq rfl (Gd.get n.1 hp) (Gd.get n.2.1 hp), o1 [(47, some 25), (54, some 32)] rfl fun _ _ h n => ok_pickOr rfl n.1 (cB rfl) (Gd.get n.2.1), cm 33 rfl rfl, gF [(6, none)] rfl rfl fun hp _ _ h n => ok_fieldAddr rfl fo32_0 (at_Box_0 _) ((up i6 h n.1)).ptr, gF [(57, some 35)] rfl rfl fun hp _ _ h n => ok_fieldAddr rfl fo30_3 (at_Rect_3 _) (Gd.get n.1 hp), gF [(58, some 36)] rfl rfl fun hp _ _ h n => ok_load rfl ty3 (Gd.get n.1 hp), gF [(59, some 37)] rfl rfl fun hp _ _ h n => ok_gtr rfl (Gd.get n.1 hp) (cI rfl), o1 [(56, some 34), (60, some 38)] rfl fun _ _ h n => ok_pickOr rfl n.1 (cB rfl) (Gd.get n.2.1), cm 39 rfl rfl, gF [(6, none)] rfl rfl fun hp _ _ h n => ok_fieldAddr rfl fo32_1 (at_Box_1 _) ((up i6 h n.1)).ptr, gF [(63, some 41)] rfl rfl fun hp _ _ h n => ok_load rfl ty3 (Gd.get n.1 hp), gF [(64, some 42)] rfl rfl fun hp _ _ h n => ok_lss rfl (Gd.get n.1 hp) (cI rfl), o1 [(62, some 40), (65, some 43)] rfl fun _ _ h n => ok_pickOr rfl n.1 (cB rfl) (Gd.get n.2.1), cm 44 rfl rfl, gF [(6, none)] rfl rfl fun hp _ _ h n => ok_fieldAddr rfl fo32_1 (at_Box_1 _) ((up i6 h n.1)).ptr, gF [(68, some 46)] rfl rfl fun hp _ _ h n => ok_load rfl ty3 (Gd.get n.1 hp), gF [(6, none)] rfl rfl fun hp _ _ h n => ok_fieldAddr rfl fo32_2 (at_Box_2 _) ((up i6 h n.1)).ptr, gF [(70, some 48)] rfl rfl fun hp _ _ h n => ok_load rfl ty3 (Gd.get n.1 hp), gF [(69, some 47), (71, some 49)] rfl rfl fun hp _ _ h n => ok_geq rfl (Gd.get n.1 hp) (Gd.get n.2.1 hp), o1 [(67, some 45), (72, some 50)] rfl fun _ _ h n => ok_pickOr rfl n.1 (cB rfl) (Gd.get n.2.1), cm 51 rfl rfl, gF [(6, none)] rfl rfl fun hp _ _ h n => ok_fieldAddr rfl fo32_2 (at_Box_2 _) ((up i6 h n.1)).ptr, gF [(75, some 53)] rfl rfl fun hp _ _ h n => ok_load rfl ty3 (Gd.get n.1 hp), gF [(76, some 54)] rfl rfl fun hp _ _ h n => ok_gtr rfl (Gd.get n.1 hp) (cI rfl), o1 [(74, some 52), (77, some 55)] rfl fun _ _ h n => ok_pickOr rfl n.1 (cB rfl) (Gd.get n.2.1), trivial⟩ [⟨_, _⟩, ⟨_, _⟩, ⟨_, _⟩, ⟨_, _⟩] (fun b q p => ⟨p.ke 0 rfl i0, p.ke 1 rfl i1, p.ke 5 rfl i5, p.ou 56 78 rfl, trivial⟩) ?_
   rintro a k ⟨⟨hg, hs, hd⟩, i0, i1, i5, i78, _⟩
   refine wp_cond_split (isBool i78) (fun hc1712 => ?_) (fun hc1712 => ?_)
   ·rw [if_pos hc1712] at hr
    refine stepL 1 (⟨some (IsV false), []⟩ :: []) rfl ⟨hg, hs, hd⟩ (by kernel_rfl) ⟨ob1 rfl fun _ _ h n => ok_assign rfl (isV_bool.2 rfl), trivial⟩ [⟨_, _⟩] (fun b q p => ⟨p.ou 0 4 rfl, trivial⟩) ?_
    rintro a k ⟨⟨hg, hs, hd⟩, i4, _⟩
    refine wp_ret ?_
    exact hret1702 _ _ _ (Option.some.inj hr).symm (retC1 rfl hd hg i4)
   rw [if_neg (by rw [hc1712]; decide)] at hr
   refine wp_skip ?_
   obtain ⟨x1709_1, hx1709_1, hr⟩ := bind_some hr
   refine cut (fun a' k' => Bs noF k0 83 a' k' ∧ (IsV l_) (a'.get 0) k' ∧ (IsV n_) (a'.get 1) k' ∧ (IsV x1709_1) (a'.get 5) k' ∧ True) ?_ hQ ?_
   ·intro Q1710 hQQ1710 hp1711
    refine gS 3 (_ :: _ :: _ :: []) hs (by kernel_rfl) ⟨mu rfl i5, o1 [(16, some 0)] rfl fun _ _ h n => ok_add rfl n.1 (cI rfl) hx1709_1, cp 1 rfl rfl, trivial⟩ hQQ1710 fun b q p => ?_
    exact tail_done (k := q) (hp1711 _ _ ⟨Bs.post ⟨hg, hs, hd⟩ p, p.ke 0 rfl i0, p.ke 1 rfl i1, p.ou 2 5 rfl, trivial⟩)
   rintro a k ⟨⟨hg, hs, hd⟩, i0, i1, i5, _⟩
   exact hgo1700 _ _ _ (Option.some.inj hr).symm ⟨⟨hg, hs, hd⟩, i0, i1, i5, trivial⟩
  rw [if_neg (by rw [hc1717]; decide)] at hr
  refine wp_exit ?_
  exact hex1701 _ _ _ _ (Option.some.inj hr).symm ⟨rfl, ⟨hg, hs, hd⟩, i0, i1, trivial⟩
 ·rintro r1725 a k rfl hR
  dsimp only at hr
  obtain rfl := Option.some.inj hr
  exact hR
 ·rintro _ _ _ rfl _
  simp at hr
 clear hf1720
 rintro _ s1721 a k rfl ⟨rfl, ⟨hg, hs, hd⟩, i0, i1, _⟩
 dsimp only at hr
 refine stepL 5 (_ :: _ :: _ :: _ :: _ :: []) rfl ⟨hg, hs, hd⟩ (by kernel_rfl) ⟨mu rfl i0, o1 [(79, some 0)] rfl fun _ _ h n => ok_len rfl rfl Try.underlying22 (IsV.rd n.1), mu rfl i1, o1 [(80, some 1), (81, some 2)] rfl fun _ _ h n => ok_leq rfl n.1 n.2.1, cp 3 rfl rfl, trivial⟩ [⟨_, _⟩] (fun b q p => ⟨p.ou 4 4 rfl, trivial⟩) ?_
 rintro a k ⟨⟨hg, hs, hd⟩, i4, _⟩
 refine wp_ret ?_
 obtain rfl := Option.some.inj hr
 exact retC1 rfl hd hg i4
def region_Union_1 (a_ : Bool) (b_ : Bool) : Option (Bool) :=
 some (a_ || b_)
theorem region_Union_1_ok {k0 : K} {v0 v1 : Value} {a_ : Bool} {b_ : Bool} {r : Bool} (i0 : (IsV a_) v0 k0) (i1 : (IsV b_) v1 k0) (hr : region_Union_1 a_ b_ = some r) :
  Calls Try.prog 56 #[v0, v1] k0.w (Ret k0 (IsV r)) := by
 unfold region_Union_1 at hr
 refine Ret.ofC ?_
 refine enterK Try.func56 rfl Try.ntmps56 (show 2 ≤ 9 by decide) fun a k hk0 hs hd ha => ?_
 obtain ⟨e0, e1, _⟩ := ha
 replace i0 : (IsV a_) (a.get 0) k := by rw [e0, hk0]; exact i0
 replace i1 : (IsV b_) (a.get 1) k := by rw [e1, hk0]; exact i1
 have hQ : Gb.LetsOut (bodyPost Try.prog Try.f56 (RetC noF k0 (IsV r))) := letsOutC
 have hg : Chg noF k0 k := by rw [hk0]; exact Chg.refl _ k0
 refine stepL 1 (⟨some (IsV false), []⟩ :: []) rfl ⟨hg, hs, hd⟩ (by kernel_rfl) ⟨ob1 rfl fun _ _ h n => ok_assign rfl (isV_bool.2 rfl), trivial⟩ [⟨_, _⟩, ⟨_, _⟩] (fun b q p => ⟨p.ke 0 rfl i0, p.ke 1 rfl i1, trivial⟩) ?_
 rintro a k ⟨⟨hg, hs, hd⟩, i0, i1, _⟩
 refine stepL 5 (_ :: _ :: _ :: _ :: _ :: []) rfl ⟨hg, hs, hd⟩ (by kernel_rfl) ⟨mu rfl i0, cm 0 rfl rfl, mF rfl rfl i1, o1 [(6, some 1), (7, some 2)] rfl fun _ _ h n => ok_pickOr rfl n.1 (cB rfl) (Gd.get n.2.1), cp 3 rfl rfl, trivial⟩ [⟨_, _⟩] (fun b q p => ⟨p.ou 4 4 rfl, trivial⟩) ?_
 rintro a k ⟨⟨hg, hs, hd⟩, i4, _⟩
 refine wp_ret ?_
 obtain rfl := Option.some.inj hr
 exact retC1 rfl hd hg i4
def region_Union (a_ : (List Rect)) (b_ : (List Rect)) : Option ((List Rect) × Int) :=
 (region_combine a_ b_ region_Union_1).bind fun x1738_2 =>
 some (x1738_2.1, x1738_2.2)
theorem region_Union_ok {k0 : K} {v0 v1 : Value} {a_ : (List Rect)} {b_ : (List Rect)} {r : (List Rect) × Int} (i0 : (IsV a_) v0 k0) (i1 : (IsV b_) v1 k0) (hr : region_Union a_ b_ = some r) :
  Calls Try.prog 38 #[v0, v1] k0.w (Ret k0 (IsTup2 (IsV r.1) (IsV r.2))) := by
 unfold region_Union at hr
 refine Ret.ofC ?_
 refine enterK Try.func38 rfl Try.ntmps38 (show 2 ≤ 11 by decide) fun a k hk0 hs hd ha => ?_
 obtain ⟨e0, e1, _⟩ := ha
 replace i0 : (IsV a_) (a.get 0) k := by rw [e0, hk0]; exact i0
 replace i1 : (IsV b_) (a.get 1) k := by rw [e1, hk0]; exact i1
 have hQ : Gb.LetsOut (bodyPost Try.prog Try.f38 (RetC noF k0 (IsTup2 (IsV r.1) (IsV r.2)))) := letsOutC
 have hg : Chg noF k0 k := by rw [hk0]; exact Chg.refl _ k0
 refine stepL 2 (⟨some IsE0, []⟩ :: ⟨some (IsI 0), []⟩ :: []) rfl ⟨hg, hs, hd⟩ (by kernel_rfl) ⟨ob1 rfl fun b q h n => ok_assign rfl isE0_nil, aI rfl rfl, trivial⟩ [⟨_, _⟩, ⟨_, _⟩] (fun b q p => ⟨p.ke 0 rfl i0, p.ke 1 rfl i1, trivial⟩) ?_
 rintro a k ⟨⟨hg, hs, hd⟩, i0, i1, _⟩
 refine wp_seq ?_
 obtain ⟨x1738_2, hx1738_2, hr⟩ := bind_some hr
 refine cut (fun a' k' => Bs noF k0 11 a' k' ∧ (IsV x1738_2.1) (a'.get 4) k' ∧ (IsV x1738_2.2) (a'.get 5) k' ∧ True) ?_ hQ ?_
 ·intro Q1739 hQQ1739 hp1740
  refine gS 7 (_ :: _ :: _ :: _ :: _ :: _ :: _ :: []) hs (by kernel_rfl) ⟨mu rfl i0, mu rfl i1, o1 [(6, some 0), (7, some 1)] rfl fun _ _ h n => ok_call rfl Try.call55 (region_combine_ok n.1 n.2.1 ⟨56, _, _, rfl, Try.call56, fun k9 hk9 _ _ _ _ _ hx0 hx1 hy9 => by simpa [evalT] using region_Union_1_ok hx0 hx1 hy9⟩ hx1738_2), o1 [(8, some 2)] rfl fun _ _ h n => ok_ext2_0 rfl n.1, o1 [(8, some 2)] rfl fun _ _ h n => ok_ext2_1 rfl n.1, cp 3 rfl rfl, cp 4 rfl rfl, trivial⟩ hQQ1739 fun b q p => ?_
  exact tail_done (k := q) (hp1740 _ _ ⟨Bs.post ⟨hg, hs, hd⟩ p, p.ou 5 4 rfl, p.ou 6 5 rfl, trivial⟩)
 rintro a k ⟨⟨hg, hs, hd⟩, i4, i5, _⟩
 refine wp_ret ?_
 obtain rfl := Option.some.inj hr
 exact retC2 rfl hd hg i4 i5
def solid_Union (a_ : (List Slab)) (b_ : (List Slab)) : Option ((List Slab) × Int) :=
 (solid_combine a_ b_ region_Union).bind fun x1744_2 =>
 some (x1744_2.1, x1744_2.2)
theorem solid_Union_ok {k0 : K} {v0 v1 : Value} {a_ : (List Slab)} {b_ : (List Slab)} {r : (List Slab) × Int} (i0 : (IsV a_) v0 k0) (i1 : (IsV b_) v1 k0) (hr : solid_Union a_ b_ = some r) :
  Calls Try.prog 14 #[v0, v1] k0.w (Ret k0 (IsTup2 (IsV r.1) (IsV r.2))) := by
 unfold solid_Union at hr
 refine Ret.ofC ?_
 refine enterK Try.func14 rfl Try.ntmps14 (show 2 ≤ 11 by decide) fun a k hk0 hs hd ha => ?_
 obtain ⟨e0, e1, _⟩ := ha
 replace i0 : (IsV a_) (a.get 0) k := by rw [e0, hk0]; exact i0
 replace i1 : (IsV b_) (a.get 1) k := by rw [e1, hk0]; exact i1
 have hQ : Gb.LetsOut (bodyPost Try.prog Try.f14 (RetC noF k0 (IsTup2 (IsV r.1) (IsV r.2)))) := letsOutC
 have hg : Chg noF k0 k := by rw [hk0]; exact Chg.refl _ k0
 refine stepL 2 (⟨some IsE0, []⟩ :: ⟨some (IsI 0), []⟩ :: []) rfl ⟨hg, hs, hd⟩ (by kernel_rfl) ⟨ob1 rfl fun b q h n => ok_assign rfl isE0_nil, aI rfl rfl, trivial⟩ [⟨_, _⟩, ⟨_, _⟩] (fun b q p => ⟨p.ke 0 rfl i0, p.ke 1 rfl i1, trivial⟩) ?_
 rintro a k ⟨⟨hg, hs, hd⟩, i0, i1, _⟩
 refine wp_seq ?_
 obtain ⟨x1744_2, hx1744_2, hr⟩ := bind_some hr
 refine cut (fun a' k' => Bs noF k0 11 a' k' ∧ (IsV x1744_2.1) (a'.get 4) k' ∧ (IsV x1744_2.2) (a'.get 5) k' ∧ True) ?_ hQ ?_
 ·intro Q1745 hQQ1745 hp1746
  refine gS 7 (_ :: _ :: _ :: _ :: _ :: _ :: _ :: []) hs (by kernel_rfl) ⟨mu rfl i0, mu rfl i1, o1 [(6, some 0), (7, some 1)] rfl fun _ _ h n => ok_call rfl Try.call37 (solid_combine_ok n.1 n.2.1 ⟨38, _, _, rfl, Try.call38, fun k9 hk9 _ _ _ _ _ hx0 hx1 hy9 => by simpa [evalT] using region_Union_ok hx0 hx1 hy9⟩ hx1744_2), o1 [(8, some 2)] rfl fun _ _ h n => ok_ext2_0 rfl n.1, o1 [(8, some 2)] rfl fun _ _ h n => ok_ext2_1 rfl n.1, cp 3 rfl rfl, cp 4 rfl rfl, trivial⟩ hQQ1745 fun b q p => ?_
  exact tail_done (k := q) (hp1746 _ _ ⟨Bs.post ⟨hg, hs, hd⟩ p, p.ou 5 4 rfl, p.ou 6 5 rfl, trivial⟩)
 rintro a k ⟨⟨hg, hs, hd⟩, i4, i5, _⟩
 refine wp_ret ?_
 obtain rfl := Option.some.inj hr
 exact retC2 rfl hd hg i4 i5
def region_Common_1 (a_ : Bool) (b_ : Bool) : Option (Bool) :=
 some (a_ && b_)
theorem region_Common_1_ok {k0 : K} {v0 v1 : Value} {a_ : Bool} {b_ : Bool} {r : Bool} (i0 : (IsV a_) v0 k0) (i1 : (IsV b_) v1 k0) (hr : region_Common_1 a_ b_ = some r) :
  Calls Try.prog 57 #[v0, v1] k0.w (Ret k0 (IsV r)) := by
 unfold region_Common_1 at hr
 refine Ret.ofC ?_
 refine enterK Try.func57 rfl Try.ntmps57 (show 2 ≤ 9 by decide) fun a k hk0 hs hd ha => ?_
 obtain ⟨e0, e1, _⟩ := ha
 replace i0 : (IsV a_) (a.get 0) k := by rw [e0, hk0]; exact i0
 replace i1 : (IsV b_) (a.get 1) k := by rw [e1, hk0]; exact i1
 have hQ : Gb.LetsOut (bodyPost Try.prog Try.f57 (RetC noF k0 (IsV r))) := letsOutC
 have hg : Chg noF k0 k := by rw [hk0]; exact Chg.refl _ k0
 refine stepL 1 (⟨some (IsV false), []⟩ :: []) rfl ⟨hg, hs, hd⟩ (by kernel_rfl) ⟨ob1 rfl fun _ _ h n => ok_assign rfl (isV_bool.2 rfl), trivial⟩ [⟨_, _⟩, ⟨_, _⟩] (fun b q p => ⟨p.ke 0 rfl i0, p.ke 1 rfl i1, trivial⟩) ?_
 rintro a k ⟨⟨hg, hs, hd⟩, i0, i1, _⟩
 refine stepL 5 (_ :: _ :: _ :: _ :: _ :: []) rfl ⟨hg, hs, hd⟩ (by kernel_rfl) ⟨mu rfl i0, cm 0 rfl rfl, mT rfl rfl i1, o1 [(6, some 1), (7, some 2)] rfl fun _ _ h n => ok_pickAnd rfl n.1 (Gd.get n.2.1) (cB rfl), cp 3 rfl rfl, trivial⟩ [⟨_, _⟩] (fun b q p => ⟨p.ou 4 4 rfl, trivial⟩) ?_
 rintro a k ⟨⟨hg, hs, hd⟩, i4, _⟩
 refine wp_ret ?_
 obtain rfl := Option.some.inj hr
 exact retC1 rfl hd hg i4
def region_Common (a_ : (List Rect)) (b_ : (List Rect)) : Option ((List Rect) × Int) :=
 (region_combine a_ b_ region_Common_1).bind fun x1756_2 =>
 some (x1756_2.1, x1756_2.2)
theorem region_Common_ok {k0 : K} {v0 v1 : Value} {a_ : (List Rect)} {b_ : (List Rect)} {r : (List Rect) × Int} (i0 : (IsV a_) v0 k0) (i1 : (IsV b_) v1 k0) (hr : region_Common a_ b_ = some r) :
  Calls Try.prog 39 #[v0, v1] k0.w (Ret k0 (IsTup2 (IsV r.1) (IsV r.2))) := by
 unfold region_Common at hr
 refine Ret.ofC ?_
 refine enterK Try.func39 rfl Try.ntmps39 (show 2 ≤ 11 by decide) fun a k hk0 hs hd ha => ?_
 obtain ⟨e0, e1, _⟩ := ha
 replace i0 : (IsV a_) (a.get 0) k := by rw [e0, hk0]; exact i0
 replace i1 : (IsV b_) (a.get 1) k := by rw [e1, hk0]; exact i1
 have hQ : Gb.LetsOut (bodyPost Try.prog Try.f39 (RetC noF k0 (IsTup2 (IsV r.1) (IsV r.2)))) := letsOutC
 have hg : Chg noF k0 k := by rw [hk0]; exact Chg.refl _ k0
 refine stepL 2 (⟨some IsE0, []⟩ :: ⟨some (IsI 0), []⟩ :: []) rfl ⟨hg, hs, hd⟩ (by kernel_rfl) ⟨ob1 rfl fun b q h n => ok_assign rfl isE0_nil, aI rfl rfl, trivial⟩ [⟨_, _⟩, ⟨_, _⟩] (fun b q p => ⟨p.ke 0 rfl i0, p.ke 1 rfl i1, trivial⟩) ?_
 rintro a k ⟨⟨hg, hs, hd⟩, i0, i1, _⟩
 refine wp_seq ?_
 obtain ⟨x1756_2, hx1756_2, hr⟩ := bind_some hr
 refine cut (fun a' k' => Bs noF k0 11 a' k' ∧ (IsV x1756_2.1) (a'.get 4) k' ∧ (IsV x1756_2.2) (a'.get 5) k' ∧ True) ?_ hQ ?_
 ·intro Q1757 hQQ1757 hp1758
  refine gS 7 (_ :: _ :: _ :: _ :: _ :: _ :: _ :: []) hs (by kernel_rfl) ⟨mu rfl i0, mu rfl i1, o1 [(6, some 0), (7, some 1)] rfl fun _ _ h n => ok_call rfl Try.call55 (region_combine_ok n.1 n.2.1 ⟨57, _, _, rfl, Try.call57, fun k9 hk9 _ _ _ _ _ hx0 hx1 hy9 => by simpa [evalT] using region_Common_1_ok hx0 hx1 hy9⟩ hx1756_2), o1 [(8, some 2)] rfl fun _ _ h n => ok_ext2_0 rfl n.1, o1 [(8, some 2)] rfl fun _ _ h n => ok_ext2_1 rfl n.1, cp 3 rfl rfl, cp 4 rfl rfl, trivial⟩ hQQ1757 fun b q p => ?_
  exact tail_done (k := q) (hp1758 _ _ ⟨Bs.post ⟨hg, hs, hd⟩ p, p.ou 5 4 rfl, p.ou 6 5 rfl, trivial⟩)
 rintro a k ⟨⟨hg, hs, hd⟩, i4, i5, _⟩
 refine wp_ret ?_
 obtain rfl := Option.some.inj hr
 exact retC2 rfl hd hg i4 i5
def solid_Common (a_ : (List Slab)) (b_ : (List Slab)) : Option ((List Slab) × Int) :=
 (solid_combine a_ b_ region_Common).bind fun x1762_2 =>
 some (x1762_2.1, x1762_2.2)
theorem solid_Common_ok {k0 : K} {v0 v1 : Value} {a_ : (List Slab)} {b_ : (List Slab)} {r : (List Slab) × Int} (i0 : (IsV a_) v0 k0) (i1 : (IsV b_) v1 k0) (hr : solid_Common a_ b_ = some r) :
  Calls Try.prog 15 #[v0, v1] k0.w (Ret k0 (IsTup2 (IsV r.1) (IsV r.2))) := by
 unfold solid_Common at hr
 refine Ret.ofC ?_
 refine enterK Try.func15 rfl Try.ntmps15 (show 2 ≤ 11 by decide) fun a k hk0 hs hd ha => ?_
 obtain ⟨e0, e1, _⟩ := ha
 replace i0 : (IsV a_) (a.get 0) k := by rw [e0, hk0]; exact i0
 replace i1 : (IsV b_) (a.get 1) k := by rw [e1, hk0]; exact i1
 have hQ : Gb.LetsOut (bodyPost Try.prog Try.f15 (RetC noF k0 (IsTup2 (IsV r.1) (IsV r.2)))) := letsOutC
 have hg : Chg noF k0 k := by rw [hk0]; exact Chg.refl _ k0
 refine stepL 2 (⟨some IsE0, []⟩ :: ⟨some (IsI 0), []⟩ :: []) rfl ⟨hg, hs, hd⟩ (by kernel_rfl) ⟨ob1 rfl fun b q h n => ok_assign rfl isE0_nil, aI rfl rfl, trivial⟩ [⟨_, _⟩, ⟨_, _⟩] (fun b q p => ⟨p.ke 0 rfl i0, p.ke 1 rfl i1, trivial⟩) ?_
 rintro a k ⟨⟨hg, hs, hd⟩, i0, i1, _⟩
 refine wp_seq ?_
 obtain ⟨x1762_2, hx1762_2, hr⟩ := bind_some hr
 refine cut (fun a' k' => Bs noF k0 11 a' k' ∧ (IsV x1762_2.1) (a'.get 4) k' ∧ (IsV x1762_2.2) (a'.get 5) k' ∧ True) ?_ hQ ?_
 ·intro Q1763 hQQ1763 hp1764
  refine gS 7 (_ :: _ :: _ :: _ :: _ :: _ :: _ :: []) hs (by kernel_rfl) ⟨mu rfl i0, mu rfl i1, o1 [(6, some 0), (7, some 1)] rfl fun _ _ h n => ok_call rfl Try.call37 (solid_combine_ok n.1 n.2.1 ⟨39, _, _, rfl, Try.call39, fun k9 hk9 _ _ _ _ _ hx0 hx1 hy9 => by simpa [evalT] using region_Common_ok hx0 hx1 hy9⟩ hx1762_2), o1 [(8, some 2)] rfl fun _ _ h n => ok_ext2_0 rfl n.1, o1 [(8, some 2)] rfl fun _ _ h n => ok_ext2_1 rfl n.1, cp 3 rfl rfl, cp 4 rfl rfl, trivial⟩ hQQ1763 fun b q p => ?_
  exact tail_done (k := q) (hp1764 _ _ ⟨Bs.post ⟨hg, hs, hd⟩ p, p.ou 5 4 rfl, p.ou 6 5 rfl, trivial⟩)
 rintro a k ⟨⟨hg, hs, hd⟩, i4, i5, _⟩
 refine wp_ret ?_
 obtain rfl := Option.some.inj hr
 exact retC2 rfl hd hg i4 i5
def law09_covered_L0 (l_ : (List Box)) (x_ : Int) (y_ : Int) (z_ : Int) (s1769 : Int) : Option (Flow (Int) (Bool)) :=
 if (decide (s1769 < (l_.length : Int))) then
  (getI l_ s1769).bind fun x1774_2 =>
  if ((((((decide (x1774_2.Base.X0 ≤ x_)) && (decide (x_ < x1774_2.Base.X1))) && (decide (x1774_2.Base.Y0 ≤ y_))) && (decide (y_ < x1774_2.Base.Y1))) && (decide (x1774_2.Z0 ≤ z_))) && (decide (z_ < x1774_2.Z1))) then
   some (.ret true)
  else
   (addI s1769 1).bind fun x1779_1 =>
   some (.go x1779_1)
 else
  some (.ex 0 s1769)
def law09_covered (l_ : (List Box)) (x_ : Int) (y_ : Int) (z_ : Int) : Option (Bool) :=
 (iterL (law09_covered_L0 l_ x_ y_ z_) (l_.length + 1) 0).bind fun f1790 => match f1790 with
  | .go _ => none
  | .ex _ _ =>
   some false
  | .ret r1795 => some r1795
theorem law09_covered_ok {k0 : K} {v0 v1 v2 v3 : Value} {l_ : (List Box)} {x_ : Int} {y_ : Int} {z_ : Int} {r : Bool} (i0 : (IsV l_) v0 k0) (i1 : (IsV x_) v1 k0) (i2 : (IsV y_) v2 k0) (i3 : (IsV z_) v3 k0) (hr : law09_covered l_ x_ y_ z_ = some r) :
  Calls Try.prog 18 #[v0, v1, v2, v3] k0.w (Ret k0 (IsV r)) := by
 unfold law09_covered at hr
 refine Ret.ofC ?_
 refine enterK Try.func18 rfl Try.ntmps18 (show 4 ≤ 59 by decide) fun a k hk0 hs hd ha => ?_
 obtain ⟨e0, e1, e2, e3, _⟩ := ha
 replace i0 : (IsV l_) (a.get 0) k := by rw [e0, hk0]; exact i0
 replace i1 : (IsV x_) (a.get 1) k := by rw [e1, hk0]; exact i1
 replace i2 : (IsV y_) (a.get 2) k := by rw [e2, hk0]; exact i2
 replace i3 : (IsV z_) (a.get 3) k := by rw [e3, hk0]; exact i3
 have hQ : Gb.LetsOut (bodyPost Try.prog Try.f18 (RetC noF k0 (IsV r))) := letsOutC
 have hg : Chg noF k0 k := by rw [hk0]; exact Chg.refl _ k0
 refine stepL 1 (⟨some (IsV false), []⟩ :: []) rfl ⟨hg, hs, hd⟩ (by kernel_rfl) ⟨ob1 rfl fun _ _ h n => ok_assign rfl (isV_bool.2 rfl), trivial⟩ [⟨_, _⟩, ⟨_, _⟩, ⟨_, _⟩, ⟨_, _⟩] (fun b q p => ⟨p.ke 0 rfl i0, p.ke 1 rfl i1, p.ke 2 rfl i2, p.ke 3 rfl i3, trivial⟩) ?_
 rintro a k ⟨⟨hg, hs, hd⟩, i0, i1, i2, i3, _⟩
 refine wp_seq ?_
 refine stepL 1 (⟨some (IsI 0), []⟩ :: []) rfl ⟨hg, hs, hd⟩ (by kernel_rfl) ⟨aI rfl rfl, trivial⟩ [⟨_, _⟩, ⟨_, _⟩, ⟨_, _⟩, ⟨_, _⟩, ⟨_, _⟩] (fun b q p => ⟨p.ke 0 rfl i0, p.ke 1 rfl i1, p.ke 2 rfl i2, p.ke 3 rfl i3, p.ou 0 9 rfl, trivial⟩) ?_
 rintro a k ⟨⟨hg, hs, hd⟩, i0, i1, i2, i3, i9, _⟩
 refine wp_block ?_
 obtain ⟨f1790, hf1790, hr⟩ := bind_some hr
 refine cutFe f1790 (fun s' a' k' => Bs noF k0 59 a' k' ∧ (IsV l_) (a'.get 0) k' ∧ (IsV x_) (a'.get 1) k' ∧ (IsV y_) (a'.get 2) k' ∧ (IsV z_) (a'.get 3) k' ∧ (IsV s') (a'.get 9) k' ∧ True) (fun i' s' a' k' => (i' = 0 ∧ Bs noF k0 59 a' k' ∧ True)) (fun r' a' k' => bodyPost Try.prog Try.f18 (RetC noF k0 (IsV r')) .ret a' k'.w) ?_ hQ ?_ ?_ ?_
 ·intro Q1796 hQQ1796 hgo hex hret
  refine sim_loop ?_ _ _ _ _ _ hf1790 ⟨⟨hg, hs, hd⟩, i0, i1, i2, i3, i9, trivial⟩ Q1796 hQQ1796 hgo hex hret
  clear hr hf1790 hgo hex hret hQQ1796 hQ hg hs hd i0 i1 i2 i3 i9
  intro s1769 fl_ a k hr hS Q hQ hgo1770 hex1771 hret1772
  obtain ⟨⟨hg, hs, hd⟩, i0, i1, i2, i3, i9, _⟩ := hS
  unfold law09_covered_L0 at hr
  refine wp_seq ?_
  refine stepL 4 (_ :: _ :: _ :: _ :: []) rfl ⟨hg, hs, hd⟩ (by kernel_rfl) ⟨mu rfl i9, mu rfl i0, o1 [(12, some 1)] rfl fun _ _ h n => ok_len rfl rfl Try.underlying22 (IsV.rd n.1), o1 [(11, some 0), (13, some 2)] rfl fun _ _ h n => ok_lss rfl n.1 n.2.1, trivial⟩ [⟨_, _⟩, ⟨_, _⟩, ⟨_, _⟩, ⟨_, _⟩, ⟨_, _⟩, ⟨_, _⟩] (fun b q p => ⟨p.ke 0 rfl i0, p.ke 1 rfl i1, p.ke 2 rfl i2, p.ke 3 rfl i3, p.ke 9 rfl i9, p.ou 3 14 rfl, trivial⟩) ?_
  rintro a k ⟨⟨hg, hs, hd⟩, i0, i1, i2, i3, i9, i14, _⟩
  refine wp_cond_split (isBool i14) (fun hc1787 => ?_) (fun hc1787 => ?_)
  ·rw [if_pos hc1787] at hr
   refine wp_skip ?_
   refine wp_seq ?_
   refine wp_block ?_
   refine wp_seq ?_
   obtain ⟨x1774_2, hx1774_2, hr⟩ := bind_some hr
   refine cut (fun a' k' => Bs noF k0 59 a' k' ∧ (IsV l_) (a'.get 0) k' ∧ (IsV x_) (a'.get 1) k' ∧ (IsV y_) (a'.get 2) k' ∧ (IsV z_) (a'.get 3) k' ∧ (IsV s1769) (a'.get 9) k' ∧ (IsRef x1774_2) (a'.get 10) k' ∧ True) ?_ hQ ?_
   ·intro Q1785 hQQ1785 hp1786
    refine gS 5 (_ :: _ :: _ :: _ :: ⟨some (IsBox k.w.heap.size (⟨(⟨0, 0, 0, 0⟩ : Rect), 0, 0⟩ : Box)), []⟩ :: []) hs (by kernel_rfl) ⟨mu rfl i0, mu rfl i9, o1 [(17, some 0), (18, some 1)] rfl fun _ _ h n => ok_indexAddr rfl Try.underlying22 ty32 (IsV.rd n.1) n.2.1 hx1774_2, o1 [(19, some 2)] rfl fun _ _ h n => ok_load rfl ty32 n.1, ob1 rfl fun _ _ h n => ok_alloc _ h.size rfl z32, trivial⟩ hQQ1785 fun b q p => ?_
    have hgq := hg.then p.grow
    have hsb := p.size.trans hs
    have hdb := p.defers.trans hd
    have j0 := p.ke 0 rfl i0
    have j1 := p.ke 1 rfl i1
    have j2 := p.ke 2 rfl i2
    have j3 := p.ke 3 rfl i3
    have j9 := p.ke 9 rfl i9
    obtain ⟨b10, j10, x10, z10⟩ : (IsBox k.w.heap.size (⟨(⟨0, 0, 0, 0⟩ : Rect), 0, 0⟩ : Box)) (b.get 10) q := p.ou 4 10 rfl
    replace x10 : Lo k (Eq b10) := Lo.eq x10
    have y10 : Lo k0 (Eq b10) := x10.chg hg
    have j20 : (IsV x1774_2) (b.get 20) q := p.ou 3 20 rfl
    have hns := z10.nshF
    refine tail_storeB (i := 5) rfl rfl rfl rfl szf32 (Upd.self (α := Box)) j10 z10 j20 fun q2 hch hz => ?_
    replace hgq := hgq.step hch y10.wr
    have hle := hch.le hns
    replace j0 := Pers.pers hle j0
    replace j1 := Pers.pers hle j1
    replace j2 := Pers.pers hle j2
    replace j3 := Pers.pers hle j3
    replace j9 := Pers.pers hle j9
    replace j20 := Pers.pers hle j20
    replace z10 := hz
    clear hns hle hch
    obtain ⟨q, hqq⟩ : ∃ q, q = q2 := ⟨q2, rfl⟩
    subst hqq
    obtain ⟨q2, hsh, jn⟩ := z10.give
    replace j0 := Pers.pers hsh.le j0
    replace j1 := Pers.pers hsh.le j1
    replace j2 := Pers.pers hsh.le j2
    replace j3 := Pers.pers hsh.le j3
    replace j9 := Pers.pers hsh.le j9
    rw [← j10] at jn
    replace j10 := jn
    replace hgq := hgq.hand hsh y10.wr
    rw [← hsh.w]
    clear hsh
    obtain ⟨q, hqq⟩ : ∃ q, q = q2 := ⟨q2, rfl⟩
    subst hqq
    exact tail_done (k := q) (hp1786 _ _ ⟨⟨hgq, hsb, hdb⟩, j0, j1, j2, j3, j9, j10, trivial⟩)
   rintro a k ⟨⟨hg, hs, hd⟩, i0, i1, i2, i3, i9, i10, _⟩
   refine stepL 38 (_ :: _ :: _ :: _ :: _ :: _ :: _ :: _ :: _ :: _ :: _ :: _ :: _ :: _ :: _ :: _ :: _ :: _ :: _ :: _ :: _ :: _ :: _ :: _ :: _ :: _ :: _ :: _ :: _ :: _ :: _ :: _ :: _ :: _ :: _ :: _ :: _ :: _ :: []) rfl ⟨hg, hs, hd⟩ (by kernel_rfl) ⟨o1 [(10, none)] rfl fun _ _ h n => ok_fieldAddr rfl fo32_0 (at_Box_0 _) ((up i10 h n.1)).ptr, o1 [(21, some 0)] rfl fun _ _ h n => ok_fieldAddr rfl fo30_0 (at_Rect_0 _) n.1, o1 [(22, some 1)] rfl fun _ _ h n => ok_load rfl ty3 n.1, mu rfl i1, o1 [(23, some 2), (24, some 3)] rfl fun _ _ h n => ok_leq rfl n.1 n.2.1, cm 4 rfl rfl, mT rfl rfl i1, gT [(10, none)] rfl rfl fun hp _ _ h n => ok_fieldAddr rfl fo32_0 (at_Box_0 _) ((up i10 h n.1)).ptr, gT [(28, some 7)] rfl rfl fun hp _ _ h n => ok_fieldAddr rfl fo30_2 (at_Rect_2 _) (Gd.get n.1 hp), gT [(29, some 8)] rfl rfl fun hp _ _ h n => ok_load rfl ty3 (Gd.get n.1 hp), gT [(27, some 6), (30, some 9)] rfl rfl fun hp _ _ h n => ok_lss rfl (Gd.get n.1 hp) (Gd.get n.2.1 hp), o1 [(26, some 5), (31, some 10)] rfl fun _ _ h n => ok_pickAnd rfl n.1 (Gd.get n.2.1) (cB rfl), cm 11 rfl rfl, gT [(10, none)] rfl rfl fun hp _ _ h n => ok_fieldAddr rfl fo32_0 (at_Box_0 _) ((up i10 h n.1)).ptr, gT [(34, some 13)] rfl rfl fun hp _ _ h n => ok_fieldAddr rfl fo30_1 (at_Rect_1 _) (Gd.get n.1 hp), gT [(35, some 14)] rfl rfl fun hp _ _ h n => ok_load rfl ty3 (Gd.get n.1 hp), mT rfl rfl i2, gT [(36, some 15), (37, some 16)] rfl rfl fun hp _ _ h n => ok_leq rfl (Gd.get n.1 hp) (Gd.get n.2.1 hp), o1 [(33, some 12), (38, some 17)] rfl fun _ _ h n => ok_pickAnd rfl n.1 (Gd.get n.2.1) (cB rfl), cm 18 rfl rfl, mT rfl rfl i2, gT [(10, none)] rfl rfl fun hp _ _ h n => ok_fieldAddr rfl fo32_0 (at_Box_0 _) ((up i10 h n.1)).ptr, gT [(42, some 21)] rfl rfl fun hp _ _ h n => ok_fieldAddr rfl fo30_3 (at_Rect_3 _) (Gd.get n.1 hp), gT [(43, some 22)] rfl rfl fun hp _ _ h n => ok_load rfl ty3 (Gd.get n.1 hp), gT [(41, some 20), (44, some 23)] rfl rfl fun hp _ _ h n => ok_lss rfl (Gd.get n.1 hp) (Gd.get n.2.1 hp), o1 [(40, some 19), (45, some 24)] rfl fun _ _ h n => ok_pickAnd rfl n.1 (Gd.get n.2.1) (cB rfl), cm 25 rfl rfl, gT [(10, none)] rfl rfl fun hp _ _ h n => ok_fieldAddr rfl fo32_1 (at_Box_1 _) ((up i10 h n.1)).ptr, gT [(48, some 27)] rfl rfl fun hp _ _ h n => ok_load rfl ty3 (Gd.get n.1 hp), mT rfl rfl i3, gT [(49, some 28), (50, some 29)] rfl rfl fun hp _ _ h n => ok_leq rfl (Gd.get n.1 hp) (Gd.get n.2.1 hp), o1 [(47, some 26), (51, some 30)] rfl fun _ _ h n => ok_pickAnd rfl n.1 (Gd.get n.2.1) (cB rfl), cm 31 rfl rfl, mT rfl rfl i3, gT [(10, none)] rfl rfl fun hp _ _ h n => ok_fieldAddr rfl fo32_2 (at_Box_2 _) ((up i10 h n.1)).ptr, gT [(55, some 34)] rfl rfl fun hp _ _ h n => ok_load rfl ty3 (Gd.get n.1 hp), gT [(54, some 33), (56, some 35)] rfl rfl fun hp _ _ h n => ok_lss rfl (Gd.get n.1 hp) (Gd.get n.2.1 hp), o1 [(53, some 32), (57, some 36)] rfl fun _ _ h n => ok_pickAnd rfl n.1 (Gd.get n.2.1) (cB rfl), trivial⟩ [⟨_, _⟩, ⟨_, _⟩, ⟨_, _⟩, ⟨_, _⟩, ⟨_, _⟩, ⟨_, _⟩] (fun b q p => ⟨p.ke 0 rfl i0, p.ke 1 rfl i1, p.ke 2 rfl i2, p.ke 3 rfl i3, p.ke 9 rfl i9, p.ou 37 58 rfl, trivial⟩) ?_
   rintro a k ⟨⟨hg, hs, hd⟩, i0, i1, i2, i3, i9, i58, _⟩
   refine wp_cond_split (isBool i58) (fun hc1782 => ?_) (fun hc1782 => ?_)
   ·rw [if_pos hc1782] at hr
    refine stepL 1 (⟨some (IsV true), []⟩ :: []) rfl ⟨hg, hs, hd⟩ (by kernel_rfl) ⟨ob1 rfl fun _ _ h n => ok_assign rfl (isV_bool.2 rfl), trivial⟩ [⟨_, _⟩] (fun b q p => ⟨p.ou 0 8 rfl, trivial⟩) ?_
    rintro a k ⟨⟨hg, hs, hd⟩, i8, _⟩
    refine wp_ret ?_
    exact hret1772 _ _ _ (Option.some.inj hr).symm (retC1 rfl hd hg i8)
   rw [if_neg (by rw [hc1782]; decide)] at hr
   refine wp_skip ?_
   obtain ⟨x1779_1, hx1779_1, hr⟩ := bind_some hr
   refine cut (fun a' k' => Bs noF k0 59 a' k' ∧ (IsV l_) (a'.get 0) k' ∧ (IsV x_) (a'.get 1) k' ∧ (IsV y_) (a'.get 2) k' ∧ (IsV z_) (a'.get 3) k' ∧ (IsV x1779_1) (a'.get 9) k' ∧ True) ?_ hQ ?_
   ·intro Q1780 hQQ1780 hp1781
    refine gS 3 (_ :: _ :: _ :: []) hs (by kernel_rfl) ⟨mu rfl i9, o1 [(15, some 0)] rfl fun _ _ h n => ok_add rfl n.1 (cI rfl) hx1779_1, cp 1 rfl rfl, trivial⟩ hQQ1780 fun b q p => ?_
    exact tail_done (k := q) (hp1781 _ _ ⟨Bs.post ⟨hg, hs, hd⟩ p, p.ke 0 rfl i0, p.ke 1 rfl i1, p.ke 2 rfl i2, p.ke 3 rfl i3, p.ou 2 9 rfl, trivial⟩)
   rintro a k ⟨⟨hg, hs, hd⟩, i0, i1, i2, i3, i9, _⟩
   exact hgo1770 _ _ _ (Option.some.inj hr).symm ⟨⟨hg, hs, hd⟩, i0, i1, i2, i3, i9, trivial⟩
  rw [if_neg (by rw [hc1787]; decide)] at hr
  refine wp_exit ?_
  exact hex1771 _ _ _ _ (Option.some.inj hr).symm ⟨rfl, ⟨hg, hs, hd⟩, trivial⟩
 ·rintro r1795 a k rfl hR
  dsimp only at hr
  obtain rfl := Option.some.inj hr
  exact hR
 ·rintro _ _ _ rfl _
  simp at hr
 clear hf1790
 rintro _ s1791 a k rfl ⟨rfl, ⟨hg, hs, hd⟩, _⟩
 dsimp only at hr
 refine stepL 1 (⟨some (IsV false), []⟩ :: []) rfl ⟨hg, hs, hd⟩ (by kernel_rfl) ⟨ob1 rfl fun _ _ h n => ok_assign rfl (isV_bool.2 rfl), trivial⟩ [⟨_, _⟩] (fun b q p => ⟨p.ou 0 8 rfl, trivial⟩) ?_
 rintro a k ⟨⟨hg, hs, hd⟩, i8, _⟩
 refine wp_ret ?_
 obtain rfl := Option.some.inj hr
 exact retC1 rfl hd hg i8
def law09_SolidCubes_L2 (a_ : (List Box)) (b_ : (List Box)) (x1807_1 : (List Slab) × Int) (x1809_2 : (List Slab) × Int) (x1810_2 : (List Slab) × Int) (x1811_2 : (List Slab) × Int) (s1820 : Int × Int × Int × Int) (s1826 : Int × Int × Int × Int) (s1832 : Int × Int × Int × Int) : Option (Flow (Int × Int × Int × Int) (Bool)) :=
 if (decide (s1832.2.2.2 < 8)) then
  (law09_covered a_ s1826.2.2.2 s1832.2.2.2 s1820.2.2.2).bind fun x1837_4 =>
  (law09_covered b_ s1826.2.2.2 s1832.2.2.2 s1820.2.2.2).bind fun x1838_4 =>
  (solid_Has x1807_1.1 s1826.2.2.2 s1832.2.2.2 s1820.2.2.2).bind fun x1839_4 =>
  (if (x1839_4 != x1837_4) then
   some true
  else
   (solid_Has x1809_2.1 s1826.2.2.2 s1832.2.2.2 s1820.2.2.2).bind fun x1839_12 =>
   some (x1839_12 != (x1837_4 || x1838_4))).bind fun x1839_18 =>
  (if x1839_18 then
   some true
  else
   (solid_Has x1810_2.1 s1826.2.2.2 s1832.2.2.2 s1820.2.2.2).bind fun x1839_24 =>
   some (x1839_24 != (x1837_4 && x1838_4))).bind fun x1839_30 =>
  (if x1839_30 then
   some true
  else
   (solid_Has x1811_2.1 s1826.2.2.2 s1832.2.2.2 s1820.2.2.2).bind fun x1839_36 =>
   some (x1839_36 != (x1837_4 && (!x1838_4)))).bind fun x1839_43 =>
  if x1839_43 then
   some (.ret false)
  else
   (if x1837_4 then
    (addI s1832.1 1).bind fun x1846_1 =>
    some x1846_1
   else
    some s1832.1).bind fun s1844 =>
   (if x1838_4 then
    (addI s1832.2.1 1).bind fun x1853_1 =>
    some x1853_1
   else
    some s1832.2.1).bind fun s1851 =>
   (if (x1837_4 && x1838_4) then
    (addI s1832.2.2.1 1).bind fun x1860_1 =>
    some x1860_1
   else
    some s1832.2.2.1).bind fun s1858 =>
   (addI s1832.2.2.2 1).bind fun x1864_1 =>
   some (.go (s1844, s1851, s1858, x1864_1))
 else
  some (.ex 4 (s1832.1, s1832.2.1, s1832.2.2.1, s1832.2.2.2))
def law09_SolidCubes_L1 (a_ : (List Box)) (b_ : (List Box)) (x1807_1 : (List Slab) × Int) (x1809_2 : (List Slab) × Int) (x1810_2 : (List Slab) × Int) (x1811_2 : (List Slab) × Int) (s1820 : Int × Int × Int × Int) (s1826 : Int × Int × Int × Int) : Option (Flow (Int × Int × Int × Int) (Bool)) :=
 if (decide (s1826.2.2.2 < 8)) then
  (iterL (law09_SolidCubes_L2 a_ b_ x1807_1 x1809_2 x1810_2 x1811_2 s1820 s1826) (9) (s1826.1, s1826.2.1, s1826.2.2.1, 0)).bind fun f1886 => match f1886 with
   | .go _ => none
   | .ex _ s1887 =>
    (addI s1826.2.2.2 1).bind fun x1888_1 =>
    some (.go (s1887.1, s1887.2.1, s1887.2.2.1, x1888_1))
   | .ret r1891 => some (.ret r1891)
 else
  some (.ex 2 (s1826.1, s1826.2.1, s1826.2.2.1, s1826.2.2.2))
def law09_SolidCubes_L0 (a_ : (List Box)) (b_ : (List Box)) (x1807_1 : (List Slab) × Int) (x1809_2 : (List Slab) × Int) (x1810_2 : (List Slab) × Int) (x1811_2 : (List Slab) × Int) (s1820 : Int × Int × Int × Int) : Option (Flow (Int × Int × Int × Int) (Bool)) :=
 if (decide (s1820.2.2.2 < 8)) then
  (iterL (law09_SolidCubes_L1 a_ b_ x1807_1 x1809_2 x1810_2 x1811_2 s1820) (9) (s1820.1, s1820.2.1, s1820.2.2.1, 0)).bind fun f1898 => match f1898 with
   | .go _ => none
   | .ex _ s1899 =>
    (addI s1820.2.2.2 1).bind fun x1900_1 =>
    some (.go (s1899.1, s1899.2.1, s1899.2.2.1, x1900_1))
   | .ret r1903 => some (.ret r1903)
 else
  some (.ex 0 (s1820.1, s1820.2.1, s1820.2.2.1, s1820.2.2.2))
def law09_SolidCubes (a_ : (List Box)) (b_ : (List Box)) : Option (Bool) :=
 (law09_small).bind fun x1802_0 =>
 (law09_near a_ 6).bind fun x1803_1 =>
 (if (!x1803_1) then
  some true
 else
  (law09_near b_ 6).bind fun x1803_5 =>
  some (!x1803_5)).bind fun x1803_7 =>
 if x1803_7 then
  some x1802_0
 else
  (solid_Of a_).bind fun x1807_1 =>
  (solid_Of b_).bind fun x1808_1 =>
  (solid_Union x1807_1.1 x1808_1.1).bind fun x1809_2 =>
  (solid_Common x1807_1.1 x1808_1.1).bind fun x1810_2 =>
  (solid_Minus x1807_1.1 x1808_1.1).bind fun x1811_2 =>
  (if (((((x1807_1.2 != 0) || (x1808_1.2 != 0)) || (x1809_2.2 != 0)) || (x1810_2.2 != 0)) || (x1811_2.2 != 0)) then
   some true
  else
   (solid_Right x1807_1.1).bind fun x1812_20 =>
   some (!x1812_20)).bind fun x1812_22 =>
  (if x1812_22 then
   some true
  else
   (solid_Right x1809_2.1).bind fun x1812_25 =>
   some (!x1812_25)).bind fun x1812_27 =>
  (if x1812_27 then
   some true
  else
   (solid_Right x1810_2.1).bind fun x1812_30 =>
   some (!x1812_30)).bind fun x1812_32 =>
  (if x1812_32 then
   some true
  else
   (solid_Right x1811_2.1).bind fun x1812_35 =>
   some (!x1812_35)).bind fun x1812_37 =>
  if x1812_37 then
   some false
  else
   (iterL (law09_SolidCubes_L0 a_ b_ x1807_1 x1809_2 x1810_2 x1811_2) (9) (0, 0, 0, 0)).bind fun f1910 => match f1910 with
    | .go _ => none
    | .ex _ s1911 =>
     (solid_Volume x1807_1.1).bind fun x1912_1 =>
     (if (x1912_1 != s1911.1) then
      some true
     else
      (solid_Volume x1808_1.1).bind fun x1912_6 =>
      some (x1912_6 != s1911.2.1)).bind fun x1912_9 =>
     (if x1912_9 then
      some true
     else
      (solid_Volume x1810_2.1).bind fun x1912_12 =>
      some (x1912_12 != s1911.2.2.1)).bind fun x1912_15 =>
     (if x1912_15 then
      some true
     else
      (solid_Volume x1809_2.1).bind fun x1912_18 =>
      (addI s1911.1 s1911.2.1).bind fun x1912_21 =>
      (subI x1912_21 s1911.2.2.1).bind fun x1912_23 =>
      some (x1912_18 != x1912_23)).bind fun x1912_25 =>
     (if x1912_25 then
      some true
     else
      (solid_Volume x1811_2.1).bind fun x1912_28 =>
      (subI s1911.1 s1911.2.2.1).bind fun x1912_31 =>
      some (x1912_28 != x1912_31)).bind fun x1912_33 =>
     if x1912_33 then
      some false
     else
      (if x1802_0 then
       (solid_Same x1807_1.1 x1808_1.1).bind fun x1916_4 =>
       some (x1916_4 == ((s1911.1 == s1911.2.2.1) && (s1911.2.1 == s1911.2.2.1)))
      else
       some false).bind fun x1916_14 =>
      (if x1916_14 then
       (solid_Has x1807_1.1 0 0 8).bind fun x1916_17 =>
       some (!x1916_17)
      else
       some false).bind fun x1916_19 =>
      (if x1916_19 then
       (solid_Has x1807_1.1 (-1) 0 0).bind fun x1916_22 =>
       some (!x1916_22)
      else
       some false).bind fun x1916_24 =>
      some x1916_24
    | .ret r1922 => some r1922
theorem law09_SolidCubes_ok {k0 : K} {v0 v1 : Value} {a_ : (List Box)} {b_ : (List Box)} {r : Bool} (i0 : (IsV a_) v0 k0) (i1 : (IsV b_) v1 k0) (hr : law09_SolidCubes a_ b_ = some r) :
  Calls Try.prog 4 #[v0, v1] k0.w (Ret k0 (IsV r)) := by
 unfold law09_SolidCubes at hr
 refine Ret.ofC ?_
 refine enterK Try.func4 rfl Try.ntmps4 (show 2 ≤ 237 by decide) fun a k hk0 hs hd ha => ?_
 obtain ⟨e0, e1, _⟩ := ha
 replace i0 : (IsV a_) (a.get 0) k := by rw [e0, hk0]; exact i0
 replace i1 : (IsV b_) (a.get 1) k := by rw [e1, hk0]; exact i1
 have hQ : Gb.LetsOut (bodyPost Try.prog Try.f4 (RetC noF k0 (IsV r))) := letsOutC
 have hg : Chg noF k0 k := by rw [hk0]; exact Chg.refl _ k0
 refine stepL 1 (⟨some (IsV false), []⟩ :: []) rfl ⟨hg, hs, hd⟩ (by kernel_rfl) ⟨ob1 rfl fun _ _ h n => ok_assign rfl (isV_bool.2 rfl), trivial⟩ [⟨_, _⟩, ⟨_, _⟩] (fun b q p => ⟨p.ke 0 rfl i0, p.ke 1 rfl i1, trivial⟩) ?_
 rintro a k ⟨⟨hg, hs, hd⟩, i0, i1, _⟩
 refine wp_seq ?_
 obtain ⟨x1802_0, hx1802_0, hr⟩ := bind_some hr
 refine cut (fun a' k' => Bs noF k0 237 a' k' ∧ (IsV a_) (a'.get 0) k' ∧ (IsV b_) (a'.get 1) k' ∧ (IsV x1802_0) (a'.get 5) k' ∧ True) ?_ hQ ?_
 ·intro Q1948 hQQ1948 hp1949
  refine gS 2 (_ :: _ :: []) hs (by kernel_rfl) ⟨o1 [] rfl fun _ _ h n => ok_call rfl Try.call8 (law09_small_ok hx1802_0), cp 0 rfl rfl, trivial⟩ hQQ1948 fun b q p => ?_
  exact tail_done (k := q) (hp1949 _ _ ⟨Bs.post ⟨hg, hs, hd⟩ p, p.ke 0 rfl i0, p.ke 1 rfl i1, p.ou 1 5 rfl, trivial⟩)
 rintro a k ⟨⟨hg, hs, hd⟩, i0, i1, i5, _⟩
 refine wp_seq ?_
 refine wp_seq ?_
 obtain ⟨x1803_1, hx1803_1, hr⟩ := bind_some hr
 obtain ⟨x1803_7, hx1803_7, hr⟩ := bind_some hr
 obtain ⟨x1803_5, hx1803_5, hx1803_7⟩ := ite_bindF hx1803_7
 refine cut (fun a' k' => Bs noF k0 237 a' k' ∧ (IsV a_) (a'.get 0) k' ∧ (IsV b_) (a'.get 1) k' ∧ (IsV x1802_0) (a'.get 5) k' ∧ (IsV x1803_7) (a'.get 32) k' ∧ True) ?_ hQ ?_
 ·intro Q1946 hQQ1946 hp1947
  refine gS 8 (_ :: _ :: _ :: _ :: _ :: _ :: _ :: _ :: []) hs (by kernel_rfl) ⟨mu rfl i0, o1 [(25, some 0)] rfl fun _ _ h n => ok_call rfl Try.call13 (law09_near_ok n.1 (cI rfl) hx1803_1), o1 [(26, some 1)] rfl fun _ _ h n => ok_not rfl n.1, cm 2 rfl rfl, mF rfl rfl i1, gF [(29, some 4)] rfl rfl fun hp _ _ h n => ok_call rfl Try.call13 (law09_near_ok (Gd.get n.1 hp) (cI rfl) (hx1803_5 hp)), gF [(30, some 5)] rfl rfl fun hp _ _ h n => ok_not rfl (Gd.get n.1 hp), o1 [(28, some 3), (31, some 6)] rfl fun _ _ h n => ok_pickM rfl n.1 hx1803_7 (cB rfl) (Gd.get n.2.1), trivial⟩ hQQ1946 fun b q p => ?_
  exact tail_done (k := q) (hp1947 _ _ ⟨Bs.post ⟨hg, hs, hd⟩ p, p.ke 0 rfl i0, p.ke 1 rfl i1, p.ke 5 rfl i5, p.ou 7 32 rfl, trivial⟩)
 rintro a k ⟨⟨hg, hs, hd⟩, i0, i1, i5, i32, _⟩
 refine wp_cond_split (isBool i32) (fun hc1945 => ?_) (fun hc1945 => ?_)
 ·rw [if_pos hc1945] at hr
  refine stepL 2 (_ :: _ :: []) rfl ⟨hg, hs, hd⟩ (by kernel_rfl) ⟨mu rfl i5, cp 0 rfl rfl, trivial⟩ [⟨_, _⟩] (fun b q p => ⟨p.ou 1 4 rfl, trivial⟩) ?_
  rintro a k ⟨⟨hg, hs, hd⟩, i4, _⟩
  refine wp_ret ?_
  obtain rfl := Option.some.inj hr
  exact retC1 rfl hd hg i4
 rw [if_neg (by rw [hc1945]; decide)] at hr
 refine wp_skip ?_
 refine wp_seq ?_
 obtain ⟨x1807_1, hx1807_1, hr⟩ := bind_some hr
 refine cut (fun a' k' => Bs noF k0 237 a' k' ∧ (IsV a_) (a'.get 0) k' ∧ (IsV b_) (a'.get 1) k' ∧ (IsV x1802_0) (a'.get 5) k' ∧ (IsV x1807_1.1) (a'.get 6) k' ∧ (IsV x1807_1.2) (a'.get 7) k' ∧ True) ?_ hQ ?_
 ·intro Q1943 hQQ1943 hp1944
  refine gS 7 (_ :: _ :: _ :: _ :: _ :: _ :: _ :: []) hs (by kernel_rfl) ⟨mu rfl i0, o1 [(35, some 0)] rfl fun _ _ h n => ok_call rfl Try.call9 (solid_Of_ok n.1 hx1807_1), cm 1 rfl rfl, o1 [(34, some 2)] rfl fun _ _ h n => ok_ext2_0 rfl n.1, o1 [(34, some 2)] rfl fun _ _ h n => ok_ext2_1 rfl n.1, cp 3 rfl rfl, cp 4 rfl rfl, trivial⟩ hQQ1943 fun b q p => ?_
  exact tail_done (k := q) (hp1944 _ _ ⟨Bs.post ⟨hg, hs, hd⟩ p, p.ke 0 rfl i0, p.ke 1 rfl i1, p.ke 5 rfl i5, p.ou 5 6 rfl, p.ou 6 7 rfl, trivial⟩)
 rintro a k ⟨⟨hg, hs, hd⟩, i0, i1, i5, i6, i7, _⟩
 refine wp_seq ?_
 obtain ⟨x1808_1, hx1808_1, hr⟩ := bind_some hr
 refine cut (fun a' k' => Bs noF k0 237 a' k' ∧ (IsV a_) (a'.get 0) k' ∧ (IsV b_) (a'.get 1) k' ∧ (IsV x1802_0) (a'.get 5) k' ∧ (IsV x1807_1.1) (a'.get 6) k' ∧ (IsV x1807_1.2) (a'.get 7) k' ∧ (IsV x1808_1.1) (a'.get 8) k' ∧ (IsV x1808_1.2) (a'.get 9) k' ∧ True) ?_ hQ ?_
 ·intro Q1941 hQQ1941 hp1942
  refine gS 7 (_ :: _ :: _ :: _ :: _ :: _ :: _ :: []) hs (by kernel_rfl) ⟨mu rfl i1, o1 [(40, some 0)] rfl fun _ _ h n => ok_call rfl Try.call9 (solid_Of_ok n.1 hx1808_1), cm 1 rfl rfl, o1 [(39, some 2)] rfl fun _ _ h n => ok_ext2_0 rfl n.1, o1 [(39, some 2)] rfl fun _ _ h n => ok_ext2_1 rfl n.1, cp 3 rfl rfl, cp 4 rfl rfl, trivial⟩ hQQ1941 fun b q p => ?_
  exact tail_done (k := q) (hp1942 _ _ ⟨Bs.post ⟨hg, hs, hd⟩ p, p.ke 0 rfl i0, p.ke 1 rfl i1, p.ke 5 rfl i5, p.ke 6 rfl i6, p.ke 7 rfl i7, p.ou 5 8 rfl, p.ou 6 9 rfl, trivial⟩)
 rintro a k ⟨⟨hg, hs, hd⟩, i0, i1, i5, i6, i7, i8, i9, _⟩
 refine wp_seq ?_
 obtain ⟨x1809_2, hx1809_2, hr⟩ := bind_some hr
 refine cut (fun a' k' => Bs noF k0 237 a' k' ∧ (IsV a_) (a'.get 0) k' ∧ (IsV b_) (a'.get 1) k' ∧ (IsV x1802_0) (a'.get 5) k' ∧ (IsV x1807_1.1) (a'.get 6) k' ∧ (IsV x1807_1.2) (a'.get 7) k' ∧ (IsV x1808_1.1) (a'.get 8) k' ∧ (IsV x1808_1.2) (a'.get 9) k' ∧ (IsV x1809_2.1) (a'.get 10) k' ∧ (IsV x1809_2.2) (a'.get 11) k' ∧ True) ?_ hQ ?_
 ·intro Q1939 hQQ1939 hp1940
  refine gS 8 (_ :: _ :: _ :: _ :: _ :: _ :: _ :: _ :: []) hs (by kernel_rfl) ⟨mu rfl i6, mu rfl i8, o1 [(45, some 0), (46, some 1)] rfl fun _ _ h n => ok_call rfl Try.call14 (solid_Union_ok n.1 n.2.1 hx1809_2), cm 2 rfl rfl, o1 [(44, some 3)] rfl fun _ _ h n => ok_ext2_0 rfl n.1, o1 [(44, some 3)] rfl fun _ _ h n => ok_ext2_1 rfl n.1, cp 4 rfl rfl, cp 5 rfl rfl, trivial⟩ hQQ1939 fun b q p => ?_
  exact tail_done (k := q) (hp1940 _ _ ⟨Bs.post ⟨hg, hs, hd⟩ p, p.ke 0 rfl i0, p.ke 1 rfl i1, p.ke 5 rfl i5, p.ke 6 rfl i6, p.ke 7 rfl i7, p.ke 8 rfl i8, p.ke 9 rfl i9, p.ou 6 10 rfl, p.ou 7 11 rfl, trivial⟩)
 rintro a k ⟨⟨hg, hs, hd⟩, i0, i1, i5, i6, i7, i8, i9, i10, i11, _⟩
 refine wp_seq ?_
 obtain ⟨x1810_2, hx1810_2, hr⟩ := bind_some hr
 refine cut (fun a' k' => Bs noF k0 237 a' k' ∧ (IsV a_) (a'.get 0) k' ∧ (IsV b_) (a'.get 1) k' ∧ (IsV x1802_0) (a'.get 5) k' ∧ (IsV x1807_1.1) (a'.get 6) k' ∧ (IsV x1807_1.2) (a'.get 7) k' ∧ (IsV x1808_1.1) (a'.get 8) k' ∧ (IsV x1808_1.2) (a'.get 9) k' ∧ (IsV x1809_2.1) (a'.get 10) k' ∧ (IsV x1809_2.2) (a'.get 11) k' ∧ (IsV x1810_2.1) (a'.get 12) k' ∧ (IsV x1810_2.2) (a'.get 13) k' ∧ True) ?_ hQ ?_
 ·intro Q1937 hQQ1937 hp1938
  refine gS 8 (_ :: _ :: _ :: _ :: _ :: _ :: _ :: _ :: []) hs (by kernel_rfl) ⟨mu rfl i6, mu rfl i8, o1 [(51, some 0), (52, some 1)] rfl fun _ _ h n => ok_call rfl Try.call15 (solid_Common_ok n.1 n.2.1 hx1810_2), cm 2 rfl rfl, o1 [(50, some 3)] rfl fun _ _ h n => ok_ext2_0 rfl n.1, o1 [(50, some 3)] rfl fun _ _ h n => ok_ext2_1 rfl n.1, cp 4 rfl rfl, cp 5 rfl rfl, trivial⟩ hQQ1937 fun b q p => ?_
  exact tail_done (k := q) (hp1938 _ _ ⟨Bs.post ⟨hg, hs, hd⟩ p, p.ke 0 rfl i0, p.ke 1 rfl i1, p.ke 5 rfl i5, p.ke 6 rfl i6, p.ke 7 rfl i7, p.ke 8 rfl i8, p.ke 9 rfl i9, p.ke 10 rfl i10, p.ke 11 rfl i11, p.ou 6 12 rfl, p.ou 7 13 rfl, trivial⟩)
 rintro a k ⟨⟨hg, hs, hd⟩, i0, i1, i5, i6, i7, i8, i9, i10, i11, i12, i13, _⟩
 refine wp_seq ?_
 obtain ⟨x1811_2, hx1811_2, hr⟩ := bind_some hr
 refine cut (fun a' k' => Bs noF k0 237 a' k' ∧ (IsV a_) (a'.get 0) k' ∧ (IsV b_) (a'.get 1) k' ∧ (IsV x1802_0) (a'.get 5) k' ∧ (IsV x1807_1.1) (a'.get 6) k' ∧ (IsV x1807_1.2) (a'.get 7) k' ∧ (IsV x1808_1.1) (a'.get 8) k' ∧ (IsV x1808_1.2) (a'.get 9) k' ∧ (IsV x1809_2.1) (a'.get 10) k' ∧ (IsV x1809_2.2) (a'.get 11) k' ∧ (IsV x1810_2.1) (a'.get 12) k' ∧ (IsV x1810_2.2) (a'.get 13) k' ∧ (IsV x1811_2.1) (a'.get 14) k' ∧ (IsV x1811_2.2) (a'.get 15) k' ∧ True) ?_ hQ ?_
 ·intro Q1935 hQQ1935 hp1936
  refine gS 8 (_ :: _ :: _ :: _ :: _ :: _ :: _ :: _ :: []) hs (by kernel_rfl) ⟨mu rfl i6, mu rfl i8, o1 [(57, some 0), (58, some 1)] rfl fun _ _ h n => ok_call rfl Try.call16 (solid_Minus_ok n.1 n.2.1 hx1811_2), cm 2 rfl rfl, o1 [(56, some 3)] rfl fun _ _ h n => ok_ext2_0 rfl n.1, o1 [(56, some 3)] rfl fun _ _ h n => ok_ext2_1 rfl n.1, cp 4 rfl rfl, cp 5 rfl rfl, trivial⟩ hQQ1935 fun b q p => ?_
  exact tail_done (k := q) (hp1936 _ _ ⟨Bs.post ⟨hg, hs, hd⟩ p, p.ke 0 rfl i0, p.ke 1 rfl i1, p.ke 5 rfl i5, p.ke 6 rfl i6, p.ke 7 rfl i7, p.ke 8 rfl i8, p.ke 9 rfl i9, p.ke 10 rfl i10, p.ke 11 rfl i11, p.ke 12 rfl i12, p.ke 13 rfl i13, p.ou 6 14 rfl, p.ou 7 15 rfl, trivial⟩)
 rintro a k ⟨⟨hg, hs, hd⟩, i0, i1, i5, i6, i7, i8, i9, i10, i11, i12, i13, i14, i15, _⟩
 refine wp_seq ?_
 refine wp_seq ?_
 obtain ⟨x1812_22, hx1812_22, hr⟩ := bind_some hr
 obtain ⟨x1812_20, hx1812_20, hx1812_22⟩ := ite_bindF hx1812_22
 obtain ⟨x1812_27, hx1812_27, hr⟩ := bind_some hr
 obtain ⟨x1812_25, hx1812_25, hx1812_27⟩ := ite_bindF hx1812_27
 obtain ⟨x1812_32, hx1812_32, hr⟩ := bind_some hr
 obtain ⟨x1812_30, hx1812_30, hx1812_32⟩ := ite_bindF hx1812_32
 obtain ⟨x1812_37, hx1812_37, hr⟩ := bind_some hr
 obtain ⟨x1812_35, hx1812_35, hx1812_37⟩ := ite_bindF hx1812_37
 refine cut (fun a' k' => Bs noF k0 237 a' k' ∧ (IsV a_) (a'.get 0) k' ∧ (IsV b_) (a'.get 1) k' ∧ (IsV x1802_0) (a'.get 5) k' ∧ (IsV x1807_1.1) (a'.get 6) k' ∧ (IsV x1808_1.1) (a'.get 8) k' ∧ (IsV x1809_2.1) (a'.get 10) k' ∧ (IsV x1810_2.1) (a'.get 12) k' ∧ (IsV x1811_2.1) (a'.get 14) k' ∧ (IsV x1812_37) (a'.get 99) k' ∧ True) ?_ hQ ?_
 ·intro Q1933 hQQ1933 hp1934
  refine gS 38 (_ :: ⟨some (IsV (x1807_1.2 != 0)), [(62, some 0)]⟩ :: _ :: _ :: ⟨some (Gd ((x1807_1.2 != 0) = false) (IsV (x1808_1.2 != 0))), [(65, some 3)]⟩ :: _ :: _ :: _ :: ⟨some (Gd (((x1807_1.2 != 0) || (x1808_1.2 != 0)) = false) (IsV (x1809_2.2 != 0))), [(69, some 7)]⟩ :: _ :: _ :: _ :: ⟨some (Gd ((((x1807_1.2 != 0) || (x1808_1.2 != 0)) || (x1809_2.2 != 0)) = false) (IsV (x1810_2.2 != 0))), [(73, some 11)]⟩ :: _ :: _ :: _ :: ⟨some (Gd (((((x1807_1.2 != 0) || (x1808_1.2 != 0)) || (x1809_2.2 != 0)) || (x1810_2.2 != 0)) = false) (IsV (x1811_2.2 != 0))), [(77, some 15)]⟩ :: _ :: _ :: _ :: _ :: _ :: _ :: _ :: _ :: _ :: _ :: _ :: _ :: _ :: _ :: _ :: _ :: _ :: _ :: _ :: _ :: _ :: []) hs (by kernel_rfl) ⟨mu rfl i7, ob1 rfl fun _ _ h n => ok_neI rfl n.1 (cI rfl), cm 1 rfl rfl, mF rfl rfl i9, gdF rfl rfl fun hp _ _ h n => ok_neI rfl (Gd.get n.1 hp) (cI rfl), o1 [(64, some 2), (66, some 4)] rfl fun _ _ h n => ok_pickOr rfl n.1 (cB rfl) (Gd.get n.2.1), cm 5 rfl rfl, mF rfl rfl i11, gdF rfl rfl fun hp _ _ h n => ok_neI rfl (Gd.get n.1 hp) (cI rfl), o1 [(68, some 6), (70, some 8)] rfl fun _ _ h n => ok_pickOr rfl n.1 (cB rfl) (Gd.get n.2.1), cm 9 rfl rfl, mF rfl rfl i13, gdF rfl rfl fun hp _ _ h n => ok_neI rfl (Gd.get n.1 hp) (cI rfl), o1 [(72, some 10), (74, some 12)] rfl fun _ _ h n => ok_pickOr rfl n.1 (cB rfl) (Gd.get n.2.1), cm 13 rfl rfl, mF rfl rfl i15, gdF rfl rfl fun hp _ _ h n => ok_neI rfl (Gd.get n.1 hp) (cI rfl), o1 [(76, some 14), (78, some 16)] rfl fun _ _ h n => ok_pickOr rfl n.1 (cB rfl) (Gd.get n.2.1), cm 17 rfl rfl, mF rfl rfl i6, gF [(81, some 19)] rfl rfl fun hp _ _ h n => ok_call rfl Try.call17 (solid_Right_ok (Gd.get n.1 hp) (hx1812_20 hp)), gF [(82, some 20)] rfl rfl fun hp _ _ h n => ok_not rfl (Gd.get n.1 hp), o1 [(80, some 18), (83, some 21)] rfl fun _ _ h n => ok_pickM rfl n.1 hx1812_22 (cB rfl) (Gd.get n.2.1), cm 22 rfl rfl, mF rfl rfl i10, gF [(86, some 24)] rfl rfl fun hp _ _ h n => ok_call rfl Try.call17 (solid_Right_ok (Gd.get n.1 hp) (hx1812_25 hp)), gF [(87, some 25)] rfl rfl fun hp _ _ h n => ok_not rfl (Gd.get n.1 hp), o1 [(85, some 23), (88, some 26)] rfl fun _ _ h n => ok_pickM rfl n.1 hx1812_27 (cB rfl) (Gd.get n.2.1), cm 27 rfl rfl, mF rfl rfl i12, gF [(91, some 29)] rfl rfl fun hp _ _ h n => ok_call rfl Try.call17 (solid_Right_ok (Gd.get n.1 hp) (hx1812_30 hp)), gF [(92, some 30)] rfl rfl fun hp _ _ h n => ok_not rfl (Gd.get n.1 hp), o1 [(90, some 28), (93, some 31)] rfl fun _ _ h n => ok_pickM rfl n.1 hx1812_32 (cB rfl) (Gd.get n.2.1), cm 32 rfl rfl, mF rfl rfl i14, gF [(96, some 34)] rfl rfl fun hp _ _ h n => ok_call rfl Try.call17 (solid_Right_ok (Gd.get n.1 hp) (hx1812_35 hp)), gF [(97, some 35)] rfl rfl fun hp _ _ h n => ok_not rfl (Gd.get n.1 hp), o1 [(95, some 33), (98, some 36)] rfl fun _ _ h n => ok_pickM rfl n.1 hx1812_37 (cB rfl) (Gd.get n.2.1), trivial⟩ hQQ1933 fun b q p => ?_
  exact tail_done (k := q) (hp1934 _ _ ⟨Bs.post ⟨hg, hs, hd⟩ p, p.ke 0 rfl i0, p.ke 1 rfl i1, p.ke 5 rfl i5, p.ke 6 rfl i6, p.ke 8 rfl i8, p.ke 10 rfl i10, p.ke 12 rfl i12, p.ke 14 rfl i14, p.ou 37 99 rfl, trivial⟩)
 rintro a k ⟨⟨hg, hs, hd⟩, i0, i1, i5, i6, i8, i10, i12, i14, i99, _⟩
 refine wp_cond_split (isBool i99) (fun hc1932 => ?_) (fun hc1932 => ?_)
 ·rw [if_pos hc1932] at hr
  refine stepL 1 (⟨some (IsV false), []⟩ :: []) rfl ⟨hg, hs, hd⟩ (by kernel_rfl) ⟨ob1 rfl fun _ _ h n => ok_assign rfl (isV_bool.2 rfl), trivial⟩ [⟨_, _⟩] (fun b q p => ⟨p.ou 0 4 rfl, trivial⟩) ?_
  rintro a k ⟨⟨hg, hs, hd⟩, i4, _⟩
  refine wp_ret ?_
  obtain rfl := Option.some.inj hr
  exact retC1 rfl hd hg i4
 rw [if_neg (by rw [hc1932]; decide)] at hr
 refine wp_skip ?_
 refine stepL 1 (⟨some (IsI 0), []⟩ :: []) rfl ⟨hg, hs, hd⟩ (by kernel_rfl) ⟨aI rfl rfl, trivial⟩ [⟨_, _⟩, ⟨_, _⟩, ⟨_, _⟩, ⟨_, _⟩, ⟨_, _⟩, ⟨_, _⟩, ⟨_, _⟩, ⟨_, _⟩, ⟨_, _⟩] (fun b q p => ⟨p.ke 0 rfl i0, p.ke 1 rfl i1, p.ke 5 rfl i5, p.ke 6 rfl i6, p.ke 8 rfl i8, p.ke 10 rfl i10, p.ke 12 rfl i12, p.ke 14 rfl i14, p.ou 0 16 rfl, trivial⟩) ?_
 rintro a k ⟨⟨hg, hs, hd⟩, i0, i1, i5, i6, i8, i10, i12, i14, i16, _⟩
 refine stepL 1 (⟨some (IsI 0), []⟩ :: []) rfl ⟨hg, hs, hd⟩ (by kernel_rfl) ⟨aI rfl rfl, trivial⟩ [⟨_, _⟩, ⟨_, _⟩, ⟨_, _⟩, ⟨_, _⟩, ⟨_, _⟩, ⟨_, _⟩, ⟨_, _⟩, ⟨_, _⟩, ⟨_, _⟩, ⟨_, _⟩] (fun b q p => ⟨p.ke 0 rfl i0, p.ke 1 rfl i1, p.ke 5 rfl i5, p.ke 6 rfl i6, p.ke 8 rfl i8, p.ke 10 rfl i10, p.ke 12 rfl i12, p.ke 14 rfl i14, p.ke 16 rfl i16, p.ou 0 17 rfl, trivial⟩) ?_
 rintro a k ⟨⟨hg, hs, hd⟩, i0, i1, i5, i6, i8, i10, i12, i14, i16, i17, _⟩
 refine stepL 1 (⟨some (IsI 0), []⟩ :: []) rfl ⟨hg, hs, hd⟩ (by kernel_rfl) ⟨aI rfl rfl, trivial⟩ [⟨_, _⟩, ⟨_, _⟩, ⟨_, _⟩, ⟨_, _⟩, ⟨_, _⟩, ⟨_, _⟩, ⟨_, _⟩, ⟨_, _⟩, ⟨_, _⟩, ⟨_, _⟩, ⟨_, _⟩] (fun b q p => ⟨p.ke 0 rfl i0, p.ke 1 rfl i1, p.ke 5 rfl i5, p.ke 6 rfl i6, p.ke 8 rfl i8, p.ke 10 rfl i10, p.ke 12 rfl i12, p.ke 14 rfl i14, p.ke 16 rfl i16, p.ke 17 rfl i17, p.ou 0 18 rfl, trivial⟩) ?_
 rintro a k ⟨⟨hg, hs, hd⟩, i0, i1, i5, i6, i8, i10, i12, i14, i16, i17, i18, _⟩
 refine wp_seq ?_
 refine stepL 1 (⟨some (IsI 0), []⟩ :: []) rfl ⟨hg, hs, hd⟩ (by kernel_rfl) ⟨aI rfl rfl, trivial⟩ [⟨_, _⟩, ⟨_, _⟩, ⟨_, _⟩, ⟨_, _⟩, ⟨_, _⟩, ⟨_, _⟩, ⟨_, _⟩, ⟨_, _⟩, ⟨_, _⟩, ⟨_, _⟩, ⟨_, _⟩, ⟨_, _⟩] (fun b q p => ⟨p.ke 0 rfl i0, p.ke 1 rfl i1, p.ke 5 rfl i5, p.ke 6 rfl i6, p.ke 8 rfl i8, p.ke 10 rfl i10, p.ke 12 rfl i12, p.ke 14 rfl i14, p.ke 16 rfl i16, p.ke 17 rfl i17, p.ke 18 rfl i18, p.ou 0 19 rfl, trivial⟩) ?_
 rintro a k ⟨⟨hg, hs, hd⟩, i0, i1, i5, i6, i8, i10, i12, i14, i16, i17, i18, i19, _⟩
 refine wp_block ?_
 obtain ⟨f1910, hf1910, hr⟩ := bind_some hr
 refine cutFe f1910 (fun s' a' k' => Bs noF k0 237 a' k' ∧ (IsV a_) (a'.get 0) k' ∧ (IsV b_) (a'.get 1) k' ∧ (IsV x1802_0) (a'.get 5) k' ∧ (IsV x1807_1.1) (a'.get 6) k' ∧ (IsV x1808_1.1) (a'.get 8) k' ∧ (IsV x1809_2.1) (a'.get 10) k' ∧ (IsV x1810_2.1) (a'.get 12) k' ∧ (IsV x1811_2.1) (a'.get 14) k' ∧ (IsV s'.1) (a'.get 16) k' ∧ (IsV s'.2.1) (a'.get 17) k' ∧ (IsV s'.2.2.1) (a'.get 18) k' ∧ (IsV s'.2.2.2) (a'.get 19) k' ∧ True) (fun i' s' a' k' => (i' = 0 ∧ Bs noF k0 237 a' k' ∧ (IsV x1802_0) (a'.get 5) k' ∧ (IsV x1807_1.1) (a'.get 6) k' ∧ (IsV x1808_1.1) (a'.get 8) k' ∧ (IsV x1809_2.1) (a'.get 10) k' ∧ (IsV x1810_2.1) (a'.get 12) k' ∧ (IsV x1811_2.1) (a'.get 14) k' ∧ (IsV s'.1) (a'.get 16) k' ∧ (IsV s'.2.1) (a'.get 17) k' ∧ (IsV s'.2.2.1) (a'.get 18) k' ∧ True)) (fun r' a' k' => bodyPost Try.prog Try.f4 (RetC noF k0 (IsV r')) .ret a' k'.w) ?_ hQ ?_ ?_ ?_
 ·intro Q1923 hQQ1923 hgo hex hret
  refine sim_loop ?_ _ _ _ _ _ hf1910 ⟨⟨hg, hs, hd⟩, i0, i1, i5, i6, i8, i10, i12, i14, i16, i17, i18, i19, trivial⟩ Q1923 hQQ1923 hgo hex hret
  clear hr hf1910 hgo hex hret hQQ1923 hQ hg hs hd i0 i1 i10 i12 i14 i16 i17 i18 i19 i5 i6 i8
  intro s1820 fl_ a k hr hS Q hQ hgo1821 hex1822 hret1823
  obtain ⟨⟨hg, hs, hd⟩, i0, i1, i5, i6, i8, i10, i12, i14, i16, i17, i18, i19, _⟩ := hS
  unfold law09_SolidCubes_L0 at hr
  refine wp_seq ?_
  refine stepL 2 (_ :: _ :: []) rfl ⟨hg, hs, hd⟩ (by kernel_rfl) ⟨mu rfl i19, o1 [(100, some 0)] rfl fun _ _ h n => ok_lss rfl n.1 (cI rfl), trivial⟩ [⟨_, _⟩, ⟨_, _⟩, ⟨_, _⟩, ⟨_, _⟩, ⟨_, _⟩, ⟨_, _⟩, ⟨_, _⟩, ⟨_, _⟩, ⟨_, _⟩, ⟨_, _⟩, ⟨_, _⟩, ⟨_, _⟩, ⟨_, _⟩] (fun b q p => ⟨p.ke 0 rfl i0, p.ke 1 rfl i1, p.ke 5 rfl i5, p.ke 6 rfl i6, p.ke 8 rfl i8, p.ke 10 rfl i10, p.ke 12 rfl i12, p.ke 14 rfl i14, p.ke 16 rfl i16, p.ke 17 rfl i17, p.ke 18 rfl i18, p.ke 19 rfl i19, p.ou 1 101 rfl, trivial⟩) ?_
  rintro a k ⟨⟨hg, hs, hd⟩, i0, i1, i5, i6, i8, i10, i12, i14, i16, i17, i18, i19, i101, _⟩
  refine wp_cond_split (isBool i101) (fun hc1907 => ?_) (fun hc1907 => ?_)
  ·rw [if_pos hc1907] at hr
   refine wp_skip ?_
   refine wp_seq ?_
   refine wp_block ?_
   refine stepL 1 (⟨some (IsI 0), []⟩ :: []) rfl ⟨hg, hs, hd⟩ (by kernel_rfl) ⟨aI rfl rfl, trivial⟩ [⟨_, _⟩, ⟨_, _⟩, ⟨_, _⟩, ⟨_, _⟩, ⟨_, _⟩, ⟨_, _⟩, ⟨_, _⟩, ⟨_, _⟩, ⟨_, _⟩, ⟨_, _⟩, ⟨_, _⟩, ⟨_, _⟩, ⟨_, _⟩] (fun b q p => ⟨p.ke 0 rfl i0, p.ke 1 rfl i1, p.ke 5 rfl i5, p.ke 6 rfl i6, p.ke 8 rfl i8, p.ke 10 rfl i10, p.ke 12 rfl i12, p.ke 14 rfl i14, p.ke 16 rfl i16, p.ke 17 rfl i17, p.ke 18 rfl i18, p.ke 19 rfl i19, p.ou 0 20 rfl, trivial⟩) ?_
   rintro a k ⟨⟨hg, hs, hd⟩, i0, i1, i5, i6, i8, i10, i12, i14, i16, i17, i18, i19, i20, _⟩
   refine wp_block ?_
   obtain ⟨f1898, hf1898, hr⟩ := bind_some hr
   refine cutFe f1898 (fun s' a' k' => Bs noF k0 237 a' k' ∧ (IsV a_) (a'.get 0) k' ∧ (IsV b_) (a'.get 1) k' ∧ (IsV x1802_0) (a'.get 5) k' ∧ (IsV x1807_1.1) (a'.get 6) k' ∧ (IsV x1808_1.1) (a'.get 8) k' ∧ (IsV x1809_2.1) (a'.get 10) k' ∧ (IsV x1810_2.1) (a'.get 12) k' ∧ (IsV x1811_2.1) (a'.get 14) k' ∧ (IsV s'.1) (a'.get 16) k' ∧ (IsV s'.2.1) (a'.get 17) k' ∧ (IsV s'.2.2.1) (a'.get 18) k' ∧ (IsV s1820.2.2.2) (a'.get 19) k' ∧ (IsV s'.2.2.2) (a'.get 20) k' ∧ True) (fun i' s' a' k' => (i' = 2 ∧ Bs noF k0 237 a' k' ∧ (IsV a_) (a'.get 0) k' ∧ (IsV b_) (a'.get 1) k' ∧ (IsV x1802_0) (a'.get 5) k' ∧ (IsV x1807_1.1) (a'.get 6) k' ∧ (IsV x1808_1.1) (a'.get 8) k' ∧ (IsV x1809_2.1) (a'.get 10) k' ∧ (IsV x1810_2.1) (a'.get 12) k' ∧ (IsV x1811_2.1) (a'.get 14) k' ∧ (IsV s'.1) (a'.get 16) k' ∧ (IsV s'.2.1) (a'.get 17) k' ∧ (IsV s'.2.2.1) (a'.get 18) k' ∧ (IsV s1820.2.2.2) (a'.get 19) k' ∧ True)) (fun r' a' k' => bodyPost Try.prog Try.f4 (RetC noF k0 (IsV r')) .ret a' k'.w) ?_ hQ ?_ ?_ ?_
   ·intro Q1904 hQQ1904 hgo hex hret
    refine sim_loop ?_ _ _ _ _ _ hf1898 ⟨⟨hg, hs, hd⟩, i0, i1, i5, i6, i8, i10, i12, i14, i16, i17, i18, i19, i20, trivial⟩ Q1904 hQQ1904 hgo hex hret
    clear hr hf1898 hgo hex hret hQQ1904 hQ hg hs hd i0 i1 i10 i12 i14 i16 i17 i18 i19 i20 i5 i6 i8
    intro s1826 fl_ a k hr hS Q hQ hgo1827 hex1828 hret1829
    obtain ⟨⟨hg, hs, hd⟩, i0, i1, i5, i6, i8, i10, i12, i14, i16, i17, i18, i19, i20, _⟩ := hS
    unfold law09_SolidCubes_L1 at hr
    refine wp_seq ?_
    refine stepL 2 (_ :: _ :: []) rfl ⟨hg, hs, hd⟩ (by kernel_rfl) ⟨mu rfl i20, o1 [(104, some 0)] rfl fun _ _ h n => ok_lss rfl n.1 (cI rfl), trivial⟩ [⟨_, _⟩, ⟨_, _⟩, ⟨_, _⟩, ⟨_, _⟩, ⟨_, _⟩, ⟨_, _⟩, ⟨_, _⟩, ⟨_, _⟩, ⟨_, _⟩, ⟨_, _⟩, ⟨_, _⟩, ⟨_, _⟩, ⟨_, _⟩, ⟨_, _⟩] (fun b q p => ⟨p.ke 0 rfl i0, p.ke 1 rfl i1, p.ke 5 rfl i5, p.ke 6 rfl i6, p.ke 8 rfl i8, p.ke 10 rfl i10, p.ke 12 rfl i12, p.ke 14 rfl i14, p.ke 16 rfl i16, p.ke 17 rfl i17, p.ke 18 rfl i18, p.ke 19 rfl i19, p.ke 20 rfl i20, p.ou 1 105 rfl, trivial⟩) ?_
    rintro a k ⟨⟨hg, hs, hd⟩, i0, i1, i5, i6, i8, i10, i12, i14, i16, i17, i18, i19, i20, i105, _⟩
    refine wp_cond_split (isBool i105) (fun hc1895 => ?_) (fun hc1895 => ?_)
    ·rw [if_pos hc1895] at hr
     refine wp_skip ?_
     refine wp_seq ?_
     refine wp_block ?_
     refine stepL 1 (⟨some (IsI 0), []⟩ :: []) rfl ⟨hg, hs, hd⟩ (by kernel_rfl) ⟨aI rfl rfl, trivial⟩ [⟨_, _⟩, ⟨_, _⟩, ⟨_, _⟩, ⟨_, _⟩, ⟨_, _⟩, ⟨_, _⟩, ⟨_, _⟩, ⟨_, _⟩, ⟨_, _⟩, ⟨_, _⟩, ⟨_, _⟩, ⟨_, _⟩, ⟨_, _⟩, ⟨_, _⟩] (fun b q p => ⟨p.ke 0 rfl i0, p.ke 1 rfl i1, p.ke 5 rfl i5, p.ke 6 rfl i6, p.ke 8 rfl i8, p.ke 10 rfl i10, p.ke 12 rfl i12, p.ke 14 rfl i14, p.ke 16 rfl i16, p.ke 17 rfl i17, p.ke 18 rfl i18, p.ke 19 rfl i19, p.ke 20 rfl i20, p.ou 0 21 rfl, trivial⟩) ?_
     rintro a k ⟨⟨hg, hs, hd⟩, i0, i1, i5, i6, i8, i10, i12, i14, i16, i17, i18, i19, i20, i21, _⟩
     refine wp_block ?_
     obtain ⟨f1886, hf1886, hr⟩ := bind_some hr
     refine cutFe f1886 (fun s' a' k' => Bs noF k0 237 a' k' ∧ (IsV a_) (a'.get 0) k' ∧ (IsV b_) (a'.get 1) k' ∧ (IsV x1802_0) (a'.get 5) k' ∧ (IsV x1807_1.1) (a'.get 6) k' ∧ (IsV x1808_1.1) (a'.get 8) k' ∧ (IsV x1809_2.1) (a'.get 10) k' ∧ (IsV x1810_2.1) (a'.get 12) k' ∧ (IsV x1811_2.1) (a'.get 14) k' ∧ (IsV s'.1) (a'.get 16) k' ∧ (IsV s'.2.1) (a'.get 17) k' ∧ (IsV s'.2.2.1) (a'.get 18) k' ∧ (IsV s1820.2.2.2) (a'.get 19) k' ∧ (IsV s1826.2.2.2) (a'.get 20) k' ∧ (IsV s'.2.2.2) (a'.get 21) k' ∧ True) (fun i' s' a' k' => (i' = 4 ∧ Bs noF k0 237 a' k' ∧ (IsV a_) (a'.get 0) k' ∧ (IsV b_) (a'.get 1) k' ∧ (IsV x1802_0) (a'.get 5) k' ∧ (IsV x1807_1.1) (a'.get 6) k' ∧ (IsV x1808_1.1) (a'.get 8) k' ∧ (IsV x1809_2.1) (a'.get 10) k' ∧ (IsV x1810_2.1) (a'.get 12) k' ∧ (IsV x1811_2.1) (a'.get 14) k' ∧ (IsV s'.1) (a'.get 16) k' ∧ (IsV s'.2.1) (a'.get 17) k' ∧ (IsV s'.2.2.1) (a'.get 18) k' ∧ (IsV s1820.2.2.2) (a'.get 19) k' ∧ (IsV s1826.2.2.2) (a'.get 20) k' ∧ True)) (fun r' a' k' => bodyPost Try.prog Try.f4 (RetC noF k0 (IsV r')) .ret a' k'.w) ?_ hQ ?_ ?_ ?_
     ·intro Q1892 hQQ1892 hgo hex hret
      refine sim_loop ?_ _ _ _ _ _ hf1886 ⟨⟨hg, hs, hd⟩, i0, i1, i5, i6, i8, i10, i12, i14, i16, i17, i18, i19, i20, i21, trivial⟩ Q1892 hQQ1892 hgo hex hret
      clear hr hf1886 hgo hex hret hQQ1892 hQ hg hs hd i0 i1 i10 i12 i14 i16 i17 i18 i19 i20 i21 i5 i6 i8
      intro s1832 fl_ a k hr hS Q hQ hgo1833 hex1834 hret1835
      obtain ⟨⟨hg, hs, hd⟩, i0, i1, i5, i6, i8, i10, i12, i14, i16, i17, i18, i19, i20, i21, _⟩ := hS
      unfold law09_SolidCubes_L2 at hr
      refine wp_seq ?_
      refine stepL 2 (_ :: _ :: []) rfl ⟨hg, hs, hd⟩ (by kernel_rfl) ⟨mu rfl i21, o1 [(108, some 0)] rfl fun _ _ h n => ok_lss rfl n.1 (cI rfl), trivial⟩ [⟨_, _⟩, ⟨_, _⟩, ⟨_, _⟩, ⟨_, _⟩, ⟨_, _⟩, ⟨_, _⟩, ⟨_, _⟩, ⟨_, _⟩, ⟨_, _⟩, ⟨_, _⟩, ⟨_, _⟩, ⟨_, _⟩, ⟨_, _⟩, ⟨_, _⟩, ⟨_, _⟩] (fun b q p => ⟨p.ke 0 rfl i0, p.ke 1 rfl i1, p.ke 5 rfl i5, p.ke 6 rfl i6, p.ke 8 rfl i8, p.ke 10 rfl i10, p.ke 12 rfl i12, p.ke 14 rfl i14, p.ke 16 rfl i16, p.ke 17 rfl i17, p.ke 18 rfl i18, p.ke 19 rfl i19, p.ke 20 rfl i20, p.ke 21 rfl i21, p.ou 1 109 rfl, trivial⟩) ?_
      rintro a k ⟨⟨hg, hs, hd⟩, i0, i1, i5, i6, i8, i10, i12, i14, i16, i17, i18, i19, i20, i21, i109, _⟩
      refine wp_cond_split (isBool i109) (fun hc1883 => ?_) (fun hc1883 => ?_)
      ·rw [if_pos hc1883] at hr
       refine wp_skip ?_
       refine wp_seq ?_
       refine wp_block ?_
       refine wp_seq ?_
       obtain ⟨x1837_4, hx1837_4, hr⟩ := bind_some hr
       refine cut (fun a' k' => Bs noF k0 237 a' k' ∧ (IsV a_) (a'.get 0) k' ∧ (IsV b_) (a'.get 1) k' ∧ (IsV x1802_0) (a'.get 5) k' ∧ (IsV x1807_1.1) (a'.get 6) k' ∧ (IsV x1808_1.1) (a'.get 8) k' ∧ (IsV x1809_2.1) (a'.get 10) k' ∧ (IsV x1810_2.1) (a'.get 12) k' ∧ (IsV x1811_2.1) (a'.get 14) k' ∧ (IsV s1832.1) (a'.get 16) k' ∧ (IsV s1832.2.1) (a'.get 17) k' ∧ (IsV s1832.2.2.1) (a'.get 18) k' ∧ (IsV s1820.2.2.2) (a'.get 19) k' ∧ (IsV s1826.2.2.2) (a'.get 20) k' ∧ (IsV s1832.2.2.2) (a'.get 21) k' ∧ (IsV x1837_4) (a'.get 22) k' ∧ True) ?_ hQ ?_
       ·intro Q1881 hQQ1881 hp1882
        refine gS 6 (_ :: _ :: _ :: _ :: _ :: _ :: []) hs (by kernel_rfl) ⟨mu rfl i0, mu rfl i20, mu rfl i21, mu rfl i19, o1 [(112, some 0), (113, some 1), (114, some 2), (115, some 3)] rfl fun _ _ h n => ok_call rfl Try.call18 (law09_covered_ok n.1 n.2.1 n.2.2.1 n.2.2.2.1 hx1837_4), cp 4 rfl rfl, trivial⟩ hQQ1881 fun b q p => ?_
        exact tail_done (k := q) (hp1882 _ _ ⟨Bs.post ⟨hg, hs, hd⟩ p, p.ke 0 rfl i0, p.ke 1 rfl i1, p.ke 5 rfl i5, p.ke 6 rfl i6, p.ke 8 rfl i8, p.ke 10 rfl i10, p.ke 12 rfl i12, p.ke 14 rfl i14, p.ke 16 rfl i16, p.ke 17 rfl i17, p.ke 18 rfl i18, p.ke 19 rfl i19, p.ke 20 rfl i20, p.ke 21 rfl i21, p.ou 5 22 rfl, trivial⟩)
       rintro a k ⟨⟨hg, hs, hd⟩, i0, i1, i5, i6, i8, i10, i12, i14, i16, i17, i18, i19, i20, i21, i22, _⟩
       refine wp_seq ?_
       obtain ⟨x1838_4, hx1838_4, hr⟩ := bind_some hr
       refine cut (fun a' k' => Bs noF k0 237 a' k' ∧ (IsV a_) (a'.get 0) k' ∧ (IsV b_) (a'.get 1) k' ∧ (IsV x1802_0) (a'.get 5) k' ∧ (IsV x1807_1.1) (a'.get 6) k' ∧ (IsV x1808_1.1) (a'.get 8) k' ∧ (IsV x1809_2.1) (a'.get 10) k' ∧ (IsV x1810_2.1) (a'.get 12) k' ∧ (IsV x1811_2.1) (a'.get 14) k' ∧ (IsV s1832.1) (a'.get 16) k' ∧ (IsV s1832.2.1) (a'.get 17) k' ∧ (IsV s1832.2.2.1) (a'.get 18) k' ∧ (IsV s1820.2.2.2) (a'.get 19) k' ∧ (IsV s1826.2.2.2) (a'.get 20) k' ∧ (IsV s1832.2.2.2) (a'.get 21) k' ∧ (IsV x1837_4) (a'.get 22) k' ∧ (IsV x1838_4) (a'.get 23) k' ∧ True) ?_ hQ ?_
       ·intro Q1879 hQQ1879 hp1880
        refine gS 6 (_ :: _ :: _ :: _ :: _ :: _ :: []) hs (by kernel_rfl) ⟨mu rfl i1, mu rfl i20, mu rfl i21, mu rfl i19, o1 [(117, some 0), (118, some 1), (119, some 2), (120, some 3)] rfl fun _ _ h n => ok_call rfl Try.call18 (law09_covered_ok n.1 n.2.1 n.2.2.1 n.2.2.2.1 hx1838_4), cp 4 rfl rfl, trivial⟩ hQQ1879 fun b q p => ?_
        exact tail_done (k := q) (hp1880 _ _ ⟨Bs.post ⟨hg, hs, hd⟩ p, p.ke 0 rfl i0, p.ke 1 rfl i1, p.ke 5 rfl i5, p.ke 6 rfl i6, p.ke 8 rfl i8, p.ke 10 rfl i10, p.ke 12 rfl i12, p.ke 14 rfl i14, p.ke 16 rfl i16, p.ke 17 rfl i17, p.ke 18 rfl i18, p.ke 19 rfl i19, p.ke 20 rfl i20, p.ke 21 rfl i21, p.ke 22 rfl i22, p.ou 5 23 rfl, trivial⟩)
       rintro a k ⟨⟨hg, hs, hd⟩, i0, i1, i5, i6, i8, i10, i12, i14, i16, i17, i18, i19, i20, i21, i22, i23, _⟩
       refine wp_seq ?_
       refine wp_seq ?_
       obtain ⟨x1839_4, hx1839_4, hr⟩ := bind_some hr
       obtain ⟨x1839_18, hx1839_18, hr⟩ := bind_some hr
       obtain ⟨x1839_12, hx1839_12, hx1839_18⟩ := ite_bindF hx1839_18
       obtain ⟨x1839_30, hx1839_30, hr⟩ := bind_some hr
       obtain ⟨x1839_24, hx1839_24, hx1839_30⟩ := ite_bindF hx1839_30
       obtain ⟨x1839_43, hx1839_43, hr⟩ := bind_some hr
       obtain ⟨x1839_36, hx1839_36, hx1839_43⟩ := ite_bindF hx1839_43
       refine cut (fun a' k' => Bs noF k0 237 a' k' ∧ (IsV a_) (a'.get 0) k' ∧ (IsV b_) (a'.get 1) k' ∧ (IsV x1802_0) (a'.get 5) k' ∧ (IsV x1807_1.1) (a'.get 6) k' ∧ (IsV x1808_1.1) (a'.get 8) k' ∧ (IsV x1809_2.1) (a'.get 10) k' ∧ (IsV x1810_2.1) (a'.get 12) k' ∧ (IsV x1811_2.1) (a'.get 14) k' ∧ (IsV s1832.1) (a'.get 16) k' ∧ (IsV s1832.2.1) (a'.get 17) k' ∧ (IsV s1832.2.2.1) (a'.get 18) k' ∧ (IsV s1820.2.2.2) (a'.get 19) k' ∧ (IsV s1826.2.2.2) (a'.get 20) k' ∧ (IsV s1832.2.2.2) (a'.get 21) k' ∧ (IsV x1837_4) (a'.get 22) k' ∧ (IsV x1838_4) (a'.get 23) k' ∧ (IsV x1839_43) (a'.get 165) k' ∧ True) ?_ hQ ?_
       ·intro Q1877 hQQ1877 hp1878
        refine gS 44 (_ :: _ :: _ :: _ :: _ :: _ :: ⟨some (IsV (x1839_4 != x1837_4)), [(126, some 4), (127, some 5)]⟩ :: _ :: _ :: _ :: _ :: _ :: _ :: _ :: ⟨some (Gd ((x1839_4 != x1837_4) = false) (IsV x1837_4)), [(135, some 13)]⟩ :: ⟨some (Gd (((x1839_4 != x1837_4) = false) ∧ x1837_4 = false) (IsV x1838_4)), [(23, none)]⟩ :: _ :: ⟨some (Gd ((x1839_4 != x1837_4) = false) (IsV (x1839_12 != (x1837_4 || x1838_4)))), [(134, some 12), (138, some 16)]⟩ :: _ :: _ :: _ :: _ :: _ :: _ :: _ :: _ :: ⟨some (Gd (x1839_18 = false) (IsV x1837_4)), [(147, some 25)]⟩ :: ⟨some (Gd ((x1839_18 = false) ∧ x1837_4 = true) (IsV x1838_4)), [(23, none)]⟩ :: _ :: ⟨some (Gd (x1839_18 = false) (IsV (x1839_24 != (x1837_4 && x1838_4)))), [(146, some 24), (150, some 28)]⟩ :: _ :: _ :: _ :: _ :: _ :: _ :: _ :: _ :: ⟨some (Gd (x1839_30 = false) (IsV x1837_4)), [(159, some 37)]⟩ :: ⟨some (Gd ((x1839_30 = false) ∧ x1837_4 = true) (IsV x1838_4)), [(23, none)]⟩ :: ⟨some (Gd ((x1839_30 = false) ∧ x1837_4 = true) (IsV (!x1838_4))), [(161, some 39)]⟩ :: _ :: ⟨some (Gd (x1839_30 = false) (IsV (x1839_36 != (x1837_4 && (!x1838_4))))), [(158, some 36), (163, some 41)]⟩ :: _ :: []) hs (by kernel_rfl) ⟨mu rfl i6, mu rfl i20, mu rfl i21, mu rfl i19, o1 [(122, some 0), (123, some 1), (124, some 2), (125, some 3)] rfl fun _ _ h n => ok_call rfl Try.call19 (solid_Has_ok n.1 n.2.1 n.2.2.1 n.2.2.2.1 hx1839_4), mu rfl i22, ob1 rfl fun _ _ h n => ok_neB rfl Try.underlying4 n.1 n.2.1, cm 6 rfl rfl, mF rfl rfl i10, mF rfl rfl i20, mF rfl rfl i21, mF rfl rfl i19, gF [(130, some 8), (131, some 9), (132, some 10), (133, some 11)] rfl rfl fun hp _ _ h n => ok_call rfl Try.call19 (solid_Has_ok (Gd.get n.1 hp) (Gd.get n.2.1 hp) (Gd.get n.2.2.1 hp) (Gd.get n.2.2.2.1 hp) (hx1839_12 hp)), mF rfl rfl i22, gdF rfl rfl fun hp _ _ h n => ok_move rfl (Gd.get n.1 hp), gdTF rfl rfl fun hp b q h n => ok_move rfl (up i23 h n.1), gF [(136, some 14), (137, some 15)] rfl rfl fun hp _ _ h n => ok_pickOr rfl (Gd.get n.1 hp) (cB rfl) (fun hm => (Gd.get n.2.1 ⟨hp, hm⟩)), gdF rfl rfl fun hp _ _ h n => ok_neB rfl Try.underlying4 (Gd.get n.1 hp) (Gd.get n.2.1 hp), o1 [(129, some 7), (139, some 17)] rfl fun _ _ h n => ok_pickM rfl n.1 hx1839_18 (cB rfl) (Gd.get n.2.1), cm 18 rfl rfl, mF rfl rfl i12, mF rfl rfl i20, mF rfl rfl i21, mF rfl rfl i19, gF [(142, some 20), (143, some 21), (144, some 22), (145, some 23)] rfl rfl fun hp _ _ h n => ok_call rfl Try.call19 (solid_Has_ok (Gd.get n.1 hp) (Gd.get n.2.1 hp) (Gd.get n.2.2.1 hp) (Gd.get n.2.2.2.1 hp) (hx1839_24 hp)), mF rfl rfl i22, gdF rfl rfl fun hp _ _ h n => ok_move rfl (Gd.get n.1 hp), gdTT rfl rfl fun hp b q h n => ok_move rfl (up i23 h n.1), gF [(148, some 26), (149, some 27)] rfl rfl fun hp _ _ h n => ok_pickAnd rfl (Gd.get n.1 hp) (fun hm => (Gd.get n.2.1 ⟨hp, hm⟩)) (cB rfl), gdF rfl rfl fun hp _ _ h n => ok_neB rfl Try.underlying4 (Gd.get n.1 hp) (Gd.get n.2.1 hp), o1 [(141, some 19), (151, some 29)] rfl fun _ _ h n => ok_pickM rfl n.1 hx1839_30 (cB rfl) (Gd.get n.2.1), cm 30 rfl rfl, mF rfl rfl i14, mF rfl rfl i20, mF rfl rfl i21, mF rfl rfl i19, gF [(154, some 32), (155, some 33), (156, some 34), (157, some 35)] rfl rfl fun hp _ _ h n => ok_call rfl Try.call19 (solid_Has_ok (Gd.get n.1 hp) (Gd.get n.2.1 hp) (Gd.get n.2.2.1 hp) (Gd.get n.2.2.2.1 hp) (hx1839_36 hp)), mF rfl rfl i22, gdF rfl rfl fun hp _ _ h n => ok_move rfl (Gd.get n.1 hp), gdTT rfl rfl fun hp b q h n => ok_move rfl (up i23 h n.1), gdTT rfl rfl fun hp b q h n => ok_not rfl (Gd.get n.1 hp), gF [(160, some 38), (162, some 40)] rfl rfl fun hp _ _ h n => ok_pickAnd rfl (Gd.get n.1 hp) (fun hm => (Gd.get n.2.1 ⟨hp, hm⟩)) (cB rfl), gdF rfl rfl fun hp _ _ h n => ok_neB rfl Try.underlying4 (Gd.get n.1 hp) (Gd.get n.2.1 hp), o1 [(153, some 31), (164, some 42)] rfl fun _ _ h n => ok_pickM rfl n.1 hx1839_43 (cB rfl) (Gd.get n.2.1), trivial⟩ hQQ1877 fun b q p => ?_
        exact tail_done (k := q) (hp1878 _ _ ⟨Bs.post ⟨hg, hs, hd⟩ p, p.ke 0 rfl i0, p.ke 1 rfl i1, p.ke 5 rfl i5, p.ke 6 rfl i6, p.ke 8 rfl i8, p.ke 10 rfl i10, p.ke 12 rfl i12, p.ke 14 rfl i14, p.ke 16 rfl i16, p.ke 17 rfl i17, p.ke 18 rfl i18, p.ke 19 rfl i19, p.ke 20 rfl i20, p.ke 21 rfl i21, p.ke 22 rfl i22, p.ke 23 rfl i23, p.ou 43 165 rfl, trivial⟩)
       rintro a k ⟨⟨hg, hs, hd⟩, i0, i1, i5, i6, i8, i10, i12, i14, i16, i17, i18, i19, i20, i21, i22, i23, i165, _⟩
       refine wp_cond_split (isBool i165) (fun hc1876 => ?_) (fun hc1876 => ?_)
       ·rw [if_pos hc1876] at hr
        refine stepL 1 (⟨some (IsV false), []⟩ :: []) rfl ⟨hg, hs, hd⟩ (by kernel_rfl) ⟨ob1 rfl fun _ _ h n => ok_assign rfl (isV_bool.2 rfl), trivial⟩ [⟨_, _⟩] (fun b q p => ⟨p.ou 0 4 rfl, trivial⟩) ?_
        rintro a k ⟨⟨hg, hs, hd⟩, i4, _⟩
        refine wp_ret ?_
        exact hret1835 _ _ _ (Option.some.inj hr).symm (retC1 rfl hd hg i4)
       rw [if_neg (by rw [hc1876]; decide)] at hr
       refine wp_skip ?_
       refine wp_seq ?_
       refine stepL 1 (_ :: []) rfl ⟨hg, hs, hd⟩ (by kernel_rfl) ⟨mu rfl i22, trivial⟩ [⟨_, _⟩, ⟨_, _⟩, ⟨_, _⟩, ⟨_, _⟩, ⟨_, _⟩, ⟨_, _⟩, ⟨_, _⟩, ⟨_, _⟩, ⟨_, _⟩, ⟨_, _⟩, ⟨_, _⟩, ⟨_, _⟩, ⟨_, _⟩, ⟨_, _⟩, ⟨_, _⟩, ⟨_, _⟩, ⟨_, _⟩] (fun b q p => ⟨p.ke 0 rfl i0, p.ke 1 rfl i1, p.ke 5 rfl i5, p.ke 6 rfl i6, p.ke 8 rfl i8, p.ke 10 rfl i10, p.ke 12 rfl i12, p.ke 14 rfl i14, p.ke 16 rfl i16, p.ke 17 rfl i17, p.ke 18 rfl i18, p.ke 19 rfl i19, p.ke 20 rfl i20, p.ke 21 rfl i21, p.ke 22 rfl i22, p.ke 23 rfl i23, p.ou 0 166 rfl, trivial⟩) ?_
       rintro a k ⟨⟨hg, hs, hd⟩, i0, i1, i5, i6, i8, i10, i12, i14, i16, i17, i18, i19, i20, i21, i22, i23, i166, _⟩
       obtain ⟨s1844, hs1844, hr⟩ := bind_some hr
       refine cut (fun a' k' => Bs noF k0 237 a' k' ∧ (IsV a_) (a'.get 0) k' ∧ (IsV b_) (a'.get 1) k' ∧ (IsV x1802_0) (a'.get 5) k' ∧ (IsV x1807_1.1) (a'.get 6) k' ∧ (IsV x1808_1.1) (a'.get 8) k' ∧ (IsV x1809_2.1) (a'.get 10) k' ∧ (IsV x1810_2.1) (a'.get 12) k' ∧ (IsV x1811_2.1) (a'.get 14) k' ∧ (IsV s1844) (a'.get 16) k' ∧ (IsV s1832.2.1) (a'.get 17) k' ∧ (IsV s1832.2.2.1) (a'.get 18) k' ∧ (IsV s1820.2.2.2) (a'.get 19) k' ∧ (IsV s1826.2.2.2) (a'.get 20) k' ∧ (IsV s1832.2.2.2) (a'.get 21) k' ∧ (IsV x1837_4) (a'.get 22) k' ∧ (IsV x1838_4) (a'.get 23) k' ∧ True) ?_ hQ ?_
       ·intro Q1873 hQQ1873 hp1845
        replace hr := hs1844
        clear hQ
        have hQ := hQQ1873
        refine wp_cond_split (isBool i166) (fun hc1849 => ?_) (fun hc1849 => ?_)
        ·rw [if_pos hc1849] at hr
         obtain ⟨x1846_1, hx1846_1, hr⟩ := bind_some hr
         refine cut (fun a' k' => Bs noF k0 237 a' k' ∧ (IsV a_) (a'.get 0) k' ∧ (IsV b_) (a'.get 1) k' ∧ (IsV x1802_0) (a'.get 5) k' ∧ (IsV x1807_1.1) (a'.get 6) k' ∧ (IsV x1808_1.1) (a'.get 8) k' ∧ (IsV x1809_2.1) (a'.get 10) k' ∧ (IsV x1810_2.1) (a'.get 12) k' ∧ (IsV x1811_2.1) (a'.get 14) k' ∧ (IsV x1846_1) (a'.get 16) k' ∧ (IsV s1832.2.1) (a'.get 17) k' ∧ (IsV s1832.2.2.1) (a'.get 18) k' ∧ (IsV s1820.2.2.2) (a'.get 19) k' ∧ (IsV s1826.2.2.2) (a'.get 20) k' ∧ (IsV s1832.2.2.2) (a'.get 21) k' ∧ (IsV x1837_4) (a'.get 22) k' ∧ (IsV x1838_4) (a'.get 23) k' ∧ True) ?_ hQ ?_
         ·intro Q1847 hQQ1847 hp1848
          refine gS 3 (_ :: _ :: _ :: []) hs (by kernel_rfl) ⟨mu rfl i16, o1 [(167, some 0)] rfl fun _ _ h n => ok_add rfl n.1 (cI rfl) hx1846_1, cp 1 rfl rfl, trivial⟩ hQQ1847 fun b q p => ?_
          exact tail_done (k := q) (hp1848 _ _ ⟨Bs.post ⟨hg, hs, hd⟩ p, p.ke 0 rfl i0, p.ke 1 rfl i1, p.ke 5 rfl i5, p.ke 6 rfl i6, p.ke 8 rfl i8, p.ke 10 rfl i10, p.ke 12 rfl i12, p.ke 14 rfl i14, p.ou 2 16 rfl, p.ke 17 rfl i17, p.ke 18 rfl i18, p.ke 19 rfl i19, p.ke 20 rfl i20, p.ke 21 rfl i21, p.ke 22 rfl i22, p.ke 23 rfl i23, trivial⟩)
         rintro a k ⟨⟨hg, hs, hd⟩, i0, i1, i5, i6, i8, i10, i12, i14, i16, i17, i18, i19, i20, i21, i22, i23, _⟩
         obtain rfl := Option.some.inj hr
         exact hp1845 _ _ ⟨⟨hg, hs, hd⟩, i0, i1, i5, i6, i8, i10, i12, i14, i16, i17, i18, i19, i20, i21, i22, i23, trivial⟩
        rw [if_neg (by rw [hc1849]; decide)] at hr
        refine wp_skip ?_
        obtain rfl := Option.some.inj hr
        exact hp1845 _ _ ⟨⟨hg, hs, hd⟩, i0, i1, i5, i6, i8, i10, i12, i14, i16, i17, i18, i19, i20, i21, i22, i23, trivial⟩
       clear hs1844
       rintro a k ⟨⟨hg, hs, hd⟩, i0, i1, i5, i6, i8, i10, i12, i14, i16, i17, i18, i19, i20, i21, i22, i23, _⟩
       refine wp_seq ?_
       refine stepL 1 (_ :: []) rfl ⟨hg, hs, hd⟩ (by kernel_rfl) ⟨mu rfl i23, trivial⟩ [⟨_, _⟩, ⟨_, _⟩, ⟨_, _⟩, ⟨_, _⟩, ⟨_, _⟩, ⟨_, _⟩, ⟨_, _⟩, ⟨_, _⟩, ⟨_, _⟩, ⟨_, _⟩, ⟨_, _⟩, ⟨_, _⟩, ⟨_, _⟩, ⟨_, _⟩, ⟨_, _⟩, ⟨_, _⟩, ⟨_, _⟩] (fun b q p => ⟨p.ke 0 rfl i0, p.ke 1 rfl i1, p.ke 5 rfl i5, p.ke 6 rfl i6, p.ke 8 rfl i8, p.ke 10 rfl i10, p.ke 12 rfl i12, p.ke 14 rfl i14, p.ke 16 rfl i16, p.ke 17 rfl i17, p.ke 18 rfl i18, p.ke 19 rfl i19, p.ke 20 rfl i20, p.ke 21 rfl i21, p.ke 22 rfl i22, p.ke 23 rfl i23, p.ou 0 169 rfl, trivial⟩) ?_
       rintro a k ⟨⟨hg, hs, hd⟩, i0, i1, i5, i6, i8, i10, i12, i14, i16, i17, i18, i19, i20, i21, i22, i23, i169, _⟩
       obtain ⟨s1851, hs1851, hr⟩ := bind_some hr
       refine cut (fun a' k' => Bs noF k0 237 a' k' ∧ (IsV a_) (a'.get 0) k' ∧ (IsV b_) (a'.get 1) k' ∧ (IsV x1802_0) (a'.get 5) k' ∧ (IsV x1807_1.1) (a'.get 6) k' ∧ (IsV x1808_1.1) (a'.get 8) k' ∧ (IsV x1809_2.1) (a'.get 10) k' ∧ (IsV x1810_2.1) (a'.get 12) k' ∧ (IsV x1811_2.1) (a'.get 14) k' ∧ (IsV s1844) (a'.get 16) k' ∧ (IsV s1851) (a'.get 17) k' ∧ (IsV s1832.2.2.1) (a'.get 18) k' ∧ (IsV s1820.2.2.2) (a'.get 19) k' ∧ (IsV s1826.2.2.2) (a'.get 20) k' ∧ (IsV s1832.2.2.2) (a'.get 21) k' ∧ (IsV x1837_4) (a'.get 22) k' ∧ (IsV x1838_4) (a'.get 23) k' ∧ True) ?_ hQ ?_
       ·intro Q1870 hQQ1870 hp1852
        replace hr := hs1851
        clear hQ
        have hQ := hQQ1870
        refine wp_cond_split (isBool i169) (fun hc1856 => ?_) (fun hc1856 => ?_)
        ·rw [if_pos hc1856] at hr
         obtain ⟨x1853_1, hx1853_1, hr⟩ := bind_some hr
         refine cut (fun a' k' => Bs noF k0 237 a' k' ∧ (IsV a_) (a'.get 0) k' ∧ (IsV b_) (a'.get 1) k' ∧ (IsV x1802_0) (a'.get 5) k' ∧ (IsV x1807_1.1) (a'.get 6) k' ∧ (IsV x1808_1.1) (a'.get 8) k' ∧ (IsV x1809_2.1) (a'.get 10) k' ∧ (IsV x1810_2.1) (a'.get 12) k' ∧ (IsV x1811_2.1) (a'.get 14) k' ∧ (IsV s1844) (a'.get 16) k' ∧ (IsV x1853_1) (a'.get 17) k' ∧ (IsV s1832.2.2.1) (a'.get 18) k' ∧ (IsV s1820.2.2.2) (a'.get 19) k' ∧ (IsV s1826.2.2.2) (a'.get 20) k' ∧ (IsV s1832.2.2.2) (a'.get 21) k' ∧ (IsV x1837_4) (a'.get 22) k' ∧ (IsV x1838_4) (a'.get 23) k' ∧ True) ?_ hQ ?_
         ·intro Q1854 hQQ1854 hp1855
          refine gS 3 (_ :: _ :: _ :: []) hs (by kernel_rfl) ⟨mu rfl i17, o1 [(170, some 0)] rfl fun _ _ h n => ok_add rfl n.1 (cI rfl) hx1853_1, cp 1 rfl rfl, trivial⟩ hQQ1854 fun b q p => ?_
          exact tail_done (k := q) (hp1855 _ _ ⟨Bs.post ⟨hg, hs, hd⟩ p, p.ke 0 rfl i0, p.ke 1 rfl i1, p.ke 5 rfl i5, p.ke 6 rfl i6, p.ke 8 rfl i8, p.ke 10 rfl i10, p.ke 12 rfl i12, p.ke 14 rfl i14, p.ke 16 rfl i16, p.ou 2 17 rfl, p.ke 18 rfl i18, p.ke 19 rfl i19, p.ke 20 rfl i20, p.ke 21 rfl i21, p.ke 22 rfl i22, p.ke 23 rfl i23, trivial⟩)
         rintro a k ⟨⟨hg, hs, hd⟩, i0, i1, i5, i6, i8, i10, i12, i14, i16, i17, i18, i19, i20, i21, i22, i23, _⟩
         obtain rfl := Option.some.inj hr
         exact hp1852 _ _ ⟨⟨hg, hs, hd⟩, i0, i1, i5, i6, i8, i10, i12, i14, i16, i17, i18, i19, i20, i21, i22, i23, trivial⟩
        rw [if_neg (by rw [hc1856]; decide)] at hr
        refine wp_skip ?_
        obtain rfl := Option.some.inj hr
        exact hp1852 _ _ ⟨⟨hg, hs, hd⟩, i0, i1, i5, i6, i8, i10, i12, i14, i16, i17, i18, i19, i20, i21, i22, i23, trivial⟩
       clear hs1851
       rintro a k ⟨⟨hg, hs, hd⟩, i0, i1, i5, i6, i8, i10, i12, i14, i16, i17, i18, i19, i20, i21, i22, i23, _⟩
       refine stepL 4 (_ :: _ :: _ :: _ :: []) rfl ⟨hg, hs, hd⟩ (by kernel_rfl) ⟨mu rfl i22, cm 0 rfl rfl, mT rfl rfl i23, o1 [(173, some 1), (174, some 2)] rfl fun _ _ h n => ok_pickAnd rfl n.1 (Gd.get n.2.1) (cB rfl), trivial⟩ [⟨_, _⟩, ⟨_, _⟩, ⟨_, _⟩, ⟨_, _⟩, ⟨_, _⟩, ⟨_, _⟩, ⟨_, _⟩, ⟨_, _⟩, ⟨_, _⟩, ⟨_, _⟩, ⟨_, _⟩, ⟨_, _⟩, ⟨_, _⟩, ⟨_, _⟩, ⟨_, _⟩] (fun b q p => ⟨p.ke 0 rfl i0, p.ke 1 rfl i1, p.ke 5 rfl i5, p.ke 6 rfl i6, p.ke 8 rfl i8, p.ke 10 rfl i10, p.ke 12 rfl i12, p.ke 14 rfl i14, p.ke 16 rfl i16, p.ke 17 rfl i17, p.ke 18 rfl i18, p.ke 19 rfl i19, p.ke 20 rfl i20, p.ke 21 rfl i21, p.ou 3 175 rfl, trivial⟩) ?_
       rintro a k ⟨⟨hg, hs, hd⟩, i0, i1, i5, i6, i8, i10, i12, i14, i16, i17, i18, i19, i20, i21, i175, _⟩
       obtain ⟨s1858, hs1858, hr⟩ := bind_some hr
       refine cut (fun a' k' => Bs noF k0 237 a' k' ∧ (IsV a_) (a'.get 0) k' ∧ (IsV b_) (a'.get 1) k' ∧ (IsV x1802_0) (a'.get 5) k' ∧ (IsV x1807_1.1) (a'.get 6) k' ∧ (IsV x1808_1.1) (a'.get 8) k' ∧ (IsV x1809_2.1) (a'.get 10) k' ∧ (IsV x1810_2.1) (a'.get 12) k' ∧ (IsV x1811_2.1) (a'.get 14) k' ∧ (IsV s1844) (a'.get 16) k' ∧ (IsV s1851) (a'.get 17) k' ∧ (IsV s1858) (a'.get 18) k' ∧ (IsV s1820.2.2.2) (a'.get 19) k' ∧ (IsV s1826.2.2.2) (a'.get 20) k' ∧ (IsV s1832.2.2.2) (a'.get 21) k' ∧ True) ?_ hQ ?_
       ·intro Q1867 hQQ1867 hp1859
        replace hr := hs1858
        clear hQ
        have hQ := hQQ1867
        refine wp_cond_split (isBool i175) (fun hc1863 => ?_) (fun hc1863 => ?_)
        ·rw [if_pos hc1863] at hr
         obtain ⟨x1860_1, hx1860_1, hr⟩ := bind_some hr
         refine cut (fun a' k' => Bs noF k0 237 a' k' ∧ (IsV a_) (a'.get 0) k' ∧ (IsV b_) (a'.get 1) k' ∧ (IsV x1802_0) (a'.get 5) k' ∧ (IsV x1807_1.1) (a'.get 6) k' ∧ (IsV x1808_1.1) (a'.get 8) k' ∧ (IsV x1809_2.1) (a'.get 10) k' ∧ (IsV x1810_2.1) (a'.get 12) k' ∧ (IsV x1811_2.1) (a'.get 14) k' ∧ (IsV s1844) (a'.get 16) k' ∧ (IsV s1851) (a'.get 17) k' ∧ (IsV x1860_1) (a'.get 18) k' ∧ (IsV s1820.2.2.2) (a'.get 19) k' ∧ (IsV s1826.2.2.2) (a'.get 20) k' ∧ (IsV s1832.2.2.2) (a'.get 21) k' ∧ True) ?_ hQ ?_
         ·intro Q1861 hQQ1861 hp1862
          refine gS 3 (_ :: _ :: _ :: []) hs (by kernel_rfl) ⟨mu rfl i18, o1 [(176, some 0)] rfl fun _ _ h n => ok_add rfl n.1 (cI rfl) hx1860_1, cp 1 rfl rfl, trivial⟩ hQQ1861 fun b q p => ?_
          exact tail_done (k := q) (hp1862 _ _ ⟨Bs.post ⟨hg, hs, hd⟩ p, p.ke 0 rfl i0, p.ke 1 rfl i1, p.ke 5 rfl i5, p.ke 6 rfl i6, p.ke 8 rfl i8, p.ke 10 rfl i10, p.ke 12 rfl i12, p.ke 14 rfl i14, p.ke 16 rfl i16, p.ke 17 rfl i17, p.ou 2 18 rfl, p.ke 19 rfl i19, p.ke 20 rfl i20, p.ke 21 rfl i21, trivial⟩)
         rintro a k ⟨⟨hg, hs, hd⟩, i0, i1, i5, i6, i8, i10, i12, i14, i16, i17, i18, i19, i20, i21, _⟩
         obtain rfl := Option.some.inj hr
         exact hp1859 _ _ ⟨⟨hg, hs, hd⟩, i0, i1, i5, i6, i8, i10, i12, i14, i16, i17, i18, i19, i20, i21, trivial⟩
        rw [if_neg (by rw [hc1863]; decide)] at hr
        refine wp_skip ?_
        obtain rfl := Option.some.inj hr
        exact hp1859 _ _ ⟨⟨hg, hs, hd⟩, i0, i1, i5, i6, i8, i10, i12, i14, i16, i17, i18, i19, i20, i21, trivial⟩
       clear hs1858
       rintro a k ⟨⟨hg, hs, hd⟩, i0, i1, i5, i6, i8, i10, i12, i14, i16, i17, i18, i19, i20, i21, _⟩
       obtain ⟨x1864_1, hx1864_1, hr⟩ := bind_some hr
       refine cut (fun a' k' => Bs noF k0 237 a' k' ∧ (IsV a_) (a'.get 0) k' ∧ (IsV b_) (a'.get 1) k' ∧ (IsV x1802_0) (a'.get 5) k' ∧ (IsV x1807_1.1) (a'.get 6) k' ∧ (IsV x1808_1.1) (a'.get 8) k' ∧ (IsV x1809_2.1) (a'.get 10) k' ∧ (IsV x1810_2.1) (a'.get 12) k' ∧ (IsV x1811_2.1) (a'.get 14) k' ∧ (IsV s1844) (a'.get 16) k' ∧ (IsV s1851) (a'.get 17) k' ∧ (IsV s1858) (a'.get 18) k' ∧ (IsV s1820.2.2.2) (a'.get 19) k' ∧ (IsV s1826.2.2.2) (a'.get 20) k' ∧ (IsV x1864_1) (a'.get 21) k' ∧ True) ?_ hQ ?_
       ·intro Q1865 hQQ1865 hp1866
        refine gS 3 (_ :: _ :: _ :: []) hs (by kernel_rfl) ⟨mu rfl i21, o1 [(110, some 0)] rfl fun _ _ h n => ok_add rfl n.1 (cI rfl) hx1864_1, cp 1 rfl rfl, trivial⟩ hQQ1865 fun b q p => ?_
        exact tail_done (k := q) (hp1866 _ _ ⟨Bs.post ⟨hg, hs, hd⟩ p, p.ke 0 rfl i0, p.ke 1 rfl i1, p.ke 5 rfl i5, p.ke 6 rfl i6, p.ke 8 rfl i8, p.ke 10 rfl i10, p.ke 12 rfl i12, p.ke 14 rfl i14, p.ke 16 rfl i16, p.ke 17 rfl i17, p.ke 18 rfl i18, p.ke 19 rfl i19, p.ke 20 rfl i20, p.ou 2 21 rfl, trivial⟩)
       rintro a k ⟨⟨hg, hs, hd⟩, i0, i1, i5, i6, i8, i10, i12, i14, i16, i17, i18, i19, i20, i21, _⟩
       exact hgo1833 _ _ _ (Option.some.inj hr).symm ⟨⟨hg, hs, hd⟩, i0, i1, i5, i6, i8, i10, i12, i14, i16, i17, i18, i19, i20, i21, trivial⟩
      rw [if_neg (by rw [hc1883]; decide)] at hr
      refine wp_exit ?_
      exact hex1834 _ _ _ _ (Option.some.inj hr).symm ⟨rfl, ⟨hg, hs, hd⟩, i0, i1, i5, i6, i8, i10, i12, i14, i16, i17, i18, i19, i20, trivial⟩
     ·rintro r1891 a k rfl hR
      dsimp only at hr
      exact hret1829 _ _ _ (Option.some.inj hr).symm hR
     ·rintro _ _ _ rfl _
      simp at hr
     clear hf1886
     rintro _ s1887 a k rfl ⟨rfl, ⟨hg, hs, hd⟩, i0, i1, i5, i6, i8, i10, i12, i14, i16, i17, i18, i19, i20, _⟩
     dsimp only at hr
     obtain ⟨x1888_1, hx1888_1, hr⟩ := bind_some hr
     refine cut (fun a' k' => Bs noF k0 237 a' k' ∧ (IsV a_) (a'.get 0) k' ∧ (IsV b_) (a'.get 1) k' ∧ (IsV x1802_0) (a'.get 5) k' ∧ (IsV x1807_1.1) (a'.get 6) k' ∧ (IsV x1808_1.1) (a'.get 8) k' ∧ (IsV x1809_2.1) (a'.get 10) k' ∧ (IsV x1810_2.1) (a'.get 12) k' ∧ (IsV x1811_2.1) (a'.get 14) k' ∧ (IsV s1887.1) (a'.get 16) k' ∧ (IsV s1887.2.1) (a'.get 17) k' ∧ (IsV s1887.2.2.1) (a'.get 18) k' ∧ (IsV s1820.2.2.2) (a'.get 19) k' ∧ (IsV x1888_1) (a'.get 20) k' ∧ True) ?_ hQ ?_
     ·intro Q1889 hQQ1889 hp1890
      refine gS 3 (_ :: _ :: _ :: []) hs (by kernel_rfl) ⟨mu rfl i20, o1 [(106, some 0)] rfl fun _ _ h n => ok_add rfl n.1 (cI rfl) hx1888_1, cp 1 rfl rfl, trivial⟩ hQQ1889 fun b q p => ?_
      exact tail_done (k := q) (hp1890 _ _ ⟨Bs.post ⟨hg, hs, hd⟩ p, p.ke 0 rfl i0, p.ke 1 rfl i1, p.ke 5 rfl i5, p.ke 6 rfl i6, p.ke 8 rfl i8, p.ke 10 rfl i10, p.ke 12 rfl i12, p.ke 14 rfl i14, p.ke 16 rfl i16, p.ke 17 rfl i17, p.ke 18 rfl i18, p.ke 19 rfl i19, p.ou 2 20 rfl, trivial⟩)
     rintro a k ⟨⟨hg, hs, hd⟩, i0, i1, i5, i6, i8, i10, i12, i14, i16, i17, i18, i19, i20, _⟩
     exact hgo1827 _ _ _ (Option.some.inj hr).symm ⟨⟨hg, hs, hd⟩, i0, i1, i5, i6, i8, i10, i12, i14, i16, i17, i18, i19, i20, trivial⟩
    rw [if_neg (by rw [hc1895]; decide)] at hr
    refine wp_exit ?_
    exact hex1828 _ _ _ _ (Option.some.inj hr).symm ⟨rfl, ⟨hg, hs, hd⟩, i0, i1, i5, i6, i8, i10, i12, i14, i16, i17, i18, i19, trivial⟩
   ·rintro r1903 a k rfl hR
    dsimp only at hr
    exact hret1823 _ _ _ (Option.some.inj hr).symm hR
   ·rintro _ _ _ rfl _
    simp at hr
   clear hf1898
   rintro _ s1899 a k rfl ⟨rfl, ⟨hg, hs, hd⟩, i0, i1, i5, i6, i8, i10, i12, i14, i16, i17, i18, i19, _⟩
   dsimp only at hr
   obtain ⟨x1900_1, hx1900_1, hr⟩ := bind_some hr
   refine cut (fun a' k' => Bs noF k0 237 a' k' ∧ (IsV a_) (a'.get 0) k' ∧ (IsV b_) (a'.get 1) k' ∧ (IsV x1802_0) (a'.get 5) k' ∧ (IsV x1807_1.1) (a'.get 6) k' ∧ (IsV x1808_1.1) (a'.get 8) k' ∧ (IsV x1809_2.1) (a'.get 10) k' ∧ (IsV x1810_2.1) (a'.get 12) k' ∧ (IsV x1811_2.1) (a'.get 14) k' ∧ (IsV s1899.1) (a'.get 16) k' ∧ (IsV s1899.2.1) (a'.get 17) k' ∧ (IsV s1899.2.2.1) (a'.get 18) k' ∧ (IsV x1900_1) (a'.get 19) k' ∧ True) ?_ hQ ?_
   ·intro Q1901 hQQ1901 hp1902
    refine gS 3 (_ :: _ :: _ :: []) hs (by kernel_rfl) ⟨mu rfl i19, o1 [(102, some 0)] rfl fun _ _ h n => ok_add rfl n.1 (cI rfl) hx1900_1, cp 1 rfl rfl, trivial⟩ hQQ1901 fun b q p => ?_
    exact tail_done (k := q) (hp1902 _ _ ⟨Bs.post ⟨hg, hs, hd⟩ p, p.ke 0 rfl i0, p.ke 1 rfl i1, p.ke 5 rfl i5, p.ke 6 rfl i6, p.ke 8 rfl i8, p.ke 10 rfl i10, p.ke 12 rfl i12, p.ke 14 rfl i14, p.ke 16 rfl i16, p.ke 17 rfl i17, p.ke 18 rfl i18, p.ou 2 19 rfl, trivial⟩)
   rintro a k ⟨⟨hg, hs, hd⟩, i0, i1, i5, i6, i8, i10, i12, i14, i16, i17, i18, i19, _⟩
   exact hgo1821 _ _ _ (Option.some.inj hr).symm ⟨⟨hg, hs, hd⟩, i0, i1, i5, i6, i8, i10, i12, i14, i16, i17, i18, i19, trivial⟩
  rw [if_neg (by rw [hc1907]; decide)] at hr
  refine wp_exit ?_
  exact hex1822 _ _ _ _ (Option.some.inj hr).symm ⟨rfl, ⟨hg, hs, hd⟩, i5, i6, i8, i10, i12, i14, i16, i17, i18, trivial⟩
 ·rintro r1922 a k rfl hR
  dsimp only at hr
  obtain rfl := Option.some.inj hr
  exact hR
 ·rintro _ _ _ rfl _
  simp at hr
 clear hf1910
 rintro _ s1911 a k rfl ⟨rfl, ⟨hg, hs, hd⟩, i5, i6, i8, i10, i12, i14, i16, i17, i18, _⟩
 dsimp only at hr
 refine wp_seq ?_
 refine wp_seq ?_
 obtain ⟨x1912_1, hx1912_1, hr⟩ := bind_some hr
 obtain ⟨x1912_9, hx1912_9, hr⟩ := bind_some hr
 obtain ⟨x1912_6, hx1912_6, hx1912_9⟩ := ite_bindF hx1912_9
 obtain ⟨x1912_15, hx1912_15, hr⟩ := bind_some hr
 obtain ⟨x1912_12, hx1912_12, hx1912_15⟩ := ite_bindF hx1912_15
 obtain ⟨x1912_25, hx1912_25, hr⟩ := bind_some hr
 obtain ⟨x1912_18, hx1912_18, hx1912_25⟩ := ite_bindF hx1912_25
 obtain ⟨x1912_21, hx1912_21, hx1912_25⟩ := ite_bindF hx1912_25
 obtain ⟨x1912_23, hx1912_23, hx1912_25⟩ := ite_bindF hx1912_25
 obtain ⟨x1912_33, hx1912_33, hr⟩ := bind_some hr
 obtain ⟨x1912_28, hx1912_28, hx1912_33⟩ := ite_bindF hx1912_33
 obtain ⟨x1912_31, hx1912_31, hx1912_33⟩ := ite_bindF hx1912_33
 refine cut (fun a' k' => Bs noF k0 237 a' k' ∧ (IsV x1802_0) (a'.get 5) k' ∧ (IsV x1807_1.1) (a'.get 6) k' ∧ (IsV x1808_1.1) (a'.get 8) k' ∧ (IsV s1911.1) (a'.get 16) k' ∧ (IsV s1911.2.1) (a'.get 17) k' ∧ (IsV s1911.2.2.1) (a'.get 18) k' ∧ (IsV x1912_33) (a'.get 211) k' ∧ True) ?_ hQ ?_
 ·intro Q1920 hQQ1920 hp1921
  refine gS 34 (_ :: _ :: _ :: ⟨some (IsV (x1912_1 != s1911.1)), [(179, some 1), (180, some 2)]⟩ :: _ :: _ :: _ :: _ :: ⟨some (Gd ((x1912_1 != s1911.1) = false) (IsV (x1912_6 != s1911.2.1))), [(184, some 6), (185, some 7)]⟩ :: _ :: _ :: _ :: _ :: _ :: ⟨some (Gd (x1912_9 = false) (IsV (x1912_12 != s1911.2.2.1))), [(190, some 12), (191, some 13)]⟩ :: _ :: _ :: _ :: _ :: _ :: _ :: _ :: _ :: _ :: ⟨some (Gd (x1912_15 = false) (IsV (x1912_18 != x1912_23))), [(196, some 18), (201, some 23)]⟩ :: _ :: _ :: _ :: _ :: _ :: _ :: _ :: ⟨some (Gd (x1912_25 = false) (IsV (x1912_28 != x1912_31))), [(206, some 28), (209, some 31)]⟩ :: _ :: []) hs (by kernel_rfl) ⟨mu rfl i6, o1 [(178, some 0)] rfl fun _ _ h n => ok_call rfl Try.call12 (solid_Volume_ok n.1 hx1912_1), mu rfl i16, ob1 rfl fun _ _ h n => ok_neI rfl n.1 n.2.1, cm 3 rfl rfl, mF rfl rfl i8, gF [(183, some 5)] rfl rfl fun hp _ _ h n => ok_call rfl Try.call12 (solid_Volume_ok (Gd.get n.1 hp) (hx1912_6 hp)), mF rfl rfl i17, gdF rfl rfl fun hp _ _ h n => ok_neI rfl (Gd.get n.1 hp) (Gd.get n.2.1 hp), o1 [(182, some 4), (186, some 8)] rfl fun _ _ h n => ok_pickM rfl n.1 hx1912_9 (cB rfl) (Gd.get n.2.1), cm 9 rfl rfl, mF rfl rfl i12, gF [(189, some 11)] rfl rfl fun hp _ _ h n => ok_call rfl Try.call12 (solid_Volume_ok (Gd.get n.1 hp) (hx1912_12 hp)), mF rfl rfl i18, gdF rfl rfl fun hp _ _ h n => ok_neI rfl (Gd.get n.1 hp) (Gd.get n.2.1 hp), o1 [(188, some 10), (192, some 14)] rfl fun _ _ h n => ok_pickM rfl n.1 hx1912_15 (cB rfl) (Gd.get n.2.1), cm 15 rfl rfl, mF rfl rfl i10, gF [(195, some 17)] rfl rfl fun hp _ _ h n => ok_call rfl Try.call12 (solid_Volume_ok (Gd.get n.1 hp) (hx1912_18 hp)), mF rfl rfl i16, mF rfl rfl i17, gF [(197, some 19), (198, some 20)] rfl rfl fun hp _ _ h n => ok_add rfl (Gd.get n.1 hp) (Gd.get n.2.1 hp) (hx1912_21 hp), mF rfl rfl i18, gF [(199, some 21), (200, some 22)] rfl rfl fun hp _ _ h n => ok_sub rfl (Gd.get n.1 hp) (Gd.get n.2.1 hp) (hx1912_23 hp), gdF rfl rfl fun hp _ _ h n => ok_neI rfl (Gd.get n.1 hp) (Gd.get n.2.1 hp), o1 [(194, some 16), (202, some 24)] rfl fun _ _ h n => ok_pickM rfl n.1 hx1912_25 (cB rfl) (Gd.get n.2.1), cm 25 rfl rfl, mF rfl rfl i14, gF [(205, some 27)] rfl rfl fun hp _ _ h n => ok_call rfl Try.call12 (solid_Volume_ok (Gd.get n.1 hp) (hx1912_28 hp)), mF rfl rfl i16, mF rfl rfl i18, gF [(207, some 29), (208, some 30)] rfl rfl fun hp _ _ h n => ok_sub rfl (Gd.get n.1 hp) (Gd.get n.2.1 hp) (hx1912_31 hp), gdF rfl rfl fun hp _ _ h n => ok_neI rfl (Gd.get n.1 hp) (Gd.get n.2.1 hp), o1 [(204, some 26), (210, some 32)] rfl fun _ _ h n => ok_pickM rfl n.1 hx1912_33 (cB rfl) (Gd.get n.2.1), trivial⟩ hQQ1920 fun b q p => ?_
  exact tail_done (k := q) (hp1921 _ _ ⟨Bs.post ⟨hg, hs, hd⟩ p, p.ke 5 rfl i5, p.ke 6 rfl i6, p.ke 8 rfl i8, p.ke 16 rfl i16, p.ke 17 rfl i17, p.ke 18 rfl i18, p.ou 33 211 rfl, trivial⟩)
 rintro a k ⟨⟨hg, hs, hd⟩, i5, i6, i8, i16, i17, i18, i211, _⟩
 refine wp_cond_split (isBool i211) (fun hc1919 => ?_) (fun hc1919 => ?_)
 ·rw [if_pos hc1919] at hr
  refine stepL 1 (⟨some (IsV false), []⟩ :: []) rfl ⟨hg, hs, hd⟩ (by kernel_rfl) ⟨ob1 rfl fun _ _ h n => ok_assign rfl (isV_bool.2 rfl), trivial⟩ [⟨_, _⟩] (fun b q p => ⟨p.ou 0 4 rfl, trivial⟩) ?_
  rintro a k ⟨⟨hg, hs, hd⟩, i4, _⟩
  refine wp_ret ?_
  obtain rfl := Option.some.inj hr
  exact retC1 rfl hd hg i4
 rw [if_neg (by rw [hc1919]; decide)] at hr
 refine wp_skip ?_
 refine wp_seq ?_
 obtain ⟨x1916_14, hx1916_14, hr⟩ := bind_some hr
 obtain ⟨x1916_4, hx1916_4, hx1916_14⟩ := ite_bind hx1916_14
 obtain ⟨x1916_19, hx1916_19, hr⟩ := bind_some hr
 obtain ⟨x1916_17, hx1916_17, hx1916_19⟩ := ite_bind hx1916_19
 obtain ⟨x1916_24, hx1916_24, hr⟩ := bind_some hr
 obtain ⟨x1916_22, hx1916_22, hx1916_24⟩ := ite_bind hx1916_24
 refine cut (fun a' k' => Bs noF k0 237 a' k' ∧ (IsV x1916_24) (a'.get 4) k' ∧ True) ?_ hQ ?_
 ·intro Q1917 hQQ1917 hp1918
  refine gS 26 (_ :: _ :: _ :: _ :: _ :: _ :: _ :: _ :: ⟨some (Gd (x1802_0 = true) (IsV (s1911.1 == s1911.2.2.1))), [(219, some 7)]⟩ :: ⟨some (Gd ((x1802_0 = true) ∧ (s1911.1 == s1911.2.2.1) = true) (IsV s1911.2.1)), [(17, none)]⟩ :: ⟨some (Gd ((x1802_0 = true) ∧ (s1911.1 == s1911.2.2.1) = true) (IsV s1911.2.2.1)), [(18, none)]⟩ :: ⟨some (Gd ((x1802_0 = true) ∧ (s1911.1 == s1911.2.2.1) = true) (IsV (s1911.2.1 == s1911.2.2.1))), [(221, some 9), (222, some 10)]⟩ :: _ :: _ :: _ :: _ :: _ :: _ :: _ :: _ :: _ :: _ :: _ :: _ :: _ :: _ :: []) hs (by kernel_rfl) ⟨mu rfl i5, cm 0 rfl rfl, mT rfl rfl i6, mT rfl rfl i8, gT [(214, some 2), (215, some 3)] rfl rfl fun hp _ _ h n => ok_call rfl Try.call11 (solid_Same_ok (Gd.get n.1 hp) (Gd.get n.2.1 hp) (hx1916_4 hp)), mT rfl rfl i16, mT rfl rfl i18, gT [(217, some 5), (218, some 6)] rfl rfl fun hp _ _ h n => ok_eqI rfl (Gd.get n.1 hp) (Gd.get n.2.1 hp), gdT rfl rfl fun hp _ _ h n => ok_move rfl (Gd.get n.1 hp), gdTT rfl rfl fun hp b q h n => ok_move rfl (up i17 h n.1), gdTT rfl rfl fun hp b q h n => ok_move rfl (up i18 h n.1), gdTT rfl rfl fun hp b q h n => ok_eqI rfl (Gd.get n.1 hp) (Gd.get n.2.1 hp), gT [(220, some 8), (223, some 11)] rfl rfl fun hp _ _ h n => ok_pickAnd rfl (Gd.get n.1 hp) (fun hm => (Gd.get n.2.1 ⟨hp, hm⟩)) (cB rfl), gT [(216, some 4), (224, some 12)] rfl rfl fun hp _ _ h n => ok_eqB rfl Try.underlying4 (Gd.get n.1 hp) (Gd.get n.2.1 hp), o1 [(213, some 1), (225, some 13)] rfl fun _ _ h n => ok_pickM rfl n.1 hx1916_14 (Gd.get n.2.1) (cB rfl), cm 14 rfl rfl, mT rfl rfl i6, gT [(228, some 16)] rfl rfl fun hp _ _ h n => ok_call rfl Try.call19 (solid_Has_ok (Gd.get n.1 hp) (cI rfl) (cI rfl) (cI rfl) (hx1916_17 hp)), gT [(229, some 17)] rfl rfl fun hp _ _ h n => ok_not rfl (Gd.get n.1 hp), o1 [(227, some 15), (230, some 18)] rfl fun _ _ h n => ok_pickM rfl n.1 hx1916_19 (Gd.get n.2.1) (cB rfl), cm 19 rfl rfl, mT rfl rfl i6, gT [(233, some 21)] rfl rfl fun hp _ _ h n => ok_call rfl Try.call19 (solid_Has_ok (Gd.get n.1 hp) (cI rfl) (cI rfl) (cI rfl) (hx1916_22 hp)), gT [(234, some 22)] rfl rfl fun hp _ _ h n => ok_not rfl (Gd.get n.1 hp), o1 [(232, some 20), (235, some 23)] rfl fun _ _ h n => ok_pickM rfl n.1 hx1916_24 (Gd.get n.2.1) (cB rfl), cp 24 rfl rfl, trivial⟩ hQQ1917 fun b q p => ?_
  exact tail_done (k := q) (hp1918 _ _ ⟨Bs.post ⟨hg, hs, hd⟩ p, p.ou 25 4 rfl, trivial⟩)
 rintro a k ⟨⟨hg, hs, hd⟩, i4, _⟩
 refine wp_ret ?_
 obtain rfl := Option.some.inj hr
 exact retC1 rfl hd hg i4
end Go.Proofs.Ytmniloampanhfaa
