/- What the functions compute that the law reaches, part 5 -/
import Derived.Test.YtmniloampanhfaaT4
namespace Go.Proofs.Ytmniloampanhfaa
open Go.Gb
set_option linter.unusedVariables false
set_option linter.unusedSimpArgs false
set_option maxRecDepth 100000
def law09_small  : Option (Bool) :=
 (solid_Of ([(⟨(⟨0, 0, 2, 2⟩ : Rect), 0, 3⟩ : Box), (⟨(⟨0, 0, 1, 2⟩ : Rect), 2, 5⟩ : Box)])).bind fun x1603_1 =>
 (solid_Of ([(⟨(⟨0, 0, 2, 1⟩ : Rect), 1, 5⟩ : Box)])).bind fun x1604_3 =>
 (solid_Minus x1603_1.1 x1604_3.1).bind fun x1605_2 =>
 (law09_square 0 0 2 2).bind fun x1606_0 =>
 (law09_square 0 0 1 2).bind fun x1606_2 =>
 (law09_square 0 0 2 2).bind fun x1607_0 =>
 (law09_square 0 1 2 2).bind fun x1607_2 =>
 (law09_square 0 1 1 2).bind fun x1607_4 =>
 (solid_Of ([(⟨(⟨0, 0, 2, 1⟩ : Rect), 1, 1⟩ : Box)])).bind fun x1608_3 =>
 (if ((((x1603_1.2 == 0) && (x1604_3.2 == 0)) && (x1605_2.2 == 0)) && (x1608_3.2 == 1)) then
  (ref09_Same x1603_1.1 ([(⟨0, 3, x1606_0⟩ : Slab), (⟨3, 5, x1606_2⟩ : Slab)])).bind fun x1609_17 =>
  some x1609_17
 else
  some false).bind fun x1609_18 =>
 (if x1609_18 then
  (ref09_Same x1605_2.1 ([(⟨0, 1, x1607_0⟩ : Slab), (⟨1, 3, x1607_2⟩ : Slab), (⟨3, 5, x1607_4⟩ : Slab)])).bind fun x1609_22 =>
  some x1609_22
 else
  some false).bind fun x1609_23 =>
 (if x1609_23 then
  (solid_Same x1605_2.1 ([(⟨0, 1, x1607_0⟩ : Slab), (⟨1, 3, x1607_2⟩ : Slab), (⟨3, 5, x1607_4⟩ : Slab)])).bind fun x1609_27 =>
  some x1609_27
 else
  some false).bind fun x1609_28 =>
 (if x1609_28 then
  (solid_Volume x1603_1.1).bind fun x1609_31 =>
  some (x1609_31 == 16)
 else
  some false).bind fun x1609_33 =>
 (solid_Top x1603_1.1 0 1).bind fun x1610_1 =>
 (if (x1610_1 == 5) then
  (solid_Top x1603_1.1 1 1).bind fun x1610_5 =>
  some (x1610_5 == 3)
 else
  some false).bind fun x1610_7 =>
 (if x1610_7 then
  (solid_Top x1603_1.1 2 0).bind fun x1610_10 =>
  some (x1610_10 == 0)
 else
  some false).bind fun x1610_12 =>
 (if x1610_12 then
  (solid_Section x1603_1.1 2).bind fun x1610_15 =>
  some ((x1610_15.length : Int) == 1)
 else
  some false).bind fun x1610_18 =>
 (if x1610_18 then
  (solid_Section x1603_1.1 5).bind fun x1610_21 =>
  some ((x1610_21.length : Int) == 0)
 else
  some false).bind fun x1610_24 =>
 (if x1610_24 then
  (solid_Boxes x1603_1.1).bind fun x1610_27 =>
  some ((x1610_27.length : Int) == 2)
 else
  some false).bind fun x1610_30 =>
 (if (x1609_33 && x1610_30) then
  (solid_Has x1603_1.1 0 0 4).bind fun x1611_6 =>
  some x1611_6
 else
  some false).bind fun x1611_7 =>
 (if x1611_7 then
  (solid_Has x1603_1.1 1 0 4).bind fun x1611_10 =>
  some (!x1611_10)
 else
  some false).bind fun x1611_12 =>
 (if x1611_12 then
  (solid_Right ([] : List Slab)).bind fun x1611_14 =>
  some x1611_14
 else
  some false).bind fun x1611_15 =>
 (if x1611_15 then
  (solid_Right ([(⟨0, 1, []⟩ : Slab)])).bind fun x1611_19 =>
  some (!x1611_19)
 else
  some false).bind fun x1611_21 =>
 some x1611_21
theorem law09_small_ok {k0 : K} {r : Bool} (hr : law09_small = some r) :
  Calls Try.prog 8 #[] k0.w (Ret k0 (IsV r)) := by
 unfold law09_small at hr
 refine Ret.ofC ?_
 refine enterK Try.func8 rfl Try.ntmps8 (show 0 ≤ 143 by decide) fun a k hk0 hs hd ha => ?_
 have hQ : Gb.LetsOut (bodyPost Try.prog Try.f8 (RetC noF k0 (IsV r))) := letsOutC
 have hg : Chg noF k0 k := by rw [hk0]; exact Chg.refl _ k0
 refine cutL noF k0 143 [] ?_ ?_
 ·intro Q1632 hQQ1632 hp1633
  refine gS 1 (⟨some (IsV false), []⟩ :: []) hs (by kernel_rfl) ⟨ob1 rfl fun _ _ h n => ok_assign rfl (isV_bool.2 rfl), trivial⟩ hQQ1632 fun b q p => ?_
  exact tail_done (k := q) (hp1633 _ _ ⟨Bs.post ⟨hg, hs, hd⟩ p, trivial⟩)
 rintro a k ⟨⟨hg, hs, hd⟩, _⟩
 refine stepL 6 (⟨some (IsV (⟨0, 0, 2, 2⟩ : Rect)), []⟩ :: ⟨some (IsV (⟨(⟨0, 0, 2, 2⟩ : Rect), 0, 3⟩ : Box)), [(14, some 0)]⟩ :: ⟨some (IsV (⟨0, 0, 1, 2⟩ : Rect)), []⟩ :: ⟨some (IsV (⟨(⟨0, 0, 1, 2⟩ : Rect), 2, 5⟩ : Box)), [(16, some 2)]⟩ :: ⟨some (IsV (α := (List Box)) ([(⟨(⟨0, 0, 2, 2⟩ : Rect), 0, 3⟩ : Box), (⟨(⟨0, 0, 1, 2⟩ : Rect), 2, 5⟩ : Box)])), [(15, some 1), (17, some 3)]⟩ :: _ :: []) rfl ⟨hg, hs, hd⟩ (by kernel_rfl) ⟨ob1 rfl fun _ _ h n => ok_build rfl (bld30_0_1_2_3 (cI rfl) (cI rfl) (cI rfl) (cI rfl)), ob1 rfl fun _ _ h n => ok_build rfl (bld32_0_1_2 n.1 (cI rfl) (cI rfl)), ob1 rfl fun _ _ h n => ok_build rfl (bld30_0_1_2_3 (cI rfl) (cI rfl) (cI rfl) (cI rfl)), ob1 rfl fun _ _ h n => ok_build rfl (bld32_0_1_2 n.1 (cI rfl) (cI rfl)), ob1 rfl fun _ _ h n => ok_buildSlice rfl Try.underlying22 eo32 rfl (by decide) (by decide) ⟨rfl, n.1, rfl, n.2.1, trivial⟩, cp 4 rfl rfl, trivial⟩ [⟨_, _⟩] (fun b q p => ⟨p.ou 5 1 rfl, trivial⟩) ?_
 rintro a k ⟨⟨hg, hs, hd⟩, i1, _⟩
 refine wp_seq ?_
 obtain ⟨x1603_1, hx1603_1, hr⟩ := bind_some hr
 refine cut (fun a' k' => Bs noF k0 143 a' k' ∧ (IsV x1603_1.1) (a'.get 2) k' ∧ (IsV x1603_1.2) (a'.get 3) k' ∧ True) ?_ hQ ?_
 ·intro Q1628 hQQ1628 hp1629
  refine gS 7 (_ :: _ :: _ :: _ :: _ :: _ :: _ :: []) hs (by kernel_rfl) ⟨mu rfl i1, o1 [(20, some 0)] rfl fun _ _ h n => ok_call rfl Try.call9 (solid_Of_ok n.1 hx1603_1), cm 1 rfl rfl, o1 [(19, some 2)] rfl fun _ _ h n => ok_ext2_0 rfl n.1, o1 [(19, some 2)] rfl fun _ _ h n => ok_ext2_1 rfl n.1, cp 3 rfl rfl, cp 4 rfl rfl, trivial⟩ hQQ1628 fun b q p => ?_
  exact tail_done (k := q) (hp1629 _ _ ⟨Bs.post ⟨hg, hs, hd⟩ p, p.ou 5 2 rfl, p.ou 6 3 rfl, trivial⟩)
 rintro a k ⟨⟨hg, hs, hd⟩, i2, i3, _⟩
 refine wp_seq ?_
 obtain ⟨x1604_3, hx1604_3, hr⟩ := bind_some hr
 refine cut (fun a' k' => Bs noF k0 143 a' k' ∧ (IsV x1603_1.1) (a'.get 2) k' ∧ (IsV x1603_1.2) (a'.get 3) k' ∧ (IsV x1604_3.1) (a'.get 4) k' ∧ (IsV x1604_3.2) (a'.get 5) k' ∧ True) ?_ hQ ?_
 ·intro Q1626 hQQ1626 hp1627
  refine gS 9 (⟨some (IsV (⟨0, 0, 2, 1⟩ : Rect)), []⟩ :: ⟨some (IsV (⟨(⟨0, 0, 2, 1⟩ : Rect), 1, 5⟩ : Box)), [(25, some 0)]⟩ :: ⟨some (IsV (α := (List Box)) ([(⟨(⟨0, 0, 2, 1⟩ : Rect), 1, 5⟩ : Box)])), [(26, some 1)]⟩ :: _ :: _ :: _ :: _ :: _ :: _ :: []) hs (by kernel_rfl) ⟨ob1 rfl fun _ _ h n => ok_build rfl (bld30_0_1_2_3 (cI rfl) (cI rfl) (cI rfl) (cI rfl)), ob1 rfl fun _ _ h n => ok_build rfl (bld32_0_1_2 n.1 (cI rfl) (cI rfl)), ob1 rfl fun _ _ h n => ok_buildSlice rfl Try.underlying22 eo32 rfl (by decide) (by decide) ⟨rfl, n.1, trivial⟩, o1 [(27, some 2)] rfl fun _ _ h n => ok_call rfl Try.call9 (solid_Of_ok n.1 hx1604_3), cm 3 rfl rfl, o1 [(24, some 4)] rfl fun _ _ h n => ok_ext2_0 rfl n.1, o1 [(24, some 4)] rfl fun _ _ h n => ok_ext2_1 rfl n.1, cp 5 rfl rfl, cp 6 rfl rfl, trivial⟩ hQQ1626 fun b q p => ?_
  exact tail_done (k := q) (hp1627 _ _ ⟨Bs.post ⟨hg, hs, hd⟩ p, p.ke 2 rfl i2, p.ke 3 rfl i3, p.ou 7 4 rfl, p.ou 8 5 rfl, trivial⟩)
 rintro a k ⟨⟨hg, hs, hd⟩, i2, i3, i4, i5, _⟩
 refine wp_seq ?_
 obtain ⟨x1605_2, hx1605_2, hr⟩ := bind_some hr
 refine cut (fun a' k' => Bs noF k0 143 a' k' ∧ (IsV x1603_1.1) (a'.get 2) k' ∧ (IsV x1603_1.2) (a'.get 3) k' ∧ (IsV x1604_3.2) (a'.get 5) k' ∧ (IsV x1605_2.1) (a'.get 6) k' ∧ (IsV x1605_2.2) (a'.get 7) k' ∧ True) ?_ hQ ?_
 ·intro Q1624 hQQ1624 hp1625
  refine gS 8 (_ :: _ :: _ :: _ :: _ :: _ :: _ :: _ :: []) hs (by kernel_rfl) ⟨mu rfl i2, mu rfl i4, o1 [(32, some 0), (33, some 1)] rfl fun _ _ h n => ok_call rfl Try.call16 (solid_Minus_ok n.1 n.2.1 hx1605_2), cm 2 rfl rfl, o1 [(31, some 3)] rfl fun _ _ h n => ok_ext2_0 rfl n.1, o1 [(31, some 3)] rfl fun _ _ h n => ok_ext2_1 rfl n.1, cp 4 rfl rfl, cp 5 rfl rfl, trivial⟩ hQQ1624 fun b q p => ?_
  exact tail_done (k := q) (hp1625 _ _ ⟨Bs.post ⟨hg, hs, hd⟩ p, p.ke 2 rfl i2, p.ke 3 rfl i3, p.ke 5 rfl i5, p.ou 6 6 rfl, p.ou 7 7 rfl, trivial⟩)
 rintro a k ⟨⟨hg, hs, hd⟩, i2, i3, i5, i6, i7, _⟩
 refine wp_seq ?_
 obtain ⟨x1606_0, hx1606_0, hr⟩ := bind_some hr
 obtain ⟨x1606_2, hx1606_2, hr⟩ := bind_some hr
 refine cut (fun a' k' => Bs noF k0 143 a' k' ∧ (IsV x1603_1.1) (a'.get 2) k' ∧ (IsV x1603_1.2) (a'.get 3) k' ∧ (IsV x1604_3.2) (a'.get 5) k' ∧ (IsV x1605_2.1) (a'.get 6) k' ∧ (IsV x1605_2.2) (a'.get 7) k' ∧ (IsV (α := (List Slab)) ([(⟨0, 3, x1606_0⟩ : Slab), (⟨3, 5, x1606_2⟩ : Slab)])) (a'.get 8) k' ∧ True) ?_ hQ ?_
 ·intro Q1622 hQQ1622 hp1623
  refine gS 6 (_ :: ⟨some (IsV (⟨0, 3, x1606_0⟩ : Slab)), [(37, some 0)]⟩ :: _ :: ⟨some (IsV (⟨3, 5, x1606_2⟩ : Slab)), [(39, some 2)]⟩ :: ⟨some (IsV (α := (List Slab)) ([(⟨0, 3, x1606_0⟩ : Slab), (⟨3, 5, x1606_2⟩ : Slab)])), [(38, some 1), (40, some 3)]⟩ :: _ :: []) hs (by kernel_rfl) ⟨o1 [] rfl fun _ _ h n => ok_call rfl Try.call21 (law09_square_ok (cI rfl) (cI rfl) (cI rfl) (cI rfl) hx1606_0), ob1 rfl fun _ _ h n => ok_build rfl (bld47_0_1_2 (cI rfl) (cI rfl) n.1), o1 [] rfl fun _ _ h n => ok_call rfl Try.call21 (law09_square_ok (cI rfl) (cI rfl) (cI rfl) (cI rfl) hx1606_2), ob1 rfl fun _ _ h n => ok_build rfl (bld47_0_1_2 (cI rfl) (cI rfl) n.1), ob1 rfl fun _ _ h n => ok_buildSlice rfl Try.underlying24 eo47 rfl (by decide) (by decide) ⟨rfl, n.1, rfl, n.2.1, trivial⟩, cp 4 rfl rfl, trivial⟩ hQQ1622 fun b q p => ?_
  exact tail_done (k := q) (hp1623 _ _ ⟨Bs.post ⟨hg, hs, hd⟩ p, p.ke 2 rfl i2, p.ke 3 rfl i3, p.ke 5 rfl i5, p.ke 6 rfl i6, p.ke 7 rfl i7, p.ou 5 8 rfl, trivial⟩)
 rintro a k ⟨⟨hg, hs, hd⟩, i2, i3, i5, i6, i7, i8, _⟩
 refine wp_seq ?_
 obtain ⟨x1607_0, hx1607_0, hr⟩ := bind_some hr
 obtain ⟨x1607_2, hx1607_2, hr⟩ := bind_some hr
 obtain ⟨x1607_4, hx1607_4, hr⟩ := bind_some hr
 refine cut (fun a' k' => Bs noF k0 143 a' k' ∧ (IsV x1603_1.1) (a'.get 2) k' ∧ (IsV x1603_1.2) (a'.get 3) k' ∧ (IsV x1604_3.2) (a'.get 5) k' ∧ (IsV x1605_2.1) (a'.get 6) k' ∧ (IsV x1605_2.2) (a'.get 7) k' ∧ (IsV (α := (List Slab)) ([(⟨0, 3, x1606_0⟩ : Slab), (⟨3, 5, x1606_2⟩ : Slab)])) (a'.get 8) k' ∧ (IsV (α := (List Slab)) ([(⟨0, 1, x1607_0⟩ : Slab), (⟨1, 3, x1607_2⟩ : Slab), (⟨3, 5, x1607_4⟩ : Slab)])) (a'.get 9) k' ∧ True) ?_ hQ ?_
 ·intro Q1620 hQQ1620 hp1621
  refine gS 8 (_ :: ⟨some (IsV (⟨0, 1, x1607_0⟩ : Slab)), [(42, some 0)]⟩ :: _ :: ⟨some (IsV (⟨1, 3, x1607_2⟩ : Slab)), [(44, some 2)]⟩ :: _ :: ⟨some (IsV (⟨3, 5, x1607_4⟩ : Slab)), [(46, some 4)]⟩ :: ⟨some (IsV (α := (List Slab)) ([(⟨0, 1, x1607_0⟩ : Slab), (⟨1, 3, x1607_2⟩ : Slab), (⟨3, 5, x1607_4⟩ : Slab)])), [(43, some 1), (45, some 3), (47, some 5)]⟩ :: _ :: []) hs (by kernel_rfl) ⟨o1 [] rfl fun _ _ h n => ok_call rfl Try.call21 (law09_square_ok (cI rfl) (cI rfl) (cI rfl) (cI rfl) hx1607_0), ob1 rfl fun _ _ h n => ok_build rfl (bld47_0_1_2 (cI rfl) (cI rfl) n.1), o1 [] rfl fun _ _ h n => ok_call rfl Try.call21 (law09_square_ok (cI rfl) (cI rfl) (cI rfl) (cI rfl) hx1607_2), ob1 rfl fun _ _ h n => ok_build rfl (bld47_0_1_2 (cI rfl) (cI rfl) n.1), o1 [] rfl fun _ _ h n => ok_call rfl Try.call21 (law09_square_ok (cI rfl) (cI rfl) (cI rfl) (cI rfl) hx1607_4), ob1 rfl fun _ _ h n => ok_build rfl (bld47_0_1_2 (cI rfl) (cI rfl) n.1), ob1 rfl fun _ _ h n => ok_buildSlice rfl Try.underlying24 eo47 rfl (by decide) (by decide) ⟨rfl, n.1, rfl, n.2.1, rfl, n.2.2.1, trivial⟩, cp 6 rfl rfl, trivial⟩ hQQ1620 fun b q p => ?_
  exact tail_done (k := q) (hp1621 _ _ ⟨Bs.post ⟨hg, hs, hd⟩ p, p.ke 2 rfl i2, p.ke 3 rfl i3, p.ke 5 rfl i5, p.ke 6 rfl i6, p.ke 7 rfl i7, p.ke 8 rfl i8, p.ou 7 9 rfl, trivial⟩)
 rintro a k ⟨⟨hg, hs, hd⟩, i2, i3, i5, i6, i7, i8, i9, _⟩
 refine wp_seq ?_
 obtain ⟨x1608_3, hx1608_3, hr⟩ := bind_some hr
 refine cut (fun a' k' => Bs noF k0 143 a' k' ∧ (IsV x1603_1.1) (a'.get 2) k' ∧ (IsV x1603_1.2) (a'.get 3) k' ∧ (IsV x1604_3.2) (a'.get 5) k' ∧ (IsV x1605_2.1) (a'.get 6) k' ∧ (IsV x1605_2.2) (a'.get 7) k' ∧ (IsV (α := (List Slab)) ([(⟨0, 3, x1606_0⟩ : Slab), (⟨3, 5, x1606_2⟩ : Slab)])) (a'.get 8) k' ∧ (IsV (α := (List Slab)) ([(⟨0, 1, x1607_0⟩ : Slab), (⟨1, 3, x1607_2⟩ : Slab), (⟨3, 5, x1607_4⟩ : Slab)])) (a'.get 9) k' ∧ (IsV x1608_3.2) (a'.get 11) k' ∧ True) ?_ hQ ?_
 ·intro Q1618 hQQ1618 hp1619
  refine gS 9 (⟨some (IsV (⟨0, 0, 2, 1⟩ : Rect)), []⟩ :: ⟨some (IsV (⟨(⟨0, 0, 2, 1⟩ : Rect), 1, 1⟩ : Box)), [(50, some 0)]⟩ :: ⟨some (IsV (α := (List Box)) ([(⟨(⟨0, 0, 2, 1⟩ : Rect), 1, 1⟩ : Box)])), [(51, some 1)]⟩ :: _ :: _ :: _ :: _ :: _ :: _ :: []) hs (by kernel_rfl) ⟨ob1 rfl fun _ _ h n => ok_build rfl (bld30_0_1_2_3 (cI rfl) (cI rfl) (cI rfl) (cI rfl)), ob1 rfl fun _ _ h n => ok_build rfl (bld32_0_1_2 n.1 (cI rfl) (cI rfl)), ob1 rfl fun _ _ h n => ok_buildSlice rfl Try.underlying22 eo32 rfl (by decide) (by decide) ⟨rfl, n.1, trivial⟩, o1 [(52, some 2)] rfl fun _ _ h n => ok_call rfl Try.call9 (solid_Of_ok n.1 hx1608_3), cm 3 rfl rfl, o1 [(49, some 4)] rfl fun _ _ h n => ok_ext2_0 rfl n.1, o1 [(49, some 4)] rfl fun _ _ h n => ok_ext2_1 rfl n.1, cp 5 rfl rfl, cp 6 rfl rfl, trivial⟩ hQQ1618 fun b q p => ?_
  exact tail_done (k := q) (hp1619 _ _ ⟨Bs.post ⟨hg, hs, hd⟩ p, p.ke 2 rfl i2, p.ke 3 rfl i3, p.ke 5 rfl i5, p.ke 6 rfl i6, p.ke 7 rfl i7, p.ke 8 rfl i8, p.ke 9 rfl i9, p.ou 8 11 rfl, trivial⟩)
 rintro a k ⟨⟨hg, hs, hd⟩, i2, i3, i5, i6, i7, i8, i9, i11, _⟩
 refine wp_seq ?_
 obtain ⟨x1609_18, hx1609_18, hr⟩ := bind_some hr
 obtain ⟨x1609_17, hx1609_17, hx1609_18⟩ := ite_bind hx1609_18
 obtain ⟨x1609_23, hx1609_23, hr⟩ := bind_some hr
 obtain ⟨x1609_22, hx1609_22, hx1609_23⟩ := ite_bind hx1609_23
 obtain ⟨x1609_28, hx1609_28, hr⟩ := bind_some hr
 obtain ⟨x1609_27, hx1609_27, hx1609_28⟩ := ite_bind hx1609_28
 obtain ⟨x1609_33, hx1609_33, hr⟩ := bind_some hr
 obtain ⟨x1609_31, hx1609_31, hx1609_33⟩ := ite_bind hx1609_33
 refine cut (fun a' k' => Bs noF k0 143 a' k' ∧ (IsV x1603_1.1) (a'.get 2) k' ∧ (IsV x1609_33) (a'.get 12) k' ∧ True) ?_ hQ ?_
 ·intro Q1616 hQQ1616 hp1617
  refine gS 35 (_ :: _ :: _ :: _ :: _ :: _ :: _ :: _ :: _ :: _ :: _ :: _ :: _ :: _ :: _ :: _ :: _ :: _ :: _ :: _ :: _ :: _ :: _ :: _ :: _ :: _ :: _ :: _ :: _ :: _ :: _ :: _ :: _ :: _ :: _ :: []) hs (by kernel_rfl) ⟨mu rfl i3, o1 [(56, some 0)] rfl fun _ _ h n => ok_eqI rfl n.1 (cI rfl), cm 1 rfl rfl, mT rfl rfl i5, gT [(59, some 3)] rfl rfl fun hp _ _ h n => ok_eqI rfl (Gd.get n.1 hp) (cI rfl), o1 [(58, some 2), (60, some 4)] rfl fun _ _ h n => ok_pickAnd rfl n.1 (Gd.get n.2.1) (cB rfl), cm 5 rfl rfl, mT rfl rfl i7, gT [(63, some 7)] rfl rfl fun hp _ _ h n => ok_eqI rfl (Gd.get n.1 hp) (cI rfl), o1 [(62, some 6), (64, some 8)] rfl fun _ _ h n => ok_pickAnd rfl n.1 (Gd.get n.2.1) (cB rfl), cm 9 rfl rfl, mT rfl rfl i11, gT [(67, some 11)] rfl rfl fun hp _ _ h n => ok_eqI rfl (Gd.get n.1 hp) (cI rfl), o1 [(66, some 10), (68, some 12)] rfl fun _ _ h n => ok_pickAnd rfl n.1 (Gd.get n.2.1) (cB rfl), cm 13 rfl rfl, mT rfl rfl i2, mT rfl rfl i8, gT [(71, some 15), (72, some 16)] rfl rfl fun hp _ _ h n => ok_call rfl Try.call28 (ref09_Same_ok (Gd.get n.1 hp) (Gd.get n.2.1 hp) (hx1609_17 hp)), o1 [(70, some 14), (73, some 17)] rfl fun _ _ h n => ok_pickM rfl n.1 hx1609_18 (Gd.get n.2.1) (cB rfl), cm 18 rfl rfl, mT rfl rfl i6, mT rfl rfl i9, gT [(76, some 20), (77, some 21)] rfl rfl fun hp _ _ h n => ok_call rfl Try.call28 (ref09_Same_ok (Gd.get n.1 hp) (Gd.get n.2.1 hp) (hx1609_22 hp)), o1 [(75, some 19), (78, some 22)] rfl fun _ _ h n => ok_pickM rfl n.1 hx1609_23 (Gd.get n.2.1) (cB rfl), cm 23 rfl rfl, mT rfl rfl i6, mT rfl rfl i9, gT [(81, some 25), (82, some 26)] rfl rfl fun hp _ _ h n => ok_call rfl Try.call11 (solid_Same_ok (Gd.get n.1 hp) (Gd.get n.2.1 hp) (hx1609_27 hp)), o1 [(80, some 24), (83, some 27)] rfl fun _ _ h n => ok_pickM rfl n.1 hx1609_28 (Gd.get n.2.1) (cB rfl), cm 28 rfl rfl, mT rfl rfl i2, gT [(86, some 30)] rfl rfl fun hp _ _ h n => ok_call rfl Try.call12 (solid_Volume_ok (Gd.get n.1 hp) (hx1609_31 hp)), gT [(87, some 31)] rfl rfl fun hp _ _ h n => ok_eqI rfl (Gd.get n.1 hp) (cI rfl), o1 [(85, some 29), (88, some 32)] rfl fun _ _ h n => ok_pickM rfl n.1 hx1609_33 (Gd.get n.2.1) (cB rfl), cp 33 rfl rfl, trivial⟩ hQQ1616 fun b q p => ?_
  exact tail_done (k := q) (hp1617 _ _ ⟨Bs.post ⟨hg, hs, hd⟩ p, p.ke 2 rfl i2, p.ou 34 12 rfl, trivial⟩)
 rintro a k ⟨⟨hg, hs, hd⟩, i2, i12, _⟩
 refine wp_seq ?_
 obtain ⟨x1610_1, hx1610_1, hr⟩ := bind_some hr
 obtain ⟨x1610_7, hx1610_7, hr⟩ := bind_some hr
 obtain ⟨x1610_5, hx1610_5, hx1610_7⟩ := ite_bind hx1610_7
 obtain ⟨x1610_12, hx1610_12, hr⟩ := bind_some hr
 obtain ⟨x1610_10, hx1610_10, hx1610_12⟩ := ite_bind hx1610_12
 obtain ⟨x1610_18, hx1610_18, hr⟩ := bind_some hr
 obtain ⟨x1610_15, hx1610_15, hx1610_18⟩ := ite_bind hx1610_18
 obtain ⟨x1610_24, hx1610_24, hr⟩ := bind_some hr
 obtain ⟨x1610_21, hx1610_21, hx1610_24⟩ := ite_bind hx1610_24
 obtain ⟨x1610_30, hx1610_30, hr⟩ := bind_some hr
 obtain ⟨x1610_27, hx1610_27, hx1610_30⟩ := ite_bind hx1610_30
 refine cut (fun a' k' => Bs noF k0 143 a' k' ∧ (IsV x1603_1.1) (a'.get 2) k' ∧ (IsV x1609_33) (a'.get 12) k' ∧ (IsV x1610_30) (a'.get 13) k' ∧ True) ?_ hQ ?_
 ·intro Q1614 hQQ1614 hp1615
  refine gS 32 (_ :: _ :: _ :: _ :: _ :: _ :: _ :: _ :: _ :: _ :: _ :: _ :: _ :: _ :: _ :: _ :: _ :: _ :: _ :: _ :: _ :: _ :: _ :: _ :: _ :: _ :: _ :: _ :: _ :: _ :: _ :: _ :: []) hs (by kernel_rfl) ⟨mu rfl i2, o1 [(90, some 0)] rfl fun _ _ h n => ok_call rfl Try.call22 (solid_Top_ok n.1 (cI rfl) (cI rfl) hx1610_1), o1 [(91, some 1)] rfl fun _ _ h n => ok_eqI rfl n.1 (cI rfl), cm 2 rfl rfl, mT rfl rfl i2, gT [(94, some 4)] rfl rfl fun hp _ _ h n => ok_call rfl Try.call22 (solid_Top_ok (Gd.get n.1 hp) (cI rfl) (cI rfl) (hx1610_5 hp)), gT [(95, some 5)] rfl rfl fun hp _ _ h n => ok_eqI rfl (Gd.get n.1 hp) (cI rfl), o1 [(93, some 3), (96, some 6)] rfl fun _ _ h n => ok_pickM rfl n.1 hx1610_7 (Gd.get n.2.1) (cB rfl), cm 7 rfl rfl, mT rfl rfl i2, gT [(99, some 9)] rfl rfl fun hp _ _ h n => ok_call rfl Try.call22 (solid_Top_ok (Gd.get n.1 hp) (cI rfl) (cI rfl) (hx1610_10 hp)), gT [(100, some 10)] rfl rfl fun hp _ _ h n => ok_eqI rfl (Gd.get n.1 hp) (cI rfl), o1 [(98, some 8), (101, some 11)] rfl fun _ _ h n => ok_pickM rfl n.1 hx1610_12 (Gd.get n.2.1) (cB rfl), cm 12 rfl rfl, mT rfl rfl i2, gT [(104, some 14)] rfl rfl fun hp _ _ h n => ok_call rfl Try.call23 (solid_Section_ok (Gd.get n.1 hp) (cI rfl) (hx1610_15 hp)), gT [(105, some 15)] rfl rfl fun hp _ _ h n => ok_len rfl rfl Try.underlying44 (IsV.rd (Gd.get n.1 hp)), gT [(106, some 16)] rfl rfl fun hp _ _ h n => ok_eqI rfl (Gd.get n.1 hp) (cI rfl), o1 [(103, some 13), (107, some 17)] rfl fun _ _ h n => ok_pickM rfl n.1 hx1610_18 (Gd.get n.2.1) (cB rfl), cm 18 rfl rfl, mT rfl rfl i2, gT [(110, some 20)] rfl rfl fun hp _ _ h n => ok_call rfl Try.call23 (solid_Section_ok (Gd.get n.1 hp) (cI rfl) (hx1610_21 hp)), gT [(111, some 21)] rfl rfl fun hp _ _ h n => ok_len rfl rfl Try.underlying44 (IsV.rd (Gd.get n.1 hp)), gT [(112, some 22)] rfl rfl fun hp _ _ h n => ok_eqI rfl (Gd.get n.1 hp) (cI rfl), o1 [(109, some 19), (113, some 23)] rfl fun _ _ h n => ok_pickM rfl n.1 hx1610_24 (Gd.get n.2.1) (cB rfl), cm 24 rfl rfl, mT rfl rfl i2, gT [(116, some 26)] rfl rfl fun hp _ _ h n => ok_call rfl Try.call10 (solid_Boxes_ok (Gd.get n.1 hp) (hx1610_27 hp)), gT [(117, some 27)] rfl rfl fun hp _ _ h n => ok_len rfl rfl Try.underlying22 (IsV.rd (Gd.get n.1 hp)), gT [(118, some 28)] rfl rfl fun hp _ _ h n => ok_eqI rfl (Gd.get n.1 hp) (cI rfl), o1 [(115, some 25), (119, some 29)] rfl fun _ _ h n => ok_pickM rfl n.1 hx1610_30 (Gd.get n.2.1) (cB rfl), cp 30 rfl rfl, trivial⟩ hQQ1614 fun b q p => ?_
  exact tail_done (k := q) (hp1615 _ _ ⟨Bs.post ⟨hg, hs, hd⟩ p, p.ke 2 rfl i2, p.ke 12 rfl i12, p.ou 31 13 rfl, trivial⟩)
 rintro a k ⟨⟨hg, hs, hd⟩, i2, i12, i13, _⟩
 refine wp_seq ?_
 obtain ⟨x1611_7, hx1611_7, hr⟩ := bind_some hr
 obtain ⟨x1611_6, hx1611_6, hx1611_7⟩ := ite_bind hx1611_7
 obtain ⟨x1611_12, hx1611_12, hr⟩ := bind_some hr
 obtain ⟨x1611_10, hx1611_10, hx1611_12⟩ := ite_bind hx1611_12
 obtain ⟨x1611_15, hx1611_15, hr⟩ := bind_some hr
 obtain ⟨x1611_14, hx1611_14, hx1611_15⟩ := ite_bind hx1611_15
 obtain ⟨x1611_21, hx1611_21, hr⟩ := bind_some hr
 obtain ⟨x1611_19, hx1611_19, hx1611_21⟩ := ite_bind hx1611_21
 refine cut (fun a' k' => Bs noF k0 143 a' k' ∧ (IsV x1611_21) (a'.get 0) k' ∧ True) ?_ hQ ?_
 ·intro Q1612 hQQ1612 hp1613
  refine gS 23 (_ :: _ :: _ :: _ :: _ :: _ :: _ :: _ :: _ :: _ :: _ :: _ :: _ :: _ :: _ :: _ :: _ :: ⟨some (Gd (x1611_15 = true) (IsV (⟨0, 1, []⟩ : Slab))), []⟩ :: ⟨some (Gd (x1611_15 = true) (IsV (α := (List Slab)) ([(⟨0, 1, []⟩ : Slab)]))), [(138, some 17)]⟩ :: _ :: _ :: _ :: _ :: []) hs (by kernel_rfl) ⟨mu rfl i12, cm 0 rfl rfl, mT rfl rfl i13, o1 [(122, some 1), (123, some 2)] rfl fun _ _ h n => ok_pickAnd rfl n.1 (Gd.get n.2.1) (cB rfl), cm 3 rfl rfl, mT rfl rfl i2, gT [(126, some 5)] rfl rfl fun hp _ _ h n => ok_call rfl Try.call19 (solid_Has_ok (Gd.get n.1 hp) (cI rfl) (cI rfl) (cI rfl) (hx1611_6 hp)), o1 [(125, some 4), (127, some 6)] rfl fun _ _ h n => ok_pickM rfl n.1 hx1611_7 (Gd.get n.2.1) (cB rfl), cm 7 rfl rfl, mT rfl rfl i2, gT [(130, some 9)] rfl rfl fun hp _ _ h n => ok_call rfl Try.call19 (solid_Has_ok (Gd.get n.1 hp) (cI rfl) (cI rfl) (cI rfl) (hx1611_10 hp)), gT [(131, some 10)] rfl rfl fun hp _ _ h n => ok_not rfl (Gd.get n.1 hp), o1 [(129, some 8), (132, some 11)] rfl fun _ _ h n => ok_pickM rfl n.1 hx1611_12 (Gd.get n.2.1) (cB rfl), cm 12 rfl rfl, gT [] rfl rfl fun hp _ _ h n => ok_call rfl Try.call17 (solid_Right_ok (isV_list.2 (.inl ⟨rfl, rfl⟩)) (hx1611_14 hp)), o1 [(134, some 13), (135, some 14)] rfl fun _ _ h n => ok_pickM rfl n.1 hx1611_15 (Gd.get n.2.1) (cB rfl), cm 15 rfl rfl, gdT rfl rfl fun hp _ _ h n => ok_build rfl (bld47_0_1 (cI rfl) (cI rfl)), gdT rfl rfl fun hp _ _ h n => ok_buildSlice rfl Try.underlying24 eo47 rfl (by decide) (by decide) ⟨rfl, (Gd.get n.1 hp), trivial⟩, gT [(139, some 18)] rfl rfl fun hp _ _ h n => ok_call rfl Try.call17 (solid_Right_ok (Gd.get n.1 hp) (hx1611_19 hp)), gT [(140, some 19)] rfl rfl fun hp _ _ h n => ok_not rfl (Gd.get n.1 hp), o1 [(137, some 16), (141, some 20)] rfl fun _ _ h n => ok_pickM rfl n.1 hx1611_21 (Gd.get n.2.1) (cB rfl), cp 21 rfl rfl, trivial⟩ hQQ1612 fun b q p => ?_
  exact tail_done (k := q) (hp1613 _ _ ⟨Bs.post ⟨hg, hs, hd⟩ p, p.ou 22 0 rfl, trivial⟩)
 rintro a k ⟨⟨hg, hs, hd⟩, i0, _⟩
 refine wp_ret ?_
 obtain rfl := Option.some.inj hr
 exact retC1 rfl hd hg i0
def region_Union_1 (a_ : Bool) (b_ : Bool) : Option (Bool) :=
 some (a_ || b_)
theorem region_Union_1_ok {k0 : K} {v0 v1 : Value} {a_ : Bool} {b_ : Bool} {r : Bool} (i0 : (IsV a_) v0 k0) (i1 : (IsV b_) v1 k0) (hr : region_Union_1 a_ b_ = some r) :
  Calls Try.prog 56 #[v0, v1] k0.w (Ret k0 (IsV r)) := by
 unfold region_Union_1 at hr
 refine Ret.ofC ?_
 refine enterK Try.func56 rfl Try.ntmps56 (show 2 ≤ 9 by decide) fun a k hk0 hs hd ha => ?_
 obtain ⟨e0, e1, _⟩ := ha
 replace i0 : (IsV a_) (a.get 0) k := by rw [e0, hk0]; exact i0
 replace i1 : (IsV b_) (a.get 1) k := by rw [e1, hk0]; exact i1
 have hQ : Gb.LetsOut (bodyPost Try.prog Try.f56 (RetC noF k0 (IsV r))) := letsOutC
 have hg : Chg noF k0 k := by rw [hk0]; exact Chg.refl _ k0
 refine stepL 1 (⟨some (IsV false), []⟩ :: []) rfl ⟨hg, hs, hd⟩ (by kernel_rfl) ⟨ob1 rfl fun _ _ h n => ok_assign rfl (isV_bool.2 rfl), trivial⟩ [⟨_, _⟩, ⟨_, _⟩] (fun b q p => ⟨p.ke 0 rfl i0, p.ke 1 rfl i1, trivial⟩) ?_
 rintro a k ⟨⟨hg, hs, hd⟩, i0, i1, _⟩
 refine stepL 5 (_ :: _ :: _ :: _ :: _ :: []) rfl ⟨hg, hs, hd⟩ (by kernel_rfl) ⟨mu rfl i0, cm 0 rfl rfl, mF rfl rfl i1, o1 [(6, some 1), (7, some 2)] rfl fun _ _ h n => ok_pickOr rfl n.1 (cB rfl) (Gd.get n.2.1), cp 3 rfl rfl, trivial⟩ [⟨_, _⟩] (fun b q p => ⟨p.ou 4 4 rfl, trivial⟩) ?_
 rintro a k ⟨⟨hg, hs, hd⟩, i4, _⟩
 refine wp_ret ?_
 obtain rfl := Option.some.inj hr
 exact retC1 rfl hd hg i4
def region_Union (a_ : (List Rect)) (b_ : (List Rect)) : Option ((List Rect) × Int) :=
 (region_combine a_ b_ region_Union_1).bind fun x1641_2 =>
 some (x1641_2.1, x1641_2.2)
theorem region_Union_ok {k0 : K} {v0 v1 : Value} {a_ : (List Rect)} {b_ : (List Rect)} {r : (List Rect) × Int} (i0 : (IsV a_) v0 k0) (i1 : (IsV b_) v1 k0) (hr : region_Union a_ b_ = some r) :
  Calls Try.prog 38 #[v0, v1] k0.w (Ret k0 (IsTup2 (IsV r.1) (IsV r.2))) := by
 unfold region_Union at hr
 refine Ret.ofC ?_
 refine enterK Try.func38 rfl Try.ntmps38 (show 2 ≤ 11 by decide) fun a k hk0 hs hd ha => ?_
 obtain ⟨e0, e1, _⟩ := ha
 replace i0 : (IsV a_) (a.get 0) k := by rw [e0, hk0]; exact i0
 replace i1 : (IsV b_) (a.get 1) k := by rw [e1, hk0]; exact i1
 have hQ : Gb.LetsOut (bodyPost Try.prog Try.f38 (RetC noF k0 (IsTup2 (IsV r.1) (IsV r.2)))) := letsOutC
 have hg : Chg noF k0 k := by rw [hk0]; exact Chg.refl _ k0
 refine stepL 2 (⟨some IsE0, []⟩ :: ⟨some (IsI 0), []⟩ :: []) rfl ⟨hg, hs, hd⟩ (by kernel_rfl) ⟨ob1 rfl fun b q h n => ok_assign rfl isE0_nil, aI rfl rfl, trivial⟩ [⟨_, _⟩, ⟨_, _⟩] (fun b q p => ⟨p.ke 0 rfl i0, p.ke 1 rfl i1, trivial⟩) ?_
 rintro a k ⟨⟨hg, hs, hd⟩, i0, i1, _⟩
 refine wp_seq ?_
 obtain ⟨x1641_2, hx1641_2, hr⟩ := bind_some hr
 refine cut (fun a' k' => Bs noF k0 11 a' k' ∧ (IsV x1641_2.1) (a'.get 4) k' ∧ (IsV x1641_2.2) (a'.get 5) k' ∧ True) ?_ hQ ?_
 ·intro Q1642 hQQ1642 hp1643
  refine gS 7 (_ :: _ :: _ :: _ :: _ :: _ :: _ :: []) hs (by kernel_rfl) ⟨mu rfl i0, mu rfl i1, o1 [(6, some 0), (7, some 1)] rfl fun _ _ h n => ok_call rfl Try.call55 (region_combine_ok n.1 n.2.1 ⟨56, _, _, rfl, Try.call56, fun k9 hk9 _ _ _ _ _ hx0 hx1 hy9 => by simpa [evalT] using region_Union_1_ok hx0 hx1 hy9⟩ hx1641_2), o1 [(8, some 2)] rfl fun _ _ h n => ok_ext2_0 rfl n.1, o1 [(8, some 2)] rfl fun _ _ h n => ok_ext2_1 rfl n.1, cp 3 rfl rfl, cp 4 rfl rfl, trivial⟩ hQQ1642 fun b q p => ?_
  exact tail_done (k := q) (hp1643 _ _ ⟨Bs.post ⟨hg, hs, hd⟩ p, p.ou 5 4 rfl, p.ou 6 5 rfl, trivial⟩)
 rintro a k ⟨⟨hg, hs, hd⟩, i4, i5, _⟩
 refine wp_ret ?_
 obtain rfl := Option.some.inj hr
 exact retC2 rfl hd hg i4 i5
def solid_Union (a_ : (List Slab)) (b_ : (List Slab)) : Option ((List Slab) × Int) :=
 (solid_combine a_ b_ region_Union).bind fun x1647_2 =>
 some (x1647_2.1, x1647_2.2)
theorem solid_Union_ok {k0 : K} {v0 v1 : Value} {a_ : (List Slab)} {b_ : (List Slab)} {r : (List Slab) × Int} (i0 : (IsV a_) v0 k0) (i1 : (IsV b_) v1 k0) (hr : solid_Union a_ b_ = some r) :
  Calls Try.prog 14 #[v0, v1] k0.w (Ret k0 (IsTup2 (IsV r.1) (IsV r.2))) := by
 unfold solid_Union at hr
 refine Ret.ofC ?_
 refine enterK Try.func14 rfl Try.ntmps14 (show 2 ≤ 11 by decide) fun a k hk0 hs hd ha => ?_
 obtain ⟨e0, e1, _⟩ := ha
 replace i0 : (IsV a_) (a.get 0) k := by rw [e0, hk0]; exact i0
 replace i1 : (IsV b_) (a.get 1) k := by rw [e1, hk0]; exact i1
 have hQ : Gb.LetsOut (bodyPost Try.prog Try.f14 (RetC noF k0 (IsTup2 (IsV r.1) (IsV r.2)))) := letsOutC
 have hg : Chg noF k0 k := by rw [hk0]; exact Chg.refl _ k0
 refine stepL 2 (⟨some IsE0, []⟩ :: ⟨some (IsI 0), []⟩ :: []) rfl ⟨hg, hs, hd⟩ (by kernel_rfl) ⟨ob1 rfl fun b q h n => ok_assign rfl isE0_nil, aI rfl rfl, trivial⟩ [⟨_, _⟩, ⟨_, _⟩] (fun b q p => ⟨p.ke 0 rfl i0, p.ke 1 rfl i1, trivial⟩) ?_
 rintro a k ⟨⟨hg, hs, hd⟩, i0, i1, _⟩
 refine wp_seq ?_
 obtain ⟨x1647_2, hx1647_2, hr⟩ := bind_some hr
 refine cut (fun a' k' => Bs noF k0 11 a' k' ∧ (IsV x1647_2.1) (a'.get 4) k' ∧ (IsV x1647_2.2) (a'.get 5) k' ∧ True) ?_ hQ ?_
 ·intro Q1648 hQQ1648 hp1649
  refine gS 7 (_ :: _ :: _ :: _ :: _ :: _ :: _ :: []) hs (by kernel_rfl) ⟨mu rfl i0, mu rfl i1, o1 [(6, some 0), (7, some 1)] rfl fun _ _ h n => ok_call rfl Try.call37 (solid_combine_ok n.1 n.2.1 ⟨38, _, _, rfl, Try.call38, fun k9 hk9 _ _ _ _ _ hx0 hx1 hy9 => by simpa [evalT] using region_Union_ok hx0 hx1 hy9⟩ hx1647_2), o1 [(8, some 2)] rfl fun _ _ h n => ok_ext2_0 rfl n.1, o1 [(8, some 2)] rfl fun _ _ h n => ok_ext2_1 rfl n.1, cp 3 rfl rfl, cp 4 rfl rfl, trivial⟩ hQQ1648 fun b q p => ?_
  exact tail_done (k := q) (hp1649 _ _ ⟨Bs.post ⟨hg, hs, hd⟩ p, p.ou 5 4 rfl, p.ou 6 5 rfl, trivial⟩)
 rintro a k ⟨⟨hg, hs, hd⟩, i4, i5, _⟩
 refine wp_ret ?_
 obtain rfl := Option.some.inj hr
 exact retC2 rfl hd hg i4 i5
def region_Common_1 (a_ : Bool) (b_ : Bool) : Option (Bool) :=
 some (a_ && b_)
theorem region_Common_1_ok {k0 : K} {v0 v1 : Value} {a_ : Bool} {b_ : Bool} {r : Bool} (i0 : (IsV a_) v0 k0) (i1 : (IsV b_) v1 k0) (hr : region_Common_1 a_ b_ = some r) :
  Calls Try.prog 57 #[v0, v1] k0.w (Ret k0 (IsV r)) := by
 unfold region_Common_1 at hr
 refine Ret.ofC ?_
 refine enterK Try.func57 rfl Try.ntmps57 (show 2 ≤ 9 by decide) fun a k hk0 hs hd ha => ?_
 obtain ⟨e0, e1, _⟩ := ha
 replace i0 : (IsV a_) (a.get 0) k := by rw [e0, hk0]; exact i0
 replace i1 : (IsV b_) (a.get 1) k := by rw [e1, hk0]; exact i1
 have hQ : Gb.LetsOut (bodyPost Try.prog Try.f57 (RetC noF k0 (IsV r))) := letsOutC
 have hg : Chg noF k0 k := by rw [hk0]; exact Chg.refl _ k0
 refine stepL 1 (⟨some (IsV false), []⟩ :: []) rfl ⟨hg, hs, hd⟩ (by kernel_rfl) ⟨ob1 rfl fun _ _ h n => ok_assign rfl (isV_bool.2 rfl), trivial⟩ [⟨_, _⟩, ⟨_, _⟩] (fun b q p => ⟨p.ke 0 rfl i0, p.ke 1 rfl i1, trivial⟩) ?_
 rintro a k ⟨⟨hg, hs, hd⟩, i0, i1, _⟩
 refine stepL 5 (_ :: _ :: _ :: _ :: _ :: []) rfl ⟨hg, hs, hd⟩ (by kernel_rfl) ⟨mu rfl i0, cm 0 rfl rfl, mT rfl rfl i1, o1 [(6, some 1), (7, some 2)] rfl fun _ _ h n => ok_pickAnd rfl n.1 (Gd.get n.2.1) (cB rfl), cp 3 rfl rfl, trivial⟩ [⟨_, _⟩] (fun b q p => ⟨p.ou 4 4 rfl, trivial⟩) ?_
 rintro a k ⟨⟨hg, hs, hd⟩, i4, _⟩
 refine wp_ret ?_
 obtain rfl := Option.some.inj hr
 exact retC1 rfl hd hg i4
def region_Common (a_ : (List Rect)) (b_ : (List Rect)) : Option ((List Rect) × Int) :=
 (region_combine a_ b_ region_Common_1).bind fun x1659_2 =>
 some (x1659_2.1, x1659_2.2)
theorem region_Common_ok {k0 : K} {v0 v1 : Value} {a_ : (List Rect)} {b_ : (List Rect)} {r : (List Rect) × Int} (i0 : (IsV a_) v0 k0) (i1 : (IsV b_) v1 k0) (hr : region_Common a_ b_ = some r) :
  Calls Try.prog 39 #[v0, v1] k0.w (Ret k0 (IsTup2 (IsV r.1) (IsV r.2))) := by
 unfold region_Common at hr
 refine Ret.ofC ?_
 refine enterK Try.func39 rfl Try.ntmps39 (show 2 ≤ 11 by decide) fun a k hk0 hs hd ha => ?_
 obtain ⟨e0, e1, _⟩ := ha
 replace i0 : (IsV a_) (a.get 0) k := by rw [e0, hk0]; exact i0
 replace i1 : (IsV b_) (a.get 1) k := by rw [e1, hk0]; exact i1
 have hQ : Gb.LetsOut (bodyPost Try.prog Try.f39 (RetC noF k0 (IsTup2 (IsV r.1) (IsV r.2)))) := letsOutC
 have hg : Chg noF k0 k := by rw [hk0]; exact Chg.refl _ k0
 refine stepL 2 (⟨some IsE0, []⟩ :: ⟨some (IsI 0), []⟩ :: []) rfl ⟨hg, hs, hd⟩ (by kernel_rfl) ⟨ob1 rfl fun b q h n => ok_assign rfl isE0_nil, aI rfl rfl, trivial⟩ [⟨_, _⟩, ⟨_, _⟩] (fun b q p => ⟨p.ke 0 rfl i0, p.ke 1 rfl i1, trivial⟩) ?_
 rintro a k ⟨⟨hg, hs, hd⟩, i0, i1, _⟩
 refine wp_seq ?_
 obtain ⟨x1659_2, hx1659_2, hr⟩ := bind_some hr
 refine cut (fun a' k' => Bs noF k0 11 a' k' ∧ (IsV x1659_2.1) (a'.get 4) k' ∧ (IsV x1659_2.2) (a'.get 5) k' ∧ True) ?_ hQ ?_
 ·intro Q1660 hQQ1660 hp1661
  refine gS 7 (_ :: _ :: _ :: _ :: _ :: _ :: _ :: []) hs (by kernel_rfl) ⟨mu rfl i0, mu rfl i1, o1 [(6, some 0), (7, some 1)] rfl fun _ _ h n => ok_call rfl Try.call55 (region_combine_ok n.1 n.2.1 ⟨57, _, _, rfl, Try.call57, fun k9 hk9 _ _ _ _ _ hx0 hx1 hy9 => by simpa [evalT] using region_Common_1_ok hx0 hx1 hy9⟩ hx1659_2), o1 [(8, some 2)] rfl fun _ _ h n => ok_ext2_0 rfl n.1, o1 [(8, some 2)] rfl fun _ _ h n => ok_ext2_1 rfl n.1, cp 3 rfl rfl, cp 4 rfl rfl, trivial⟩ hQQ1660 fun b q p => ?_
  exact tail_done (k := q) (hp1661 _ _ ⟨Bs.post ⟨hg, hs, hd⟩ p, p.ou 5 4 rfl, p.ou 6 5 rfl, trivial⟩)
 rintro a k ⟨⟨hg, hs, hd⟩, i4, i5, _⟩
 refine wp_ret ?_
 obtain rfl := Option.some.inj hr
 exact retC2 rfl hd hg i4 i5
def solid_Common (a_ : (List Slab)) (b_ : (List Slab)) : Option ((List Slab) × Int) :=
 (solid_combine a_ b_ region_Common).bind fun x1665_2 =>
 some (x1665_2.1, x1665_2.2)
theorem solid_Common_ok {k0 : K} {v0 v1 : Value} {a_ : (List Slab)} {b_ : (List Slab)} {r : (List Slab) × Int} (i0 : (IsV a_) v0 k0) (i1 : (IsV b_) v1 k0) (hr : solid_Common a_ b_ = some r) :
  Calls Try.prog 15 #[v0, v1] k0.w (Ret k0 (IsTup2 (IsV r.1) (IsV r.2))) := by
 unfold solid_Common at hr
 refine Ret.ofC ?_
 refine enterK Try.func15 rfl Try.ntmps15 (show 2 ≤ 11 by decide) fun a k hk0 hs hd ha => ?_
 obtain ⟨e0, e1, _⟩ := ha
 replace i0 : (IsV a_) (a.get 0) k := by rw [e0, hk0]; exact i0
 replace i1 : (IsV b_) (a.get 1) k := by rw [e1, hk0]; exact i1
 have hQ : Gb.LetsOut (bodyPost Try.prog Try.f15 (RetC noF k0 (IsTup2 (IsV r.1) (IsV r.2)))) := letsOutC
 have hg : Chg noF k0 k := by rw [hk0]; exact Chg.refl _ k0
 refine stepL 2 (⟨some IsE0, []⟩ :: ⟨some (IsI 0), []⟩ :: []) rfl ⟨hg, hs, hd⟩ (by kernel_rfl) ⟨ob1 rfl fun b q h n => ok_assign rfl isE0_nil, aI rfl rfl, trivial⟩ [⟨_, _⟩, ⟨_, _⟩] (fun b q p => ⟨p.ke 0 rfl i0, p.ke 1 rfl i1, trivial⟩) ?_
 rintro a k ⟨⟨hg, hs, hd⟩, i0, i1, _⟩
 refine wp_seq ?_
 obtain ⟨x1665_2, hx1665_2, hr⟩ := bind_some hr
 refine cut (fun a' k' => Bs noF k0 11 a' k' ∧ (IsV x1665_2.1) (a'.get 4) k' ∧ (IsV x1665_2.2) (a'.get 5) k' ∧ True) ?_ hQ ?_
 ·intro Q1666 hQQ1666 hp1667
  refine gS 7 (_ :: _ :: _ :: _ :: _ :: _ :: _ :: []) hs (by kernel_rfl) ⟨mu rfl i0, mu rfl i1, o1 [(6, some 0), (7, some 1)] rfl fun _ _ h n => ok_call rfl Try.call37 (solid_combine_ok n.1 n.2.1 ⟨39, _, _, rfl, Try.call39, fun k9 hk9 _ _ _ _ _ hx0 hx1 hy9 => by simpa [evalT] using region_Common_ok hx0 hx1 hy9⟩ hx1665_2), o1 [(8, some 2)] rfl fun _ _ h n => ok_ext2_0 rfl n.1, o1 [(8, some 2)] rfl fun _ _ h n => ok_ext2_1 rfl n.1, cp 3 rfl rfl, cp 4 rfl rfl, trivial⟩ hQQ1666 fun b q p => ?_
  exact tail_done (k := q) (hp1667 _ _ ⟨Bs.post ⟨hg, hs, hd⟩ p, p.ou 5 4 rfl, p.ou 6 5 rfl, trivial⟩)
 rintro a k ⟨⟨hg, hs, hd⟩, i4, i5, _⟩
 refine wp_ret ?_
 obtain rfl := Option.some.inj hr
 exact retC2 rfl hd hg i4 i5
def law09_SolidAlgebra_L0 (a_ : (List Box)) (s1709 : (List Slab) × Int) : Option (Flow ((List Slab) × Int) (Bool)) :=
 if (decide (s1709.2 < (a_.length : Int))) then
  (subI (a_.length : Int) 1).bind fun x1714_3 =>
  (subI x1714_3 s1709.2).bind fun x1714_5 =>
  (getI a_ x1714_5).bind fun x1714_6 =>
  (solid_Of ([x1714_6])).bind fun x1714_9 =>
  (solid_Union s1709.1 x1714_9.1).bind fun x1715_2 =>
  (addI s1709.2 1).bind fun x1716_1 =>
  some (.go (x1715_2.1, x1716_1))
 else
  some (.ex 0 (s1709.1, s1709.2))
def law09_SolidAlgebra (a_ : (List Box)) (b_ : (List Box)) (c_ : (List Box)) : Option (Bool) :=
 (law09_small).bind fun x1671_0 =>
 if (((decide (4 < (a_.length : Int))) || (decide (4 < (b_.length : Int)))) || (decide (4 < (c_.length : Int)))) then
  some x1671_0
 else
  (solid_Of a_).bind fun x1676_1 =>
  (solid_Of b_).bind fun x1677_1 =>
  (solid_Of c_).bind fun x1678_1 =>
  if (((x1676_1.2 != 0) || (x1677_1.2 != 0)) || (x1678_1.2 != 0)) then
   some (x1671_0 && (((x1676_1.2 == 1) || (x1677_1.2 == 1)) || (x1678_1.2 == 1)))
  else
   (solid_Union x1676_1.1 x1677_1.1).bind fun x1683_2 =>
   (solid_Union x1677_1.1 x1676_1.1).bind fun x1684_2 =>
   (solid_Union x1677_1.1 x1678_1.1).bind fun x1685_2 =>
   (solid_Union x1683_2.1 x1678_1.1).bind fun x1686_2 =>
   (solid_Union x1676_1.1 x1685_2.1).bind fun x1687_2 =>
   (appI [] c_).bind fun x1688_2 =>
   (appI x1688_2 a_).bind fun x1688_4 =>
   (appI x1688_4 b_).bind fun x1688_6 =>
   (solid_Of x1688_6).bind fun x1688_7 =>
   (solid_Common x1676_1.1 x1677_1.1).bind fun x1689_2 =>
   (solid_Common x1677_1.1 x1676_1.1).bind fun x1690_2 =>
   (solid_Common x1676_1.1 x1678_1.1).bind fun x1691_2 =>
   (solid_Common x1676_1.1 x1685_2.1).bind fun x1692_2 =>
   (solid_Union x1689_2.1 x1691_2.1).bind fun x1693_2 =>
   (if (x1688_7.2 != 0) then
    some true
   else
    (solid_Same x1683_2.1 x1684_2.1).bind fun x1694_5 =>
    some (!x1694_5)).bind fun x1694_7 =>
   (if x1694_7 then
    some true
   else
    (solid_Same x1686_2.1 x1687_2.1).bind fun x1694_11 =>
    some (!x1694_11)).bind fun x1694_13 =>
   (if x1694_13 then
    some true
   else
    (solid_Same x1686_2.1 x1688_7.1).bind fun x1694_17 =>
    some (!x1694_17)).bind fun x1694_19 =>
   (if x1694_19 then
    some true
   else
    (solid_Same x1689_2.1 x1690_2.1).bind fun x1694_23 =>
    some (!x1694_23)).bind fun x1694_25 =>
   (if x1694_25 then
    some true
   else
    (solid_Same x1692_2.1 x1693_2.1).bind fun x1694_29 =>
    some (!x1694_29)).bind fun x1694_31 =>
   (if x1694_31 then
    some true
   else
    (solid_Volume x1683_2.1).bind fun x1694_34 =>
    (solid_Volume x1689_2.1).bind fun x1694_36 =>
    (addI x1694_34 x1694_36).bind fun x1694_37 =>
    (solid_Volume x1676_1.1).bind fun x1694_39 =>
    (solid_Volume x1677_1.1).bind fun x1694_41 =>
    (addI x1694_39 x1694_41).bind fun x1694_42 =>
    some (x1694_37 != x1694_42)).bind fun x1694_44 =>
   if x1694_44 then
    some false
   else
    (solid_Minus x1676_1.1 x1677_1.1).bind fun x1698_2 =>
    (solid_Common x1698_2.1 x1677_1.1).bind fun x1699_2 =>
    (solid_Union x1698_2.1 x1689_2.1).bind fun x1700_2 =>
    (solid_Minus x1676_1.1 x1685_2.1).bind fun x1701_2 =>
    (solid_Minus x1698_2.1 x1678_1.1).bind fun x1702_2 =>
    (if ((x1698_2.2 != 0) || ((x1699_2.1.length : Int) != 0)) then
     some true
    else
     (solid_Same x1700_2.1 x1676_1.1).bind fun x1703_10 =>
     some (!x1703_10)).bind fun x1703_12 =>
    (if x1703_12 then
     some true
    else
     (solid_Same x1701_2.1 x1702_2.1).bind fun x1703_16 =>
     some (!x1703_16)).bind fun x1703_18 =>
    if x1703_18 then
     some false
    else
     (iterL (law09_SolidAlgebra_L0 a_) (a_.length + x1676_1.1.length + ([] : List Slab).length + 1) (([] : List Slab), 0)).bind fun f1726 => match f1726 with
      | .go _ => none
      | .ex _ s1727 =>
       (if x1671_0 then
        (solid_Same s1727.1 x1676_1.1).bind fun x1728_4 =>
        some x1728_4
       else
        some false).bind fun x1728_5 =>
       some x1728_5
      | .ret r1731 => some r1731
theorem law09_SolidAlgebra_ok {k0 : K} {v0 v1 v2 : Value} {a_ : (List Box)} {b_ : (List Box)} {c_ : (List Box)} {r : Bool} (i0 : (IsV a_) v0 k0) (i1 : (IsV b_) v1 k0) (i2 : (IsV c_) v2 k0) (hr : law09_SolidAlgebra a_ b_ c_ = some r) :
  Calls Try.prog 5 #[v0, v1, v2] k0.w (Ret k0 (IsV r)) := by
 unfold law09_SolidAlgebra at hr
 refine Ret.ofC ?_
 refine enterK Try.func5 rfl Try.ntmps5 (show 3 ≤ 299 by decide) fun a k hk0 hs hd ha => ?_
 obtain ⟨e0, e1, e2, _⟩ := ha
 replace i0 : (IsV a_) (a.get 0) k := by rw [e0, hk0]; exact i0
 replace i1 : (IsV b_) (a.get 1) k := by rw [e1, hk0]; exact i1
 replace i2 : (IsV c_) (a.get 2) k := by rw [e2, hk0]; exact i2
 have hQ : Gb.LetsOut (bodyPost Try.prog Try.f5 (RetC noF k0 (IsV r))) := letsOutC
 have hg : Chg noF k0 k := by rw [hk0]; exact Chg.refl _ k0
 refine stepL 1 (⟨some (IsV false), []⟩ :: []) rfl ⟨hg, hs, hd⟩ (by kernel_rfl) ⟨ob1 rfl fun _ _ h n => ok_assign rfl (isV_bool.2 rfl), trivial⟩ [⟨_, _⟩, ⟨_, _⟩, ⟨_, _⟩] (fun b q p => ⟨p.ke 0 rfl i0, p.ke 1 rfl i1, p.ke 2 rfl i2, trivial⟩) ?_
 rintro a k ⟨⟨hg, hs, hd⟩, i0, i1, i2, _⟩
 refine wp_seq ?_
 obtain ⟨x1671_0, hx1671_0, hr⟩ := bind_some hr
 refine cut (fun a' k' => Bs noF k0 299 a' k' ∧ (IsV a_) (a'.get 0) k' ∧ (IsV b_) (a'.get 1) k' ∧ (IsV c_) (a'.get 2) k' ∧ (IsV x1671_0) (a'.get 7) k' ∧ True) ?_ hQ ?_
 ·intro Q1787 hQQ1787 hp1788
  refine gS 2 (_ :: _ :: []) hs (by kernel_rfl) ⟨o1 [] rfl fun _ _ h n => ok_call rfl Try.call8 (law09_small_ok hx1671_0), cp 0 rfl rfl, trivial⟩ hQQ1787 fun b q p => ?_
  exact tail_done (k := q) (hp1788 _ _ ⟨Bs.post ⟨hg, hs, hd⟩ p, p.ke 0 rfl i0, p.ke 1 rfl i1, p.ke 2 rfl i2, p.ou 1 7 rfl, trivial⟩)
 rintro a k ⟨⟨hg, hs, hd⟩, i0, i1, i2, i7, _⟩
 refine wp_seq ?_
 refine stepL 13 (_ :: _ :: _ :: _ :: _ :: _ :: _ :: _ :: _ :: _ :: _ :: _ :: _ :: []) rfl ⟨hg, hs, hd⟩ (by kernel_rfl) ⟨mu rfl i0, o1 [(51, some 0)] rfl fun _ _ h n => ok_len rfl rfl Try.underlying22 (IsV.rd n.1), o1 [(52, some 1)] rfl fun _ _ h n => ok_gtr rfl n.1 (cI rfl), cm 2 rfl rfl, mF rfl rfl i1, gF [(55, some 4)] rfl rfl fun hp _ _ h n => ok_len rfl rfl Try.underlying22 (IsV.rd (Gd.get n.1 hp)), gF [(56, some 5)] rfl rfl fun hp _ _ h n => ok_gtr rfl (Gd.get n.1 hp) (cI rfl), o1 [(54, some 3), (57, some 6)] rfl fun _ _ h n => ok_pickOr rfl n.1 (cB rfl) (Gd.get n.2.1), cm 7 rfl rfl, mF rfl rfl i2, gF [(60, some 9)] rfl rfl fun hp _ _ h n => ok_len rfl rfl Try.underlying22 (IsV.rd (Gd.get n.1 hp)), gF [(61, some 10)] rfl rfl fun hp _ _ h n => ok_gtr rfl (Gd.get n.1 hp) (cI rfl), o1 [(59, some 8), (62, some 11)] rfl fun _ _ h n => ok_pickOr rfl n.1 (cB rfl) (Gd.get n.2.1), trivial⟩ [⟨_, _⟩, ⟨_, _⟩, ⟨_, _⟩, ⟨_, _⟩, ⟨_, _⟩] (fun b q p => ⟨p.ke 0 rfl i0, p.ke 1 rfl i1, p.ke 2 rfl i2, p.ke 7 rfl i7, p.ou 12 63 rfl, trivial⟩) ?_
 rintro a k ⟨⟨hg, hs, hd⟩, i0, i1, i2, i7, i63, _⟩
 refine wp_cond_split (isBool i63) (fun hc1784 => ?_) (fun hc1784 => ?_)
 ·rw [if_pos hc1784] at hr
  refine stepL 2 (_ :: _ :: []) rfl ⟨hg, hs, hd⟩ (by kernel_rfl) ⟨mu rfl i7, cp 0 rfl rfl, trivial⟩ [⟨_, _⟩] (fun b q p => ⟨p.ou 1 6 rfl, trivial⟩) ?_
  rintro a k ⟨⟨hg, hs, hd⟩, i6, _⟩
  refine wp_ret ?_
  obtain rfl := Option.some.inj hr
  exact retC1 rfl hd hg i6
 rw [if_neg (by rw [hc1784]; decide)] at hr
 refine wp_skip ?_
 refine wp_seq ?_
 obtain ⟨x1676_1, hx1676_1, hr⟩ := bind_some hr
 refine cut (fun a' k' => Bs noF k0 299 a' k' ∧ (IsV a_) (a'.get 0) k' ∧ (IsV b_) (a'.get 1) k' ∧ (IsV c_) (a'.get 2) k' ∧ (IsV x1671_0) (a'.get 7) k' ∧ (IsV x1676_1.1) (a'.get 8) k' ∧ (IsV x1676_1.2) (a'.get 9) k' ∧ True) ?_ hQ ?_
 ·intro Q1782 hQQ1782 hp1783
  refine gS 7 (_ :: _ :: _ :: _ :: _ :: _ :: _ :: []) hs (by kernel_rfl) ⟨mu rfl i0, o1 [(66, some 0)] rfl fun _ _ h n => ok_call rfl Try.call9 (solid_Of_ok n.1 hx1676_1), cm 1 rfl rfl, o1 [(65, some 2)] rfl fun _ _ h n => ok_ext2_0 rfl n.1, o1 [(65, some 2)] rfl fun _ _ h n => ok_ext2_1 rfl n.1, cp 3 rfl rfl, cp 4 rfl rfl, trivial⟩ hQQ1782 fun b q p => ?_
  exact tail_done (k := q) (hp1783 _ _ ⟨Bs.post ⟨hg, hs, hd⟩ p, p.ke 0 rfl i0, p.ke 1 rfl i1, p.ke 2 rfl i2, p.ke 7 rfl i7, p.ou 5 8 rfl, p.ou 6 9 rfl, trivial⟩)
 rintro a k ⟨⟨hg, hs, hd⟩, i0, i1, i2, i7, i8, i9, _⟩
 refine wp_seq ?_
 obtain ⟨x1677_1, hx1677_1, hr⟩ := bind_some hr
 refine cut (fun a' k' => Bs noF k0 299 a' k' ∧ (IsV a_) (a'.get 0) k' ∧ (IsV b_) (a'.get 1) k' ∧ (IsV c_) (a'.get 2) k' ∧ (IsV x1671_0) (a'.get 7) k' ∧ (IsV x1676_1.1) (a'.get 8) k' ∧ (IsV x1676_1.2) (a'.get 9) k' ∧ (IsV x1677_1.1) (a'.get 10) k' ∧ (IsV x1677_1.2) (a'.get 11) k' ∧ True) ?_ hQ ?_
 ·intro Q1780 hQQ1780 hp1781
  refine gS 7 (_ :: _ :: _ :: _ :: _ :: _ :: _ :: []) hs (by kernel_rfl) ⟨mu rfl i1, o1 [(71, some 0)] rfl fun _ _ h n => ok_call rfl Try.call9 (solid_Of_ok n.1 hx1677_1), cm 1 rfl rfl, o1 [(70, some 2)] rfl fun _ _ h n => ok_ext2_0 rfl n.1, o1 [(70, some 2)] rfl fun _ _ h n => ok_ext2_1 rfl n.1, cp 3 rfl rfl, cp 4 rfl rfl, trivial⟩ hQQ1780 fun b q p => ?_
  exact tail_done (k := q) (hp1781 _ _ ⟨Bs.post ⟨hg, hs, hd⟩ p, p.ke 0 rfl i0, p.ke 1 rfl i1, p.ke 2 rfl i2, p.ke 7 rfl i7, p.ke 8 rfl i8, p.ke 9 rfl i9, p.ou 5 10 rfl, p.ou 6 11 rfl, trivial⟩)
 rintro a k ⟨⟨hg, hs, hd⟩, i0, i1, i2, i7, i8, i9, i10, i11, _⟩
 refine wp_seq ?_
 obtain ⟨x1678_1, hx1678_1, hr⟩ := bind_some hr
 refine cut (fun a' k' => Bs noF k0 299 a' k' ∧ (IsV a_) (a'.get 0) k' ∧ (IsV b_) (a'.get 1) k' ∧ (IsV c_) (a'.get 2) k' ∧ (IsV x1671_0) (a'.get 7) k' ∧ (IsV x1676_1.1) (a'.get 8) k' ∧ (IsV x1676_1.2) (a'.get 9) k' ∧ (IsV x1677_1.1) (a'.get 10) k' ∧ (IsV x1677_1.2) (a'.get 11) k' ∧ (IsV x1678_1.1) (a'.get 12) k' ∧ (IsV x1678_1.2) (a'.get 13) k' ∧ True) ?_ hQ ?_
 ·intro Q1778 hQQ1778 hp1779
  refine gS 7 (_ :: _ :: _ :: _ :: _ :: _ :: _ :: []) hs (by kernel_rfl) ⟨mu rfl i2, o1 [(76, some 0)] rfl fun _ _ h n => ok_call rfl Try.call9 (solid_Of_ok n.1 hx1678_1), cm 1 rfl rfl, o1 [(75, some 2)] rfl fun _ _ h n => ok_ext2_0 rfl n.1, o1 [(75, some 2)] rfl fun _ _ h n => ok_ext2_1 rfl n.1, cp 3 rfl rfl, cp 4 rfl rfl, trivial⟩ hQQ1778 fun b q p => ?_
  exact tail_done (k := q) (hp1779 _ _ ⟨Bs.post ⟨hg, hs, hd⟩ p, p.ke 0 rfl i0, p.ke 1 rfl i1, p.ke 2 rfl i2, p.ke 7 rfl i7, p.ke 8 rfl i8, p.ke 9 rfl i9, p.ke 10 rfl i10, p.ke 11 rfl i11, p.ou 5 12 rfl, p.ou 6 13 rfl, trivial⟩)
 rintro a k ⟨⟨hg, hs, hd⟩, i0, i1, i2, i7, i8, i9, i10, i11, i12, i13, _⟩
 refine wp_seq ?_
 refine stepL 10 (_ :: ⟨some (IsV (x1676_1.2 != 0)), [(80, some 0)]⟩ :: _ :: _ :: ⟨some (Gd ((x1676_1.2 != 0) = false) (IsV (x1677_1.2 != 0))), [(83, some 3)]⟩ :: _ :: _ :: _ :: ⟨some (Gd (((x1676_1.2 != 0) || (x1677_1.2 != 0)) = false) (IsV (x1678_1.2 != 0))), [(87, some 7)]⟩ :: _ :: []) rfl ⟨hg, hs, hd⟩ (by kernel_rfl) ⟨mu rfl i9, ob1 rfl fun _ _ h n => ok_neI rfl n.1 (cI rfl), cm 1 rfl rfl, mF rfl rfl i11, gdF rfl rfl fun hp _ _ h n => ok_neI rfl (Gd.get n.1 hp) (cI rfl), o1 [(82, some 2), (84, some 4)] rfl fun _ _ h n => ok_pickOr rfl n.1 (cB rfl) (Gd.get n.2.1), cm 5 rfl rfl, mF rfl rfl i13, gdF rfl rfl fun hp _ _ h n => ok_neI rfl (Gd.get n.1 hp) (cI rfl), o1 [(86, some 6), (88, some 8)] rfl fun _ _ h n => ok_pickOr rfl n.1 (cB rfl) (Gd.get n.2.1), trivial⟩ [⟨_, _⟩, ⟨_, _⟩, ⟨_, _⟩, ⟨_, _⟩, ⟨_, _⟩, ⟨_, _⟩, ⟨_, _⟩, ⟨_, _⟩, ⟨_, _⟩, ⟨_, _⟩, ⟨_, _⟩] (fun b q p => ⟨p.ke 0 rfl i0, p.ke 1 rfl i1, p.ke 2 rfl i2, p.ke 7 rfl i7, p.ke 8 rfl i8, p.ke 9 rfl i9, p.ke 10 rfl i10, p.ke 11 rfl i11, p.ke 12 rfl i12, p.ke 13 rfl i13, p.ou 9 89 rfl, trivial⟩) ?_
 rintro a k ⟨⟨hg, hs, hd⟩, i0, i1, i2, i7, i8, i9, i10, i11, i12, i13, i89, _⟩
 refine wp_cond_split (isBool i89) (fun hc1775 => ?_) (fun hc1775 => ?_)
 ·rw [if_pos hc1775] at hr
  refine stepL 14 (_ :: _ :: _ :: _ :: ⟨some (Gd (x1671_0 = true) (IsV (x1676_1.2 == 1))), [(93, some 3)]⟩ :: ⟨some (Gd ((x1671_0 = true) ∧ (x1676_1.2 == 1) = false) (IsV x1677_1.2)), [(11, none)]⟩ :: ⟨some (Gd ((x1671_0 = true) ∧ (x1676_1.2 == 1) = false) (IsV (x1677_1.2 == 1))), [(95, some 5)]⟩ :: _ :: ⟨some (Gd (x1671_0 = true) (IsV ((x1676_1.2 == 1) || (x1677_1.2 == 1)))), [(97, some 7)]⟩ :: ⟨some (Gd ((x1671_0 = true) ∧ ((x1676_1.2 == 1) || (x1677_1.2 == 1)) = false) (IsV x1678_1.2)), [(13, none)]⟩ :: ⟨some (Gd ((x1671_0 = true) ∧ ((x1676_1.2 == 1) || (x1677_1.2 == 1)) = false) (IsV (x1678_1.2 == 1))), [(99, some 9)]⟩ :: _ :: _ :: _ :: []) rfl ⟨hg, hs, hd⟩ (by kernel_rfl) ⟨mu rfl i7, cm 0 rfl rfl, mT rfl rfl i9, gT [(92, some 2)] rfl rfl fun hp _ _ h n => ok_eqI rfl (Gd.get n.1 hp) (cI rfl), gdT rfl rfl fun hp _ _ h n => ok_move rfl (Gd.get n.1 hp), gdTF rfl rfl fun hp b q h n => ok_move rfl (up i11 h n.1), gdTF rfl rfl fun hp b q h n => ok_eqI rfl (Gd.get n.1 hp) (cI rfl), gT [(94, some 4), (96, some 6)] rfl rfl fun hp _ _ h n => ok_pickOr rfl (Gd.get n.1 hp) (cB rfl) (fun hm => (Gd.get n.2.1 ⟨hp, hm⟩)), gdT rfl rfl fun hp _ _ h n => ok_move rfl (Gd.get n.1 hp), gdTF rfl rfl fun hp b q h n => ok_move rfl (up i13 h n.1), gdTF rfl rfl fun hp b q h n => ok_eqI rfl (Gd.get n.1 hp) (cI rfl), gT [(98, some 8), (100, some 10)] rfl rfl fun hp _ _ h n => ok_pickOr rfl (Gd.get n.1 hp) (cB rfl) (fun hm => (Gd.get n.2.1 ⟨hp, hm⟩)), o1 [(91, some 1), (101, some 11)] rfl fun _ _ h n => ok_pickAnd rfl n.1 (Gd.get n.2.1) (cB rfl), cp 12 rfl rfl, trivial⟩ [⟨_, _⟩] (fun b q p => ⟨p.ou 13 6 rfl, trivial⟩) ?_
  rintro a k ⟨⟨hg, hs, hd⟩, i6, _⟩
  refine wp_ret ?_
  obtain rfl := Option.some.inj hr
  exact retC1 rfl hd hg i6
 rw [if_neg (by rw [hc1775]; decide)] at hr
 refine wp_skip ?_
 refine wp_seq ?_
 obtain ⟨x1683_2, hx1683_2, hr⟩ := bind_some hr
 refine cut (fun a' k' => Bs noF k0 299 a' k' ∧ (IsV a_) (a'.get 0) k' ∧ (IsV b_) (a'.get 1) k' ∧ (IsV c_) (a'.get 2) k' ∧ (IsV x1671_0) (a'.get 7) k' ∧ (IsV x1676_1.1) (a'.get 8) k' ∧ (IsV x1677_1.1) (a'.get 10) k' ∧ (IsV x1678_1.1) (a'.get 12) k' ∧ (IsV x1683_2.1) (a'.get 14) k' ∧ True) ?_ hQ ?_
 ·intro Q1773 hQQ1773 hp1774
  refine gS 8 (_ :: _ :: _ :: _ :: _ :: _ :: _ :: _ :: []) hs (by kernel_rfl) ⟨mu rfl i8, mu rfl i10, o1 [(104, some 0), (105, some 1)] rfl fun _ _ h n => ok_call rfl Try.call14 (solid_Union_ok n.1 n.2.1 hx1683_2), cm 2 rfl rfl, o1 [(103, some 3)] rfl fun _ _ h n => ok_ext2_0 rfl n.1, o1 [(103, some 3)] rfl fun _ _ h n => ok_ext2_1 rfl n.1, cp 4 rfl rfl, cp 5 rfl rfl, trivial⟩ hQQ1773 fun b q p => ?_
  exact tail_done (k := q) (hp1774 _ _ ⟨Bs.post ⟨hg, hs, hd⟩ p, p.ke 0 rfl i0, p.ke 1 rfl i1, p.ke 2 rfl i2, p.ke 7 rfl i7, p.ke 8 rfl i8, p.ke 10 rfl i10, p.ke 12 rfl i12, p.ou 6 14 rfl, trivial⟩)
 rintro a k ⟨⟨hg, hs, hd⟩, i0, i1, i2, i7, i8, i10, i12, i14, _⟩
 refine wp_seq ?_
 obtain ⟨x1684_2, hx1684_2, hr⟩ := bind_some hr
 refine cut (fun a' k' => Bs noF k0 299 a' k' ∧ (IsV a_) (a'.get 0) k' ∧ (IsV b_) (a'.get 1) k' ∧ (IsV c_) (a'.get 2) k' ∧ (IsV x1671_0) (a'.get 7) k' ∧ (IsV x1676_1.1) (a'.get 8) k' ∧ (IsV x1677_1.1) (a'.get 10) k' ∧ (IsV x1678_1.1) (a'.get 12) k' ∧ (IsV x1683_2.1) (a'.get 14) k' ∧ (IsV x1684_2.1) (a'.get 16) k' ∧ True) ?_ hQ ?_
 ·intro Q1771 hQQ1771 hp1772
  refine gS 8 (_ :: _ :: _ :: _ :: _ :: _ :: _ :: _ :: []) hs (by kernel_rfl) ⟨mu rfl i10, mu rfl i8, o1 [(110, some 0), (111, some 1)] rfl fun _ _ h n => ok_call rfl Try.call14 (solid_Union_ok n.1 n.2.1 hx1684_2), cm 2 rfl rfl, o1 [(109, some 3)] rfl fun _ _ h n => ok_ext2_0 rfl n.1, o1 [(109, some 3)] rfl fun _ _ h n => ok_ext2_1 rfl n.1, cp 4 rfl rfl, cp 5 rfl rfl, trivial⟩ hQQ1771 fun b q p => ?_
  exact tail_done (k := q) (hp1772 _ _ ⟨Bs.post ⟨hg, hs, hd⟩ p, p.ke 0 rfl i0, p.ke 1 rfl i1, p.ke 2 rfl i2, p.ke 7 rfl i7, p.ke 8 rfl i8, p.ke 10 rfl i10, p.ke 12 rfl i12, p.ke 14 rfl i14, p.ou 6 16 rfl, trivial⟩)
 rintro a k ⟨⟨hg, hs, hd⟩, i0, i1, i2, i7, i8, i10, i12, i14, i16, _⟩
 refine wp_seq ?_
 obtain ⟨x1685_2, hx1685_2, hr⟩ := bind_some hr
 refine cut (fun a' k' => Bs noF k0 299 a' k' ∧ (IsV a_) (a'.get 0) k' ∧ (IsV b_) (a'.get 1) k' ∧ (IsV c_) (a'.get 2) k' ∧ (IsV x1671_0) (a'.get 7) k' ∧ (IsV x1676_1.1) (a'.get 8) k' ∧ (IsV x1677_1.1) (a'.get 10) k' ∧ (IsV x1678_1.1) (a'.get 12) k' ∧ (IsV x1683_2.1) (a'.get 14) k' ∧ (IsV x1684_2.1) (a'.get 16) k' ∧ (IsV x1685_2.1) (a'.get 18) k' ∧ True) ?_ hQ ?_
 ·intro Q1769 hQQ1769 hp1770
  refine gS 8 (_ :: _ :: _ :: _ :: _ :: _ :: _ :: _ :: []) hs (by kernel_rfl) ⟨mu rfl i10, mu rfl i12, o1 [(116, some 0), (117, some 1)] rfl fun _ _ h n => ok_call rfl Try.call14 (solid_Union_ok n.1 n.2.1 hx1685_2), cm 2 rfl rfl, o1 [(115, some 3)] rfl fun _ _ h n => ok_ext2_0 rfl n.1, o1 [(115, some 3)] rfl fun _ _ h n => ok_ext2_1 rfl n.1, cp 4 rfl rfl, cp 5 rfl rfl, trivial⟩ hQQ1769 fun b q p => ?_
  exact tail_done (k := q) (hp1770 _ _ ⟨Bs.post ⟨hg, hs, hd⟩ p, p.ke 0 rfl i0, p.ke 1 rfl i1, p.ke 2 rfl i2, p.ke 7 rfl i7, p.ke 8 rfl i8, p.ke 10 rfl i10, p.ke 12 rfl i12, p.ke 14 rfl i14, p.ke 16 rfl i16, p.ou 6 18 rfl, trivial⟩)
 rintro a k ⟨⟨hg, hs, hd⟩, i0, i1, i2, i7, i8, i10, i12, i14, i16, i18, _⟩
 refine wp_seq ?_
 obtain ⟨x1686_2, hx1686_2, hr⟩ := bind_some hr
 refine cut (fun a' k' => Bs noF k0 299 a' k' ∧ (IsV a_) (a'.get 0) k' ∧ (IsV b_) (a'.get 1) k' ∧ (IsV c_) (a'.get 2) k' ∧ (IsV x1671_0) (a'.get 7) k' ∧ (IsV x1676_1.1) (a'.get 8) k' ∧ (IsV x1677_1.1) (a'.get 10) k' ∧ (IsV x1678_1.1) (a'.get 12) k' ∧ (IsV x1683_2.1) (a'.get 14) k' ∧ (IsV x1684_2.1) (a'.get 16) k' ∧ (IsV x1685_2.1) (a'.get 18) k' ∧ (IsV x1686_2.1) (a'.get 20) k' ∧ True) ?_ hQ ?_
 ·intro Q1767 hQQ1767 hp1768
  refine gS 8 (_ :: _ :: _ :: _ :: _ :: _ :: _ :: _ :: []) hs (by kernel_rfl) ⟨mu rfl i14, mu rfl i12, o1 [(122, some 0), (123, some 1)] rfl fun _ _ h n => ok_call rfl Try.call14 (solid_Union_ok n.1 n.2.1 hx1686_2), cm 2 rfl rfl, o1 [(121, some 3)] rfl fun _ _ h n => ok_ext2_0 rfl n.1, o1 [(121, some 3)] rfl fun _ _ h n => ok_ext2_1 rfl n.1, cp 4 rfl rfl, cp 5 rfl rfl, trivial⟩ hQQ1767 fun b q p => ?_
  exact tail_done (k := q) (hp1768 _ _ ⟨Bs.post ⟨hg, hs, hd⟩ p, p.ke 0 rfl i0, p.ke 1 rfl i1, p.ke 2 rfl i2, p.ke 7 rfl i7, p.ke 8 rfl i8, p.ke 10 rfl i10, p.ke 12 rfl i12, p.ke 14 rfl i14, p.ke 16 rfl i16, p.ke 18 rfl i18, p.ou 6 20 rfl, trivial⟩)
 rintro a k ⟨⟨hg, hs, hd⟩, i0, i1, i2, i7, i8, i10, i12, i14, i16, i18, i20, _⟩
 refine wp_seq ?_
 obtain ⟨x1687_2, hx1687_2, hr⟩ := bind_some hr
 refine cut (fun a' k' => Bs noF k0 299 a' k' ∧ (IsV a_) (a'.get 0) k' ∧ (IsV b_) (a'.get 1) k' ∧ (IsV c_) (a'.get 2) k' ∧ (IsV x1671_0) (a'.get 7) k' ∧ (IsV x1676_1.1) (a'.get 8) k' ∧ (IsV x1677_1.1) (a'.get 10) k' ∧ (IsV x1678_1.1) (a'.get 12) k' ∧ (IsV x1683_2.1) (a'.get 14) k' ∧ (IsV x1684_2.1) (a'.get 16) k' ∧ (IsV x1685_2.1) (a'.get 18) k' ∧ (IsV x1686_2.1) (a'.get 20) k' ∧ (IsV x1687_2.1) (a'.get 22) k' ∧ True) ?_ hQ ?_
 ·intro Q1765 hQQ1765 hp1766
  refine gS 8 (_ :: _ :: _ :: _ :: _ :: _ :: _ :: _ :: []) hs (by kernel_rfl) ⟨mu rfl i8, mu rfl i18, o1 [(128, some 0), (129, some 1)] rfl fun _ _ h n => ok_call rfl Try.call14 (solid_Union_ok n.1 n.2.1 hx1687_2), cm 2 rfl rfl, o1 [(127, some 3)] rfl fun _ _ h n => ok_ext2_0 rfl n.1, o1 [(127, some 3)] rfl fun _ _ h n => ok_ext2_1 rfl n.1, cp 4 rfl rfl, cp 5 rfl rfl, trivial⟩ hQQ1765 fun b q p => ?_
  exact tail_done (k := q) (hp1766 _ _ ⟨Bs.post ⟨hg, hs, hd⟩ p, p.ke 0 rfl i0, p.ke 1 rfl i1, p.ke 2 rfl i2, p.ke 7 rfl i7, p.ke 8 rfl i8, p.ke 10 rfl i10, p.ke 12 rfl i12, p.ke 14 rfl i14, p.ke 16 rfl i16, p.ke 18 rfl i18, p.ke 20 rfl i20, p.ou 6 22 rfl, trivial⟩)
 rintro a k ⟨⟨hg, hs, hd⟩, i0, i1, i2, i7, i8, i10, i12, i14, i16, i18, i20, i22, _⟩
 refine wp_seq ?_
 obtain ⟨x1688_2, hx1688_2, hr⟩ := bind_some hr
 obtain ⟨x1688_4, hx1688_4, hr⟩ := bind_some hr
 obtain ⟨x1688_6, hx1688_6, hr⟩ := bind_some hr
 obtain ⟨x1688_7, hx1688_7, hr⟩ := bind_some hr
 refine cut (fun a' k' => Bs noF k0 299 a' k' ∧ (IsV a_) (a'.get 0) k' ∧ (IsV x1671_0) (a'.get 7) k' ∧ (IsV x1676_1.1) (a'.get 8) k' ∧ (IsV x1677_1.1) (a'.get 10) k' ∧ (IsV x1678_1.1) (a'.get 12) k' ∧ (IsV x1683_2.1) (a'.get 14) k' ∧ (IsV x1684_2.1) (a'.get 16) k' ∧ (IsV x1685_2.1) (a'.get 18) k' ∧ (IsV x1686_2.1) (a'.get 20) k' ∧ (IsV x1687_2.1) (a'.get 22) k' ∧ (IsV x1688_7.1) (a'.get 24) k' ∧ (IsV x1688_7.2) (a'.get 25) k' ∧ True) ?_ hQ ?_
 ·intro Q1763 hQQ1763 hp1764
  refine gS 4 (⟨some IsE0, []⟩ :: _ :: ⟨some (IsOwn k.w.heap.size 32 x1688_2), [(134, some 0), (135, some 1)]⟩ :: _ :: []) hs (by kernel_rfl) ⟨ob1 rfl fun b q h n => ok_buildSlice0 rfl Try.underlying22 eo32, mu rfl i2, ob1 rfl fun _ _ h n => ok_append0 rfl Try.underlying22 eo32 h.size n.1 (IsV.rd n.2.1) hx1688_2, mu rfl i0, trivial⟩ hQQ1763 fun b q p => ?_
  have hgq := hg.then p.grow
  have hsb := p.size.trans hs
  have hdb := p.defers.trans hd
  have j0 := p.ke 0 rfl i0
  have j1 := p.ke 1 rfl i1
  have j7 := p.ke 7 rfl i7
  have j8 := p.ke 8 rfl i8
  have j10 := p.ke 10 rfl i10
  have j12 := p.ke 12 rfl i12
  have j14 := p.ke 14 rfl i14
  have j16 := p.ke 16 rfl i16
  have j18 := p.ke 18 rfl i18
  have j20 := p.ke 20 rfl i20
  have j22 := p.ke 22 rfl i22
  have j136 : (IsOwn k.w.heap.size 32 x1688_2) (b.get 136) q := p.ou 2 136 rfl
  have x136 : Lo k (obF (b.get 136)) := j136.loF
  have y136 := x136.chg hg
  replace j136 := j136.weaken (Nat.zero_le _)
  have j137 : (IsV a_) (b.get 137) q := p.ou 3 137 rfl
  have hns := j136.nshF
  refine tail_appendS (i := 4) (d := 138) rfl rfl rfl rfl (by rw [hsb]; decide) (e := 32) Try.underlying22 eo32 j136 (IsV.rd j137) hx1688_4 fun b2 q2 hsz hdf hoth hch hown hob => ?_
  have hle := hch.le hns
  have yn : Lo k0 (obF (b2.get 138)) := y136.app hgq hob
  replace j0 := Pers.pers hle j0
  replace j1 := Pers.pers hle j1
  replace j7 := Pers.pers hle j7
  replace j8 := Pers.pers hle j8
  replace j10 := Pers.pers hle j10
  replace j12 := Pers.pers hle j12
  replace j14 := Pers.pers hle j14
  replace j16 := Pers.pers hle j16
  replace j18 := Pers.pers hle j18
  replace j20 := Pers.pers hle j20
  replace j22 := Pers.pers hle j22
  replace j137 := Pers.pers hle j137
  replace hgq := hgq.step hch y136.wr
  rw [← hoth 0 (by decide)] at j0
  rw [← hoth 1 (by decide)] at j1
  rw [← hoth 7 (by decide)] at j7
  rw [← hoth 8 (by decide)] at j8
  rw [← hoth 10 (by decide)] at j10
  rw [← hoth 12 (by decide)] at j12
  rw [← hoth 14 (by decide)] at j14
  rw [← hoth 16 (by decide)] at j16
  rw [← hoth 18 (by decide)] at j18
  rw [← hoth 20 (by decide)] at j20
  rw [← hoth 22 (by decide)] at j22
  rw [← hoth 137 (by decide)] at j137
  have j138 := hown
  have y138 := yn
  replace hsb := hsz.trans hsb
  replace hdb := hdf.trans hdb
  clear hle hch hown hob hns yn hsz hdf hoth
  obtain ⟨b, hbb⟩ : ∃ b, b = b2 := ⟨b2, rfl⟩
  subst hbb
  obtain ⟨q, hqq⟩ : ∃ q, q = q2 := ⟨q2, rfl⟩
  subst hqq
  refine tail_assign (i := 5) (d := 139) rfl rfl (.inr rfl) rfl (by rw [hsb]; decide) fun b2 hsz hdf hnew hoth => ?_
  have jn : (IsV b_) (b2.get 139) q := by rw [hnew]; exact j1
  rw [← hoth 0 (by decide)] at j0
  rw [← hoth 1 (by decide)] at j1
  rw [← hoth 7 (by decide)] at j7
  rw [← hoth 8 (by decide)] at j8
  rw [← hoth 10 (by decide)] at j10
  rw [← hoth 12 (by decide)] at j12
  rw [← hoth 14 (by decide)] at j14
  rw [← hoth 16 (by decide)] at j16
  rw [← hoth 18 (by decide)] at j18
  rw [← hoth 20 (by decide)] at j20
  rw [← hoth 22 (by decide)] at j22
  rw [← hoth 137 (by decide)] at j137
  rw [← hoth 138 (by decide)] at j138
  rw [← hoth 138 (by decide)] at y138
  have j139 := jn
  replace hsb := hsz.trans hsb
  replace hdb := hdf.trans hdb
  clear hsz hdf hoth
  obtain ⟨b, hbb⟩ : ∃ b, b = b2 := ⟨b2, rfl⟩
  subst hbb
  have hns := j138.nshF
  refine tail_appendS (i := 6) (d := 140) rfl rfl rfl rfl (by rw [hsb]; decide) (e := 32) Try.underlying22 eo32 j138 (IsV.rd j139) hx1688_6 fun b2 q2 hsz hdf hoth hch hown hob => ?_
  have hle := hch.le hns
  have yn : Lo k0 (obF (b2.get 140)) := y138.app hgq hob
  replace j0 := Pers.pers hle j0
  replace j1 := Pers.pers hle j1
  replace j7 := Pers.pers hle j7
  replace j8 := Pers.pers hle j8
  replace j10 := Pers.pers hle j10
  replace j12 := Pers.pers hle j12
  replace j14 := Pers.pers hle j14
  replace j16 := Pers.pers hle j16
  replace j18 := Pers.pers hle j18
  replace j20 := Pers.pers hle j20
  replace j22 := Pers.pers hle j22
  replace j137 := Pers.pers hle j137
  replace j139 := Pers.pers hle j139
  replace hgq := hgq.step hch y138.wr
  rw [← hoth 0 (by decide)] at j0
  rw [← hoth 1 (by decide)] at j1
  rw [← hoth 7 (by decide)] at j7
  rw [← hoth 8 (by decide)] at j8
  rw [← hoth 10 (by decide)] at j10
  rw [← hoth 12 (by decide)] at j12
  rw [← hoth 14 (by decide)] at j14
  rw [← hoth 16 (by decide)] at j16
  rw [← hoth 18 (by decide)] at j18
  rw [← hoth 20 (by decide)] at j20
  rw [← hoth 22 (by decide)] at j22
  rw [← hoth 137 (by decide)] at j137
  rw [← hoth 139 (by decide)] at j139
  have j140 := hown
  have y140 := yn
  replace hsb := hsz.trans hsb
  replace hdb := hdf.trans hdb
  clear hle hch hown hob hns yn hsz hdf hoth
  obtain ⟨b, hbb⟩ : ∃ b, b = b2 := ⟨b2, rfl⟩
  subst hbb
  obtain ⟨q, hqq⟩ : ∃ q, q = q2 := ⟨q2, rfl⟩
  subst hqq
  obtain ⟨q2, hsh, jn⟩ := j140.give
  replace j0 := Pers.pers hsh.le j0
  replace j1 := Pers.pers hsh.le j1
  replace j7 := Pers.pers hsh.le j7
  replace j8 := Pers.pers hsh.le j8
  replace j10 := Pers.pers hsh.le j10
  replace j12 := Pers.pers hsh.le j12
  replace j14 := Pers.pers hsh.le j14
  replace j16 := Pers.pers hsh.le j16
  replace j18 := Pers.pers hsh.le j18
  replace j20 := Pers.pers hsh.le j20
  replace j22 := Pers.pers hsh.le j22
  replace j137 := Pers.pers hsh.le j137
  replace j139 := Pers.pers hsh.le j139
  replace j140 := jn
  replace hgq := hgq.hand hsh y140.wr
  rw [← hsh.w]
  clear hsh
  obtain ⟨q, hqq⟩ : ∃ q, q = q2 := ⟨q2, rfl⟩
  subst hqq
  refine tail_call (F := noF) (i := 7) (d := 141) rfl rfl rfl rfl (by rw [hsb]; decide) Try.call9 hQQ1763 (Ret.toC (solid_Of_ok j140 hx1688_7)) fun b2 q2 hsz hdf hoth hch hres => ?_
  have hgr := hch.grow
  replace j0 := Pers.pers hgr.le j0
  replace j1 := Pers.pers hgr.le j1
  replace j7 := Pers.pers hgr.le j7
  replace j8 := Pers.pers hgr.le j8
  replace j10 := Pers.pers hgr.le j10
  replace j12 := Pers.pers hgr.le j12
  replace j14 := Pers.pers hgr.le j14
  replace j16 := Pers.pers hgr.le j16
  replace j18 := Pers.pers hgr.le j18
  replace j20 := Pers.pers hgr.le j20
  replace j22 := Pers.pers hgr.le j22
  replace j137 := Pers.pers hgr.le j137
  replace j139 := Pers.pers hgr.le j139
  replace j140 := Pers.pers hgr.le j140
  replace hgq := hgq.then hgr
  rw [← hoth 0 (by decide)] at j0
  rw [← hoth 1 (by decide)] at j1
  rw [← hoth 7 (by decide)] at j7
  rw [← hoth 8 (by decide)] at j8
  rw [← hoth 10 (by decide)] at j10
  rw [← hoth 12 (by decide)] at j12
  rw [← hoth 14 (by decide)] at j14
  rw [← hoth 16 (by decide)] at j16
  rw [← hoth 18 (by decide)] at j18
  rw [← hoth 20 (by decide)] at j20
  rw [← hoth 22 (by decide)] at j22
  rw [← hoth 137 (by decide)] at j137
  rw [← hoth 139 (by decide)] at j139
  rw [← hoth 140 (by decide)] at j140
  have j141 : (IsTup2 (IsV x1688_7.1) (IsV x1688_7.2)) (b2.get 141) q2 := hres
  replace hsb := hsz.trans hsb
  replace hdb := hdf.trans hdb
  clear hch hgr hres hsz hdf hoth
  obtain ⟨b, hbb⟩ : ∃ b, b = b2 := ⟨b2, rfl⟩
  subst hbb
  obtain ⟨q, hqq⟩ : ∃ q, q = q2 := ⟨q2, rfl⟩
  subst hqq
  refine tail_assign (i := 8) (d := 133) rfl rfl (.inr rfl) rfl (by rw [hsb]; decide) fun b2 hsz hdf hnew hoth => ?_
  have jn : (IsTup2 (IsV x1688_7.1) (IsV x1688_7.2)) (b2.get 133) q := by rw [hnew]; exact j141
  rw [← hoth 0 (by decide)] at j0
  rw [← hoth 1 (by decide)] at j1
  rw [← hoth 7 (by decide)] at j7
  rw [← hoth 8 (by decide)] at j8
  rw [← hoth 10 (by decide)] at j10
  rw [← hoth 12 (by decide)] at j12
  rw [← hoth 14 (by decide)] at j14
  rw [← hoth 16 (by decide)] at j16
  rw [← hoth 18 (by decide)] at j18
  rw [← hoth 20 (by decide)] at j20
  rw [← hoth 22 (by decide)] at j22
  rw [← hoth 137 (by decide)] at j137
  rw [← hoth 139 (by decide)] at j139
  rw [← hoth 140 (by decide)] at j140
  rw [← hoth 141 (by decide)] at j141
  have j133 := jn
  replace hsb := hsz.trans hsb
  replace hdb := hdf.trans hdb
  clear hsz hdf hoth
  obtain ⟨b, hbb⟩ : ∃ b, b = b2 := ⟨b2, rfl⟩
  subst hbb
  have jx : (IsTup2 (IsV x1688_7.1) (IsV x1688_7.2)) (b.get 133) q := j133
  obtain ⟨y0_, y1_, hxt, jy0_, jy1_⟩ := jx
  refine tail_ext (i := 9) (d := 142) rfl rfl rfl rfl (by rw [hsb]; decide) hxt rfl fun b2 hsz hdf hnew hoth => ?_
  have jn : (IsV x1688_7.1) (b2.get 142) q := by rw [hnew]; exact jy0_
  rw [← hoth 0 (by decide)] at j0
  rw [← hoth 1 (by decide)] at j1
  rw [← hoth 7 (by decide)] at j7
  rw [← hoth 8 (by decide)] at j8
  rw [← hoth 10 (by decide)] at j10
  rw [← hoth 12 (by decide)] at j12
  rw [← hoth 14 (by decide)] at j14
  rw [← hoth 16 (by decide)] at j16
  rw [← hoth 18 (by decide)] at j18
  rw [← hoth 20 (by decide)] at j20
  rw [← hoth 22 (by decide)] at j22
  rw [← hoth 133 (by decide)] at j133
  rw [← hoth 137 (by decide)] at j137
  rw [← hoth 139 (by decide)] at j139
  rw [← hoth 140 (by decide)] at j140
  rw [← hoth 141 (by decide)] at j141
  have j142 := jn
  replace hsb := hsz.trans hsb
  replace hdb := hdf.trans hdb
  clear hsz hdf hoth jn hnew hxt
  obtain ⟨b, hbb⟩ : ∃ b, b = b2 := ⟨b2, rfl⟩
  subst hbb
  have jx : (IsTup2 (IsV x1688_7.1) (IsV x1688_7.2)) (b.get 133) q := j133
  obtain ⟨y0_, y1_, hxt, jy0_, jy1_⟩ := jx
  refine tail_ext (i := 10) (d := 143) rfl rfl rfl rfl (by rw [hsb]; decide) hxt rfl fun b2 hsz hdf hnew hoth => ?_
  have jn : (IsV x1688_7.2) (b2.get 143) q := by rw [hnew]; exact jy1_
  rw [← hoth 0 (by decide)] at j0
  rw [← hoth 1 (by decide)] at j1
  rw [← hoth 7 (by decide)] at j7
  rw [← hoth 8 (by decide)] at j8
  rw [← hoth 10 (by decide)] at j10
  rw [← hoth 12 (by decide)] at j12
  rw [← hoth 14 (by decide)] at j14
  rw [← hoth 16 (by decide)] at j16
  rw [← hoth 18 (by decide)] at j18
  rw [← hoth 20 (by decide)] at j20
  rw [← hoth 22 (by decide)] at j22
  rw [← hoth 133 (by decide)] at j133
  rw [← hoth 137 (by decide)] at j137
  rw [← hoth 139 (by decide)] at j139
  rw [← hoth 140 (by decide)] at j140
  rw [← hoth 141 (by decide)] at j141
  rw [← hoth 142 (by decide)] at j142
  have j143 := jn
  replace hsb := hsz.trans hsb
  replace hdb := hdf.trans hdb
  clear hsz hdf hoth jn hnew hxt
  obtain ⟨b, hbb⟩ : ∃ b, b = b2 := ⟨b2, rfl⟩
  subst hbb
  refine tail_assign (i := 11) (d := 24) rfl rfl (.inl rfl) rfl (by rw [hsb]; decide) fun b2 hsz hdf hnew hoth => ?_
  have jn : (IsV x1688_7.1) (b2.get 24) q := by rw [hnew]; exact j142
  rw [← hoth 0 (by decide)] at j0
  rw [← hoth 1 (by decide)] at j1
  rw [← hoth 7 (by decide)] at j7
  rw [← hoth 8 (by decide)] at j8
  rw [← hoth 10 (by decide)] at j10
  rw [← hoth 12 (by decide)] at j12
  rw [← hoth 14 (by decide)] at j14
  rw [← hoth 16 (by decide)] at j16
  rw [← hoth 18 (by decide)] at j18
  rw [← hoth 20 (by decide)] at j20
  rw [← hoth 22 (by decide)] at j22
  rw [← hoth 133 (by decide)] at j133
  rw [← hoth 137 (by decide)] at j137
  rw [← hoth 139 (by decide)] at j139
  rw [← hoth 140 (by decide)] at j140
  rw [← hoth 141 (by decide)] at j141
  rw [← hoth 142 (by decide)] at j142
  rw [← hoth 143 (by decide)] at j143
  have j24 := jn
  replace hsb := hsz.trans hsb
  replace hdb := hdf.trans hdb
  clear hsz hdf hoth
  obtain ⟨b, hbb⟩ : ∃ b, b = b2 := ⟨b2, rfl⟩
  subst hbb
  refine tail_assign (i := 12) (d := 25) rfl rfl (.inl rfl) rfl (by rw [hsb]; decide) fun b2 hsz hdf hnew hoth => ?_
  have jn : (IsV x1688_7.2) (b2.get 25) q := by rw [hnew]; exact j143
  rw [← hoth 0 (by decide)] at j0
  rw [← hoth 1 (by decide)] at j1
  rw [← hoth 7 (by decide)] at j7
  rw [← hoth 8 (by decide)] at j8
  rw [← hoth 10 (by decide)] at j10
  rw [← hoth 12 (by decide)] at j12
  rw [← hoth 14 (by decide)] at j14
  rw [← hoth 16 (by decide)] at j16
  rw [← hoth 18 (by decide)] at j18
  rw [← hoth 20 (by decide)] at j20
  rw [← hoth 22 (by decide)] at j22
  rw [← hoth 24 (by decide)] at j24
  rw [← hoth 133 (by decide)] at j133
  rw [← hoth 137 (by decide)] at j137
  rw [← hoth 139 (by decide)] at j139
  rw [← hoth 140 (by decide)] at j140
  rw [← hoth 141 (by decide)] at j141
  rw [← hoth 142 (by decide)] at j142
  rw [← hoth 143 (by decide)] at j143
  have j25 := jn
  replace hsb := hsz.trans hsb
  replace hdb := hdf.trans hdb
  clear hsz hdf hoth
  obtain ⟨b, hbb⟩ : ∃ b, b = b2 := ⟨b2, rfl⟩
  subst hbb
  exact tail_done (k := q) (hp1764 _ _ ⟨⟨hgq, hsb, hdb⟩, j0, j7, j8, j10, j12, j14, j16, j18, j20, j22, j24, j25, trivial⟩)
 rintro a k ⟨⟨hg, hs, hd⟩, i0, i7, i8, i10, i12, i14, i16, i18, i20, i22, i24, i25, _⟩
 refine wp_seq ?_
 obtain ⟨x1689_2, hx1689_2, hr⟩ := bind_some hr
 refine cut (fun a' k' => Bs noF k0 299 a' k' ∧ (IsV a_) (a'.get 0) k' ∧ (IsV x1671_0) (a'.get 7) k' ∧ (IsV x1676_1.1) (a'.get 8) k' ∧ (IsV x1677_1.1) (a'.get 10) k' ∧ (IsV x1678_1.1) (a'.get 12) k' ∧ (IsV x1683_2.1) (a'.get 14) k' ∧ (IsV x1684_2.1) (a'.get 16) k' ∧ (IsV x1685_2.1) (a'.get 18) k' ∧ (IsV x1686_2.1) (a'.get 20) k' ∧ (IsV x1687_2.1) (a'.get 22) k' ∧ (IsV x1688_7.1) (a'.get 24) k' ∧ (IsV x1688_7.2) (a'.get 25) k' ∧ (IsV x1689_2.1) (a'.get 26) k' ∧ True) ?_ hQ ?_
 ·intro Q1761 hQQ1761 hp1762
  refine gS 8 (_ :: _ :: _ :: _ :: _ :: _ :: _ :: _ :: []) hs (by kernel_rfl) ⟨mu rfl i8, mu rfl i10, o1 [(145, some 0), (146, some 1)] rfl fun _ _ h n => ok_call rfl Try.call15 (solid_Common_ok n.1 n.2.1 hx1689_2), cm 2 rfl rfl, o1 [(144, some 3)] rfl fun _ _ h n => ok_ext2_0 rfl n.1, o1 [(144, some 3)] rfl fun _ _ h n => ok_ext2_1 rfl n.1, cp 4 rfl rfl, cp 5 rfl rfl, trivial⟩ hQQ1761 fun b q p => ?_
  exact tail_done (k := q) (hp1762 _ _ ⟨Bs.post ⟨hg, hs, hd⟩ p, p.ke 0 rfl i0, p.ke 7 rfl i7, p.ke 8 rfl i8, p.ke 10 rfl i10, p.ke 12 rfl i12, p.ke 14 rfl i14, p.ke 16 rfl i16, p.ke 18 rfl i18, p.ke 20 rfl i20, p.ke 22 rfl i22, p.ke 24 rfl i24, p.ke 25 rfl i25, p.ou 6 26 rfl, trivial⟩)
 rintro a k ⟨⟨hg, hs, hd⟩, i0, i7, i8, i10, i12, i14, i16, i18, i20, i22, i24, i25, i26, _⟩
 refine wp_seq ?_
 obtain ⟨x1690_2, hx1690_2, hr⟩ := bind_some hr
 refine cut (fun a' k' => Bs noF k0 299 a' k' ∧ (IsV a_) (a'.get 0) k' ∧ (IsV x1671_0) (a'.get 7) k' ∧ (IsV x1676_1.1) (a'.get 8) k' ∧ (IsV x1677_1.1) (a'.get 10) k' ∧ (IsV x1678_1.1) (a'.get 12) k' ∧ (IsV x1683_2.1) (a'.get 14) k' ∧ (IsV x1684_2.1) (a'.get 16) k' ∧ (IsV x1685_2.1) (a'.get 18) k' ∧ (IsV x1686_2.1) (a'.get 20) k' ∧ (IsV x1687_2.1) (a'.get 22) k' ∧ (IsV x1688_7.1) (a'.get 24) k' ∧ (IsV x1688_7.2) (a'.get 25) k' ∧ (IsV x1689_2.1) (a'.get 26) k' ∧ (IsV x1690_2.1) (a'.get 28) k' ∧ True) ?_ hQ ?_
 ·intro Q1759 hQQ1759 hp1760
  refine gS 8 (_ :: _ :: _ :: _ :: _ :: _ :: _ :: _ :: []) hs (by kernel_rfl) ⟨mu rfl i10, mu rfl i8, o1 [(151, some 0), (152, some 1)] rfl fun _ _ h n => ok_call rfl Try.call15 (solid_Common_ok n.1 n.2.1 hx1690_2), cm 2 rfl rfl, o1 [(150, some 3)] rfl fun _ _ h n => ok_ext2_0 rfl n.1, o1 [(150, some 3)] rfl fun _ _ h n => ok_ext2_1 rfl n.1, cp 4 rfl rfl, cp 5 rfl rfl, trivial⟩ hQQ1759 fun b q p => ?_
  exact tail_done (k := q) (hp1760 _ _ ⟨Bs.post ⟨hg, hs, hd⟩ p, p.ke 0 rfl i0, p.ke 7 rfl i7, p.ke 8 rfl i8, p.ke 10 rfl i10, p.ke 12 rfl i12, p.ke 14 rfl i14, p.ke 16 rfl i16, p.ke 18 rfl i18, p.ke 20 rfl i20, p.ke 22 rfl i22, p.ke 24 rfl i24, p.ke 25 rfl i25, p.ke 26 rfl i26, p.ou 6 28 rfl, trivial⟩)
 rintro a k ⟨⟨hg, hs, hd⟩, i0, i7, i8, i10, i12, i14, i16, i18, i20, i22, i24, i25, i26, i28, _⟩
 refine wp_seq ?_
 obtain ⟨x1691_2, hx1691_2, hr⟩ := bind_some hr
 refine cut (fun a' k' => Bs noF k0 299 a' k' ∧ (IsV a_) (a'.get 0) k' ∧ (IsV x1671_0) (a'.get 7) k' ∧ (IsV x1676_1.1) (a'.get 8) k' ∧ (IsV x1677_1.1) (a'.get 10) k' ∧ (IsV x1678_1.1) (a'.get 12) k' ∧ (IsV x1683_2.1) (a'.get 14) k' ∧ (IsV x1684_2.1) (a'.get 16) k' ∧ (IsV x1685_2.1) (a'.get 18) k' ∧ (IsV x1686_2.1) (a'.get 20) k' ∧ (IsV x1687_2.1) (a'.get 22) k' ∧ (IsV x1688_7.1) (a'.get 24) k' ∧ (IsV x1688_7.2) (a'.get 25) k' ∧ (IsV x1689_2.1) (a'.get 26) k' ∧ (IsV x1690_2.1) (a'.get 28) k' ∧ (IsV x1691_2.1) (a'.get 30) k' ∧ True) ?_ hQ ?_
 ·intro Q1757 hQQ1757 hp1758
  refine gS 8 (_ :: _ :: _ :: _ :: _ :: _ :: _ :: _ :: []) hs (by kernel_rfl) ⟨mu rfl i8, mu rfl i12, o1 [(157, some 0), (158, some 1)] rfl fun _ _ h n => ok_call rfl Try.call15 (solid_Common_ok n.1 n.2.1 hx1691_2), cm 2 rfl rfl, o1 [(156, some 3)] rfl fun _ _ h n => ok_ext2_0 rfl n.1, o1 [(156, some 3)] rfl fun _ _ h n => ok_ext2_1 rfl n.1, cp 4 rfl rfl, cp 5 rfl rfl, trivial⟩ hQQ1757 fun b q p => ?_
  exact tail_done (k := q) (hp1758 _ _ ⟨Bs.post ⟨hg, hs, hd⟩ p, p.ke 0 rfl i0, p.ke 7 rfl i7, p.ke 8 rfl i8, p.ke 10 rfl i10, p.ke 12 rfl i12, p.ke 14 rfl i14, p.ke 16 rfl i16, p.ke 18 rfl i18, p.ke 20 rfl i20, p.ke 22 rfl i22, p.ke 24 rfl i24, p.ke 25 rfl i25, p.ke 26 rfl i26, p.ke 28 rfl i28, p.ou 6 30 rfl, trivial⟩)
 rintro a k ⟨⟨hg, hs, hd⟩, i0, i7, i8, i10, i12, i14, i16, i18, i20, i22, i24, i25, i26, i28, i30, _⟩
 refine wp_seq ?_
 obtain ⟨x1692_2, hx1692_2, hr⟩ := bind_some hr
 refine cut (fun a' k' => Bs noF k0 299 a' k' ∧ (IsV a_) (a'.get 0) k' ∧ (IsV x1671_0) (a'.get 7) k' ∧ (IsV x1676_1.1) (a'.get 8) k' ∧ (IsV x1677_1.1) (a'.get 10) k' ∧ (IsV x1678_1.1) (a'.get 12) k' ∧ (IsV x1683_2.1) (a'.get 14) k' ∧ (IsV x1684_2.1) (a'.get 16) k' ∧ (IsV x1685_2.1) (a'.get 18) k' ∧ (IsV x1686_2.1) (a'.get 20) k' ∧ (IsV x1687_2.1) (a'.get 22) k' ∧ (IsV x1688_7.1) (a'.get 24) k' ∧ (IsV x1688_7.2) (a'.get 25) k' ∧ (IsV x1689_2.1) (a'.get 26) k' ∧ (IsV x1690_2.1) (a'.get 28) k' ∧ (IsV x1691_2.1) (a'.get 30) k' ∧ (IsV x1692_2.1) (a'.get 32) k' ∧ True) ?_ hQ ?_
 ·intro Q1755 hQQ1755 hp1756
  refine gS 8 (_ :: _ :: _ :: _ :: _ :: _ :: _ :: _ :: []) hs (by kernel_rfl) ⟨mu rfl i8, mu rfl i18, o1 [(163, some 0), (164, some 1)] rfl fun _ _ h n => ok_call rfl Try.call15 (solid_Common_ok n.1 n.2.1 hx1692_2), cm 2 rfl rfl, o1 [(162, some 3)] rfl fun _ _ h n => ok_ext2_0 rfl n.1, o1 [(162, some 3)] rfl fun _ _ h n => ok_ext2_1 rfl n.1, cp 4 rfl rfl, cp 5 rfl rfl, trivial⟩ hQQ1755 fun b q p => ?_
  exact tail_done (k := q) (hp1756 _ _ ⟨Bs.post ⟨hg, hs, hd⟩ p, p.ke 0 rfl i0, p.ke 7 rfl i7, p.ke 8 rfl i8, p.ke 10 rfl i10, p.ke 12 rfl i12, p.ke 14 rfl i14, p.ke 16 rfl i16, p.ke 18 rfl i18, p.ke 20 rfl i20, p.ke 22 rfl i22, p.ke 24 rfl i24, p.ke 25 rfl i25, p.ke 26 rfl i26, p.ke 28 rfl i28, p.ke 30 rfl i30, p.ou 6 32 rfl, trivial⟩)
 rintro a k ⟨⟨hg, hs, hd⟩, i0, i7, i8, i10, i12, i14, i16, i18, i20, i22, i24, i25, i26, i28, i30, i32, _⟩
 refine wp_seq ?_
 obtain ⟨x1693_2, hx1693_2, hr⟩ := bind_some hr
 refine cut (fun a' k' => Bs noF k0 299 a' k' ∧ (IsV a_) (a'.get 0) k' ∧ (IsV x1671_0) (a'.get 7) k' ∧ (IsV x1676_1.1) (a'.get 8) k' ∧ (IsV x1677_1.1) (a'.get 10) k' ∧ (IsV x1678_1.1) (a'.get 12) k' ∧ (IsV x1683_2.1) (a'.get 14) k' ∧ (IsV x1684_2.1) (a'.get 16) k' ∧ (IsV x1685_2.1) (a'.get 18) k' ∧ (IsV x1686_2.1) (a'.get 20) k' ∧ (IsV x1687_2.1) (a'.get 22) k' ∧ (IsV x1688_7.1) (a'.get 24) k' ∧ (IsV x1688_7.2) (a'.get 25) k' ∧ (IsV x1689_2.1) (a'.get 26) k' ∧ (IsV x1690_2.1) (a'.get 28) k' ∧ (IsV x1692_2.1) (a'.get 32) k' ∧ (IsV x1693_2.1) (a'.get 34) k' ∧ True) ?_ hQ ?_
 ·intro Q1753 hQQ1753 hp1754
  refine gS 8 (_ :: _ :: _ :: _ :: _ :: _ :: _ :: _ :: []) hs (by kernel_rfl) ⟨mu rfl i26, mu rfl i30, o1 [(169, some 0), (170, some 1)] rfl fun _ _ h n => ok_call rfl Try.call14 (solid_Union_ok n.1 n.2.1 hx1693_2), cm 2 rfl rfl, o1 [(168, some 3)] rfl fun _ _ h n => ok_ext2_0 rfl n.1, o1 [(168, some 3)] rfl fun _ _ h n => ok_ext2_1 rfl n.1, cp 4 rfl rfl, cp 5 rfl rfl, trivial⟩ hQQ1753 fun b q p => ?_
  exact tail_done (k := q) (hp1754 _ _ ⟨Bs.post ⟨hg, hs, hd⟩ p, p.ke 0 rfl i0, p.ke 7 rfl i7, p.ke 8 rfl i8, p.ke 10 rfl i10, p.ke 12 rfl i12, p.ke 14 rfl i14, p.ke 16 rfl i16, p.ke 18 rfl i18, p.ke 20 rfl i20, p.ke 22 rfl i22, p.ke 24 rfl i24, p.ke 25 rfl i25, p.ke 26 rfl i26, p.ke 28 rfl i28, p.ke 32 rfl i32, p.ou 6 34 rfl, trivial⟩)
 rintro a k ⟨⟨hg, hs, hd⟩, i0, i7, i8, i10, i12, i14, i16, i18, i20, i22, i24, i25, i26, i28, i32, i34, _⟩
 refine wp_seq ?_
 refine wp_seq ?_
 obtain ⟨x1694_7, hx1694_7, hr⟩ := bind_some hr
 obtain ⟨x1694_5, hx1694_5, hx1694_7⟩ := ite_bindF hx1694_7
 obtain ⟨x1694_13, hx1694_13, hr⟩ := bind_some hr
 obtain ⟨x1694_11, hx1694_11, hx1694_13⟩ := ite_bindF hx1694_13
 obtain ⟨x1694_19, hx1694_19, hr⟩ := bind_some hr
 obtain ⟨x1694_17, hx1694_17, hx1694_19⟩ := ite_bindF hx1694_19
 obtain ⟨x1694_25, hx1694_25, hr⟩ := bind_some hr
 obtain ⟨x1694_23, hx1694_23, hx1694_25⟩ := ite_bindF hx1694_25
 obtain ⟨x1694_31, hx1694_31, hr⟩ := bind_some hr
 obtain ⟨x1694_29, hx1694_29, hx1694_31⟩ := ite_bindF hx1694_31
 obtain ⟨x1694_44, hx1694_44, hr⟩ := bind_some hr
 obtain ⟨x1694_34, hx1694_34, hx1694_44⟩ := ite_bindF hx1694_44
 obtain ⟨x1694_36, hx1694_36, hx1694_44⟩ := ite_bindF hx1694_44
 obtain ⟨x1694_37, hx1694_37, hx1694_44⟩ := ite_bindF hx1694_44
 obtain ⟨x1694_39, hx1694_39, hx1694_44⟩ := ite_bindF hx1694_44
 obtain ⟨x1694_41, hx1694_41, hx1694_44⟩ := ite_bindF hx1694_44
 obtain ⟨x1694_42, hx1694_42, hx1694_44⟩ := ite_bindF hx1694_44
 refine cut (fun a' k' => Bs noF k0 299 a' k' ∧ (IsV a_) (a'.get 0) k' ∧ (IsV x1671_0) (a'.get 7) k' ∧ (IsV x1676_1.1) (a'.get 8) k' ∧ (IsV x1677_1.1) (a'.get 10) k' ∧ (IsV x1678_1.1) (a'.get 12) k' ∧ (IsV x1685_2.1) (a'.get 18) k' ∧ (IsV x1689_2.1) (a'.get 26) k' ∧ (IsV x1694_44) (a'.get 218) k' ∧ True) ?_ hQ ?_
 ·intro Q1751 hQQ1751 hp1752
  refine gS 45 (_ :: ⟨some (IsV (x1688_7.2 != 0)), [(174, some 0)]⟩ :: _ :: _ :: _ :: _ :: _ :: _ :: _ :: _ :: _ :: _ :: _ :: _ :: _ :: _ :: _ :: _ :: _ :: _ :: _ :: _ :: _ :: _ :: _ :: _ :: _ :: _ :: _ :: _ :: _ :: _ :: _ :: _ :: _ :: _ :: _ :: _ :: _ :: _ :: _ :: _ :: _ :: ⟨some (Gd (x1694_31 = false) (IsV (x1694_37 != x1694_42))), [(211, some 37), (216, some 42)]⟩ :: _ :: []) hs (by kernel_rfl) ⟨mu rfl i25, ob1 rfl fun _ _ h n => ok_neI rfl n.1 (cI rfl), cm 1 rfl rfl, mF rfl rfl i14, mF rfl rfl i16, gF [(177, some 3), (178, some 4)] rfl rfl fun hp _ _ h n => ok_call rfl Try.call11 (solid_Same_ok (Gd.get n.1 hp) (Gd.get n.2.1 hp) (hx1694_5 hp)), gF [(179, some 5)] rfl rfl fun hp _ _ h n => ok_not rfl (Gd.get n.1 hp), o1 [(176, some 2), (180, some 6)] rfl fun _ _ h n => ok_pickM rfl n.1 hx1694_7 (cB rfl) (Gd.get n.2.1), cm 7 rfl rfl, mF rfl rfl i20, mF rfl rfl i22, gF [(183, some 9), (184, some 10)] rfl rfl fun hp _ _ h n => ok_call rfl Try.call11 (solid_Same_ok (Gd.get n.1 hp) (Gd.get n.2.1 hp) (hx1694_11 hp)), gF [(185, some 11)] rfl rfl fun hp _ _ h n => ok_not rfl (Gd.get n.1 hp), o1 [(182, some 8), (186, some 12)] rfl fun _ _ h n => ok_pickM rfl n.1 hx1694_13 (cB rfl) (Gd.get n.2.1), cm 13 rfl rfl, mF rfl rfl i20, mF rfl rfl i24, gF [(189, some 15), (190, some 16)] rfl rfl fun hp _ _ h n => ok_call rfl Try.call11 (solid_Same_ok (Gd.get n.1 hp) (Gd.get n.2.1 hp) (hx1694_17 hp)), gF [(191, some 17)] rfl rfl fun hp _ _ h n => ok_not rfl (Gd.get n.1 hp), o1 [(188, some 14), (192, some 18)] rfl fun _ _ h n => ok_pickM rfl n.1 hx1694_19 (cB rfl) (Gd.get n.2.1), cm 19 rfl rfl, mF rfl rfl i26, mF rfl rfl i28, gF [(195, some 21), (196, some 22)] rfl rfl fun hp _ _ h n => ok_call rfl Try.call11 (solid_Same_ok (Gd.get n.1 hp) (Gd.get n.2.1 hp) (hx1694_23 hp)), gF [(197, some 23)] rfl rfl fun hp _ _ h n => ok_not rfl (Gd.get n.1 hp), o1 [(194, some 20), (198, some 24)] rfl fun _ _ h n => ok_pickM rfl n.1 hx1694_25 (cB rfl) (Gd.get n.2.1), cm 25 rfl rfl, mF rfl rfl i32, mF rfl rfl i34, gF [(201, some 27), (202, some 28)] rfl rfl fun hp _ _ h n => ok_call rfl Try.call11 (solid_Same_ok (Gd.get n.1 hp) (Gd.get n.2.1 hp) (hx1694_29 hp)), gF [(203, some 29)] rfl rfl fun hp _ _ h n => ok_not rfl (Gd.get n.1 hp), o1 [(200, some 26), (204, some 30)] rfl fun _ _ h n => ok_pickM rfl n.1 hx1694_31 (cB rfl) (Gd.get n.2.1), cm 31 rfl rfl, mF rfl rfl i14, gF [(207, some 33)] rfl rfl fun hp _ _ h n => ok_call rfl Try.call12 (solid_Volume_ok (Gd.get n.1 hp) (hx1694_34 hp)), mF rfl rfl i26, gF [(209, some 35)] rfl rfl fun hp _ _ h n => ok_call rfl Try.call12 (solid_Volume_ok (Gd.get n.1 hp) (hx1694_36 hp)), gF [(208, some 34), (210, some 36)] rfl rfl fun hp _ _ h n => ok_add rfl (Gd.get n.1 hp) (Gd.get n.2.1 hp) (hx1694_37 hp), mF rfl rfl i8, gF [(212, some 38)] rfl rfl fun hp _ _ h n => ok_call rfl Try.call12 (solid_Volume_ok (Gd.get n.1 hp) (hx1694_39 hp)), mF rfl rfl i10, gF [(214, some 40)] rfl rfl fun hp _ _ h n => ok_call rfl Try.call12 (solid_Volume_ok (Gd.get n.1 hp) (hx1694_41 hp)), gF [(213, some 39), (215, some 41)] rfl rfl fun hp _ _ h n => ok_add rfl (Gd.get n.1 hp) (Gd.get n.2.1 hp) (hx1694_42 hp), gdF rfl rfl fun hp _ _ h n => ok_neI rfl (Gd.get n.1 hp) (Gd.get n.2.1 hp), o1 [(206, some 32), (217, some 43)] rfl fun _ _ h n => ok_pickM rfl n.1 hx1694_44 (cB rfl) (Gd.get n.2.1), trivial⟩ hQQ1751 fun b q p => ?_
  exact tail_done (k := q) (hp1752 _ _ ⟨Bs.post ⟨hg, hs, hd⟩ p, p.ke 0 rfl i0, p.ke 7 rfl i7, p.ke 8 rfl i8, p.ke 10 rfl i10, p.ke 12 rfl i12, p.ke 18 rfl i18, p.ke 26 rfl i26, p.ou 44 218 rfl, trivial⟩)
 rintro a k ⟨⟨hg, hs, hd⟩, i0, i7, i8, i10, i12, i18, i26, i218, _⟩
 refine wp_cond_split (isBool i218) (fun hc1750 => ?_) (fun hc1750 => ?_)
 ·rw [if_pos hc1750] at hr
  refine stepL 1 (⟨some (IsV false), []⟩ :: []) rfl ⟨hg, hs, hd⟩ (by kernel_rfl) ⟨ob1 rfl fun _ _ h n => ok_assign rfl (isV_bool.2 rfl), trivial⟩ [⟨_, _⟩] (fun b q p => ⟨p.ou 0 6 rfl, trivial⟩) ?_
  rintro a k ⟨⟨hg, hs, hd⟩, i6, _⟩
  refine wp_ret ?_
  obtain rfl := Option.some.inj hr
  exact retC1 rfl hd hg i6
 rw [if_neg (by rw [hc1750]; decide)] at hr
 refine wp_skip ?_
 refine wp_seq ?_
 obtain ⟨x1698_2, hx1698_2, hr⟩ := bind_some hr
 refine cut (fun a' k' => Bs noF k0 299 a' k' ∧ (IsV a_) (a'.get 0) k' ∧ (IsV x1671_0) (a'.get 7) k' ∧ (IsV x1676_1.1) (a'.get 8) k' ∧ (IsV x1677_1.1) (a'.get 10) k' ∧ (IsV x1678_1.1) (a'.get 12) k' ∧ (IsV x1685_2.1) (a'.get 18) k' ∧ (IsV x1689_2.1) (a'.get 26) k' ∧ (IsV x1698_2.1) (a'.get 36) k' ∧ (IsV x1698_2.2) (a'.get 37) k' ∧ True) ?_ hQ ?_
 ·intro Q1748 hQQ1748 hp1749
  refine gS 8 (_ :: _ :: _ :: _ :: _ :: _ :: _ :: _ :: []) hs (by kernel_rfl) ⟨mu rfl i8, mu rfl i10, o1 [(220, some 0), (221, some 1)] rfl fun _ _ h n => ok_call rfl Try.call16 (solid_Minus_ok n.1 n.2.1 hx1698_2), cm 2 rfl rfl, o1 [(219, some 3)] rfl fun _ _ h n => ok_ext2_0 rfl n.1, o1 [(219, some 3)] rfl fun _ _ h n => ok_ext2_1 rfl n.1, cp 4 rfl rfl, cp 5 rfl rfl, trivial⟩ hQQ1748 fun b q p => ?_
  exact tail_done (k := q) (hp1749 _ _ ⟨Bs.post ⟨hg, hs, hd⟩ p, p.ke 0 rfl i0, p.ke 7 rfl i7, p.ke 8 rfl i8, p.ke 10 rfl i10, p.ke 12 rfl i12, p.ke 18 rfl i18, p.ke 26 rfl i26, p.ou 6 36 rfl, p.ou 7 37 rfl, trivial⟩)
 rintro a k ⟨⟨hg, hs, hd⟩, i0, i7, i8, i10, i12, i18, i26, i36, i37, _⟩
 refine wp_seq ?_
 obtain ⟨x1699_2, hx1699_2, hr⟩ := bind_some hr
 refine cut (fun a' k' => Bs noF k0 299 a' k' ∧ (IsV a_) (a'.get 0) k' ∧ (IsV x1671_0) (a'.get 7) k' ∧ (IsV x1676_1.1) (a'.get 8) k' ∧ (IsV x1678_1.1) (a'.get 12) k' ∧ (IsV x1685_2.1) (a'.get 18) k' ∧ (IsV x1689_2.1) (a'.get 26) k' ∧ (IsV x1698_2.1) (a'.get 36) k' ∧ (IsV x1698_2.2) (a'.get 37) k' ∧ (IsV x1699_2.1) (a'.get 38) k' ∧ True) ?_ hQ ?_
 ·intro Q1746 hQQ1746 hp1747
  refine gS 8 (_ :: _ :: _ :: _ :: _ :: _ :: _ :: _ :: []) hs (by kernel_rfl) ⟨mu rfl i36, mu rfl i10, o1 [(226, some 0), (227, some 1)] rfl fun _ _ h n => ok_call rfl Try.call15 (solid_Common_ok n.1 n.2.1 hx1699_2), cm 2 rfl rfl, o1 [(225, some 3)] rfl fun _ _ h n => ok_ext2_0 rfl n.1, o1 [(225, some 3)] rfl fun _ _ h n => ok_ext2_1 rfl n.1, cp 4 rfl rfl, cp 5 rfl rfl, trivial⟩ hQQ1746 fun b q p => ?_
  exact tail_done (k := q) (hp1747 _ _ ⟨Bs.post ⟨hg, hs, hd⟩ p, p.ke 0 rfl i0, p.ke 7 rfl i7, p.ke 8 rfl i8, p.ke 12 rfl i12, p.ke 18 rfl i18, p.ke 26 rfl i26, p.ke 36 rfl i36, p.ke 37 rfl i37, p.ou 6 38 rfl, trivial⟩)
 rintro a k ⟨⟨hg, hs, hd⟩, i0, i7, i8, i12, i18, i26, i36, i37, i38, _⟩
 refine wp_seq ?_
 obtain ⟨x1700_2, hx1700_2, hr⟩ := bind_some hr
 refine cut (fun a' k' => Bs noF k0 299 a' k' ∧ (IsV a_) (a'.get 0) k' ∧ (IsV x1671_0) (a'.get 7) k' ∧ (IsV x1676_1.1) (a'.get 8) k' ∧ (IsV x1678_1.1) (a'.get 12) k' ∧ (IsV x1685_2.1) (a'.get 18) k' ∧ (IsV x1698_2.1) (a'.get 36) k' ∧ (IsV x1698_2.2) (a'.get 37) k' ∧ (IsV x1699_2.1) (a'.get 38) k' ∧ (IsV x1700_2.1) (a'.get 40) k' ∧ True) ?_ hQ ?_
 ·intro Q1744 hQQ1744 hp1745
  refine gS 8 (_ :: _ :: _ :: _ :: _ :: _ :: _ :: _ :: []) hs (by kernel_rfl) ⟨mu rfl i36, mu rfl i26, o1 [(232, some 0), (233, some 1)] rfl fun _ _ h n => ok_call rfl Try.call14 (solid_Union_ok n.1 n.2.1 hx1700_2), cm 2 rfl rfl, o1 [(231, some 3)] rfl fun _ _ h n => ok_ext2_0 rfl n.1, o1 [(231, some 3)] rfl fun _ _ h n => ok_ext2_1 rfl n.1, cp 4 rfl rfl, cp 5 rfl rfl, trivial⟩ hQQ1744 fun b q p => ?_
  exact tail_done (k := q) (hp1745 _ _ ⟨Bs.post ⟨hg, hs, hd⟩ p, p.ke 0 rfl i0, p.ke 7 rfl i7, p.ke 8 rfl i8, p.ke 12 rfl i12, p.ke 18 rfl i18, p.ke 36 rfl i36, p.ke 37 rfl i37, p.ke 38 rfl i38, p.ou 6 40 rfl, trivial⟩)
 rintro a k ⟨⟨hg, hs, hd⟩, i0, i7, i8, i12, i18, i36, i37, i38, i40, _⟩
 refine wp_seq ?_
 obtain ⟨x1701_2, hx1701_2, hr⟩ := bind_some hr
 refine cut (fun a' k' => Bs noF k0 299 a' k' ∧ (IsV a_) (a'.get 0) k' ∧ (IsV x1671_0) (a'.get 7) k' ∧ (IsV x1676_1.1) (a'.get 8) k' ∧ (IsV x1678_1.1) (a'.get 12) k' ∧ (IsV x1698_2.1) (a'.get 36) k' ∧ (IsV x1698_2.2) (a'.get 37) k' ∧ (IsV x1699_2.1) (a'.get 38) k' ∧ (IsV x1700_2.1) (a'.get 40) k' ∧ (IsV x1701_2.1) (a'.get 42) k' ∧ True) ?_ hQ ?_
 ·intro Q1742 hQQ1742 hp1743
  refine gS 8 (_ :: _ :: _ :: _ :: _ :: _ :: _ :: _ :: []) hs (by kernel_rfl) ⟨mu rfl i8, mu rfl i18, o1 [(238, some 0), (239, some 1)] rfl fun _ _ h n => ok_call rfl Try.call16 (solid_Minus_ok n.1 n.2.1 hx1701_2), cm 2 rfl rfl, o1 [(237, some 3)] rfl fun _ _ h n => ok_ext2_0 rfl n.1, o1 [(237, some 3)] rfl fun _ _ h n => ok_ext2_1 rfl n.1, cp 4 rfl rfl, cp 5 rfl rfl, trivial⟩ hQQ1742 fun b q p => ?_
  exact tail_done (k := q) (hp1743 _ _ ⟨Bs.post ⟨hg, hs, hd⟩ p, p.ke 0 rfl i0, p.ke 7 rfl i7, p.ke 8 rfl i8, p.ke 12 rfl i12, p.ke 36 rfl i36, p.ke 37 rfl i37, p.ke 38 rfl i38, p.ke 40 rfl i40, p.ou 6 42 rfl, trivial⟩)
 rintro a k ⟨⟨hg, hs, hd⟩, i0, i7, i8, i12, i36, i37, i38, i40, i42, _⟩
 refine wp_seq ?_
 obtain ⟨x1702_2, hx1702_2, hr⟩ := bind_some hr
 refine cut (fun a' k' => Bs noF k0 299 a' k' ∧ (IsV a_) (a'.get 0) k' ∧ (IsV x1671_0) (a'.get 7) k' ∧ (IsV x1676_1.1) (a'.get 8) k' ∧ (IsV x1698_2.2) (a'.get 37) k' ∧ (IsV x1699_2.1) (a'.get 38) k' ∧ (IsV x1700_2.1) (a'.get 40) k' ∧ (IsV x1701_2.1) (a'.get 42) k' ∧ (IsV x1702_2.1) (a'.get 44) k' ∧ True) ?_ hQ ?_
 ·intro Q1740 hQQ1740 hp1741
  refine gS 8 (_ :: _ :: _ :: _ :: _ :: _ :: _ :: _ :: []) hs (by kernel_rfl) ⟨mu rfl i36, mu rfl i12, o1 [(244, some 0), (245, some 1)] rfl fun _ _ h n => ok_call rfl Try.call16 (solid_Minus_ok n.1 n.2.1 hx1702_2), cm 2 rfl rfl, o1 [(243, some 3)] rfl fun _ _ h n => ok_ext2_0 rfl n.1, o1 [(243, some 3)] rfl fun _ _ h n => ok_ext2_1 rfl n.1, cp 4 rfl rfl, cp 5 rfl rfl, trivial⟩ hQQ1740 fun b q p => ?_
  exact tail_done (k := q) (hp1741 _ _ ⟨Bs.post ⟨hg, hs, hd⟩ p, p.ke 0 rfl i0, p.ke 7 rfl i7, p.ke 8 rfl i8, p.ke 37 rfl i37, p.ke 38 rfl i38, p.ke 40 rfl i40, p.ke 42 rfl i42, p.ou 6 44 rfl, trivial⟩)
 rintro a k ⟨⟨hg, hs, hd⟩, i0, i7, i8, i37, i38, i40, i42, i44, _⟩
 refine wp_seq ?_
 refine wp_seq ?_
 obtain ⟨x1703_12, hx1703_12, hr⟩ := bind_some hr
 obtain ⟨x1703_10, hx1703_10, hx1703_12⟩ := ite_bindF hx1703_12
 obtain ⟨x1703_18, hx1703_18, hr⟩ := bind_some hr
 obtain ⟨x1703_16, hx1703_16, hx1703_18⟩ := ite_bindF hx1703_18
 refine cut (fun a' k' => Bs noF k0 299 a' k' ∧ (IsV a_) (a'.get 0) k' ∧ (IsV x1671_0) (a'.get 7) k' ∧ (IsV x1676_1.1) (a'.get 8) k' ∧ (IsV x1703_18) (a'.get 267) k' ∧ True) ?_ hQ ?_
 ·intro Q1738 hQQ1738 hp1739
  refine gS 19 (_ :: ⟨some (IsV (x1698_2.2 != 0)), [(249, some 0)]⟩ :: _ :: _ :: _ :: ⟨some (Gd ((x1698_2.2 != 0) = false) (IsV ((x1699_2.1.length : Int) != 0))), [(253, some 4)]⟩ :: _ :: _ :: _ :: _ :: _ :: _ :: _ :: _ :: _ :: _ :: _ :: _ :: _ :: []) hs (by kernel_rfl) ⟨mu rfl i37, ob1 rfl fun _ _ h n => ok_neI rfl n.1 (cI rfl), cm 1 rfl rfl, mF rfl rfl i38, gF [(252, some 3)] rfl rfl fun hp _ _ h n => ok_len rfl rfl Try.underlying24 (IsV.rd (Gd.get n.1 hp)), gdF rfl rfl fun hp _ _ h n => ok_neI rfl (Gd.get n.1 hp) (cI rfl), o1 [(251, some 2), (254, some 5)] rfl fun _ _ h n => ok_pickOr rfl n.1 (cB rfl) (Gd.get n.2.1), cm 6 rfl rfl, mF rfl rfl i40, mF rfl rfl i8, gF [(257, some 8), (258, some 9)] rfl rfl fun hp _ _ h n => ok_call rfl Try.call11 (solid_Same_ok (Gd.get n.1 hp) (Gd.get n.2.1 hp) (hx1703_10 hp)), gF [(259, some 10)] rfl rfl fun hp _ _ h n => ok_not rfl (Gd.get n.1 hp), o1 [(256, some 7), (260, some 11)] rfl fun _ _ h n => ok_pickM rfl n.1 hx1703_12 (cB rfl) (Gd.get n.2.1), cm 12 rfl rfl, mF rfl rfl i42, mF rfl rfl i44, gF [(263, some 14), (264, some 15)] rfl rfl fun hp _ _ h n => ok_call rfl Try.call11 (solid_Same_ok (Gd.get n.1 hp) (Gd.get n.2.1 hp) (hx1703_16 hp)), gF [(265, some 16)] rfl rfl fun hp _ _ h n => ok_not rfl (Gd.get n.1 hp), o1 [(262, some 13), (266, some 17)] rfl fun _ _ h n => ok_pickM rfl n.1 hx1703_18 (cB rfl) (Gd.get n.2.1), trivial⟩ hQQ1738 fun b q p => ?_
  exact tail_done (k := q) (hp1739 _ _ ⟨Bs.post ⟨hg, hs, hd⟩ p, p.ke 0 rfl i0, p.ke 7 rfl i7, p.ke 8 rfl i8, p.ou 18 267 rfl, trivial⟩)
 rintro a k ⟨⟨hg, hs, hd⟩, i0, i7, i8, i267, _⟩
 refine wp_cond_split (isBool i267) (fun hc1737 => ?_) (fun hc1737 => ?_)
 ·rw [if_pos hc1737] at hr
  refine stepL 1 (⟨some (IsV false), []⟩ :: []) rfl ⟨hg, hs, hd⟩ (by kernel_rfl) ⟨ob1 rfl fun _ _ h n => ok_assign rfl (isV_bool.2 rfl), trivial⟩ [⟨_, _⟩] (fun b q p => ⟨p.ou 0 6 rfl, trivial⟩) ?_
  rintro a k ⟨⟨hg, hs, hd⟩, i6, _⟩
  refine wp_ret ?_
  obtain rfl := Option.some.inj hr
  exact retC1 rfl hd hg i6
 rw [if_neg (by rw [hc1737]; decide)] at hr
 refine wp_skip ?_
 refine cutL noF k0 299 [⟨0, IsV a_⟩, ⟨7, IsV x1671_0⟩, ⟨8, IsV x1676_1.1⟩, ⟨46, IsV ([] : List Slab)⟩] ?_ ?_
 ·intro Q1735 hQQ1735 hp1736
  refine gS 1 (⟨some IsE0, []⟩ :: []) hs (by kernel_rfl) ⟨ob1 rfl fun b q h n => ok_assign rfl isE0_nil, trivial⟩ hQQ1735 fun b q p => ?_
  have hgq := hg.then p.grow
  have hsb := p.size.trans hs
  have hdb := p.defers.trans hd
  have j0 := p.ke 0 rfl i0
  have j7 := p.ke 7 rfl i7
  have j8 := p.ke 8 rfl i8
  have j46 : IsE0 (b.get 46) q := p.ou 0 46 rfl
  replace j46 : IsV ([] : List Slab) (b.get 46) q := j46.isV
  exact tail_done (k := q) (hp1736 _ _ ⟨⟨hgq, hsb, hdb⟩, j0, j7, j8, j46, trivial⟩)
 rintro a k ⟨⟨hg, hs, hd⟩, i0, i7, i8, i46, _⟩
 refine wp_seq ?_
 refine stepL 1 (⟨some (IsI 0), []⟩ :: []) rfl ⟨hg, hs, hd⟩ (by kernel_rfl) ⟨aI rfl rfl, trivial⟩ [⟨_, _⟩, ⟨_, _⟩, ⟨_, _⟩, ⟨_, _⟩, ⟨_, _⟩] (fun b q p => ⟨p.ke 0 rfl i0, p.ke 7 rfl i7, p.ke 8 rfl i8, p.ke 46 rfl i46, p.ou 0 47 rfl, trivial⟩) ?_
 rintro a k ⟨⟨hg, hs, hd⟩, i0, i7, i8, i46, i47, _⟩
 refine wp_block ?_
 obtain ⟨f1726, hf1726, hr⟩ := bind_some hr
 refine cutFe f1726 (fun s' a' k' => Bs noF k0 299 a' k' ∧ (IsV a_) (a'.get 0) k' ∧ (IsV x1671_0) (a'.get 7) k' ∧ (IsV x1676_1.1) (a'.get 8) k' ∧ (IsV s'.1) (a'.get 46) k' ∧ (IsV s'.2) (a'.get 47) k' ∧ True) (fun i' s' a' k' => (i' = 0 ∧ Bs noF k0 299 a' k' ∧ (IsV x1671_0) (a'.get 7) k' ∧ (IsV x1676_1.1) (a'.get 8) k' ∧ (IsV s'.1) (a'.get 46) k' ∧ True)) (fun r' a' k' => bodyPost Try.prog Try.f5 (RetC noF k0 (IsV r')) .ret a' k'.w) ?_ hQ ?_ ?_ ?_
 ·intro Q1732 hQQ1732 hgo hex hret
  refine sim_loop ?_ _ _ _ _ _ hf1726 ⟨⟨hg, hs, hd⟩, i0, i7, i8, i46, i47, trivial⟩ Q1732 hQQ1732 hgo hex hret
  clear hr hf1726 hgo hex hret hQQ1732 hQ hg hs hd i0 i46 i47 i7 i8
  intro s1709 fl_ a k hr hS Q hQ hgo1710 hex1711 hret1712
  obtain ⟨⟨hg, hs, hd⟩, i0, i7, i8, i46, i47, _⟩ := hS
  unfold law09_SolidAlgebra_L0 at hr
  refine wp_seq ?_
  refine stepL 4 (_ :: _ :: _ :: _ :: []) rfl ⟨hg, hs, hd⟩ (by kernel_rfl) ⟨mu rfl i47, mu rfl i0, o1 [(269, some 1)] rfl fun _ _ h n => ok_len rfl rfl Try.underlying22 (IsV.rd n.1), o1 [(268, some 0), (270, some 2)] rfl fun _ _ h n => ok_lss rfl n.1 n.2.1, trivial⟩ [⟨_, _⟩, ⟨_, _⟩, ⟨_, _⟩, ⟨_, _⟩, ⟨_, _⟩, ⟨_, _⟩] (fun b q p => ⟨p.ke 0 rfl i0, p.ke 7 rfl i7, p.ke 8 rfl i8, p.ke 46 rfl i46, p.ke 47 rfl i47, p.ou 3 271 rfl, trivial⟩) ?_
  rintro a k ⟨⟨hg, hs, hd⟩, i0, i7, i8, i46, i47, i271, _⟩
  refine wp_cond_split (isBool i271) (fun hc1723 => ?_) (fun hc1723 => ?_)
  ·rw [if_pos hc1723] at hr
   refine wp_skip ?_
   refine wp_seq ?_
   refine wp_block ?_
   refine wp_seq ?_
   obtain ⟨x1714_3, hx1714_3, hr⟩ := bind_some hr
   obtain ⟨x1714_5, hx1714_5, hr⟩ := bind_some hr
   obtain ⟨x1714_6, hx1714_6, hr⟩ := bind_some hr
   obtain ⟨x1714_9, hx1714_9, hr⟩ := bind_some hr
   refine cut (fun a' k' => Bs noF k0 299 a' k' ∧ (IsV a_) (a'.get 0) k' ∧ (IsV x1671_0) (a'.get 7) k' ∧ (IsV x1676_1.1) (a'.get 8) k' ∧ (IsV s1709.1) (a'.get 46) k' ∧ (IsV s1709.2) (a'.get 47) k' ∧ (IsV x1714_9.1) (a'.get 48) k' ∧ True) ?_ hQ ?_
   ·intro Q1721 hQQ1721 hp1722
    refine gS 15 (_ :: _ :: _ :: _ :: _ :: _ :: _ :: _ :: ⟨some (IsV (α := (List Box)) ([x1714_6])), [(282, some 7)]⟩ :: _ :: _ :: _ :: _ :: _ :: _ :: []) hs (by kernel_rfl) ⟨mu rfl i0, mu rfl i0, o1 [(276, some 1)] rfl fun _ _ h n => ok_len rfl rfl Try.underlying22 (IsV.rd n.1), o1 [(277, some 2)] rfl fun _ _ h n => ok_sub rfl n.1 (cI rfl) hx1714_3, mu rfl i47, o1 [(278, some 3), (279, some 4)] rfl fun _ _ h n => ok_sub rfl n.1 n.2.1 hx1714_5, o1 [(275, some 0), (280, some 5)] rfl fun _ _ h n => ok_indexAddr rfl Try.underlying22 ty32 (IsV.rd n.1) n.2.1 hx1714_6, o1 [(281, some 6)] rfl fun _ _ h n => ok_load rfl ty32 n.1, ob1 rfl fun _ _ h n => ok_buildSlice rfl Try.underlying22 eo32 rfl (by decide) (by decide) ⟨rfl, n.1, trivial⟩, o1 [(283, some 8)] rfl fun _ _ h n => ok_call rfl Try.call9 (solid_Of_ok n.1 hx1714_9), cm 9 rfl rfl, o1 [(274, some 10)] rfl fun _ _ h n => ok_ext2_0 rfl n.1, o1 [(274, some 10)] rfl fun _ _ h n => ok_ext2_1 rfl n.1, cp 11 rfl rfl, cp 12 rfl rfl, trivial⟩ hQQ1721 fun b q p => ?_
    exact tail_done (k := q) (hp1722 _ _ ⟨Bs.post ⟨hg, hs, hd⟩ p, p.ke 0 rfl i0, p.ke 7 rfl i7, p.ke 8 rfl i8, p.ke 46 rfl i46, p.ke 47 rfl i47, p.ou 13 48 rfl, trivial⟩)
   rintro a k ⟨⟨hg, hs, hd⟩, i0, i7, i8, i46, i47, i48, _⟩
   obtain ⟨x1715_2, hx1715_2, hr⟩ := bind_some hr
   refine cut (fun a' k' => Bs noF k0 299 a' k' ∧ (IsV a_) (a'.get 0) k' ∧ (IsV x1671_0) (a'.get 7) k' ∧ (IsV x1676_1.1) (a'.get 8) k' ∧ (IsV x1715_2.1) (a'.get 46) k' ∧ (IsV s1709.2) (a'.get 47) k' ∧ True) ?_ hQ ?_
   ·intro Q1719 hQQ1719 hp1720
    refine gS 7 (_ :: _ :: _ :: _ :: _ :: _ :: _ :: []) hs (by kernel_rfl) ⟨mu rfl i46, mu rfl i48, o1 [(288, some 0), (289, some 1)] rfl fun _ _ h n => ok_call rfl Try.call14 (solid_Union_ok n.1 n.2.1 hx1715_2), cm 2 rfl rfl, o1 [(287, some 3)] rfl fun _ _ h n => ok_ext2_0 rfl n.1, o1 [(287, some 3)] rfl fun _ _ h n => ok_ext2_1 rfl n.1, cp 4 rfl rfl, trivial⟩ hQQ1719 fun b q p => ?_
    exact tail_done (k := q) (hp1720 _ _ ⟨Bs.post ⟨hg, hs, hd⟩ p, p.ke 0 rfl i0, p.ke 7 rfl i7, p.ke 8 rfl i8, p.ou 6 46 rfl, p.ke 47 rfl i47, trivial⟩)
   rintro a k ⟨⟨hg, hs, hd⟩, i0, i7, i8, i46, i47, _⟩
   obtain ⟨x1716_1, hx1716_1, hr⟩ := bind_some hr
   refine cut (fun a' k' => Bs noF k0 299 a' k' ∧ (IsV a_) (a'.get 0) k' ∧ (IsV x1671_0) (a'.get 7) k' ∧ (IsV x1676_1.1) (a'.get 8) k' ∧ (IsV x1715_2.1) (a'.get 46) k' ∧ (IsV x1716_1) (a'.get 47) k' ∧ True) ?_ hQ ?_
   ·intro Q1717 hQQ1717 hp1718
    refine gS 3 (_ :: _ :: _ :: []) hs (by kernel_rfl) ⟨mu rfl i47, o1 [(272, some 0)] rfl fun _ _ h n => ok_add rfl n.1 (cI rfl) hx1716_1, cp 1 rfl rfl, trivial⟩ hQQ1717 fun b q p => ?_
    exact tail_done (k := q) (hp1718 _ _ ⟨Bs.post ⟨hg, hs, hd⟩ p, p.ke 0 rfl i0, p.ke 7 rfl i7, p.ke 8 rfl i8, p.ke 46 rfl i46, p.ou 2 47 rfl, trivial⟩)
   rintro a k ⟨⟨hg, hs, hd⟩, i0, i7, i8, i46, i47, _⟩
   exact hgo1710 _ _ _ (Option.some.inj hr).symm ⟨⟨hg, hs, hd⟩, i0, i7, i8, i46, i47, trivial⟩
  rw [if_neg (by rw [hc1723]; decide)] at hr
  refine wp_exit ?_
  exact hex1711 _ _ _ _ (Option.some.inj hr).symm ⟨rfl, ⟨hg, hs, hd⟩, i7, i8, i46, trivial⟩
 ·rintro r1731 a k rfl hR
  dsimp only at hr
  obtain rfl := Option.some.inj hr
  exact hR
 ·rintro _ _ _ rfl _
  simp at hr
 clear hf1726
 rintro _ s1727 a k rfl ⟨rfl, ⟨hg, hs, hd⟩, i7, i8, i46, _⟩
 dsimp only at hr
 refine wp_seq ?_
 obtain ⟨x1728_5, hx1728_5, hr⟩ := bind_some hr
 obtain ⟨x1728_4, hx1728_4, hx1728_5⟩ := ite_bind hx1728_5
 refine cut (fun a' k' => Bs noF k0 299 a' k' ∧ (IsV x1728_5) (a'.get 6) k' ∧ True) ?_ hQ ?_
 ·intro Q1729 hQQ1729 hp1730
  refine gS 7 (_ :: _ :: _ :: _ :: _ :: _ :: _ :: []) hs (by kernel_rfl) ⟨mu rfl i7, cm 0 rfl rfl, mT rfl rfl i46, mT rfl rfl i8, gT [(295, some 2), (296, some 3)] rfl rfl fun hp _ _ h n => ok_call rfl Try.call11 (solid_Same_ok (Gd.get n.1 hp) (Gd.get n.2.1 hp) (hx1728_4 hp)), o1 [(294, some 1), (297, some 4)] rfl fun _ _ h n => ok_pickM rfl n.1 hx1728_5 (Gd.get n.2.1) (cB rfl), cp 5 rfl rfl, trivial⟩ hQQ1729 fun b q p => ?_
  exact tail_done (k := q) (hp1730 _ _ ⟨Bs.post ⟨hg, hs, hd⟩ p, p.ou 6 6 rfl, trivial⟩)
 rintro a k ⟨⟨hg, hs, hd⟩, i6, _⟩
 refine wp_ret ?_
 obtain rfl := Option.some.inj hr
 exact retC1 rfl hd hg i6
end Go.Proofs.Ytmniloampanhfaa
