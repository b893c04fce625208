/- What the functions compute that the law reaches, part 5 -/
import Derived.Test.YtmniloampanhfaaT4
namespace Go.Proofs.Ytmniloampanhfaa
open Go.Gb
set_option linter.unusedVariables false
set_option linter.unusedSimpArgs false
set_option maxRecDepth 100000
def law09_small  : Option (Bool) :=
 (solid_Of ([(⟨(⟨0, 0, 2, 2⟩ : Rect), 0, 3⟩ : Box), (⟨(⟨0, 0, 1, 2⟩ : Rect), 2, 5⟩ : Box)])).bind fun x1603_1 =>
 (solid_Of ([(⟨(⟨0, 0, 2, 1⟩ : Rect), 1, 5⟩ : Box)])).bind fun x1604_3 =>
 (solid_Minus x1603_1.1 x1604_3.1).bind fun x1605_2 =>
 (law09_square 0 0 2 2).bind fun x1606_0 =>
 (law09_square 0 0 1 2).bind fun x1606_2 =>
 (law09_square 0 0 2 2).bind fun x1607_0 =>
 (law09_square 0 1 2 2).bind fun x1607_2 =>
 (law09_square 0 1 1 2).bind fun x1607_4 =>
 (solid_Of ([(⟨(⟨0, 0, 2, 1⟩ : Rect), 1, 1⟩ : Box)])).bind fun x1608_3 =>
 (if ((((x1603_1.2 == 0) && (x1604_3.2 == 0)) && (x1605_2.2 == 0)) && (x1608_3.2 == 1)) then
  (ref09_Same x1603_1.1 ([(⟨0, 3, x1606_0⟩ : Slab), (⟨3, 5, x1606_2⟩ : Slab)])).bind fun x1609_17 =>
  some x1609_17
 else
  some false).bind fun x1609_18 =>
 (if x1609_18 then
  (ref09_Same x1605_2.1 ([(⟨0, 1, x1607_0⟩ : Slab), (⟨1, 3, x1607_2⟩ : Slab), (⟨3, 5, x1607_4⟩ : Slab)])).bind fun x1609_22 =>
  some x1609_22
 else
  some false).bind fun x1609_23 =>
 (if x1609_23 then
  (solid_Same x1605_2.1 ([(⟨0, 1, x1607_0⟩ : Slab), (⟨1, 3, x1607_2⟩ : Slab), (⟨3, 5, x1607_4⟩ : Slab)])).bind fun x1609_27 =>
  some x1609_27
 else
  some false).bind fun x1609_28 =>
 (if x1609_28 then
  (solid_Volume x1603_1.1).bind fun x1609_31 =>
  some (x1609_31 == 16)
 else
  some false).bind fun x1609_33 =>
 (solid_Top x1603_1.1 0 1).bind fun x1610_1 =>
 (if (x1610_1 == 5) then
  (solid_Top x1603_1.1 1 1).bind fun x1610_5 =>
  some (x1610_5 == 3)
 else
  some false).bind fun x1610_7 =>
 (if x1610_7 then
  (solid_Top x1603_1.1 2 0).bind fun x1610_10 =>
  some (x1610_10 == 0)
 else
  some false).bind fun x1610_12 =>
 (if x1610_12 then
  (solid_Section x1603_1.1 2).bind fun x1610_15 =>
  some ((x1610_15.length : Int) == 1)
 else
  some false).bind fun x1610_18 =>
 (if x1610_18 then
  (solid_Section x1603_1.1 5).bind fun x1610_21 =>
  some ((x1610_21.length : Int) == 0)
 else
  some false).bind fun x1610_24 =>
 (if x1610_24 then
  (solid_Boxes x1603_1.1).bind fun x1610_27 =>
  some ((x1610_27.length : Int) == 2)
 else
  some false).bind fun x1610_30 =>
 (if (x1609_33 && x1610_30) then
  (solid_Has x1603_1.1 0 0 4).bind fun x1611_6 =>
  some x1611_6
 else
  some false).bind fun x1611_7 =>
 (if x1611_7 then
  (solid_Has x1603_1.1 1 0 4).bind fun x1611_10 =>
  some (!x1611_10)
 else
  some false).bind fun x1611_12 =>
 (if x1611_12 then
  (solid_Right ([] : List Slab)).bind fun x1611_14 =>
  some x1611_14
 else
  some false).bind fun x1611_15 =>
 (if x1611_15 then
  (solid_Right ([(⟨0, 1, []⟩ : Slab)])).bind fun x1611_19 =>
  some (!x1611_19)
 else
  some false).bind fun x1611_21 =>
 some x1611_21
theorem law09_small_ok {k0 : K} {r : Bool} (hr : law09_small = some r) :
  Calls Try.prog 8 #[] k0.w (Ret k0 (IsV r)) := by
 unfold law09_small at hr
 refine Ret.ofC ?_
 refine enterK Try.func8 rfl Try.ntmps8 (show 0 ≤ 143 by decide) fun a k hk0 hs hd ha => ?_
 have hQ : Gb.LetsOut (bodyPost Try.prog Try.f8 (RetC noF k0 (IsV r))) := letsOutC
 have hg : Chg noF k0 k := by rw [hk0]; exact Chg.refl _ k0
 refine cutL noF k0 143 [] ?_ ?_
 ·intro Q1632 hQQ1632 hp1633
  refine gS 1 (⟨some (IsV false), []⟩ :: []) hs (by kernel_rfl) ⟨ob1 rfl fun _ _ h n => ok_assign rfl (isV_bool.2 rfl), trivial⟩ hQQ1632 fun b q p => ?_
  exact tail_done (k := q) (hp1633 _ _ ⟨Bs.post ⟨hg, hs, hd⟩ p, trivial⟩)
 rintro a k ⟨⟨hg, hs, hd⟩, _⟩
 refine stepL 6 (⟨some (IsV (⟨0, 0, 2, 2⟩ : Rect)), []⟩ :: ⟨some (IsV (⟨(⟨0, 0, 2, 2⟩ : Rect), 0, 3⟩ : Box)), [(14, some 0)]⟩ :: ⟨some (IsV (⟨0, 0, 1, 2⟩ : Rect)), []⟩ :: ⟨some (IsV (⟨(⟨0, 0, 1, 2⟩ : Rect), 2, 5⟩ : Box)), [(16, some 2)]⟩ :: ⟨some (IsV (α := (List Box)) ([(⟨(⟨0, 0, 2, 2⟩ : Rect), 0, 3⟩ : Box), (⟨(⟨0, 0, 1, 2⟩ : Rect), 2, 5⟩ : Box)])), [(15, some 1), (17, some 3)]⟩ :: _ :: []) rfl ⟨hg, hs, hd⟩ (by kernel_rfl) ⟨ob1 rfl fun _ _ h n => ok_build rfl (bld30_0_1_2_3 (cI rfl) (cI rfl) (cI rfl) (cI rfl)), ob1 rfl fun _ _ h n => ok_build rfl (bld32_0_1_2 n.1 (cI rfl) (cI rfl)), ob1 rfl fun _ _ h n => ok_build rfl (bld30_0_1_2_3 (cI rfl) (cI rfl) (cI rfl) (cI rfl)), ob1 rfl fun _ _ h n => ok_build rfl (bld32_0_1_2 n.1 (cI rfl) (cI rfl)), ob1 rfl fun _ _ h n => ok_buildSlice rfl Try.underlying22 eo32 rfl (by decide) (by decide) ⟨rfl, n.1, rfl, n.2.1, trivial⟩, cp 4 rfl rfl, trivial⟩ [⟨_, _⟩] (fun b q p => ⟨p.ou 5 1 rfl, trivial⟩) ?_
 rintro a k ⟨⟨hg, hs, hd⟩, i1, _⟩
 refine wp_seq ?_
 obtain ⟨x1603_1, hx1603_1, hr⟩ := bind_some hr
 refine cut (fun a' k' => Bs noF k0 143 a' k' ∧ (IsV x1603_1.1) (a'.get 2) k' ∧ (IsV x1603_1.2) (a'.get 3) k' ∧ True) ?_ hQ ?_
 ·intro Q1628 hQQ1628 hp1629
  refine gS 7 (_ :: _ :: _ :: _ :: _ :: _ :: _ :: []) hs (by kernel_rfl) ⟨mu rfl i1, o1 [(20, some 0)] rfl fun _ _ h n => ok_call rfl Try.call9 (solid_Of_ok n.1 hx1603_1), cm 1 rfl rfl, o1 [(19, some 2)] rfl fun _ _ h n => ok_ext2_0 rfl n.1, o1 [(19, some 2)] rfl fun _ _ h n => ok_ext2_1 rfl n.1, cp 3 rfl rfl, cp 4 rfl rfl, trivial⟩ hQQ1628 fun b q p => ?_
  exact tail_done (k := q) (hp1629 _ _ ⟨Bs.post ⟨hg, hs, hd⟩ p, p.ou 5 2 rfl, p.ou 6 3 rfl, trivial⟩)
 rintro a k ⟨⟨hg, hs, hd⟩, i2, i3, _⟩
 refine wp_seq ?_
 obtain ⟨x1604_3, hx1604_3, hr⟩ := bind_some hr
 refine cut (fun a' k' => Bs noF k0 143 a' k' ∧ (IsV x1603_1.1) (a'.get 2) k' ∧ (IsV x1603_1.2) (a'.get 3) k' ∧ (IsV x1604_3.1) (a'.get 4) k' ∧ (IsV x1604_3.2) (a'.get 5) k' ∧ True) ?_ hQ ?_
 ·intro Q1626 hQQ1626 hp1627
  refine gS 9 (⟨some (IsV (⟨0, 0, 2, 1⟩ : Rect)), []⟩ :: ⟨some (IsV (⟨(⟨0, 0, 2, 1⟩ : Rect), 1, 5⟩ : Box)), [(25, some 0)]⟩ :: ⟨some (IsV (α := (List Box)) ([(⟨(⟨0, 0, 2, 1⟩ : Rect), 1, 5⟩ : Box)])), [(26, some 1)]⟩ :: _ :: _ :: _ :: _ :: _ :: _ :: []) hs (by kernel_rfl) ⟨ob1 rfl fun _ _ h n => ok_build rfl (bld30_0_1_2_3 (cI rfl) (cI rfl) (cI rfl) (cI rfl)), ob1 rfl fun _ _ h n => ok_build rfl (bld32_0_1_2 n.1 (cI rfl) (cI rfl)), ob1 rfl fun _ _ h n => ok_buildSlice rfl Try.underlying22 eo32 rfl (by decide) (by decide) ⟨rfl, n.1, trivial⟩, o1 [(27, some 2)] rfl fun _ _ h n => ok_call rfl Try.call9 (solid_Of_ok n.1 hx1604_3), cm 3 rfl rfl, o1 [(24, some 4)] rfl fun _ _ h n => ok_ext2_0 rfl n.1, o1 [(24, some 4)] rfl fun _ _ h n => ok_ext2_1 rfl n.1, cp 5 rfl rfl, cp 6 rfl rfl, trivial⟩ hQQ1626 fun b q p => ?_
  exact tail_done (k := q) (hp1627 _ _ ⟨Bs.post ⟨hg, hs, hd⟩ p, p.ke 2 rfl i2, p.ke 3 rfl i3, p.ou 7 4 rfl, p.ou 8 5 rfl, trivial⟩)
 rintro a k ⟨⟨hg, hs, hd⟩, i2, i3, i4, i5, _⟩
 refine wp_seq ?_
 obtain ⟨x1605_2, hx1605_2, hr⟩ := bind_some hr
 refine cut (fun a' k' => Bs noF k0 143 a' k' ∧ (IsV x1603_1.1) (a'.get 2) k' ∧ (IsV x1603_1.2) (a'.get 3) k' ∧ (IsV x1604_3.2) (a'.get 5) k' ∧ (IsV x1605_2.1) (a'.get 6) k' ∧ (IsV x1605_2.2) (a'.get 7) k' ∧ True) ?_ hQ ?_
 ·intro Q1624 hQQ1624 hp1625
  refine gS 8 (_ :: _ :: _ :: _ :: _ :: _ :: _ :: _ :: []) hs (by kernel_rfl) ⟨mu rfl i2, mu rfl i4, o1 [(32, some 0), (33, some 1)] rfl fun _ _ h n => ok_call rfl Try.call16 (solid_Minus_ok n.1 n.2.1 hx1605_2), cm 2 rfl rfl, o1 [(31, some 3)] rfl fun _ _ h n => ok_ext2_0 rfl n.1, o1 [(31, some 3)] rfl fun _ _ h n => ok_ext2_1 rfl n.1, cp 4 rfl rfl, cp 5 rfl rfl, trivial⟩ hQQ1624 fun b q p => ?_
  exact tail_done (k := q) (hp1625 _ _ ⟨Bs.post ⟨hg, hs, hd⟩ p, p.ke 2 rfl i2, p.ke 3 rfl i3, p.ke 5 rfl i5, p.ou 6 6 rfl, p.ou 7 7 rfl, trivial⟩)
 rintro a k ⟨⟨hg, hs, hd⟩, i2, i3, i5, i6, i7, _⟩
 refine wp_seq ?_
 obtain ⟨x1606_0, hx1606_0, hr⟩ := bind_some hr
 obtain ⟨x1606_2, hx1606_2, hr⟩ := bind_some hr
 refine cut (fun a' k' => Bs noF k0 143 a' k' ∧ (IsV x1603_1.1) (a'.get 2) k' ∧ (IsV x1603_1.2) (a'.get 3) k' ∧ (IsV x1604_3.2) (a'.get 5) k' ∧ (IsV x1605_2.1) (a'.get 6) k' ∧ (IsV x1605_2.2) (a'.get 7) k' ∧ (IsV (α := (List Slab)) ([(⟨0, 3, x1606_0⟩ : Slab), (⟨3, 5, x1606_2⟩ : Slab)])) (a'.get 8) k' ∧ True) ?_ hQ ?_
 ·intro Q1622 hQQ1622 hp1623
  refine gS 6 (_ :: ⟨some (IsV (⟨0, 3, x1606_0⟩ : Slab)), [(37, some 0)]⟩ :: _ :: ⟨some (IsV (⟨3, 5, x1606_2⟩ : Slab)), [(39, some 2)]⟩ :: ⟨some (IsV (α := (List Slab)) ([(⟨0, 3, x1606_0⟩ : Slab), (⟨3, 5, x1606_2⟩ : Slab)])), [(38, some 1), (40, some 3)]⟩ :: _ :: []) hs (by kernel_rfl) ⟨o1 [] rfl fun _ _ h n => ok_call rfl Try.call21 (law09_square_ok (cI rfl) (cI rfl) (cI rfl) (cI rfl) hx1606_0), ob1 rfl fun _ _ h n => ok_build rfl (bld47_0_1_2 (cI rfl) (cI rfl) n.1), o1 [] rfl fun _ _ h n => ok_call rfl Try.call21 (law09_square_ok (cI rfl) (cI rfl) (cI rfl) (cI rfl) hx1606_2), ob1 rfl fun _ _ h n => ok_build rfl (bld47_0_1_2 (cI rfl) (cI rfl) n.1), ob1 rfl fun _ _ h n => ok_buildSlice rfl Try.underlying24 eo47 rfl (by decide) (by decide) ⟨rfl, n.1, rfl, n.2.1, trivial⟩, cp 4 rfl rfl, trivial⟩ hQQ1622 fun b q p => ?_
  exact tail_done (k := q) (hp1623 _ _ ⟨Bs.post ⟨hg, hs, hd⟩ p, p.ke 2 rfl i2, p.ke 3 rfl i3, p.ke 5 rfl i5, p.ke 6 rfl i6, p.ke 7 rfl i7, p.ou 5 8 rfl, trivial⟩)
 rintro a k ⟨⟨hg, hs, hd⟩, i2, i3, i5, i6, i7, i8, _⟩
 refine wp_seq ?_
 obtain ⟨x1607_0, hx1607_0, hr⟩ := bind_some hr
 obtain ⟨x1607_2, hx1607_2, hr⟩ := bind_some hr
 obtain ⟨x1607_4, hx1607_4, hr⟩ := bind_some hr
 refine cut (fun a' k' => Bs noF k0 143 a' k' ∧ (IsV x1603_1.1) (a'.get 2) k' ∧ (IsV x1603_1.2) (a'.get 3) k' ∧ (IsV x1604_3.2) (a'.get 5) k' ∧ (IsV x1605_2.1) (a'.get 6) k' ∧ (IsV x1605_2.2) (a'.get 7) k' ∧ (IsV (α := (List Slab)) ([(⟨0, 3, x1606_0⟩ : Slab), (⟨3, 5, x1606_2⟩ : Slab)])) (a'.get 8) k' ∧ (IsV (α := (List Slab)) ([(⟨0, 1, x1607_0⟩ : Slab), (⟨1, 3, x1607_2⟩ : Slab), (⟨3, 5, x1607_4⟩ : Slab)])) (a'.get 9) k' ∧ True) ?_ hQ ?_
 ·intro Q1620 hQQ1620 hp1621
  refine gS 8 (_ :: ⟨some (IsV (⟨0, 1, x1607_0⟩ : Slab)), [(42, some 0)]⟩ :: _ :: ⟨some (IsV (⟨1, 3, x1607_2⟩ : Slab)), [(44, some 2)]⟩ :: _ :: ⟨some (IsV (⟨3, 5, x1607_4⟩ : Slab)), [(46, some 4)]⟩ :: ⟨some (IsV (α := (List Slab)) ([(⟨0, 1, x1607_0⟩ : Slab), (⟨1, 3, x1607_2⟩ : Slab), (⟨3, 5, x1607_4⟩ : Slab)])), [(43, some 1), (45, some 3), (47, some 5)]⟩ :: _ :: []) hs (by kernel_rfl) ⟨o1 [] rfl fun _ _ h n => ok_call rfl Try.call21 (law09_square_ok (cI rfl) (cI rfl) (cI rfl) (cI rfl) hx1607_0), ob1 rfl fun _ _ h n => ok_build rfl (bld47_0_1_2 (cI rfl) (cI rfl) n.1), o1 [] rfl fun _ _ h n => ok_call rfl Try.call21 (law09_square_ok (cI rfl) (cI rfl) (cI rfl) (cI rfl) hx1607_2), ob1 rfl fun _ _ h n => ok_build rfl (bld47_0_1_2 (cI rfl) (cI rfl) n.1), o1 [] rfl fun _ _ h n => ok_call rfl Try.call21 (law09_square_ok (cI rfl) (cI rfl) (cI rfl) (cI rfl) hx1607_4), ob1 rfl fun _ _ h n => ok_build rfl (bld47_0_1_2 (cI rfl) (cI rfl) n.1), ob1 rfl fun _ _ h n => ok_buildSlice rfl Try.underlying24 eo47 rfl (by decide) (by decide) ⟨rfl, n.1, rfl, n.2.1, rfl, n.2.2.1, trivial⟩, cp 6 rfl rfl, trivial⟩ hQQ1620 fun b q p => ?_
  exact tail_done (k := q) (hp1621 _ _ ⟨Bs.post ⟨hg, hs, hd⟩ p, p.ke 2 rfl i2, p.ke 3 rfl i3, p.ke 5 rfl i5, p.ke 6 rfl i6, p.ke 7 rfl i7, p.ke 8 rfl i8, p.ou 7 9 rfl, trivial⟩)
 rintro a k ⟨⟨hg, hs, hd⟩, i2, i3, i5, i6, i7, i8, i9, _⟩
 refine wp_seq ?_
 obtain ⟨x1608_3, hx1608_3, hr⟩ := bind_some hr
 refine cut (fun a' k' => Bs noF k0 143 a' k' ∧ (IsV x1603_1.1) (a'.get 2) k' ∧ (IsV x1603_1.2) (a'.get 3) k' ∧ (IsV x1604_3.2) (a'.get 5) k' ∧ (IsV x1605_2.1) (a'.get 6) k' ∧ (IsV x1605_2.2) (a'.get 7) k' ∧ (IsV (α := (List Slab)) ([(⟨0, 3, x1606_0⟩ : Slab), (⟨3, 5, x1606_2⟩ : Slab)])) (a'.get 8) k' ∧ (IsV (α := (List Slab)) ([(⟨0, 1, x1607_0⟩ : Slab), (⟨1, 3, x1607_2⟩ : Slab), (⟨3, 5, x1607_4⟩ : Slab)])) (a'.get 9) k' ∧ (IsV x1608_3.2) (a'.get 11) k' ∧ True) ?_ hQ ?_
 ·intro Q1618 hQQ1618 hp1619
  refine gS 9 (⟨some (IsV (⟨0, 0, 2, 1⟩ : Rect)), []⟩ :: ⟨some (IsV (⟨(⟨0, 0, 2, 1⟩ : Rect), 1, 1⟩ : Box)), [(50, some 0)]⟩ :: ⟨some (IsV (α := (List Box)) ([(⟨(⟨0, 0, 2, 1⟩ : Rect), 1, 1⟩ : Box)])), [(51, some 1)]⟩ :: _ :: _ :: _ :: _ :: _ :: _ :: []) hs (by kernel_rfl) ⟨ob1 rfl fun _ _ h n => ok_build rfl (bld30_0_1_2_3 (cI rfl) (cI rfl) (cI rfl) (cI rfl)), ob1 rfl fun _ _ h n => ok_build rfl (bld32_0_1_2 n.1 (cI rfl) (cI rfl)), ob1 rfl fun _ _ h n => ok_buildSlice rfl Try.underlying22 eo32 rfl (by decide) (by decide) ⟨rfl, n.1, trivial⟩, o1 [(52, some 2)] rfl fun _ _ h n => ok_call rfl Try.call9 (solid_Of_ok n.1 hx1608_3), cm 3 rfl rfl, o1 [(49, some 4)] rfl fun _ _ h n => ok_ext2_0 rfl n.1, o1 [(49, some 4)] rfl fun _ _ h n => ok_ext2_1 rfl n.1, cp 5 rfl rfl, cp 6 rfl rfl, trivial⟩ hQQ1618 fun b q p => ?_
  exact tail_done (k := q) (hp1619 _ _ ⟨Bs.post ⟨hg, hs, hd⟩ p, p.ke 2 rfl i2, p.ke 3 rfl i3, p.ke 5 rfl i5, p.ke 6 rfl i6, p.ke 7 rfl i7, p.ke 8 rfl i8, p.ke 9 rfl i9, p.ou 8 11 rfl, trivial⟩)
 rintro a k ⟨⟨hg, hs, hd⟩, i2, i3, i5, i6, i7, i8, i9, i11, _⟩
 refine wp_seq ?_
 obtain ⟨x1609_18, hx1609_18, hr⟩ := bind_some hr
 obtain ⟨x1609_17, hx1609_17, hx1609_18⟩ := ite_bind hx1609_18
 obtain ⟨x1609_23, hx1609_23, hr⟩ := bind_some hr
 obtain ⟨x1609_22, hx1609_22, hx1609_23⟩ := ite_bind hx1609_23
 obtain ⟨x1609_28, hx1609_28, hr⟩ := bind_some hr
 obtain ⟨x1609_27, hx1609_27, hx1609_28⟩ := ite_bind hx1609_28
 obtain ⟨x1609_33, hx1609_33, hr⟩ := bind_some hr
 obtain ⟨x1609_31, hx1609_31, hx1609_33⟩ := ite_bind hx1609_33
 refine cut (fun a' k' => Bs noF k0 143 a' k' ∧ (IsV x1603_1.1) (a'.get 2) k' ∧ (IsV x1609_33) (a'.get 12) k' ∧ True) ?_ hQ ?_
 ·intro Q1616 hQQ1616 hp1617
  refine gS 35 (_ :: _ :: _ :: _ :: _ :: _ :: _ :: _ :: _ :: _ :: _ :: _ :: _ :: _ :: _ :: _ :: _ :: _ :: _ :: _ :: _ :: _ :: _ :: _ :: _ :: _ :: _ :: _ :: _ :: _ :: _ :: _ :: _ :: _ :: _ :: []) hs (by kernel_rfl) ⟨mu rfl i3, o1 [(56, some 0)] rfl fun _ _ h n => ok_eqI rfl n.1 (cI rfl), cm 1 rfl rfl, mT rfl rfl i5, gT [(59, some 3)] rfl rfl fun hp _ _ h n => ok_eqI rfl (Gd.get n.1 hp) (cI rfl), o1 [(58, some 2), (60, some 4)] rfl fun _ _ h n => ok_pickAnd rfl n.1 (Gd.get n.2.1) (cB rfl), cm 5 rfl rfl, mT rfl rfl i7, gT [(63, some 7)] rfl rfl fun hp _ _ h n => ok_eqI rfl (Gd.get n.1 hp) (cI rfl), o1 [(62, some 6), (64, some 8)] rfl fun _ _ h n => ok_pickAnd rfl n.1 (Gd.get n.2.1) (cB rfl), cm 9 rfl rfl, mT rfl rfl i11, gT [(67, some 11)] rfl rfl fun hp _ _ h n => ok_eqI rfl (Gd.get n.1 hp) (cI rfl), o1 [(66, some 10), (68, some 12)] rfl fun _ _ h n => ok_pickAnd rfl n.1 (Gd.get n.2.1) (cB rfl), cm 13 rfl rfl, mT rfl rfl i2, mT rfl rfl i8, gT [(71, some 15), (72, some 16)] rfl rfl fun hp _ _ h n => ok_call rfl Try.call28 (ref09_Same_ok (Gd.get n.1 hp) (Gd.get n.2.1 hp) (hx1609_17 hp)), o1 [(70, some 14), (73, some 17)] rfl fun _ _ h n => ok_pickM rfl n.1 hx1609_18 (Gd.get n.2.1) (cB rfl), cm 18 rfl rfl, mT rfl rfl i6, mT rfl rfl i9, gT [(76, some 20), (77, some 21)] rfl rfl fun hp _ _ h n => ok_call rfl Try.call28 (ref09_Same_ok (Gd.get n.1 hp) (Gd.get n.2.1 hp) (hx1609_22 hp)), o1 [(75, some 19), (78, some 22)] rfl fun _ _ h n => ok_pickM rfl n.1 hx1609_23 (Gd.get n.2.1) (cB rfl), cm 23 rfl rfl, mT rfl rfl i6, mT rfl rfl i9, gT [(81, some 25), (82, some 26)] rfl rfl fun hp _ _ h n => ok_call rfl Try.call11 (solid_Same_ok (Gd.get n.1 hp) (Gd.get n.2.1 hp) (hx1609_27 hp)), o1 [(80, some 24), (83, some 27)] rfl fun _ _ h n => ok_pickM rfl n.1 hx1609_28 (Gd.get n.2.1) (cB rfl), cm 28 rfl rfl, mT rfl rfl i2, gT [(86, some 30)] rfl rfl fun hp _ _ h n => ok_call rfl Try.call12 (solid_Volume_ok (Gd.get n.1 hp) (hx1609_31 hp)), gT [(87, some 31)] rfl rfl fun hp _ _ h n => ok_eqI rfl (Gd.get n.1 hp) (cI rfl), o1 [(85, some 29), (88, some 32)] rfl fun _ _ h n => ok_pickM rfl n.1 hx1609_33 (Gd.get n.2.1) (cB rfl), cp 33 rfl rfl, trivial⟩ hQQ1616 fun b q p => ?_
  exact tail_done (k := q) (hp1617 _ _ ⟨Bs.post ⟨hg, hs, hd⟩ p, p.ke 2 rfl i2, p.ou 34 12 rfl, trivial⟩)
 rintro a k ⟨⟨hg, hs, hd⟩, i2, i12, _⟩
 refine wp_seq ?_
 obtain ⟨x1610_1, hx1610_1, hr⟩ := bind_some hr
 obtain ⟨x1610_7, hx1610_7, hr⟩ := bind_some hr
 obtain ⟨x1610_5, hx1610_5, hx1610_7⟩ := ite_bind hx1610_7
 obtain ⟨x1610_12, hx1610_12, hr⟩ := bind_some hr
 obtain ⟨x1610_10, hx1610_10, hx1610_12⟩ := ite_bind hx1610_12
 obtain ⟨x1610_18, hx1610_18, hr⟩ := bind_some hr
 obtain ⟨x1610_15, hx1610_15, hx1610_18⟩ := ite_bind hx1610_18
 obtain ⟨x1610_24, hx1610_24, hr⟩ := bind_some hr
 obtain ⟨x1610_21, hx1610_21, hx1610_24⟩ := ite_bind hx1610_24
 obtain ⟨x1610_30, hx1610_30, hr⟩ := bind_some hr
 obtain ⟨x1610_27, hx1610_27, hx1610_30⟩ := ite_bind hx1610_30
 refine cut (fun a' k' => Bs noF k0 143 a' k' ∧ (IsV x1603_1.1) (a'.get 2) k' ∧ (IsV x1609_33) (a'.get 12) k' ∧ (IsV x1610_30) (a'.get 13) k' ∧ True) ?_ hQ ?_
 ·intro Q1614 hQQ1614 hp1615
  refine gS 32 (_ :: _ :: _ :: _ :: _ :: _ :: _ :: _ :: _ :: _ :: _ :: _ :: _ :: _ :: _ :: _ :: _ :: _ :: _ :: _ :: _ :: _ :: _ :: _ :: _ :: _ :: _ :: _ :: _ :: _ :: _ :: _ :: []) hs (by kernel_rfl) ⟨mu rfl i2, o1 [(90, some 0)] rfl fun _ _ h n => ok_call rfl Try.call22 (solid_Top_ok n.1 (cI rfl) (cI rfl) hx1610_1), o1 [(91, some 1)] rfl fun _ _ h n => ok_eqI rfl n.1 (cI rfl), cm 2 rfl rfl, mT rfl rfl i2, gT [(94, some 4)] rfl rfl fun hp _ _ h n => ok_call rfl Try.call22 (solid_Top_ok (Gd.get n.1 hp) (cI rfl) (cI rfl) (hx1610_5 hp)), gT [(95, some 5)] rfl rfl fun hp _ _ h n => ok_eqI rfl (Gd.get n.1 hp) (cI rfl), o1 [(93, some 3), (96, some 6)] rfl fun _ _ h n => ok_pickM rfl n.1 hx1610_7 (Gd.get n.2.1) (cB rfl), cm 7 rfl rfl, mT rfl rfl i2, gT [(99, some 9)] rfl rfl fun hp _ _ h n => ok_call rfl Try.call22 (solid_Top_ok (Gd.get n.1 hp) (cI rfl) (cI rfl) (hx1610_10 hp)), gT [(100, some 10)] rfl rfl fun hp _ _ h n => ok_eqI rfl (Gd.get n.1 hp) (cI rfl), o1 [(98, some 8), (101, some 11)] rfl fun _ _ h n => ok_pickM rfl n.1 hx1610_12 (Gd.get n.2.1) (cB rfl), cm 12 rfl rfl, mT rfl rfl i2, gT [(104, some 14)] rfl rfl fun hp _ _ h n => ok_call rfl Try.call23 (solid_Section_ok (Gd.get n.1 hp) (cI rfl) (hx1610_15 hp)), gT [(105, some 15)] rfl rfl fun hp _ _ h n => ok_len rfl rfl Try.underlying44 (IsV.rd (Gd.get n.1 hp)), gT [(106, some 16)] rfl rfl fun hp _ _ h n => ok_eqI rfl (Gd.get n.1 hp) (cI rfl), o1 [(103, some 13), (107, some 17)] rfl fun _ _ h n => ok_pickM rfl n.1 hx1610_18 (Gd.get n.2.1) (cB rfl), cm 18 rfl rfl, mT rfl rfl i2, gT [(110, some 20)] rfl rfl fun hp _ _ h n => ok_call rfl Try.call23 (solid_Section_ok (Gd.get n.1 hp) (cI rfl) (hx1610_21 hp)), gT [(111, some 21)] rfl rfl fun hp _ _ h n => ok_len rfl rfl Try.underlying44 (IsV.rd (Gd.get n.1 hp)), gT [(112, some 22)] rfl rfl fun hp _ _ h n => ok_eqI rfl (Gd.get n.1 hp) (cI rfl), o1 [(109, some 19), (113, some 23)] rfl fun _ _ h n => ok_pickM rfl n.1 hx1610_24 (Gd.get n.2.1) (cB rfl), cm 24 rfl rfl, mT rfl rfl i2, gT [(116, some 26)] rfl rfl fun hp _ _ h n => ok_call rfl Try.call10 (solid_Boxes_ok (Gd.get n.1 hp) (hx1610_27 hp)), gT [(117, some 27)] rfl rfl fun hp _ _ h n => ok_len rfl rfl Try.underlying22 (IsV.rd (Gd.get n.1 hp)), gT [(118, some 28)] rfl rfl fun hp _ _ h n => ok_eqI rfl (Gd.get n.1 hp) (cI rfl), o1 [(115, some 25), (119, some 29)] rfl fun _ _ h n => ok_pickM rfl n.1 hx1610_30 (Gd.get n.2.1) (cB rfl), cp 30 rfl rfl, trivial⟩ hQQ1614 fun b q p => ?_
  exact tail_done (k := q) (hp1615 _ _ ⟨Bs.post ⟨hg, hs, hd⟩ p, p.ke 2 rfl i2, p.ke 12 rfl i12, p.ou 31 13 rfl, trivial⟩)
 rintro a k ⟨⟨hg, hs, hd⟩, i2, i12, i13, _⟩
 refine wp_seq ?_
 obtain ⟨x1611_7, hx1611_7, hr⟩ := bind_some hr
 obtain ⟨x1611_6, hx1611_6, hx1611_7⟩ := ite_bind hx1611_7
 obtain ⟨x1611_12, hx1611_12, hr⟩ := bind_some hr
 obtain ⟨x1611_10, hx1611_10, hx1611_12⟩ := ite_bind hx1611_12
 obtain ⟨x1611_15, hx1611_15, hr⟩ := bind_some hr
 obtain ⟨x1611_14, hx1611_14, hx1611_15⟩ := ite_bind hx1611_15
 obtain ⟨x1611_21, hx1611_21, hr⟩ := bind_some hr
 obtain ⟨x1611_19, hx1611_19, hx1611_21⟩ := ite_bind hx1611_21
 refine cut (fun a' k' => Bs noF k0 143 a' k' ∧ (IsV x1611_21) (a'.get 0) k' ∧ True) ?_ hQ ?_
 ·intro Q1612 hQQ1612 hp1613
  refine gS 23 (_ :: _ :: _ :: _ :: _ :: _ :: _ :: _ :: _ :: _ :: _ :: _ :: _ :: _ :: _ :: _ :: _ :: ⟨some (Gd (x1611_15 = true) (IsV (⟨0, 1, []⟩ : Slab))), []⟩ :: ⟨some (Gd (x1611_15 = true) (IsV (α := (List Slab)) ([(⟨0, 1, []⟩ : Slab)]))), [(138, some 17)]⟩ :: _ :: _ :: _ :: _ :: []) hs (by kernel_rfl) ⟨mu rfl i12, cm 0 rfl rfl, mT rfl rfl i13, o1 [(122, some 1), (123, some 2)] rfl fun _ _ h n => ok_pickAnd rfl n.1 (Gd.get n.2.1) (cB rfl), cm 3 rfl rfl, mT rfl rfl i2, gT [(126, some 5)] rfl rfl fun hp _ _ h n => ok_call rfl Try.call19 (solid_Has_ok (Gd.get n.1 hp) (cI rfl) (cI rfl) (cI rfl) (hx1611_6 hp)), o1 [(125, some 4), (127, some 6)] rfl fun _ _ h n => ok_pickM rfl n.1 hx1611_7 (Gd.get n.2.1) (cB rfl), cm 7 rfl rfl, mT rfl rfl i2, gT [(130, some 9)] rfl rfl fun hp _ _ h n => ok_call rfl Try.call19 (solid_Has_ok (Gd.get n.1 hp) (cI rfl) (cI rfl) (cI rfl) (hx1611_10 hp)), gT [(131, some 10)] rfl rfl fun hp _ _ h n => ok_not rfl (Gd.get n.1 hp), o1 [(129, some 8), (132, some 11)] rfl fun _ _ h n => ok_pickM rfl n.1 hx1611_12 (Gd.get n.2.1) (cB rfl), cm 12 rfl rfl, gT [] rfl rfl fun hp _ _ h n => ok_call rfl Try.call17 (solid_Right_ok (isV_list.2 (.inl ⟨rfl, rfl⟩)) (hx1611_14 hp)), o1 [(134, some 13), (135, some 14)] rfl fun _ _ h n => ok_pickM rfl n.1 hx1611_15 (Gd.get n.2.1) (cB rfl), cm 15 rfl rfl, gdT rfl rfl fun hp _ _ h n => ok_build rfl (bld47_0_1 (cI rfl) (cI rfl)), gdT rfl rfl fun hp _ _ h n => ok_buildSlice rfl Try.underlying24 eo47 rfl (by decide) (by decide) ⟨rfl, (Gd.get n.1 hp), trivial⟩, gT [(139, some 18)] rfl rfl fun hp _ _ h n => ok_call rfl Try.call17 (solid_Right_ok (Gd.get n.1 hp) (hx1611_19 hp)), gT [(140, some 19)] rfl rfl fun hp _ _ h n => ok_not rfl (Gd.get n.1 hp), o1 [(137, some 16), (141, some 20)] rfl fun _ _ h n => ok_pickM rfl n.1 hx1611_21 (Gd.get n.2.1) (cB rfl), cp 21 rfl rfl, trivial⟩ hQQ1612 fun b q p => ?_
  exact tail_done (k := q) (hp1613 _ _ ⟨Bs.post ⟨hg, hs, hd⟩ p, p.ou 22 0 rfl, trivial⟩)
 rintro a k ⟨⟨hg, hs, hd⟩, i0, _⟩
 refine wp_ret ?_
 obtain rfl := Option.some.inj hr
 exact retC1 rfl hd hg i0
def law09_near_L0 (l_ : (List Box)) (n_ : Int) (s1636 : Int) : Option (Flow (Int) (Bool)) :=
 if ((decide (s1636 < (l_.length : Int))) && (decide (s1636 ≤ n_))) then
  (getI l_ s1636).bind fun x1641_2 =>
  if (((((((((decide (x1641_2.Base.X0 < 0)) || (decide (x1641_2.Base.X1 ≤ x1641_2.Base.X0))) || (decide (8 < x1641_2.Base.X1))) || (decide (x1641_2.Base.Y0 < 0))) || (decide (x1641_2.Base.Y1 ≤ x1641_2.Base.Y0))) || (decide (8 < x1641_2.Base.Y1))) || (decide (x1641_2.Z0 < 0))) || (decide (x1641_2.Z1 ≤ x1641_2.Z0))) || (decide (8 < x1641_2.Z1))) then
   some (.ret false)
  else
   (addI s1636 1).bind fun x1646_1 =>
   some (.go x1646_1)
 else
  some (.ex 0 s1636)
def law09_near (l_ : (List Box)) (n_ : Int) : Option (Bool) :=
 (iterL (law09_near_L0 l_ n_) (l_.length + 1) 0).bind fun f1657 => match f1657 with
  | .go _ => none
  | .ex _ _ =>
   some (decide ((l_.length : Int) ≤ n_))
  | .ret r1662 => some r1662
theorem law09_near_ok {k0 : K} {v0 v1 : Value} {l_ : (List Box)} {n_ : Int} {r : Bool} (i0 : (IsV l_) v0 k0) (i1 : (IsV n_) v1 k0) (hr : law09_near l_ n_ = some r) :
  Calls Try.prog 13 #[v0, v1] k0.w (Ret k0 (IsV r)) := by
 unfold law09_near at hr
 refine Ret.ofC ?_
 refine enterK Try.func13 rfl Try.ntmps13 (show 2 ≤ 83 by decide) fun a k hk0 hs hd ha => ?_
 obtain ⟨e0, e1, _⟩ := ha
 replace i0 : (IsV l_) (a.get 0) k := by rw [e0, hk0]; exact i0
 replace i1 : (IsV n_) (a.get 1) k := by rw [e1, hk0]; exact i1
 have hQ : Gb.LetsOut (bodyPost Try.prog Try.f13 (RetC noF k0 (IsV r))) := letsOutC
 have hg : Chg noF k0 k := by rw [hk0]; exact Chg.refl _ k0
 refine stepL 1 (⟨some (IsV false), []⟩ :: []) rfl ⟨hg, hs, hd⟩ (by kernel_rfl) ⟨ob1 rfl fun _ _ h n => ok_assign rfl (isV_bool.2 rfl), trivial⟩ [⟨_, _⟩, ⟨_, _⟩] (fun b q p => ⟨p.ke 0 rfl i0, p.ke 1 rfl i1, trivial⟩) ?_
 rintro a k ⟨⟨hg, hs, hd⟩, i0, i1, _⟩
 refine wp_seq ?_
 refine stepL 1 (⟨some (IsI 0), []⟩ :: []) rfl ⟨hg, hs, hd⟩ (by kernel_rfl) ⟨aI rfl rfl, trivial⟩ [⟨_, _⟩, ⟨_, _⟩, ⟨_, _⟩] (fun b q p => ⟨p.ke 0 rfl i0, p.ke 1 rfl i1, p.ou 0 5 rfl, trivial⟩) ?_
 rintro a k ⟨⟨hg, hs, hd⟩, i0, i1, i5, _⟩
 refine wp_block ?_
 obtain ⟨f1657, hf1657, hr⟩ := bind_some hr
 refine cutFe f1657 (fun s' a' k' => Bs noF k0 83 a' k' ∧ (IsV l_) (a'.get 0) k' ∧ (IsV n_) (a'.get 1) k' ∧ (IsV s') (a'.get 5) k' ∧ True) (fun i' s' a' k' => (i' = 0 ∧ Bs noF k0 83 a' k' ∧ (IsV l_) (a'.get 0) k' ∧ (IsV n_) (a'.get 1) k' ∧ True)) (fun r' a' k' => bodyPost Try.prog Try.f13 (RetC noF k0 (IsV r')) .ret a' k'.w) ?_ hQ ?_ ?_ ?_
 ·intro Q1663 hQQ1663 hgo hex hret
  refine sim_loop ?_ _ _ _ _ _ hf1657 ⟨⟨hg, hs, hd⟩, i0, i1, i5, trivial⟩ Q1663 hQQ1663 hgo hex hret
  clear hr hf1657 hgo hex hret hQQ1663 hQ hg hs hd i0 i1 i5
  intro s1636 fl_ a k hr hS Q hQ hgo1637 hex1638 hret1639
  obtain ⟨⟨hg, hs, hd⟩, i0, i1, i5, _⟩ := hS
  unfold law09_near_L0 at hr
  refine wp_seq ?_
  refine stepL 9 (_ :: _ :: _ :: _ :: _ :: _ :: _ :: _ :: _ :: []) rfl ⟨hg, hs, hd⟩ (by kernel_rfl) ⟨mu rfl i5, mu rfl i0, o1 [(8, some 1)] rfl fun _ _ h n => ok_len rfl rfl Try.underlying22 (IsV.rd n.1), o1 [(7, some 0), (9, some 2)] rfl fun _ _ h n => ok_lss rfl n.1 n.2.1, cm 3 rfl rfl, mT rfl rfl i5, mT rfl rfl i1, gT [(12, some 5), (13, some 6)] rfl rfl fun hp _ _ h n => ok_leq rfl (Gd.get n.1 hp) (Gd.get n.2.1 hp), o1 [(11, some 4), (14, some 7)] rfl fun _ _ h n => ok_pickAnd rfl n.1 (Gd.get n.2.1) (cB rfl), trivial⟩ [⟨_, _⟩, ⟨_, _⟩, ⟨_, _⟩, ⟨_, _⟩] (fun b q p => ⟨p.ke 0 rfl i0, p.ke 1 rfl i1, p.ke 5 rfl i5, p.ou 8 15 rfl, trivial⟩) ?_
  rintro a k ⟨⟨hg, hs, hd⟩, i0, i1, i5, i15, _⟩
  refine wp_cond_split (isBool i15) (fun hc1654 => ?_) (fun hc1654 => ?_)
  ·rw [if_pos hc1654] at hr
   refine wp_skip ?_
   refine wp_seq ?_
   refine wp_block ?_
   refine wp_seq ?_
   obtain ⟨x1641_2, hx1641_2, hr⟩ := bind_some hr
   refine cut (fun a' k' => Bs noF k0 83 a' k' ∧ (IsV l_) (a'.get 0) k' ∧ (IsV n_) (a'.get 1) k' ∧ (IsV s1636) (a'.get 5) k' ∧ (IsRef x1641_2) (a'.get 6) k' ∧ True) ?_ hQ ?_
   ·intro Q1652 hQQ1652 hp1653
    refine gS 5 (_ :: _ :: _ :: _ :: ⟨some (IsBox k.w.heap.size (⟨(⟨0, 0, 0, 0⟩ : Rect), 0, 0⟩ : Box)), []⟩ :: []) hs (by kernel_rfl) ⟨mu rfl i0, mu rfl i5, o1 [(18, some 0), (19, some 1)] rfl fun _ _ h n => ok_indexAddr rfl Try.underlying22 ty32 (IsV.rd n.1) n.2.1 hx1641_2, o1 [(20, some 2)] rfl fun _ _ h n => ok_load rfl ty32 n.1, ob1 rfl fun _ _ h n => ok_alloc _ h.size rfl z32, trivial⟩ hQQ1652 fun b q p => ?_
    have hgq := hg.then p.grow
    have hsb := p.size.trans hs
    have hdb := p.defers.trans hd
    have j0 := p.ke 0 rfl i0
    have j1 := p.ke 1 rfl i1
    have j5 := p.ke 5 rfl i5
    obtain ⟨b6, j6, x6, z6⟩ : (IsBox k.w.heap.size (⟨(⟨0, 0, 0, 0⟩ : Rect), 0, 0⟩ : Box)) (b.get 6) q := p.ou 4 6 rfl
    replace x6 : Lo k (Eq b6) := Lo.eq x6
    have y6 : Lo k0 (Eq b6) := x6.chg hg
    have j21 : (IsV x1641_2) (b.get 21) q := p.ou 3 21 rfl
    have hns := z6.nshF
    refine tail_storeB (i := 5) rfl rfl rfl rfl szf32 (Upd.self (α := Box)) j6 z6 j21 fun q2 hch hz => ?_
    replace hgq := hgq.step hch y6.wr
    have hle := hch.le hns
    replace j0 := Pers.pers hle j0
    replace j1 := Pers.pers hle j1
    replace j5 := Pers.pers hle j5
    replace j21 := Pers.pers hle j21
    replace z6 := hz
    clear hns hle hch
    obtain ⟨q, hqq⟩ : ∃ q, q = q2 := ⟨q2, rfl⟩
    subst hqq
    obtain ⟨q2, hsh, jn⟩ := z6.give
    replace j0 := Pers.pers hsh.le j0
    replace j1 := Pers.pers hsh.le j1
    replace j5 := Pers.pers hsh.le j5
    rw [← j6] at jn
    replace j6 := jn
    replace hgq := hgq.hand hsh y6.wr
    rw [← hsh.w]
    clear hsh
    obtain ⟨q, hqq⟩ : ∃ q, q = q2 := ⟨q2, rfl⟩
    subst hqq
    exact tail_done (k := q) (hp1653 _ _ ⟨⟨hgq, hsb, hdb⟩, j0, j1, j5, j6, trivial⟩)
   rintro a k ⟨⟨hg, hs, hd⟩, i0, i1, i5, i6, _⟩
   refine stepL 57 (_ :: _ :: _ :: _ :: _ :: _ :: _ :: _ :: _ :: _ :: _ :: _ :: _ :: _ :: _ :: _ :: _ :: _ :: _ :: _ :: _ :: _ :: _ :: _ :: _ :: _ :: _ :: _ :: _ :: _ :: _ :: _ :: _ :: _ :: _ :: _ :: _ :: _ :: _ :: _ :: _ :: _ :: _ :: _ :: _ :: _ :: _ :: _ :: _ :: _ :: _ :: _ :: _ :: _ :: _ :: _ :: _ :: []) rfl ⟨hg, hs, hd⟩ (by kernel_rfl) ⟨o1 [(6, none)] rfl fun _ _ h n => ok_fieldAddr rfl fo32_0 (at_Box_0 _) ((up i6 h n.1)).ptr, o1 [(22, some 0)] rfl fun _ _ h n => ok_fieldAddr rfl fo30_0 (at_Rect_0 _) n.1, o1 [(23, some 1)] rfl fun _ _ h n => ok_load rfl ty3 n.1, o1 [(24, some 2)] rfl fun _ _ h n => ok_lss rfl n.1 (cI rfl), cm 3 rfl rfl, gF [(6, none)] rfl rfl fun hp _ _ h n => ok_fieldAddr rfl fo32_0 (at_Box_0 _) ((up i6 h n.1)).ptr, gF [(27, some 5)] rfl rfl fun hp _ _ h n => ok_fieldAddr rfl fo30_0 (at_Rect_0 _) (Gd.get n.1 hp), gF [(28, some 6)] rfl rfl fun hp _ _ h n => ok_load rfl ty3 (Gd.get n.1 hp), gF [(6, none)] rfl rfl fun hp _ _ h n => ok_fieldAddr rfl fo32_0 (at_Box_0 _) ((up i6 h n.1)).ptr, gF [(30, some 8)] rfl rfl fun hp _ _ h n => ok_fieldAddr rfl fo30_2 (at_Rect_2 _) (Gd.get n.1 hp), gF [(31, some 9)] rfl rfl fun hp _ _ h n => ok_load rfl ty3 (Gd.get n.1 hp), gF [(29, some 7), (32, some 10)] rfl rfl fun hp _ _ h n => ok_geq rfl (Gd.get n.1 hp) (Gd.get n.2.1 hp), o1 [(26, some 4), (33, some 11)] rfl fun _ _ h n => ok_pickOr rfl n.1 (cB rfl) (Gd.get n.2.1), cm 12 rfl rfl, gF [(6, none)] rfl rfl fun hp _ _ h n => ok_fieldAddr rfl fo32_0 (at_Box_0 _) ((up i6 h n.1)).ptr, gF [(36, some 14)] rfl rfl fun hp _ _ h n => ok_fieldAddr rfl fo30_2 (at_Rect_2 _) (Gd.get n.1 hp), gF [(37, some 15)] rfl rfl fun hp _ _ h n => ok_load rfl ty3 (Gd.get n.1 hp), gF [(38, some 16)] rfl rfl fun hp _ _ h n => ok_gtr rfl (Gd.get n.1 hp) (cI rfl), o1 [(35, some 13), (39, some 17)] rfl fun _ _ h n => ok_pickOr rfl n.1 (cB rfl) (Gd.get n.2.1), cm 18 rfl rfl, gF [(6, none)] rfl rfl fun hp _ _ h n => ok_fieldAddr rfl fo32_0 (at_Box_0 _) ((up i6 h n.1)).ptr, gF [(42, some 20)] rfl rfl fun hp _ _ h n => ok_fieldAddr rfl fo30_1 (at_Rect_1 _) (Gd.get n.1 hp), gF [(43, some 21)] rfl rfl fun hp _ _ h n => ok_load rfl ty3 (Gd.get n.1 hp), gF [(44, some 22)] rfl rfl fun hp _ _ h n => ok_lss rfl (Gd.get n.1 hp) (cI rfl), o1 [(41, some 19), (45, some 23)] rfl fun _ _ h n => ok_pickOr rfl n.1 (cB rfl) (Gd.get n.2.1), cm 24 rfl rfl, gF [(6, none)] rfl rfl fun hp _ _ h n => ok_fieldAddr rfl fo32_0 (at_Box_0 _) ((up i6 h n.1)).ptr, gF [(48, some 26)] rfl rfl fun hp _ _ h n => ok_fieldAddr rfl fo30_1 (at_Rect_1 _) (Gd.get n.1 hp), gF [(49, some 27)] rfl rfl fun hp _ _ h n => ok_load rfl ty3 (Gd.get n.1 hp), gF [(6, none)] rfl rfl fun hp _ _ h n => ok_fieldAddr rfl fo32_0 (at_Box_0 _) ((up i6 h n.1)).ptr, gF [(51, some 29)] rfl rfl fun hp _ _ h n => ok_fieldAddr rfl fo30_3 (at_Rect_3 _) (Gd.get n.1 hp), gF [(52, some 30)] rfl rfl fun hp _ _ h n => ok_load rfl ty3 (Gd.get n.1 hp), gF [(50, some 28), (53, some 31)] rfl rfl fun hp _ _ h n => ok_geq rfl (Gd.get n.1 hp) (Gd.get n.2.1 hp), o1 [(47, some 25), (54, some 32)] rfl fun _ _ h n => ok_pickOr rfl n.1 (cB rfl) (Gd.get n.2.1), cm 33 rfl rfl, gF [(6, none)] rfl rfl fun hp _ _ h n => ok_fieldAddr rfl fo32_0 (at_Box_0 _) ((up i6 h n.1)).ptr, gF [(57, some 35)] rfl rfl fun hp _ _ h n => ok_fieldAddr rfl fo30_3 (at_Rect_3 _) (Gd.get n.1 hp), gF [(58, some 36)] rfl rfl fun hp _ _ h n => ok_load rfl ty3 (Gd.get n.1 hp), gF [(59, some 37)] rfl rfl fun hp _ _ h n => ok_gtr rfl (Gd.get n.1 hp) (cI rfl), o1 [(56, some 34), (60, some 38)] rfl fun _ _ h n => ok_pickOr rfl n.1 (cB rfl) (Gd.get n.2.1), cm 39 rfl rfl, gF [(6, none)] rfl rfl fun hp _ _ h n => ok_fieldAddr rfl fo32_1 (at_Box_1 _) ((up i6 h n.1)).ptr, gF [(63, some 41)] rfl rfl fun hp _ _ h n => ok_load rfl ty3 (Gd.get n.1 hp), gF [(64, some 42)] rfl rfl fun hp _ _ h n => ok_lss rfl (Gd.get n.1 hp) (cI rfl), o1 [(62, some 40), (65, some 43)] rfl fun _ _ h n => ok_pickOr rfl n.1 (cB rfl) (Gd.get n.2.1), cm 44 rfl rfl, gF [(6, none)] rfl rfl fun hp _ _ h n => ok_fieldAddr rfl fo32_1 (at_Box_1 _) ((up i6 h n.1)).ptr, gF [(68, some 46)] rfl rfl fun hp _ _ h n => ok_load rfl ty3 (Gd.get n.1 hp), gF [(6, none)] rfl rfl fun hp _ _ h n => ok_fieldAddr rfl fo32_2 (at_Box_2 _) ((up i6 h n.1)).ptr, gF [(70, some 48)] rfl rfl fun hp _ _ h n => ok_load rfl ty3 (Gd.get n.1 hp), gF [(69, some 47), (71, some 49)] rfl rfl fun hp _ _ h n => ok_geq rfl (Gd.get n.1 hp) (Gd.get n.2.1 hp), o1 [(67, some 45), (72, some 50)] rfl fun _ _ h n => ok_pickOr rfl n.1 (cB rfl) (Gd.get n.2.1), cm 51 rfl rfl, gF [(6, none)] rfl rfl fun hp _ _ h n => ok_fieldAddr rfl fo32_2 (at_Box_2 _) ((up i6 h n.1)).ptr, gF [(75, some 53)] rfl rfl fun hp _ _ h n => ok_load rfl ty3 (Gd.get n.1 hp), gF [(76, some 54)] rfl rfl fun hp _ _ h n => ok_gtr rfl (Gd.get n.1 hp) (cI rfl), o1 [(74, some 52), (77, some 55)] rfl fun _ _ h n => ok_pickOr rfl n.1 (cB rfl) (Gd.get n.2.1), trivial⟩ [⟨_, _⟩, ⟨_, _⟩, ⟨_, _⟩, ⟨_, _⟩] (fun b q p => ⟨p.ke 0 rfl i0, p.ke 1 rfl i1, p.ke 5 rfl i5, p.ou 56 78 rfl, trivial⟩) ?_
   rintro a k ⟨⟨hg, hs, hd⟩, i0, i1, i5, i78, _⟩
   refine wp_cond_split (isBool i78) (fun hc1649 => ?_) (fun hc1649 => ?_)
   ·rw [if_pos hc1649] at hr
    refine stepL 1 (⟨some (IsV false), []⟩ :: []) rfl ⟨hg, hs, hd⟩ (by kernel_rfl) ⟨ob1 rfl fun _ _ h n => ok_assign rfl (isV_bool.2 rfl), trivial⟩ [⟨_, _⟩] (fun b q p => ⟨p.ou 0 4 rfl, trivial⟩) ?_
    rintro a k ⟨⟨hg, hs, hd⟩, i4, _⟩
    refine wp_ret ?_
    exact hret1639 _ _ _ (Option.some.inj hr).symm (retC1 rfl hd hg i4)
   rw [if_neg (by rw [hc1649]; decide)] at hr
   refine wp_skip ?_
   obtain ⟨x1646_1, hx1646_1, hr⟩ := bind_some hr
   refine cut (fun a' k' => Bs noF k0 83 a' k' ∧ (IsV l_) (a'.get 0) k' ∧ (IsV n_) (a'.get 1) k' ∧ (IsV x1646_1) (a'.get 5) k' ∧ True) ?_ hQ ?_
   ·intro Q1647 hQQ1647 hp1648
    refine gS 3 (_ :: _ :: _ :: []) hs (by kernel_rfl) ⟨mu rfl i5, o1 [(16, some 0)] rfl fun _ _ h n => ok_add rfl n.1 (cI rfl) hx1646_1, cp 1 rfl rfl, trivial⟩ hQQ1647 fun b q p => ?_
    exact tail_done (k := q) (hp1648 _ _ ⟨Bs.post ⟨hg, hs, hd⟩ p, p.ke 0 rfl i0, p.ke 1 rfl i1, p.ou 2 5 rfl, trivial⟩)
   rintro a k ⟨⟨hg, hs, hd⟩, i0, i1, i5, _⟩
   exact hgo1637 _ _ _ (Option.some.inj hr).symm ⟨⟨hg, hs, hd⟩, i0, i1, i5, trivial⟩
  rw [if_neg (by rw [hc1654]; decide)] at hr
  refine wp_exit ?_
  exact hex1638 _ _ _ _ (Option.some.inj hr).symm ⟨rfl, ⟨hg, hs, hd⟩, i0, i1, trivial⟩
 ·rintro r1662 a k rfl hR
  dsimp only at hr
  obtain rfl := Option.some.inj hr
  exact hR
 ·rintro _ _ _ rfl _
  simp at hr
 clear hf1657
 rintro _ s1658 a k rfl ⟨rfl, ⟨hg, hs, hd⟩, i0, i1, _⟩
 dsimp only at hr
 refine stepL 5 (_ :: _ :: _ :: _ :: _ :: []) rfl ⟨hg, hs, hd⟩ (by kernel_rfl) ⟨mu rfl i0, o1 [(79, some 0)] rfl fun _ _ h n => ok_len rfl rfl Try.underlying22 (IsV.rd n.1), mu rfl i1, o1 [(80, some 1), (81, some 2)] rfl fun _ _ h n => ok_leq rfl n.1 n.2.1, cp 3 rfl rfl, trivial⟩ [⟨_, _⟩] (fun b q p => ⟨p.ou 4 4 rfl, trivial⟩) ?_
 rintro a k ⟨⟨hg, hs, hd⟩, i4, _⟩
 refine wp_ret ?_
 obtain rfl := Option.some.inj hr
 exact retC1 rfl hd hg i4
def region_Union_1 (a_ : Bool) (b_ : Bool) : Option (Bool) :=
 some (a_ || b_)
theorem region_Union_1_ok {k0 : K} {v0 v1 : Value} {a_ : Bool} {b_ : Bool} {r : Bool} (i0 : (IsV a_) v0 k0) (i1 : (IsV b_) v1 k0) (hr : region_Union_1 a_ b_ = some r) :
  Calls Try.prog 56 #[v0, v1] k0.w (Ret k0 (IsV r)) := by
 unfold region_Union_1 at hr
 refine Ret.ofC ?_
 refine enterK Try.func56 rfl Try.ntmps56 (show 2 ≤ 9 by decide) fun a k hk0 hs hd ha => ?_
 obtain ⟨e0, e1, _⟩ := ha
 replace i0 : (IsV a_) (a.get 0) k := by rw [e0, hk0]; exact i0
 replace i1 : (IsV b_) (a.get 1) k := by rw [e1, hk0]; exact i1
 have hQ : Gb.LetsOut (bodyPost Try.prog Try.f56 (RetC noF k0 (IsV r))) := letsOutC
 have hg : Chg noF k0 k := by rw [hk0]; exact Chg.refl _ k0
 refine stepL 1 (⟨some (IsV false), []⟩ :: []) rfl ⟨hg, hs, hd⟩ (by kernel_rfl) ⟨ob1 rfl fun _ _ h n => ok_assign rfl (isV_bool.2 rfl), trivial⟩ [⟨_, _⟩, ⟨_, _⟩] (fun b q p => ⟨p.ke 0 rfl i0, p.ke 1 rfl i1, trivial⟩) ?_
 rintro a k ⟨⟨hg, hs, hd⟩, i0, i1, _⟩
 refine stepL 5 (_ :: _ :: _ :: _ :: _ :: []) rfl ⟨hg, hs, hd⟩ (by kernel_rfl) ⟨mu rfl i0, cm 0 rfl rfl, mF rfl rfl i1, o1 [(6, some 1), (7, some 2)] rfl fun _ _ h n => ok_pickOr rfl n.1 (cB rfl) (Gd.get n.2.1), cp 3 rfl rfl, trivial⟩ [⟨_, _⟩] (fun b q p => ⟨p.ou 4 4 rfl, trivial⟩) ?_
 rintro a k ⟨⟨hg, hs, hd⟩, i4, _⟩
 refine wp_ret ?_
 obtain rfl := Option.some.inj hr
 exact retC1 rfl hd hg i4
def region_Union (a_ : (List Rect)) (b_ : (List Rect)) : Option ((List Rect) × Int) :=
 (region_combine a_ b_ region_Union_1).bind fun x1675_2 =>
 some (x1675_2.1, x1675_2.2)
theorem region_Union_ok {k0 : K} {v0 v1 : Value} {a_ : (List Rect)} {b_ : (List Rect)} {r : (List Rect) × Int} (i0 : (IsV a_) v0 k0) (i1 : (IsV b_) v1 k0) (hr : region_Union a_ b_ = some r) :
  Calls Try.prog 38 #[v0, v1] k0.w (Ret k0 (IsTup2 (IsV r.1) (IsV r.2))) := by
 unfold region_Union at hr
 refine Ret.ofC ?_
 refine enterK Try.func38 rfl Try.ntmps38 (show 2 ≤ 11 by decide) fun a k hk0 hs hd ha => ?_
 obtain ⟨e0, e1, _⟩ := ha
 replace i0 : (IsV a_) (a.get 0) k := by rw [e0, hk0]; exact i0
 replace i1 : (IsV b_) (a.get 1) k := by rw [e1, hk0]; exact i1
 have hQ : Gb.LetsOut (bodyPost Try.prog Try.f38 (RetC noF k0 (IsTup2 (IsV r.1) (IsV r.2)))) := letsOutC
 have hg : Chg noF k0 k := by rw [hk0]; exact Chg.refl _ k0
 refine stepL 2 (⟨some IsE0, []⟩ :: ⟨some (IsI 0), []⟩ :: []) rfl ⟨hg, hs, hd⟩ (by kernel_rfl) ⟨ob1 rfl fun b q h n => ok_assign rfl isE0_nil, aI rfl rfl, trivial⟩ [⟨_, _⟩, ⟨_, _⟩] (fun b q p => ⟨p.ke 0 rfl i0, p.ke 1 rfl i1, trivial⟩) ?_
 rintro a k ⟨⟨hg, hs, hd⟩, i0, i1, _⟩
 refine wp_seq ?_
 obtain ⟨x1675_2, hx1675_2, hr⟩ := bind_some hr
 refine cut (fun a' k' => Bs noF k0 11 a' k' ∧ (IsV x1675_2.1) (a'.get 4) k' ∧ (IsV x1675_2.2) (a'.get 5) k' ∧ True) ?_ hQ ?_
 ·intro Q1676 hQQ1676 hp1677
  refine gS 7 (_ :: _ :: _ :: _ :: _ :: _ :: _ :: []) hs (by kernel_rfl) ⟨mu rfl i0, mu rfl i1, o1 [(6, some 0), (7, some 1)] rfl fun _ _ h n => ok_call rfl Try.call55 (region_combine_ok n.1 n.2.1 ⟨56, _, _, rfl, Try.call56, fun k9 hk9 _ _ _ _ _ hx0 hx1 hy9 => by simpa [evalT] using region_Union_1_ok hx0 hx1 hy9⟩ hx1675_2), o1 [(8, some 2)] rfl fun _ _ h n => ok_ext2_0 rfl n.1, o1 [(8, some 2)] rfl fun _ _ h n => ok_ext2_1 rfl n.1, cp 3 rfl rfl, cp 4 rfl rfl, trivial⟩ hQQ1676 fun b q p => ?_
  exact tail_done (k := q) (hp1677 _ _ ⟨Bs.post ⟨hg, hs, hd⟩ p, p.ou 5 4 rfl, p.ou 6 5 rfl, trivial⟩)
 rintro a k ⟨⟨hg, hs, hd⟩, i4, i5, _⟩
 refine wp_ret ?_
 obtain rfl := Option.some.inj hr
 exact retC2 rfl hd hg i4 i5
def solid_Union (a_ : (List Slab)) (b_ : (List Slab)) : Option ((List Slab) × Int) :=
 (solid_combine a_ b_ region_Union).bind fun x1681_2 =>
 some (x1681_2.1, x1681_2.2)
theorem solid_Union_ok {k0 : K} {v0 v1 : Value} {a_ : (List Slab)} {b_ : (List Slab)} {r : (List Slab) × Int} (i0 : (IsV a_) v0 k0) (i1 : (IsV b_) v1 k0) (hr : solid_Union a_ b_ = some r) :
  Calls Try.prog 14 #[v0, v1] k0.w (Ret k0 (IsTup2 (IsV r.1) (IsV r.2))) := by
 unfold solid_Union at hr
 refine Ret.ofC ?_
 refine enterK Try.func14 rfl Try.ntmps14 (show 2 ≤ 11 by decide) fun a k hk0 hs hd ha => ?_
 obtain ⟨e0, e1, _⟩ := ha
 replace i0 : (IsV a_) (a.get 0) k := by rw [e0, hk0]; exact i0
 replace i1 : (IsV b_) (a.get 1) k := by rw [e1, hk0]; exact i1
 have hQ : Gb.LetsOut (bodyPost Try.prog Try.f14 (RetC noF k0 (IsTup2 (IsV r.1) (IsV r.2)))) := letsOutC
 have hg : Chg noF k0 k := by rw [hk0]; exact Chg.refl _ k0
 refine stepL 2 (⟨some IsE0, []⟩ :: ⟨some (IsI 0), []⟩ :: []) rfl ⟨hg, hs, hd⟩ (by kernel_rfl) ⟨ob1 rfl fun b q h n => ok_assign rfl isE0_nil, aI rfl rfl, trivial⟩ [⟨_, _⟩, ⟨_, _⟩] (fun b q p => ⟨p.ke 0 rfl i0, p.ke 1 rfl i1, trivial⟩) ?_
 rintro a k ⟨⟨hg, hs, hd⟩, i0, i1, _⟩
 refine wp_seq ?_
 obtain ⟨x1681_2, hx1681_2, hr⟩ := bind_some hr
 refine cut (fun a' k' => Bs noF k0 11 a' k' ∧ (IsV x1681_2.1) (a'.get 4) k' ∧ (IsV x1681_2.2) (a'.get 5) k' ∧ True) ?_ hQ ?_
 ·intro Q1682 hQQ1682 hp1683
  refine gS 7 (_ :: _ :: _ :: _ :: _ :: _ :: _ :: []) hs (by kernel_rfl) ⟨mu rfl i0, mu rfl i1, o1 [(6, some 0), (7, some 1)] rfl fun _ _ h n => ok_call rfl Try.call37 (solid_combine_ok n.1 n.2.1 ⟨38, _, _, rfl, Try.call38, fun k9 hk9 _ _ _ _ _ hx0 hx1 hy9 => by simpa [evalT] using region_Union_ok hx0 hx1 hy9⟩ hx1681_2), o1 [(8, some 2)] rfl fun _ _ h n => ok_ext2_0 rfl n.1, o1 [(8, some 2)] rfl fun _ _ h n => ok_ext2_1 rfl n.1, cp 3 rfl rfl, cp 4 rfl rfl, trivial⟩ hQQ1682 fun b q p => ?_
  exact tail_done (k := q) (hp1683 _ _ ⟨Bs.post ⟨hg, hs, hd⟩ p, p.ou 5 4 rfl, p.ou 6 5 rfl, trivial⟩)
 rintro a k ⟨⟨hg, hs, hd⟩, i4, i5, _⟩
 refine wp_ret ?_
 obtain rfl := Option.some.inj hr
 exact retC2 rfl hd hg i4 i5
def region_Common_1 (a_ : Bool) (b_ : Bool) : Option (Bool) :=
 some (a_ && b_)
theorem region_Common_1_ok {k0 : K} {v0 v1 : Value} {a_ : Bool} {b_ : Bool} {r : Bool} (i0 : (IsV a_) v0 k0) (i1 : (IsV b_) v1 k0) (hr : region_Common_1 a_ b_ = some r) :
  Calls Try.prog 57 #[v0, v1] k0.w (Ret k0 (IsV r)) := by
 unfold region_Common_1 at hr
 refine Ret.ofC ?_
 refine enterK Try.func57 rfl Try.ntmps57 (show 2 ≤ 9 by decide) fun a k hk0 hs hd ha => ?_
 obtain ⟨e0, e1, _⟩ := ha
 replace i0 : (IsV a_) (a.get 0) k := by rw [e0, hk0]; exact i0
 replace i1 : (IsV b_) (a.get 1) k := by rw [e1, hk0]; exact i1
 have hQ : Gb.LetsOut (bodyPost Try.prog Try.f57 (RetC noF k0 (IsV r))) := letsOutC
 have hg : Chg noF k0 k := by rw [hk0]; exact Chg.refl _ k0
 refine stepL 1 (⟨some (IsV false), []⟩ :: []) rfl ⟨hg, hs, hd⟩ (by kernel_rfl) ⟨ob1 rfl fun _ _ h n => ok_assign rfl (isV_bool.2 rfl), trivial⟩ [⟨_, _⟩, ⟨_, _⟩] (fun b q p => ⟨p.ke 0 rfl i0, p.ke 1 rfl i1, trivial⟩) ?_
 rintro a k ⟨⟨hg, hs, hd⟩, i0, i1, _⟩
 refine stepL 5 (_ :: _ :: _ :: _ :: _ :: []) rfl ⟨hg, hs, hd⟩ (by kernel_rfl) ⟨mu rfl i0, cm 0 rfl rfl, mT rfl rfl i1, o1 [(6, some 1), (7, some 2)] rfl fun _ _ h n => ok_pickAnd rfl n.1 (Gd.get n.2.1) (cB rfl), cp 3 rfl rfl, trivial⟩ [⟨_, _⟩] (fun b q p => ⟨p.ou 4 4 rfl, trivial⟩) ?_
 rintro a k ⟨⟨hg, hs, hd⟩, i4, _⟩
 refine wp_ret ?_
 obtain rfl := Option.some.inj hr
 exact retC1 rfl hd hg i4
def region_Common (a_ : (List Rect)) (b_ : (List Rect)) : Option ((List Rect) × Int) :=
 (region_combine a_ b_ region_Common_1).bind fun x1693_2 =>
 some (x1693_2.1, x1693_2.2)
theorem region_Common_ok {k0 : K} {v0 v1 : Value} {a_ : (List Rect)} {b_ : (List Rect)} {r : (List Rect) × Int} (i0 : (IsV a_) v0 k0) (i1 : (IsV b_) v1 k0) (hr : region_Common a_ b_ = some r) :
  Calls Try.prog 39 #[v0, v1] k0.w (Ret k0 (IsTup2 (IsV r.1) (IsV r.2))) := by
 unfold region_Common at hr
 refine Ret.ofC ?_
 refine enterK Try.func39 rfl Try.ntmps39 (show 2 ≤ 11 by decide) fun a k hk0 hs hd ha => ?_
 obtain ⟨e0, e1, _⟩ := ha
 replace i0 : (IsV a_) (a.get 0) k := by rw [e0, hk0]; exact i0
 replace i1 : (IsV b_) (a.get 1) k := by rw [e1, hk0]; exact i1
 have hQ : Gb.LetsOut (bodyPost Try.prog Try.f39 (RetC noF k0 (IsTup2 (IsV r.1) (IsV r.2)))) := letsOutC
 have hg : Chg noF k0 k := by rw [hk0]; exact Chg.refl _ k0
 refine stepL 2 (⟨some IsE0, []⟩ :: ⟨some (IsI 0), []⟩ :: []) rfl ⟨hg, hs, hd⟩ (by kernel_rfl) ⟨ob1 rfl fun b q h n => ok_assign rfl isE0_nil, aI rfl rfl, trivial⟩ [⟨_, _⟩, ⟨_, _⟩] (fun b q p => ⟨p.ke 0 rfl i0, p.ke 1 rfl i1, trivial⟩) ?_
 rintro a k ⟨⟨hg, hs, hd⟩, i0, i1, _⟩
 refine wp_seq ?_
 obtain ⟨x1693_2, hx1693_2, hr⟩ := bind_some hr
 refine cut (fun a' k' => Bs noF k0 11 a' k' ∧ (IsV x1693_2.1) (a'.get 4) k' ∧ (IsV x1693_2.2) (a'.get 5) k' ∧ True) ?_ hQ ?_
 ·intro Q1694 hQQ1694 hp1695
  refine gS 7 (_ :: _ :: _ :: _ :: _ :: _ :: _ :: []) hs (by kernel_rfl) ⟨mu rfl i0, mu rfl i1, o1 [(6, some 0), (7, some 1)] rfl fun _ _ h n => ok_call rfl Try.call55 (region_combine_ok n.1 n.2.1 ⟨57, _, _, rfl, Try.call57, fun k9 hk9 _ _ _ _ _ hx0 hx1 hy9 => by simpa [evalT] using region_Common_1_ok hx0 hx1 hy9⟩ hx1693_2), o1 [(8, some 2)] rfl fun _ _ h n => ok_ext2_0 rfl n.1, o1 [(8, some 2)] rfl fun _ _ h n => ok_ext2_1 rfl n.1, cp 3 rfl rfl, cp 4 rfl rfl, trivial⟩ hQQ1694 fun b q p => ?_
  exact tail_done (k := q) (hp1695 _ _ ⟨Bs.post ⟨hg, hs, hd⟩ p, p.ou 5 4 rfl, p.ou 6 5 rfl, trivial⟩)
 rintro a k ⟨⟨hg, hs, hd⟩, i4, i5, _⟩
 refine wp_ret ?_
 obtain rfl := Option.some.inj hr
 exact retC2 rfl hd hg i4 i5
def solid_Common (a_ : (List Slab)) (b_ : (List Slab)) : Option ((List Slab) × Int) :=
 (solid_combine a_ b_ region_Common).bind fun x1699_2 =>
 some (x1699_2.1, x1699_2.2)
theorem solid_Common_ok {k0 : K} {v0 v1 : Value} {a_ : (List Slab)} {b_ : (List Slab)} {r : (List Slab) × Int} (i0 : (IsV a_) v0 k0) (i1 : (IsV b_) v1 k0) (hr : solid_Common a_ b_ = some r) :
  Calls Try.prog 15 #[v0, v1] k0.w (Ret k0 (IsTup2 (IsV r.1) (IsV r.2))) := by
 unfold solid_Common at hr
 refine Ret.ofC ?_
 refine enterK Try.func15 rfl Try.ntmps15 (show 2 ≤ 11 by decide) fun a k hk0 hs hd ha => ?_
 obtain ⟨e0, e1, _⟩ := ha
 replace i0 : (IsV a_) (a.get 0) k := by rw [e0, hk0]; exact i0
 replace i1 : (IsV b_) (a.get 1) k := by rw [e1, hk0]; exact i1
 have hQ : Gb.LetsOut (bodyPost Try.prog Try.f15 (RetC noF k0 (IsTup2 (IsV r.1) (IsV r.2)))) := letsOutC
 have hg : Chg noF k0 k := by rw [hk0]; exact Chg.refl _ k0
 refine stepL 2 (⟨some IsE0, []⟩ :: ⟨some (IsI 0), []⟩ :: []) rfl ⟨hg, hs, hd⟩ (by kernel_rfl) ⟨ob1 rfl fun b q h n => ok_assign rfl isE0_nil, aI rfl rfl, trivial⟩ [⟨_, _⟩, ⟨_, _⟩] (fun b q p => ⟨p.ke 0 rfl i0, p.ke 1 rfl i1, trivial⟩) ?_
 rintro a k ⟨⟨hg, hs, hd⟩, i0, i1, _⟩
 refine wp_seq ?_
 obtain ⟨x1699_2, hx1699_2, hr⟩ := bind_some hr
 refine cut (fun a' k' => Bs noF k0 11 a' k' ∧ (IsV x1699_2.1) (a'.get 4) k' ∧ (IsV x1699_2.2) (a'.get 5) k' ∧ True) ?_ hQ ?_
 ·intro Q1700 hQQ1700 hp1701
  refine gS 7 (_ :: _ :: _ :: _ :: _ :: _ :: _ :: []) hs (by kernel_rfl) ⟨mu rfl i0, mu rfl i1, o1 [(6, some 0), (7, some 1)] rfl fun _ _ h n => ok_call rfl Try.call37 (solid_combine_ok n.1 n.2.1 ⟨39, _, _, rfl, Try.call39, fun k9 hk9 _ _ _ _ _ hx0 hx1 hy9 => by simpa [evalT] using region_Common_ok hx0 hx1 hy9⟩ hx1699_2), o1 [(8, some 2)] rfl fun _ _ h n => ok_ext2_0 rfl n.1, o1 [(8, some 2)] rfl fun _ _ h n => ok_ext2_1 rfl n.1, cp 3 rfl rfl, cp 4 rfl rfl, trivial⟩ hQQ1700 fun b q p => ?_
  exact tail_done (k := q) (hp1701 _ _ ⟨Bs.post ⟨hg, hs, hd⟩ p, p.ou 5 4 rfl, p.ou 6 5 rfl, trivial⟩)
 rintro a k ⟨⟨hg, hs, hd⟩, i4, i5, _⟩
 refine wp_ret ?_
 obtain rfl := Option.some.inj hr
 exact retC2 rfl hd hg i4 i5
def law09_covered_L0 (l_ : (List Box)) (x_ : Int) (y_ : Int) (z_ : Int) (s1706 : Int) : Option (Flow (Int) (Bool)) :=
 if (decide (s1706 < (l_.length : Int))) then
  (getI l_ s1706).bind fun x1711_2 =>
  if ((((((decide (x1711_2.Base.X0 ≤ x_)) && (decide (x_ < x1711_2.Base.X1))) && (decide (x1711_2.Base.Y0 ≤ y_))) && (decide (y_ < x1711_2.Base.Y1))) && (decide (x1711_2.Z0 ≤ z_))) && (decide (z_ < x1711_2.Z1))) then
   some (.ret true)
  else
   (addI s1706 1).bind fun x1716_1 =>
   some (.go x1716_1)
 else
  some (.ex 0 s1706)
def law09_covered (l_ : (List Box)) (x_ : Int) (y_ : Int) (z_ : Int) : Option (Bool) :=
 (iterL (law09_covered_L0 l_ x_ y_ z_) (l_.length + 1) 0).bind fun f1727 => match f1727 with
  | .go _ => none
  | .ex _ _ =>
   some false
  | .ret r1732 => some r1732
theorem law09_covered_ok {k0 : K} {v0 v1 v2 v3 : Value} {l_ : (List Box)} {x_ : Int} {y_ : Int} {z_ : Int} {r : Bool} (i0 : (IsV l_) v0 k0) (i1 : (IsV x_) v1 k0) (i2 : (IsV y_) v2 k0) (i3 : (IsV z_) v3 k0) (hr : law09_covered l_ x_ y_ z_ = some r) :
  Calls Try.prog 18 #[v0, v1, v2, v3] k0.w (Ret k0 (IsV r)) := by
 unfold law09_covered at hr
 refine Ret.ofC ?_
 refine enterK Try.func18 rfl Try.ntmps18 (show 4 ≤ 59 by decide) fun a k hk0 hs hd ha => ?_
 obtain ⟨e0, e1, e2, e3, _⟩ := ha
 replace i0 : (IsV l_) (a.get 0) k := by rw [e0, hk0]; exact i0
 replace i1 : (IsV x_) (a.get 1) k := by rw [e1, hk0]; exact i1
 replace i2 : (IsV y_) (a.get 2) k := by rw [e2, hk0]; exact i2
 replace i3 : (IsV z_) (a.get 3) k := by rw [e3, hk0]; exact i3
 have hQ : Gb.LetsOut (bodyPost Try.prog Try.f18 (RetC noF k0 (IsV r))) := letsOutC
 have hg : Chg noF k0 k := by rw [hk0]; exact Chg.refl _ k0
 refine stepL 1 (⟨some (IsV false), []⟩ :: []) rfl ⟨hg, hs, hd⟩ (by kernel_rfl) ⟨ob1 rfl fun _ _ h n => ok_assign rfl (isV_bool.2 rfl), trivial⟩ [⟨_, _⟩, ⟨_, _⟩, ⟨_, _⟩, ⟨_, _⟩] (fun b q p => ⟨p.ke 0 rfl i0, p.ke 1 rfl i1, p.ke 2 rfl i2, p.ke 3 rfl i3, trivial⟩) ?_
 rintro a k ⟨⟨hg, hs, hd⟩, i0, i1, i2, i3, _⟩
 refine wp_seq ?_
 refine stepL 1 (⟨some (IsI 0), []⟩ :: []) rfl ⟨hg, hs, hd⟩ (by kernel_rfl) ⟨aI rfl rfl, trivial⟩ [⟨_, _⟩, ⟨_, _⟩, ⟨_, _⟩, ⟨_, _⟩, ⟨_, _⟩] (fun b q p => ⟨p.ke 0 rfl i0, p.ke 1 rfl i1, p.ke 2 rfl i2, p.ke 3 rfl i3, p.ou 0 9 rfl, trivial⟩) ?_
 rintro a k ⟨⟨hg, hs, hd⟩, i0, i1, i2, i3, i9, _⟩
 refine wp_block ?_
 obtain ⟨f1727, hf1727, hr⟩ := bind_some hr
 refine cutFe f1727 (fun s' a' k' => Bs noF k0 59 a' k' ∧ (IsV l_) (a'.get 0) k' ∧ (IsV x_) (a'.get 1) k' ∧ (IsV y_) (a'.get 2) k' ∧ (IsV z_) (a'.get 3) k' ∧ (IsV s') (a'.get 9) k' ∧ True) (fun i' s' a' k' => (i' = 0 ∧ Bs noF k0 59 a' k' ∧ True)) (fun r' a' k' => bodyPost Try.prog Try.f18 (RetC noF k0 (IsV r')) .ret a' k'.w) ?_ hQ ?_ ?_ ?_
 ·intro Q1733 hQQ1733 hgo hex hret
  refine sim_loop ?_ _ _ _ _ _ hf1727 ⟨⟨hg, hs, hd⟩, i0, i1, i2, i3, i9, trivial⟩ Q1733 hQQ1733 hgo hex hret
  clear hr hf1727 hgo hex hret hQQ1733 hQ hg hs hd i0 i1 i2 i3 i9
  intro s1706 fl_ a k hr hS Q hQ hgo1707 hex1708 hret1709
  obtain ⟨⟨hg, hs, hd⟩, i0, i1, i2, i3, i9, _⟩ := hS
  unfold law09_covered_L0 at hr
  refine wp_seq ?_
  refine stepL 4 (_ :: _ :: _ :: _ :: []) rfl ⟨hg, hs, hd⟩ (by kernel_rfl) ⟨mu rfl i9, mu rfl i0, o1 [(12, some 1)] rfl fun _ _ h n => ok_len rfl rfl Try.underlying22 (IsV.rd n.1), o1 [(11, some 0), (13, some 2)] rfl fun _ _ h n => ok_lss rfl n.1 n.2.1, trivial⟩ [⟨_, _⟩, ⟨_, _⟩, ⟨_, _⟩, ⟨_, _⟩, ⟨_, _⟩, ⟨_, _⟩] (fun b q p => ⟨p.ke 0 rfl i0, p.ke 1 rfl i1, p.ke 2 rfl i2, p.ke 3 rfl i3, p.ke 9 rfl i9, p.ou 3 14 rfl, trivial⟩) ?_
  rintro a k ⟨⟨hg, hs, hd⟩, i0, i1, i2, i3, i9, i14, _⟩
  refine wp_cond_split (isBool i14) (fun hc1724 => ?_) (fun hc1724 => ?_)
  ·rw [if_pos hc1724] at hr
   refine wp_skip ?_
   refine wp_seq ?_
   refine wp_block ?_
   refine wp_seq ?_
   obtain ⟨x1711_2, hx1711_2, hr⟩ := bind_some hr
   refine cut (fun a' k' => Bs noF k0 59 a' k' ∧ (IsV l_) (a'.get 0) k' ∧ (IsV x_) (a'.get 1) k' ∧ (IsV y_) (a'.get 2) k' ∧ (IsV z_) (a'.get 3) k' ∧ (IsV s1706) (a'.get 9) k' ∧ (IsRef x1711_2) (a'.get 10) k' ∧ True) ?_ hQ ?_
   ·intro Q1722 hQQ1722 hp1723
    refine gS 5 (_ :: _ :: _ :: _ :: ⟨some (IsBox k.w.heap.size (⟨(⟨0, 0, 0, 0⟩ : Rect), 0, 0⟩ : Box)), []⟩ :: []) hs (by kernel_rfl) ⟨mu rfl i0, mu rfl i9, o1 [(17, some 0), (18, some 1)] rfl fun _ _ h n => ok_indexAddr rfl Try.underlying22 ty32 (IsV.rd n.1) n.2.1 hx1711_2, o1 [(19, some 2)] rfl fun _ _ h n => ok_load rfl ty32 n.1, ob1 rfl fun _ _ h n => ok_alloc _ h.size rfl z32, trivial⟩ hQQ1722 fun b q p => ?_
    have hgq := hg.then p.grow
    have hsb := p.size.trans hs
    have hdb := p.defers.trans hd
    have j0 := p.ke 0 rfl i0
    have j1 := p.ke 1 rfl i1
    have j2 := p.ke 2 rfl i2
    have j3 := p.ke 3 rfl i3
    have j9 := p.ke 9 rfl i9
    obtain ⟨b10, j10, x10, z10⟩ : (IsBox k.w.heap.size (⟨(⟨0, 0, 0, 0⟩ : Rect), 0, 0⟩ : Box)) (b.get 10) q := p.ou 4 10 rfl
    replace x10 : Lo k (Eq b10) := Lo.eq x10
    have y10 : Lo k0 (Eq b10) := x10.chg hg
    have j20 : (IsV x1711_2) (b.get 20) q := p.ou 3 20 rfl
    have hns := z10.nshF
    refine tail_storeB (i := 5) rfl rfl rfl rfl szf32 (Upd.self (α := Box)) j10 z10 j20 fun q2 hch hz => ?_
    replace hgq := hgq.step hch y10.wr
    have hle := hch.le hns
    replace j0 := Pers.pers hle j0
    replace j1 := Pers.pers hle j1
    replace j2 := Pers.pers hle j2
    replace j3 := Pers.pers hle j3
    replace j9 := Pers.pers hle j9
    replace j20 := Pers.pers hle j20
    replace z10 := hz
    clear hns hle hch
    obtain ⟨q, hqq⟩ : ∃ q, q = q2 := ⟨q2, rfl⟩
    subst hqq
    obtain ⟨q2, hsh, jn⟩ := z10.give
    replace j0 := Pers.pers hsh.le j0
    replace j1 := Pers.pers hsh.le j1
    replace j2 := Pers.pers hsh.le j2
    replace j3 := Pers.pers hsh.le j3
    replace j9 := Pers.pers hsh.le j9
    rw [← j10] at jn
    replace j10 := jn
    replace hgq := hgq.hand hsh y10.wr
    rw [← hsh.w]
    clear hsh
    obtain ⟨q, hqq⟩ : ∃ q, q = q2 := ⟨q2, rfl⟩
    subst hqq
    exact tail_done (k := q) (hp1723 _ _ ⟨⟨hgq, hsb, hdb⟩, j0, j1, j2, j3, j9, j10, trivial⟩)
   rintro a k ⟨⟨hg, hs, hd⟩, i0, i1, i2, i3, i9, i10, _⟩
   refine stepL 38 (_ :: _ :: _ :: _ :: _ :: _ :: _ :: _ :: _ :: _ :: _ :: _ :: _ :: _ :: _ :: _ :: _ :: _ :: _ :: _ :: _ :: _ :: _ :: _ :: _ :: _ :: _ :: _ :: _ :: _ :: _ :: _ :: _ :: _ :: _ :: _ :: _ :: _ :: []) rfl ⟨hg, hs, hd⟩ (by kernel_rfl) ⟨o1 [(10, none)] rfl fun _ _ h n => ok_fieldAddr rfl fo32_0 (at_Box_0 _) ((up i10 h n.1)).ptr, o1 [(21, some 0)] rfl fun _ _ h n => ok_fieldAddr rfl fo30_0 (at_Rect_0 _) n.1, o1 [(22, some 1)] rfl fun _ _ h n => ok_load rfl ty3 n.1, mu rfl i1, o1 [(23, some 2), (24, some 3)] rfl fun _ _ h n => ok_leq rfl n.1 n.2.1, cm 4 rfl rfl, mT rfl rfl i1, gT [(10, none)] rfl rfl fun hp _ _ h n => ok_fieldAddr rfl fo32_0 (at_Box_0 _) ((up i10 h n.1)).ptr, gT [(28, some 7)] rfl rfl fun hp _ _ h n => ok_fieldAddr rfl fo30_2 (at_Rect_2 _) (Gd.get n.1 hp), gT [(29, some 8)] rfl rfl fun hp _ _ h n => ok_load rfl ty3 (Gd.get n.1 hp), gT [(27, some 6), (30, some 9)] rfl rfl fun hp _ _ h n => ok_lss rfl (Gd.get n.1 hp) (Gd.get n.2.1 hp), o1 [(26, some 5), (31, some 10)] rfl fun _ _ h n => ok_pickAnd rfl n.1 (Gd.get n.2.1) (cB rfl), cm 11 rfl rfl, gT [(10, none)] rfl rfl fun hp _ _ h n => ok_fieldAddr rfl fo32_0 (at_Box_0 _) ((up i10 h n.1)).ptr, gT [(34, some 13)] rfl rfl fun hp _ _ h n => ok_fieldAddr rfl fo30_1 (at_Rect_1 _) (Gd.get n.1 hp), gT [(35, some 14)] rfl rfl fun hp _ _ h n => ok_load rfl ty3 (Gd.get n.1 hp), mT rfl rfl i2, gT [(36, some 15), (37, some 16)] rfl rfl fun hp _ _ h n => ok_leq rfl (Gd.get n.1 hp) (Gd.get n.2.1 hp), o1 [(33, some 12), (38, some 17)] rfl fun _ _ h n => ok_pickAnd rfl n.1 (Gd.get n.2.1) (cB rfl), cm 18 rfl rfl, mT rfl rfl i2, gT [(10, none)] rfl rfl fun hp _ _ h n => ok_fieldAddr rfl fo32_0 (at_Box_0 _) ((up i10 h n.1)).ptr, gT [(42, some 21)] rfl rfl fun hp _ _ h n => ok_fieldAddr rfl fo30_3 (at_Rect_3 _) (Gd.get n.1 hp), gT [(43, some 22)] rfl rfl fun hp _ _ h n => ok_load rfl ty3 (Gd.get n.1 hp), gT [(41, some 20), (44, some 23)] rfl rfl fun hp _ _ h n => ok_lss rfl (Gd.get n.1 hp) (Gd.get n.2.1 hp), o1 [(40, some 19), (45, some 24)] rfl fun _ _ h n => ok_pickAnd rfl n.1 (Gd.get n.2.1) (cB rfl), cm 25 rfl rfl, gT [(10, none)] rfl rfl fun hp _ _ h n => ok_fieldAddr rfl fo32_1 (at_Box_1 _) ((up i10 h n.1)).ptr, gT [(48, some 27)] rfl rfl fun hp _ _ h n => ok_load rfl ty3 (Gd.get n.1 hp), mT rfl rfl i3, gT [(49, some 28), (50, some 29)] rfl rfl fun hp _ _ h n => ok_leq rfl (Gd.get n.1 hp) (Gd.get n.2.1 hp), o1 [(47, some 26), (51, some 30)] rfl fun _ _ h n => ok_pickAnd rfl n.1 (Gd.get n.2.1) (cB rfl), cm 31 rfl rfl, mT rfl rfl i3, gT [(10, none)] rfl rfl fun hp _ _ h n => ok_fieldAddr rfl fo32_2 (at_Box_2 _) ((up i10 h n.1)).ptr, gT [(55, some 34)] rfl rfl fun hp _ _ h n => ok_load rfl ty3 (Gd.get n.1 hp), gT [(54, some 33), (56, some 35)] rfl rfl fun hp _ _ h n => ok_lss rfl (Gd.get n.1 hp) (Gd.get n.2.1 hp), o1 [(53, some 32), (57, some 36)] rfl fun _ _ h n => ok_pickAnd rfl n.1 (Gd.get n.2.1) (cB rfl), trivial⟩ [⟨_, _⟩, ⟨_, _⟩, ⟨_, _⟩, ⟨_, _⟩, ⟨_, _⟩, ⟨_, _⟩] (fun b q p => ⟨p.ke 0 rfl i0, p.ke 1 rfl i1, p.ke 2 rfl i2, p.ke 3 rfl i3, p.ke 9 rfl i9, p.ou 37 58 rfl, trivial⟩) ?_
   rintro a k ⟨⟨hg, hs, hd⟩, i0, i1, i2, i3, i9, i58, _⟩
   refine wp_cond_split (isBool i58) (fun hc1719 => ?_) (fun hc1719 => ?_)
   ·rw [if_pos hc1719] at hr
    refine stepL 1 (⟨some (IsV true), []⟩ :: []) rfl ⟨hg, hs, hd⟩ (by kernel_rfl) ⟨ob1 rfl fun _ _ h n => ok_assign rfl (isV_bool.2 rfl), trivial⟩ [⟨_, _⟩] (fun b q p => ⟨p.ou 0 8 rfl, trivial⟩) ?_
    rintro a k ⟨⟨hg, hs, hd⟩, i8, _⟩
    refine wp_ret ?_
    exact hret1709 _ _ _ (Option.some.inj hr).symm (retC1 rfl hd hg i8)
   rw [if_neg (by rw [hc1719]; decide)] at hr
   refine wp_skip ?_
   obtain ⟨x1716_1, hx1716_1, hr⟩ := bind_some hr
   refine cut (fun a' k' => Bs noF k0 59 a' k' ∧ (IsV l_) (a'.get 0) k' ∧ (IsV x_) (a'.get 1) k' ∧ (IsV y_) (a'.get 2) k' ∧ (IsV z_) (a'.get 3) k' ∧ (IsV x1716_1) (a'.get 9) k' ∧ True) ?_ hQ ?_
   ·intro Q1717 hQQ1717 hp1718
    refine gS 3 (_ :: _ :: _ :: []) hs (by kernel_rfl) ⟨mu rfl i9, o1 [(15, some 0)] rfl fun _ _ h n => ok_add rfl n.1 (cI rfl) hx1716_1, cp 1 rfl rfl, trivial⟩ hQQ1717 fun b q p => ?_
    exact tail_done (k := q) (hp1718 _ _ ⟨Bs.post ⟨hg, hs, hd⟩ p, p.ke 0 rfl i0, p.ke 1 rfl i1, p.ke 2 rfl i2, p.ke 3 rfl i3, p.ou 2 9 rfl, trivial⟩)
   rintro a k ⟨⟨hg, hs, hd⟩, i0, i1, i2, i3, i9, _⟩
   exact hgo1707 _ _ _ (Option.some.inj hr).symm ⟨⟨hg, hs, hd⟩, i0, i1, i2, i3, i9, trivial⟩
  rw [if_neg (by rw [hc1724]; decide)] at hr
  refine wp_exit ?_
  exact hex1708 _ _ _ _ (Option.some.inj hr).symm ⟨rfl, ⟨hg, hs, hd⟩, trivial⟩
 ·rintro r1732 a k rfl hR
  dsimp only at hr
  obtain rfl := Option.some.inj hr
  exact hR
 ·rintro _ _ _ rfl _
  simp at hr
 clear hf1727
 rintro _ s1728 a k rfl ⟨rfl, ⟨hg, hs, hd⟩, _⟩
 dsimp only at hr
 refine stepL 1 (⟨some (IsV false), []⟩ :: []) rfl ⟨hg, hs, hd⟩ (by kernel_rfl) ⟨ob1 rfl fun _ _ h n => ok_assign rfl (isV_bool.2 rfl), trivial⟩ [⟨_, _⟩] (fun b q p => ⟨p.ou 0 8 rfl, trivial⟩) ?_
 rintro a k ⟨⟨hg, hs, hd⟩, i8, _⟩
 refine wp_ret ?_
 obtain rfl := Option.some.inj hr
 exact retC1 rfl hd hg i8
def law09_SolidCubes_L2 (a_ : (List Box)) (b_ : (List Box)) (x1744_1 : (List Slab) × Int) (x1746_2 : (List Slab) × Int) (x1747_2 : (List Slab) × Int) (x1748_2 : (List Slab) × Int) (s1757 : Int × Int × Int × Int) (s1763 : Int × Int × Int × Int) (s1769 : Int × Int × Int × Int) : Option (Flow (Int × Int × Int × Int) (Bool)) :=
 if (decide (s1769.2.2.2 < 8)) then
  (law09_covered a_ s1763.2.2.2 s1769.2.2.2 s1757.2.2.2).bind fun x1774_4 =>
  (law09_covered b_ s1763.2.2.2 s1769.2.2.2 s1757.2.2.2).bind fun x1775_4 =>
  (solid_Has x1744_1.1 s1763.2.2.2 s1769.2.2.2 s1757.2.2.2).bind fun x1776_4 =>
  (if (x1776_4 != x1774_4) then
   some true
  else
   (solid_Has x1746_2.1 s1763.2.2.2 s1769.2.2.2 s1757.2.2.2).bind fun x1776_12 =>
   some (x1776_12 != (x1774_4 || x1775_4))).bind fun x1776_18 =>
  (if x1776_18 then
   some true
  else
   (solid_Has x1747_2.1 s1763.2.2.2 s1769.2.2.2 s1757.2.2.2).bind fun x1776_24 =>
   some (x1776_24 != (x1774_4 && x1775_4))).bind fun x1776_30 =>
  (if x1776_30 then
   some true
  else
   (solid_Has x1748_2.1 s1763.2.2.2 s1769.2.2.2 s1757.2.2.2).bind fun x1776_36 =>
   some (x1776_36 != (x1774_4 && (!x1775_4)))).bind fun x1776_43 =>
  if x1776_43 then
   some (.ret false)
  else
   (if x1774_4 then
    (addI s1769.1 1).bind fun x1783_1 =>
    some x1783_1
   else
    some s1769.1).bind fun s1781 =>
   (if x1775_4 then
    (addI s1769.2.1 1).bind fun x1790_1 =>
    some x1790_1
   else
    some s1769.2.1).bind fun s1788 =>
   (if (x1774_4 && x1775_4) then
    (addI s1769.2.2.1 1).bind fun x1797_1 =>
    some x1797_1
   else
    some s1769.2.2.1).bind fun s1795 =>
   (addI s1769.2.2.2 1).bind fun x1801_1 =>
   some (.go (s1781, s1788, s1795, x1801_1))
 else
  some (.ex 4 (s1769.1, s1769.2.1, s1769.2.2.1, s1769.2.2.2))
def law09_SolidCubes_L1 (a_ : (List Box)) (b_ : (List Box)) (x1744_1 : (List Slab) × Int) (x1746_2 : (List Slab) × Int) (x1747_2 : (List Slab) × Int) (x1748_2 : (List Slab) × Int) (s1757 : Int × Int × Int × Int) (s1763 : Int × Int × Int × Int) : Option (Flow (Int × Int × Int × Int) (Bool)) :=
 if (decide (s1763.2.2.2 < 8)) then
  (iterL (law09_SolidCubes_L2 a_ b_ x1744_1 x1746_2 x1747_2 x1748_2 s1757 s1763) (9) (s1763.1, s1763.2.1, s1763.2.2.1, 0)).bind fun f1823 => match f1823 with
   | .go _ => none
   | .ex _ s1824 =>
    (addI s1763.2.2.2 1).bind fun x1825_1 =>
    some (.go (s1824.1, s1824.2.1, s1824.2.2.1, x1825_1))
   | .ret r1828 => some (.ret r1828)
 else
  some (.ex 2 (s1763.1, s1763.2.1, s1763.2.2.1, s1763.2.2.2))
def law09_SolidCubes_L0 (a_ : (List Box)) (b_ : (List Box)) (x1744_1 : (List Slab) × Int) (x1746_2 : (List Slab) × Int) (x1747_2 : (List Slab) × Int) (x1748_2 : (List Slab) × Int) (s1757 : Int × Int × Int × Int) : Option (Flow (Int × Int × Int × Int) (Bool)) :=
 if (decide (s1757.2.2.2 < 8)) then
  (iterL (law09_SolidCubes_L1 a_ b_ x1744_1 x1746_2 x1747_2 x1748_2 s1757) (9) (s1757.1, s1757.2.1, s1757.2.2.1, 0)).bind fun f1835 => match f1835 with
   | .go _ => none
   | .ex _ s1836 =>
    (addI s1757.2.2.2 1).bind fun x1837_1 =>
    some (.go (s1836.1, s1836.2.1, s1836.2.2.1, x1837_1))
   | .ret r1840 => some (.ret r1840)
 else
  some (.ex 0 (s1757.1, s1757.2.1, s1757.2.2.1, s1757.2.2.2))
def law09_SolidCubes (a_ : (List Box)) (b_ : (List Box)) : Option (Bool) :=
 (law09_small).bind fun x1739_0 =>
 (law09_near a_ 6).bind fun x1740_1 =>
 (if (!x1740_1) then
  some true
 else
  (law09_near b_ 6).bind fun x1740_5 =>
  some (!x1740_5)).bind fun x1740_7 =>
 if x1740_7 then
  some x1739_0
 else
  (solid_Of a_).bind fun x1744_1 =>
  (solid_Of b_).bind fun x1745_1 =>
  (solid_Union x1744_1.1 x1745_1.1).bind fun x1746_2 =>
  (solid_Common x1744_1.1 x1745_1.1).bind fun x1747_2 =>
  (solid_Minus x1744_1.1 x1745_1.1).bind fun x1748_2 =>
  (if (((((x1744_1.2 != 0) || (x1745_1.2 != 0)) || (x1746_2.2 != 0)) || (x1747_2.2 != 0)) || (x1748_2.2 != 0)) then
   some true
  else
   (solid_Right x1744_1.1).bind fun x1749_20 =>
   some (!x1749_20)).bind fun x1749_22 =>
  (if x1749_22 then
   some true
  else
   (solid_Right x1746_2.1).bind fun x1749_25 =>
   some (!x1749_25)).bind fun x1749_27 =>
  (if x1749_27 then
   some true
  else
   (solid_Right x1747_2.1).bind fun x1749_30 =>
   some (!x1749_30)).bind fun x1749_32 =>
  (if x1749_32 then
   some true
  else
   (solid_Right x1748_2.1).bind fun x1749_35 =>
   some (!x1749_35)).bind fun x1749_37 =>
  if x1749_37 then
   some false
  else
   (iterL (law09_SolidCubes_L0 a_ b_ x1744_1 x1746_2 x1747_2 x1748_2) (9) (0, 0, 0, 0)).bind fun f1847 => match f1847 with
    | .go _ => none
    | .ex _ s1848 =>
     (solid_Volume x1744_1.1).bind fun x1849_1 =>
     (if (x1849_1 != s1848.1) then
      some true
     else
      (solid_Volume x1745_1.1).bind fun x1849_6 =>
      some (x1849_6 != s1848.2.1)).bind fun x1849_9 =>
     (if x1849_9 then
      some true
     else
      (solid_Volume x1747_2.1).bind fun x1849_12 =>
      some (x1849_12 != s1848.2.2.1)).bind fun x1849_15 =>
     (if x1849_15 then
      some true
     else
      (solid_Volume x1746_2.1).bind fun x1849_18 =>
      (addI s1848.1 s1848.2.1).bind fun x1849_21 =>
      (subI x1849_21 s1848.2.2.1).bind fun x1849_23 =>
      some (x1849_18 != x1849_23)).bind fun x1849_25 =>
     (if x1849_25 then
      some true
     else
      (solid_Volume x1748_2.1).bind fun x1849_28 =>
      (subI s1848.1 s1848.2.2.1).bind fun x1849_31 =>
      some (x1849_28 != x1849_31)).bind fun x1849_33 =>
     if x1849_33 then
      some false
     else
      (if x1739_0 then
       (solid_Same x1744_1.1 x1745_1.1).bind fun x1853_4 =>
       some (x1853_4 == ((s1848.1 == s1848.2.2.1) && (s1848.2.1 == s1848.2.2.1)))
      else
       some false).bind fun x1853_14 =>
      (if x1853_14 then
       (solid_Has x1744_1.1 0 0 8).bind fun x1853_17 =>
       some (!x1853_17)
      else
       some false).bind fun x1853_19 =>
      (if x1853_19 then
       (solid_Has x1744_1.1 (-1) 0 0).bind fun x1853_22 =>
       some (!x1853_22)
      else
       some false).bind fun x1853_24 =>
      some x1853_24
    | .ret r1859 => some r1859
theorem law09_SolidCubes_ok {k0 : K} {v0 v1 : Value} {a_ : (List Box)} {b_ : (List Box)} {r : Bool} (i0 : (IsV a_) v0 k0) (i1 : (IsV b_) v1 k0) (hr : law09_SolidCubes a_ b_ = some r) :
  Calls Try.prog 4 #[v0, v1] k0.w (Ret k0 (IsV r)) := by
 unfold law09_SolidCubes at hr
 refine Ret.ofC ?_
 refine enterK Try.func4 rfl Try.ntmps4 (show 2 ≤ 237 by decide) fun a k hk0 hs hd ha => ?_
 obtain ⟨e0, e1, _⟩ := ha
 replace i0 : (IsV a_) (a.get 0) k := by rw [e0, hk0]; exact i0
 replace i1 : (IsV b_) (a.get 1) k := by rw [e1, hk0]; exact i1
 have hQ : Gb.LetsOut (bodyPost Try.prog Try.f4 (RetC noF k0 (IsV r))) := letsOutC
 have hg : Chg noF k0 k := by rw [hk0]; exact Chg.refl _ k0
 refine stepL 1 (⟨some (IsV false), []⟩ :: []) rfl ⟨hg, hs, hd⟩ (by kernel_rfl) ⟨ob1 rfl fun _ _ h n => ok_assign rfl (isV_bool.2 rfl), trivial⟩ [⟨_, _⟩, ⟨_, _⟩] (fun b q p => ⟨p.ke 0 rfl i0, p.ke 1 rfl i1, trivial⟩) ?_
 rintro a k ⟨⟨hg, hs, hd⟩, i0, i1, _⟩
 refine wp_seq ?_
 obtain ⟨x1739_0, hx1739_0, hr⟩ := bind_some hr
 refine cut (fun a' k' => Bs noF k0 237 a' k' ∧ (IsV a_) (a'.get 0) k' ∧ (IsV b_) (a'.get 1) k' ∧ (IsV x1739_0) (a'.get 5) k' ∧ True) ?_ hQ ?_
 ·intro Q1885 hQQ1885 hp1886
  refine gS 2 (_ :: _ :: []) hs (by kernel_rfl) ⟨o1 [] rfl fun _ _ h n => ok_call rfl Try.call8 (law09_small_ok hx1739_0), cp 0 rfl rfl, trivial⟩ hQQ1885 fun b q p => ?_
  exact tail_done (k := q) (hp1886 _ _ ⟨Bs.post ⟨hg, hs, hd⟩ p, p.ke 0 rfl i0, p.ke 1 rfl i1, p.ou 1 5 rfl, trivial⟩)
 rintro a k ⟨⟨hg, hs, hd⟩, i0, i1, i5, _⟩
 refine wp_seq ?_
 refine wp_seq ?_
 obtain ⟨x1740_1, hx1740_1, hr⟩ := bind_some hr
 obtain ⟨x1740_7, hx1740_7, hr⟩ := bind_some hr
 obtain ⟨x1740_5, hx1740_5, hx1740_7⟩ := ite_bindF hx1740_7
 refine cut (fun a' k' => Bs noF k0 237 a' k' ∧ (IsV a_) (a'.get 0) k' ∧ (IsV b_) (a'.get 1) k' ∧ (IsV x1739_0) (a'.get 5) k' ∧ (IsV x1740_7) (a'.get 32) k' ∧ True) ?_ hQ ?_
 ·intro Q1883 hQQ1883 hp1884
  refine gS 8 (_ :: _ :: _ :: _ :: _ :: _ :: _ :: _ :: []) hs (by kernel_rfl) ⟨mu rfl i0, o1 [(25, some 0)] rfl fun _ _ h n => ok_call rfl Try.call13 (law09_near_ok n.1 (cI rfl) hx1740_1), o1 [(26, some 1)] rfl fun _ _ h n => ok_not rfl n.1, cm 2 rfl rfl, mF rfl rfl i1, gF [(29, some 4)] rfl rfl fun hp _ _ h n => ok_call rfl Try.call13 (law09_near_ok (Gd.get n.1 hp) (cI rfl) (hx1740_5 hp)), gF [(30, some 5)] rfl rfl fun hp _ _ h n => ok_not rfl (Gd.get n.1 hp), o1 [(28, some 3), (31, some 6)] rfl fun _ _ h n => ok_pickM rfl n.1 hx1740_7 (cB rfl) (Gd.get n.2.1), trivial⟩ hQQ1883 fun b q p => ?_
  exact tail_done (k := q) (hp1884 _ _ ⟨Bs.post ⟨hg, hs, hd⟩ p, p.ke 0 rfl i0, p.ke 1 rfl i1, p.ke 5 rfl i5, p.ou 7 32 rfl, trivial⟩)
 rintro a k ⟨⟨hg, hs, hd⟩, i0, i1, i5, i32, _⟩
 refine wp_cond_split (isBool i32) (fun hc1882 => ?_) (fun hc1882 => ?_)
 ·rw [if_pos hc1882] at hr
  refine stepL 2 (_ :: _ :: []) rfl ⟨hg, hs, hd⟩ (by kernel_rfl) ⟨mu rfl i5, cp 0 rfl rfl, trivial⟩ [⟨_, _⟩] (fun b q p => ⟨p.ou 1 4 rfl, trivial⟩) ?_
  rintro a k ⟨⟨hg, hs, hd⟩, i4, _⟩
  refine wp_ret ?_
  obtain rfl := Option.some.inj hr
  exact retC1 rfl hd hg i4
 rw [if_neg (by rw [hc1882]; decide)] at hr
 refine wp_skip ?_
 refine wp_seq ?_
 obtain ⟨x1744_1, hx1744_1, hr⟩ := bind_some hr
 refine cut (fun a' k' => Bs noF k0 237 a' k' ∧ (IsV a_) (a'.get 0) k' ∧ (IsV b_) (a'.get 1) k' ∧ (IsV x1739_0) (a'.get 5) k' ∧ (IsV x1744_1.1) (a'.get 6) k' ∧ (IsV x1744_1.2) (a'.get 7) k' ∧ True) ?_ hQ ?_
 ·intro Q1880 hQQ1880 hp1881
  refine gS 7 (_ :: _ :: _ :: _ :: _ :: _ :: _ :: []) hs (by kernel_rfl) ⟨mu rfl i0, o1 [(35, some 0)] rfl fun _ _ h n => ok_call rfl Try.call9 (solid_Of_ok n.1 hx1744_1), cm 1 rfl rfl, o1 [(34, some 2)] rfl fun _ _ h n => ok_ext2_0 rfl n.1, o1 [(34, some 2)] rfl fun _ _ h n => ok_ext2_1 rfl n.1, cp 3 rfl rfl, cp 4 rfl rfl, trivial⟩ hQQ1880 fun b q p => ?_
  exact tail_done (k := q) (hp1881 _ _ ⟨Bs.post ⟨hg, hs, hd⟩ p, p.ke 0 rfl i0, p.ke 1 rfl i1, p.ke 5 rfl i5, p.ou 5 6 rfl, p.ou 6 7 rfl, trivial⟩)
 rintro a k ⟨⟨hg, hs, hd⟩, i0, i1, i5, i6, i7, _⟩
 refine wp_seq ?_
 obtain ⟨x1745_1, hx1745_1, hr⟩ := bind_some hr
 refine cut (fun a' k' => Bs noF k0 237 a' k' ∧ (IsV a_) (a'.get 0) k' ∧ (IsV b_) (a'.get 1) k' ∧ (IsV x1739_0) (a'.get 5) k' ∧ (IsV x1744_1.1) (a'.get 6) k' ∧ (IsV x1744_1.2) (a'.get 7) k' ∧ (IsV x1745_1.1) (a'.get 8) k' ∧ (IsV x1745_1.2) (a'.get 9) k' ∧ True) ?_ hQ ?_
 ·intro Q1878 hQQ1878 hp1879
  refine gS 7 (_ :: _ :: _ :: _ :: _ :: _ :: _ :: []) hs (by kernel_rfl) ⟨mu rfl i1, o1 [(40, some 0)] rfl fun _ _ h n => ok_call rfl Try.call9 (solid_Of_ok n.1 hx1745_1), cm 1 rfl rfl, o1 [(39, some 2)] rfl fun _ _ h n => ok_ext2_0 rfl n.1, o1 [(39, some 2)] rfl fun _ _ h n => ok_ext2_1 rfl n.1, cp 3 rfl rfl, cp 4 rfl rfl, trivial⟩ hQQ1878 fun b q p => ?_
  exact tail_done (k := q) (hp1879 _ _ ⟨Bs.post ⟨hg, hs, hd⟩ p, p.ke 0 rfl i0, p.ke 1 rfl i1, p.ke 5 rfl i5, p.ke 6 rfl i6, p.ke 7 rfl i7, p.ou 5 8 rfl, p.ou 6 9 rfl, trivial⟩)
 rintro a k ⟨⟨hg, hs, hd⟩, i0, i1, i5, i6, i7, i8, i9, _⟩
 refine wp_seq ?_
 obtain ⟨x1746_2, hx1746_2, hr⟩ := bind_some hr
 refine cut (fun a' k' => Bs noF k0 237 a' k' ∧ (IsV a_) (a'.get 0) k' ∧ (IsV b_) (a'.get 1) k' ∧ (IsV x1739_0) (a'.get 5) k' ∧ (IsV x1744_1.1) (a'.get 6) k' ∧ (IsV x1744_1.2) (a'.get 7) k' ∧ (IsV x1745_1.1) (a'.get 8) k' ∧ (IsV x1745_1.2) (a'.get 9) k' ∧ (IsV x1746_2.1) (a'.get 10) k' ∧ (IsV x1746_2.2) (a'.get 11) k' ∧ True) ?_ hQ ?_
 ·intro Q1876 hQQ1876 hp1877
  refine gS 8 (_ :: _ :: _ :: _ :: _ :: _ :: _ :: _ :: []) hs (by kernel_rfl) ⟨mu rfl i6, mu rfl i8, o1 [(45, some 0), (46, some 1)] rfl fun _ _ h n => ok_call rfl Try.call14 (solid_Union_ok n.1 n.2.1 hx1746_2), cm 2 rfl rfl, o1 [(44, some 3)] rfl fun _ _ h n => ok_ext2_0 rfl n.1, o1 [(44, some 3)] rfl fun _ _ h n => ok_ext2_1 rfl n.1, cp 4 rfl rfl, cp 5 rfl rfl, trivial⟩ hQQ1876 fun b q p => ?_
  exact tail_done (k := q) (hp1877 _ _ ⟨Bs.post ⟨hg, hs, hd⟩ p, p.ke 0 rfl i0, p.ke 1 rfl i1, p.ke 5 rfl i5, p.ke 6 rfl i6, p.ke 7 rfl i7, p.ke 8 rfl i8, p.ke 9 rfl i9, p.ou 6 10 rfl, p.ou 7 11 rfl, trivial⟩)
 rintro a k ⟨⟨hg, hs, hd⟩, i0, i1, i5, i6, i7, i8, i9, i10, i11, _⟩
 refine wp_seq ?_
 obtain ⟨x1747_2, hx1747_2, hr⟩ := bind_some hr
 refine cut (fun a' k' => Bs noF k0 237 a' k' ∧ (IsV a_) (a'.get 0) k' ∧ (IsV b_) (a'.get 1) k' ∧ (IsV x1739_0) (a'.get 5) k' ∧ (IsV x1744_1.1) (a'.get 6) k' ∧ (IsV x1744_1.2) (a'.get 7) k' ∧ (IsV x1745_1.1) (a'.get 8) k' ∧ (IsV x1745_1.2) (a'.get 9) k' ∧ (IsV x1746_2.1) (a'.get 10) k' ∧ (IsV x1746_2.2) (a'.get 11) k' ∧ (IsV x1747_2.1) (a'.get 12) k' ∧ (IsV x1747_2.2) (a'.get 13) k' ∧ True) ?_ hQ ?_
 ·intro Q1874 hQQ1874 hp1875
  refine gS 8 (_ :: _ :: _ :: _ :: _ :: _ :: _ :: _ :: []) hs (by kernel_rfl) ⟨mu rfl i6, mu rfl i8, o1 [(51, some 0), (52, some 1)] rfl fun _ _ h n => ok_call rfl Try.call15 (solid_Common_ok n.1 n.2.1 hx1747_2), cm 2 rfl rfl, o1 [(50, some 3)] rfl fun _ _ h n => ok_ext2_0 rfl n.1, o1 [(50, some 3)] rfl fun _ _ h n => ok_ext2_1 rfl n.1, cp 4 rfl rfl, cp 5 rfl rfl, trivial⟩ hQQ1874 fun b q p => ?_
  exact tail_done (k := q) (hp1875 _ _ ⟨Bs.post ⟨hg, hs, hd⟩ p, p.ke 0 rfl i0, p.ke 1 rfl i1, p.ke 5 rfl i5, p.ke 6 rfl i6, p.ke 7 rfl i7, p.ke 8 rfl i8, p.ke 9 rfl i9, p.ke 10 rfl i10, p.ke 11 rfl i11, p.ou 6 12 rfl, p.ou 7 13 rfl, trivial⟩)
 rintro a k ⟨⟨hg, hs, hd⟩, i0, i1, i5, i6, i7, i8, i9, i10, i11, i12, i13, _⟩
 refine wp_seq ?_
 obtain ⟨x1748_2, hx1748_2, hr⟩ := bind_some hr
 refine cut (fun a' k' => Bs noF k0 237 a' k' ∧ (IsV a_) (a'.get 0) k' ∧ (IsV b_) (a'.get 1) k' ∧ (IsV x1739_0) (a'.get 5) k' ∧ (IsV x1744_1.1) (a'.get 6) k' ∧ (IsV x1744_1.2) (a'.get 7) k' ∧ (IsV x1745_1.1) (a'.get 8) k' ∧ (IsV x1745_1.2) (a'.get 9) k' ∧ (IsV x1746_2.1) (a'.get 10) k' ∧ (IsV x1746_2.2) (a'.get 11) k' ∧ (IsV x1747_2.1) (a'.get 12) k' ∧ (IsV x1747_2.2) (a'.get 13) k' ∧ (IsV x1748_2.1) (a'.get 14) k' ∧ (IsV x1748_2.2) (a'.get 15) k' ∧ True) ?_ hQ ?_
 ·intro Q1872 hQQ1872 hp1873
  refine gS 8 (_ :: _ :: _ :: _ :: _ :: _ :: _ :: _ :: []) hs (by kernel_rfl) ⟨mu rfl i6, mu rfl i8, o1 [(57, some 0), (58, some 1)] rfl fun _ _ h n => ok_call rfl Try.call16 (solid_Minus_ok n.1 n.2.1 hx1748_2), cm 2 rfl rfl, o1 [(56, some 3)] rfl fun _ _ h n => ok_ext2_0 rfl n.1, o1 [(56, some 3)] rfl fun _ _ h n => ok_ext2_1 rfl n.1, cp 4 rfl rfl, cp 5 rfl rfl, trivial⟩ hQQ1872 fun b q p => ?_
  exact tail_done (k := q) (hp1873 _ _ ⟨Bs.post ⟨hg, hs, hd⟩ p, p.ke 0 rfl i0, p.ke 1 rfl i1, p.ke 5 rfl i5, p.ke 6 rfl i6, p.ke 7 rfl i7, p.ke 8 rfl i8, p.ke 9 rfl i9, p.ke 10 rfl i10, p.ke 11 rfl i11, p.ke 12 rfl i12, p.ke 13 rfl i13, p.ou 6 14 rfl, p.ou 7 15 rfl, trivial⟩)
 rintro a k ⟨⟨hg, hs, hd⟩, i0, i1, i5, i6, i7, i8, i9, i10, i11, i12, i13, i14, i15, _⟩
 refine wp_seq ?_
 refine wp_seq ?_
 obtain ⟨x1749_22, hx1749_22, hr⟩ := bind_some hr
 obtain ⟨x1749_20, hx1749_20, hx1749_22⟩ := ite_bindF hx1749_22
 obtain ⟨x1749_27, hx1749_27, hr⟩ := bind_some hr
 obtain ⟨x1749_25, hx1749_25, hx1749_27⟩ := ite_bindF hx1749_27
 obtain ⟨x1749_32, hx1749_32, hr⟩ := bind_some hr
 obtain ⟨x1749_30, hx1749_30, hx1749_32⟩ := ite_bindF hx1749_32
 obtain ⟨x1749_37, hx1749_37, hr⟩ := bind_some hr
 obtain ⟨x1749_35, hx1749_35, hx1749_37⟩ := ite_bindF hx1749_37
 refine cut (fun a' k' => Bs noF k0 237 a' k' ∧ (IsV a_) (a'.get 0) k' ∧ (IsV b_) (a'.get 1) k' ∧ (IsV x1739_0) (a'.get 5) k' ∧ (IsV x1744_1.1) (a'.get 6) k' ∧ (IsV x1745_1.1) (a'.get 8) k' ∧ (IsV x1746_2.1) (a'.get 10) k' ∧ (IsV x1747_2.1) (a'.get 12) k' ∧ (IsV x1748_2.1) (a'.get 14) k' ∧ (IsV x1749_37) (a'.get 99) k' ∧ True) ?_ hQ ?_
 ·intro Q1870 hQQ1870 hp1871
  refine gS 38 (_ :: ⟨some (IsV (x1744_1.2 != 0)), [(62, some 0)]⟩ :: _ :: _ :: ⟨some (Gd ((x1744_1.2 != 0) = false) (IsV (x1745_1.2 != 0))), [(65, some 3)]⟩ :: _ :: _ :: _ :: ⟨some (Gd (((x1744_1.2 != 0) || (x1745_1.2 != 0)) = false) (IsV (x1746_2.2 != 0))), [(69, some 7)]⟩ :: _ :: _ :: _ :: ⟨some (Gd ((((x1744_1.2 != 0) || (x1745_1.2 != 0)) || (x1746_2.2 != 0)) = false) (IsV (x1747_2.2 != 0))), [(73, some 11)]⟩ :: _ :: _ :: _ :: ⟨some (Gd (((((x1744_1.2 != 0) || (x1745_1.2 != 0)) || (x1746_2.2 != 0)) || (x1747_2.2 != 0)) = false) (IsV (x1748_2.2 != 0))), [(77, some 15)]⟩ :: _ :: _ :: _ :: _ :: _ :: _ :: _ :: _ :: _ :: _ :: _ :: _ :: _ :: _ :: _ :: _ :: _ :: _ :: _ :: _ :: _ :: []) hs (by kernel_rfl) ⟨mu rfl i7, ob1 rfl fun _ _ h n => ok_neI rfl n.1 (cI rfl), cm 1 rfl rfl, mF rfl rfl i9, gdF rfl rfl fun hp _ _ h n => ok_neI rfl (Gd.get n.1 hp) (cI rfl), o1 [(64, some 2), (66, some 4)] rfl fun _ _ h n => ok_pickOr rfl n.1 (cB rfl) (Gd.get n.2.1), cm 5 rfl rfl, mF rfl rfl i11, gdF rfl rfl fun hp _ _ h n => ok_neI rfl (Gd.get n.1 hp) (cI rfl), o1 [(68, some 6), (70, some 8)] rfl fun _ _ h n => ok_pickOr rfl n.1 (cB rfl) (Gd.get n.2.1), cm 9 rfl rfl, mF rfl rfl i13, gdF rfl rfl fun hp _ _ h n => ok_neI rfl (Gd.get n.1 hp) (cI rfl), o1 [(72, some 10), (74, some 12)] rfl fun _ _ h n => ok_pickOr rfl n.1 (cB rfl) (Gd.get n.2.1), cm 13 rfl rfl, mF rfl rfl i15, gdF rfl rfl fun hp _ _ h n => ok_neI rfl (Gd.get n.1 hp) (cI rfl), o1 [(76, some 14), (78, some 16)] rfl fun _ _ h n => ok_pickOr rfl n.1 (cB rfl) (Gd.get n.2.1), cm 17 rfl rfl, mF rfl rfl i6, gF [(81, some 19)] rfl rfl fun hp _ _ h n => ok_call rfl Try.call17 (solid_Right_ok (Gd.get n.1 hp) (hx1749_20 hp)), gF [(82, some 20)] rfl rfl fun hp _ _ h n => ok_not rfl (Gd.get n.1 hp), o1 [(80, some 18), (83, some 21)] rfl fun _ _ h n => ok_pickM rfl n.1 hx1749_22 (cB rfl) (Gd.get n.2.1), cm 22 rfl rfl, mF rfl rfl i10, gF [(86, some 24)] rfl rfl fun hp _ _ h n => ok_call rfl Try.call17 (solid_Right_ok (Gd.get n.1 hp) (hx1749_25 hp)), gF [(87, some 25)] rfl rfl fun hp _ _ h n => ok_not rfl (Gd.get n.1 hp), o1 [(85, some 23), (88, some 26)] rfl fun _ _ h n => ok_pickM rfl n.1 hx1749_27 (cB rfl) (Gd.get n.2.1), cm 27 rfl rfl, mF rfl rfl i12, gF [(91, some 29)] rfl rfl fun hp _ _ h n => ok_call rfl Try.call17 (solid_Right_ok (Gd.get n.1 hp) (hx1749_30 hp)), gF [(92, some 30)] rfl rfl fun hp _ _ h n => ok_not rfl (Gd.get n.1 hp), o1 [(90, some 28), (93, some 31)] rfl fun _ _ h n => ok_pickM rfl n.1 hx1749_32 (cB rfl) (Gd.get n.2.1), cm 32 rfl rfl, mF rfl rfl i14, gF [(96, some 34)] rfl rfl fun hp _ _ h n => ok_call rfl Try.call17 (solid_Right_ok (Gd.get n.1 hp) (hx1749_35 hp)), gF [(97, some 35)] rfl rfl fun hp _ _ h n => ok_not rfl (Gd.get n.1 hp), o1 [(95, some 33), (98, some 36)] rfl fun _ _ h n => ok_pickM rfl n.1 hx1749_37 (cB rfl) (Gd.get n.2.1), trivial⟩ hQQ1870 fun b q p => ?_
  exact tail_done (k := q) (hp1871 _ _ ⟨Bs.post ⟨hg, hs, hd⟩ p, p.ke 0 rfl i0, p.ke 1 rfl i1, p.ke 5 rfl i5, p.ke 6 rfl i6, p.ke 8 rfl i8, p.ke 10 rfl i10, p.ke 12 rfl i12, p.ke 14 rfl i14, p.ou 37 99 rfl, trivial⟩)
 rintro a k ⟨⟨hg, hs, hd⟩, i0, i1, i5, i6, i8, i10, i12, i14, i99, _⟩
 refine wp_cond_split (isBool i99) (fun hc1869 => ?_) (fun hc1869 => ?_)
 ·rw [if_pos hc1869] at hr
  refine stepL 1 (⟨some (IsV false), []⟩ :: []) rfl ⟨hg, hs, hd⟩ (by kernel_rfl) ⟨ob1 rfl fun _ _ h n => ok_assign rfl (isV_bool.2 rfl), trivial⟩ [⟨_, _⟩] (fun b q p => ⟨p.ou 0 4 rfl, trivial⟩) ?_
  rintro a k ⟨⟨hg, hs, hd⟩, i4, _⟩
  refine wp_ret ?_
  obtain rfl := Option.some.inj hr
  exact retC1 rfl hd hg i4
 rw [if_neg (by rw [hc1869]; decide)] at hr
 refine wp_skip ?_
 refine stepL 1 (⟨some (IsI 0), []⟩ :: []) rfl ⟨hg, hs, hd⟩ (by kernel_rfl) ⟨aI rfl rfl, trivial⟩ [⟨_, _⟩, ⟨_, _⟩, ⟨_, _⟩, ⟨_, _⟩, ⟨_, _⟩, ⟨_, _⟩, ⟨_, _⟩, ⟨_, _⟩, ⟨_, _⟩] (fun b q p => ⟨p.ke 0 rfl i0, p.ke 1 rfl i1, p.ke 5 rfl i5, p.ke 6 rfl i6, p.ke 8 rfl i8, p.ke 10 rfl i10, p.ke 12 rfl i12, p.ke 14 rfl i14, p.ou 0 16 rfl, trivial⟩) ?_
 rintro a k ⟨⟨hg, hs, hd⟩, i0, i1, i5, i6, i8, i10, i12, i14, i16, _⟩
 refine stepL 1 (⟨some (IsI 0), []⟩ :: []) rfl ⟨hg, hs, hd⟩ (by kernel_rfl) ⟨aI rfl rfl, trivial⟩ [⟨_, _⟩, ⟨_, _⟩, ⟨_, _⟩, ⟨_, _⟩, ⟨_, _⟩, ⟨_, _⟩, ⟨_, _⟩, ⟨_, _⟩, ⟨_, _⟩, ⟨_, _⟩] (fun b q p => ⟨p.ke 0 rfl i0, p.ke 1 rfl i1, p.ke 5 rfl i5, p.ke 6 rfl i6, p.ke 8 rfl i8, p.ke 10 rfl i10, p.ke 12 rfl i12, p.ke 14 rfl i14, p.ke 16 rfl i16, p.ou 0 17 rfl, trivial⟩) ?_
 rintro a k ⟨⟨hg, hs, hd⟩, i0, i1, i5, i6, i8, i10, i12, i14, i16, i17, _⟩
 refine stepL 1 (⟨some (IsI 0), []⟩ :: []) rfl ⟨hg, hs, hd⟩ (by kernel_rfl) ⟨aI rfl rfl, trivial⟩ [⟨_, _⟩, ⟨_, _⟩, ⟨_, _⟩, ⟨_, _⟩, ⟨_, _⟩, ⟨_, _⟩, ⟨_, _⟩, ⟨_, _⟩, ⟨_, _⟩, ⟨_, _⟩, ⟨_, _⟩] (fun b q p => ⟨p.ke 0 rfl i0, p.ke 1 rfl i1, p.ke 5 rfl i5, p.ke 6 rfl i6, p.ke 8 rfl i8, p.ke 10 rfl i10, p.ke 12 rfl i12, p.ke 14 rfl i14, p.ke 16 rfl i16, p.ke 17 rfl i17, p.ou 0 18 rfl, trivial⟩) ?_
 rintro a k ⟨⟨hg, hs, hd⟩, i0, i1, i5, i6, i8, i10, i12, i14, i16, i17, i18, _⟩
 refine wp_seq ?_
 refine stepL 1 (⟨some (IsI 0), []⟩ :: []) rfl ⟨hg, hs, hd⟩ (by kernel_rfl) ⟨aI rfl rfl, trivial⟩ [⟨_, _⟩, ⟨_, _⟩, ⟨_, _⟩, ⟨_, _⟩, ⟨_, _⟩, ⟨_, _⟩, ⟨_, _⟩, ⟨_, _⟩, ⟨_, _⟩, ⟨_, _⟩, ⟨_, _⟩, ⟨_, _⟩] (fun b q p => ⟨p.ke 0 rfl i0, p.ke 1 rfl i1, p.ke 5 rfl i5, p.ke 6 rfl i6, p.ke 8 rfl i8, p.ke 10 rfl i10, p.ke 12 rfl i12, p.ke 14 rfl i14, p.ke 16 rfl i16, p.ke 17 rfl i17, p.ke 18 rfl i18, p.ou 0 19 rfl, trivial⟩) ?_
 rintro a k ⟨⟨hg, hs, hd⟩, i0, i1, i5, i6, i8, i10, i12, i14, i16, i17, i18, i19, _⟩
 refine wp_block ?_
 obtain ⟨f1847, hf1847, hr⟩ := bind_some hr
 refine cutFe f1847 (fun s' a' k' => Bs noF k0 237 a' k' ∧ (IsV a_) (a'.get 0) k' ∧ (IsV b_) (a'.get 1) k' ∧ (IsV x1739_0) (a'.get 5) k' ∧ (IsV x1744_1.1) (a'.get 6) k' ∧ (IsV x1745_1.1) (a'.get 8) k' ∧ (IsV x1746_2.1) (a'.get 10) k' ∧ (IsV x1747_2.1) (a'.get 12) k' ∧ (IsV x1748_2.1) (a'.get 14) k' ∧ (IsV s'.1) (a'.get 16) k' ∧ (IsV s'.2.1) (a'.get 17) k' ∧ (IsV s'.2.2.1) (a'.get 18) k' ∧ (IsV s'.2.2.2) (a'.get 19) k' ∧ True) (fun i' s' a' k' => (i' = 0 ∧ Bs noF k0 237 a' k' ∧ (IsV x1739_0) (a'.get 5) k' ∧ (IsV x1744_1.1) (a'.get 6) k' ∧ (IsV x1745_1.1) (a'.get 8) k' ∧ (IsV x1746_2.1) (a'.get 10) k' ∧ (IsV x1747_2.1) (a'.get 12) k' ∧ (IsV x1748_2.1) (a'.get 14) k' ∧ (IsV s'.1) (a'.get 16) k' ∧ (IsV s'.2.1) (a'.get 17) k' ∧ (IsV s'.2.2.1) (a'.get 18) k' ∧ True)) (fun r' a' k' => bodyPost Try.prog Try.f4 (RetC noF k0 (IsV r')) .ret a' k'.w) ?_ hQ ?_ ?_ ?_
 ·intro Q1860 hQQ1860 hgo hex hret
  refine sim_loop ?_ _ _ _ _ _ hf1847 ⟨⟨hg, hs, hd⟩, i0, i1, i5, i6, i8, i10, i12, i14, i16, i17, i18, i19, trivial⟩ Q1860 hQQ1860 hgo hex hret
  clear hr hf1847 hgo hex hret hQQ1860 hQ hg hs hd i0 i1 i10 i12 i14 i16 i17 i18 i19 i5 i6 i8
  intro s1757 fl_ a k hr hS Q hQ hgo1758 hex1759 hret1760
  obtain ⟨⟨hg, hs, hd⟩, i0, i1, i5, i6, i8, i10, i12, i14, i16, i17, i18, i19, _⟩ := hS
  unfold law09_SolidCubes_L0 at hr
  refine wp_seq ?_
  refine stepL 2 (_ :: _ :: []) rfl ⟨hg, hs, hd⟩ (by kernel_rfl) ⟨mu rfl i19, o1 [(100, some 0)] rfl fun _ _ h n => ok_lss rfl n.1 (cI rfl), trivial⟩ [⟨_, _⟩, ⟨_, _⟩, ⟨_, _⟩, ⟨_, _⟩, ⟨_, _⟩, ⟨_, _⟩, ⟨_, _⟩, ⟨_, _⟩, ⟨_, _⟩, ⟨_, _⟩, ⟨_, _⟩, ⟨_, _⟩, ⟨_, _⟩] (fun b q p => ⟨p.ke 0 rfl i0, p.ke 1 rfl i1, p.ke 5 rfl i5, p.ke 6 rfl i6, p.ke 8 rfl i8, p.ke 10 rfl i10, p.ke 12 rfl i12, p.ke 14 rfl i14, p.ke 16 rfl i16, p.ke 17 rfl i17, p.ke 18 rfl i18, p.ke 19 rfl i19, p.ou 1 101 rfl, trivial⟩) ?_
  rintro a k ⟨⟨hg, hs, hd⟩, i0, i1, i5, i6, i8, i10, i12, i14, i16, i17, i18, i19, i101, _⟩
  refine wp_cond_split (isBool i101) (fun hc1844 => ?_) (fun hc1844 => ?_)
  ·rw [if_pos hc1844] at hr
   refine wp_skip ?_
   refine wp_seq ?_
   refine wp_block ?_
   refine stepL 1 (⟨some (IsI 0), []⟩ :: []) rfl ⟨hg, hs, hd⟩ (by kernel_rfl) ⟨aI rfl rfl, trivial⟩ [⟨_, _⟩, ⟨_, _⟩, ⟨_, _⟩, ⟨_, _⟩, ⟨_, _⟩, ⟨_, _⟩, ⟨_, _⟩, ⟨_, _⟩, ⟨_, _⟩, ⟨_, _⟩, ⟨_, _⟩, ⟨_, _⟩, ⟨_, _⟩] (fun b q p => ⟨p.ke 0 rfl i0, p.ke 1 rfl i1, p.ke 5 rfl i5, p.ke 6 rfl i6, p.ke 8 rfl i8, p.ke 10 rfl i10, p.ke 12 rfl i12, p.ke 14 rfl i14, p.ke 16 rfl i16, p.ke 17 rfl i17, p.ke 18 rfl i18, p.ke 19 rfl i19, p.ou 0 20 rfl, trivial⟩) ?_
   rintro a k ⟨⟨hg, hs, hd⟩, i0, i1, i5, i6, i8, i10, i12, i14, i16, i17, i18, i19, i20, _⟩
   refine wp_block ?_
   obtain ⟨f1835, hf1835, hr⟩ := bind_some hr
   refine cutFe f1835 (fun s' a' k' => Bs noF k0 237 a' k' ∧ (IsV a_) (a'.get 0) k' ∧ (IsV b_) (a'.get 1) k' ∧ (IsV x1739_0) (a'.get 5) k' ∧ (IsV x1744_1.1) (a'.get 6) k' ∧ (IsV x1745_1.1) (a'.get 8) k' ∧ (IsV x1746_2.1) (a'.get 10) k' ∧ (IsV x1747_2.1) (a'.get 12) k' ∧ (IsV x1748_2.1) (a'.get 14) k' ∧ (IsV s'.1) (a'.get 16) k' ∧ (IsV s'.2.1) (a'.get 17) k' ∧ (IsV s'.2.2.1) (a'.get 18) k' ∧ (IsV s1757.2.2.2) (a'.get 19) k' ∧ (IsV s'.2.2.2) (a'.get 20) k' ∧ True) (fun i' s' a' k' => (i' = 2 ∧ Bs noF k0 237 a' k' ∧ (IsV a_) (a'.get 0) k' ∧ (IsV b_) (a'.get 1) k' ∧ (IsV x1739_0) (a'.get 5) k' ∧ (IsV x1744_1.1) (a'.get 6) k' ∧ (IsV x1745_1.1) (a'.get 8) k' ∧ (IsV x1746_2.1) (a'.get 10) k' ∧ (IsV x1747_2.1) (a'.get 12) k' ∧ (IsV x1748_2.1) (a'.get 14) k' ∧ (IsV s'.1) (a'.get 16) k' ∧ (IsV s'.2.1) (a'.get 17) k' ∧ (IsV s'.2.2.1) (a'.get 18) k' ∧ (IsV s1757.2.2.2) (a'.get 19) k' ∧ True)) (fun r' a' k' => bodyPost Try.prog Try.f4 (RetC noF k0 (IsV r')) .ret a' k'.w) ?_ hQ ?_ ?_ ?_
   ·intro Q1841 hQQ1841 hgo hex hret
    refine sim_loop ?_ _ _ _ _ _ hf1835 ⟨⟨hg, hs, hd⟩, i0, i1, i5, i6, i8, i10, i12, i14, i16, i17, i18, i19, i20, trivial⟩ Q1841 hQQ1841 hgo hex hret
    clear hr hf1835 hgo hex hret hQQ1841 hQ hg hs hd i0 i1 i10 i12 i14 i16 i17 i18 i19 i20 i5 i6 i8
    intro s1763 fl_ a k hr hS Q hQ hgo1764 hex1765 hret1766
    obtain ⟨⟨hg, hs, hd⟩, i0, i1, i5, i6, i8, i10, i12, i14, i16, i17, i18, i19, i20, _⟩ := hS
    unfold law09_SolidCubes_L1 at hr
    refine wp_seq ?_
    refine stepL 2 (_ :: _ :: []) rfl ⟨hg, hs, hd⟩ (by kernel_rfl) ⟨mu rfl i20, o1 [(104, some 0)] rfl fun _ _ h n => ok_lss rfl n.1 (cI rfl), trivial⟩ [⟨_, _⟩, ⟨_, _⟩, ⟨_, _⟩, ⟨_, _⟩, ⟨_, _⟩, ⟨_, _⟩, ⟨_, _⟩, ⟨_, _⟩, ⟨_, _⟩, ⟨_, _⟩, ⟨_, _⟩, ⟨_, _⟩, ⟨_, _⟩, ⟨_, _⟩] (fun b q p => ⟨p.ke 0 rfl i0, p.ke 1 rfl i1, p.ke 5 rfl i5, p.ke 6 rfl i6, p.ke 8 rfl i8, p.ke 10 rfl i10, p.ke 12 rfl i12, p.ke 14 rfl i14, p.ke 16 rfl i16, p.ke 17 rfl i17, p.ke 18 rfl i18, p.ke 19 rfl i19, p.ke 20 rfl i20, p.ou 1 105 rfl, trivial⟩) ?_
    rintro a k ⟨⟨hg, hs, hd⟩, i0, i1, i5, i6, i8, i10, i12, i14, i16, i17, i18, i19, i20, i105, _⟩
    refine wp_cond_split (isBool i105) (fun hc1832 => ?_) (fun hc1832 => ?_)
    ·rw [if_pos hc1832] at hr
     refine wp_skip ?_
     refine wp_seq ?_
     refine wp_block ?_
     refine stepL 1 (⟨some (IsI 0), []⟩ :: []) rfl ⟨hg, hs, hd⟩ (by kernel_rfl) ⟨aI rfl rfl, trivial⟩ [⟨_, _⟩, ⟨_, _⟩, ⟨_, _⟩, ⟨_, _⟩, ⟨_, _⟩, ⟨_, _⟩, ⟨_, _⟩, ⟨_, _⟩, ⟨_, _⟩, ⟨_, _⟩, ⟨_, _⟩, ⟨_, _⟩, ⟨_, _⟩, ⟨_, _⟩] (fun b q p => ⟨p.ke 0 rfl i0, p.ke 1 rfl i1, p.ke 5 rfl i5, p.ke 6 rfl i6, p.ke 8 rfl i8, p.ke 10 rfl i10, p.ke 12 rfl i12, p.ke 14 rfl i14, p.ke 16 rfl i16, p.ke 17 rfl i17, p.ke 18 rfl i18, p.ke 19 rfl i19, p.ke 20 rfl i20, p.ou 0 21 rfl, trivial⟩) ?_
     rintro a k ⟨⟨hg, hs, hd⟩, i0, i1, i5, i6, i8, i10, i12, i14, i16, i17, i18, i19, i20, i21, _⟩
     refine wp_block ?_
     obtain ⟨f1823, hf1823, hr⟩ := bind_some hr
     refine cutFe f1823 (fun s' a' k' => Bs noF k0 237 a' k' ∧ (IsV a_) (a'.get 0) k' ∧ (IsV b_) (a'.get 1) k' ∧ (IsV x1739_0) (a'.get 5) k' ∧ (IsV x1744_1.1) (a'.get 6) k' ∧ (IsV x1745_1.1) (a'.get 8) k' ∧ (IsV x1746_2.1) (a'.get 10) k' ∧ (IsV x1747_2.1) (a'.get 12) k' ∧ (IsV x1748_2.1) (a'.get 14) k' ∧ (IsV s'.1) (a'.get 16) k' ∧ (IsV s'.2.1) (a'.get 17) k' ∧ (IsV s'.2.2.1) (a'.get 18) k' ∧ (IsV s1757.2.2.2) (a'.get 19) k' ∧ (IsV s1763.2.2.2) (a'.get 20) k' ∧ (IsV s'.2.2.2) (a'.get 21) k' ∧ True) (fun i' s' a' k' => (i' = 4 ∧ Bs noF k0 237 a' k' ∧ (IsV a_) (a'.get 0) k' ∧ (IsV b_) (a'.get 1) k' ∧ (IsV x1739_0) (a'.get 5) k' ∧ (IsV x1744_1.1) (a'.get 6) k' ∧ (IsV x1745_1.1) (a'.get 8) k' ∧ (IsV x1746_2.1) (a'.get 10) k' ∧ (IsV x1747_2.1) (a'.get 12) k' ∧ (IsV x1748_2.1) (a'.get 14) k' ∧ (IsV s'.1) (a'.get 16) k' ∧ (IsV s'.2.1) (a'.get 17) k' ∧ (IsV s'.2.2.1) (a'.get 18) k' ∧ (IsV s1757.2.2.2) (a'.get 19) k' ∧ (IsV s1763.2.2.2) (a'.get 20) k' ∧ True)) (fun r' a' k' => bodyPost Try.prog Try.f4 (RetC noF k0 (IsV r')) .ret a' k'.w) ?_ hQ ?_ ?_ ?_
     ·intro Q1829 hQQ1829 hgo hex hret
      refine sim_loop ?_ _ _ _ _ _ hf1823 ⟨⟨hg, hs, hd⟩, i0, i1, i5, i6, i8, i10, i12, i14, i16, i17, i18, i19, i20, i21, trivial⟩ Q1829 hQQ1829 hgo hex hret
      clear hr hf1823 hgo hex hret hQQ1829 hQ hg hs hd i0 i1 i10 i12 i14 i16 i17 i18 i19 i20 i21 i5 i6 i8
      intro s1769 fl_ a k hr hS Q hQ hgo1770 hex1771 hret1772
      obtain ⟨⟨hg, hs, hd⟩, i0, i1, i5, i6, i8, i10, i12, i14, i16, i17, i18, i19, i20, i21, _⟩ := hS
      unfold law09_SolidCubes_L2 at hr
      refine wp_seq ?_
      refine stepL 2 (_ :: _ :: []) rfl ⟨hg, hs, hd⟩ (by kernel_rfl) ⟨mu rfl i21, o1 [(108, some 0)] rfl fun _ _ h n => ok_lss rfl n.1 (cI rfl), trivial⟩ [⟨_, _⟩, ⟨_, _⟩, ⟨_, _⟩, ⟨_, _⟩, ⟨_, _⟩, ⟨_, _⟩, ⟨_, _⟩, ⟨_, _⟩, ⟨_, _⟩, ⟨_, _⟩, ⟨_, _⟩, ⟨_, _⟩, ⟨_, _⟩, ⟨_, _⟩, ⟨_, _⟩] (fun b q p => ⟨p.ke 0 rfl i0, p.ke 1 rfl i1, p.ke 5 rfl i5, p.ke 6 rfl i6, p.ke 8 rfl i8, p.ke 10 rfl i10, p.ke 12 rfl i12, p.ke 14 rfl i14, p.ke 16 rfl i16, p.ke 17 rfl i17, p.ke 18 rfl i18, p.ke 19 rfl i19, p.ke 20 rfl i20, p.ke 21 rfl i21, p.ou 1 109 rfl, trivial⟩) ?_
      rintro a k ⟨⟨hg, hs, hd⟩, i0, i1, i5, i6, i8, i10, i12, i14, i16, i17, i18, i19, i20, i21, i109, _⟩
      refine wp_cond_split (isBool i109) (fun hc1820 => ?_) (fun hc1820 => ?_)
      ·rw [if_pos hc1820] at hr
       refine wp_skip ?_
       refine wp_seq ?_
       refine wp_block ?_
       refine wp_seq ?_
       obtain ⟨x1774_4, hx1774_4, hr⟩ := bind_some hr
       refine cut (fun a' k' => Bs noF k0 237 a' k' ∧ (IsV a_) (a'.get 0) k' ∧ (IsV b_) (a'.get 1) k' ∧ (IsV x1739_0) (a'.get 5) k' ∧ (IsV x1744_1.1) (a'.get 6) k' ∧ (IsV x1745_1.1) (a'.get 8) k' ∧ (IsV x1746_2.1) (a'.get 10) k' ∧ (IsV x1747_2.1) (a'.get 12) k' ∧ (IsV x1748_2.1) (a'.get 14) k' ∧ (IsV s1769.1) (a'.get 16) k' ∧ (IsV s1769.2.1) (a'.get 17) k' ∧ (IsV s1769.2.2.1) (a'.get 18) k' ∧ (IsV s1757.2.2.2) (a'.get 19) k' ∧ (IsV s1763.2.2.2) (a'.get 20) k' ∧ (IsV s1769.2.2.2) (a'.get 21) k' ∧ (IsV x1774_4) (a'.get 22) k' ∧ True) ?_ hQ ?_
       ·intro Q1818 hQQ1818 hp1819
        refine gS 6 (_ :: _ :: _ :: _ :: _ :: _ :: []) hs (by kernel_rfl) ⟨mu rfl i0, mu rfl i20, mu rfl i21, mu rfl i19, o1 [(112, some 0), (113, some 1), (114, some 2), (115, some 3)] rfl fun _ _ h n => ok_call rfl Try.call18 (law09_covered_ok n.1 n.2.1 n.2.2.1 n.2.2.2.1 hx1774_4), cp 4 rfl rfl, trivial⟩ hQQ1818 fun b q p => ?_
        exact tail_done (k := q) (hp1819 _ _ ⟨Bs.post ⟨hg, hs, hd⟩ p, p.ke 0 rfl i0, p.ke 1 rfl i1, p.ke 5 rfl i5, p.ke 6 rfl i6, p.ke 8 rfl i8, p.ke 10 rfl i10, p.ke 12 rfl i12, p.ke 14 rfl i14, p.ke 16 rfl i16, p.ke 17 rfl i17, p.ke 18 rfl i18, p.ke 19 rfl i19, p.ke 20 rfl i20, p.ke 21 rfl i21, p.ou 5 22 rfl, trivial⟩)
       rintro a k ⟨⟨hg, hs, hd⟩, i0, i1, i5, i6, i8, i10, i12, i14, i16, i17, i18, i19, i20, i21, i22, _⟩
       refine wp_seq ?_
       obtain ⟨x1775_4, hx1775_4, hr⟩ := bind_some hr
       refine cut (fun a' k' => Bs noF k0 237 a' k' ∧ (IsV a_) (a'.get 0) k' ∧ (IsV b_) (a'.get 1) k' ∧ (IsV x1739_0) (a'.get 5) k' ∧ (IsV x1744_1.1) (a'.get 6) k' ∧ (IsV x1745_1.1) (a'.get 8) k' ∧ (IsV x1746_2.1) (a'.get 10) k' ∧ (IsV x1747_2.1) (a'.get 12) k' ∧ (IsV x1748_2.1) (a'.get 14) k' ∧ (IsV s1769.1) (a'.get 16) k' ∧ (IsV s1769.2.1) (a'.get 17) k' ∧ (IsV s1769.2.2.1) (a'.get 18) k' ∧ (IsV s1757.2.2.2) (a'.get 19) k' ∧ (IsV s1763.2.2.2) (a'.get 20) k' ∧ (IsV s1769.2.2.2) (a'.get 21) k' ∧ (IsV x1774_4) (a'.get 22) k' ∧ (IsV x1775_4) (a'.get 23) k' ∧ True) ?_ hQ ?_
       ·intro Q1816 hQQ1816 hp1817
        refine gS 6 (_ :: _ :: _ :: _ :: _ :: _ :: []) hs (by kernel_rfl) ⟨mu rfl i1, mu rfl i20, mu rfl i21, mu rfl i19, o1 [(117, some 0), (118, some 1), (119, some 2), (120, some 3)] rfl fun _ _ h n => ok_call rfl Try.call18 (law09_covered_ok n.1 n.2.1 n.2.2.1 n.2.2.2.1 hx1775_4), cp 4 rfl rfl, trivial⟩ hQQ1816 fun b q p => ?_
        exact tail_done (k := q) (hp1817 _ _ ⟨Bs.post ⟨hg, hs, hd⟩ p, p.ke 0 rfl i0, p.ke 1 rfl i1, p.ke 5 rfl i5, p.ke 6 rfl i6, p.ke 8 rfl i8, p.ke 10 rfl i10, p.ke 12 rfl i12, p.ke 14 rfl i14, p.ke 16 rfl i16, p.ke 17 rfl i17, p.ke 18 rfl i18, p.ke 19 rfl i19, p.ke 20 rfl i20, p.ke 21 rfl i21, p.ke 22 rfl i22, p.ou 5 23 rfl, trivial⟩)
       rintro a k ⟨⟨hg, hs, hd⟩, i0, i1, i5, i6, i8, i10, i12, i14, i16, i17, i18, i19, i20, i21, i22, i23, _⟩
       refine wp_seq ?_
       refine wp_seq ?_
       obtain ⟨x1776_4, hx1776_4, hr⟩ := bind_some hr
       obtain ⟨x1776_18, hx1776_18, hr⟩ := bind_some hr
       obtain ⟨x1776_12, hx1776_12, hx1776_18⟩ := ite_bindF hx1776_18
       obtain ⟨x1776_30, hx1776_30, hr⟩ := bind_some hr
       obtain ⟨x1776_24, hx1776_24, hx1776_30⟩ := ite_bindF hx1776_30
       obtain ⟨x1776_43, hx1776_43, hr⟩ := bind_some hr
       obtain ⟨x1776_36, hx1776_36, hx1776_43⟩ := ite_bindF hx1776_43
       refine cut (fun a' k' => Bs noF k0 237 a' k' ∧ (IsV a_) (a'.get 0) k' ∧ (IsV b_) (a'.get 1) k' ∧ (IsV x1739_0) (a'.get 5) k' ∧ (IsV x1744_1.1) (a'.get 6) k' ∧ (IsV x1745_1.1) (a'.get 8) k' ∧ (IsV x1746_2.1) (a'.get 10) k' ∧ (IsV x1747_2.1) (a'.get 12) k' ∧ (IsV x1748_2.1) (a'.get 14) k' ∧ (IsV s1769.1) (a'.get 16) k' ∧ (IsV s1769.2.1) (a'.get 17) k' ∧ (IsV s1769.2.2.1) (a'.get 18) k' ∧ (IsV s1757.2.2.2) (a'.get 19) k' ∧ (IsV s1763.2.2.2) (a'.get 20) k' ∧ (IsV s1769.2.2.2) (a'.get 21) k' ∧ (IsV x1774_4) (a'.get 22) k' ∧ (IsV x1775_4) (a'.get 23) k' ∧ (IsV x1776_43) (a'.get 165) k' ∧ True) ?_ hQ ?_
       ·intro Q1814 hQQ1814 hp1815
        refine gS 44 (_ :: _ :: _ :: _ :: _ :: _ :: ⟨some (IsV (x1776_4 != x1774_4)), [(126, some 4), (127, some 5)]⟩ :: _ :: _ :: _ :: _ :: _ :: _ :: _ :: ⟨some (Gd ((x1776_4 != x1774_4) = false) (IsV x1774_4)), [(135, some 13)]⟩ :: ⟨some (Gd (((x1776_4 != x1774_4) = false) ∧ x1774_4 = false) (IsV x1775_4)), [(23, none)]⟩ :: _ :: ⟨some (Gd ((x1776_4 != x1774_4) = false) (IsV (x1776_12 != (x1774_4 || x1775_4)))), [(134, some 12), (138, some 16)]⟩ :: _ :: _ :: _ :: _ :: _ :: _ :: _ :: _ :: ⟨some (Gd (x1776_18 = false) (IsV x1774_4)), [(147, some 25)]⟩ :: ⟨some (Gd ((x1776_18 = false) ∧ x1774_4 = true) (IsV x1775_4)), [(23, none)]⟩ :: _ :: ⟨some (Gd (x1776_18 = false) (IsV (x1776_24 != (x1774_4 && x1775_4)))), [(146, some 24), (150, some 28)]⟩ :: _ :: _ :: _ :: _ :: _ :: _ :: _ :: _ :: ⟨some (Gd (x1776_30 = false) (IsV x1774_4)), [(159, some 37)]⟩ :: ⟨some (Gd ((x1776_30 = false) ∧ x1774_4 = true) (IsV x1775_4)), [(23, none)]⟩ :: ⟨some (Gd ((x1776_30 = false) ∧ x1774_4 = true) (IsV (!x1775_4))), [(161, some 39)]⟩ :: _ :: ⟨some (Gd (x1776_30 = false) (IsV (x1776_36 != (x1774_4 && (!x1775_4))))), [(158, some 36), (163, some 41)]⟩ :: _ :: []) hs (by kernel_rfl) ⟨mu rfl i6, mu rfl i20, mu rfl i21, mu rfl i19, o1 [(122, some 0), (123, some 1), (124, some 2), (125, some 3)] rfl fun _ _ h n => ok_call rfl Try.call19 (solid_Has_ok n.1 n.2.1 n.2.2.1 n.2.2.2.1 hx1776_4), mu rfl i22, ob1 rfl fun _ _ h n => ok_neB rfl Try.underlying4 n.1 n.2.1, cm 6 rfl rfl, mF rfl rfl i10, mF rfl rfl i20, mF rfl rfl i21, mF rfl rfl i19, gF [(130, some 8), (131, some 9), (132, some 10), (133, some 11)] rfl rfl fun hp _ _ h n => ok_call rfl Try.call19 (solid_Has_ok (Gd.get n.1 hp) (Gd.get n.2.1 hp) (Gd.get n.2.2.1 hp) (Gd.get n.2.2.2.1 hp) (hx1776_12 hp)), mF rfl rfl i22, gdF rfl rfl fun hp _ _ h n => ok_move rfl (Gd.get n.1 hp), gdTF rfl rfl fun hp b q h n => ok_move rfl (up i23 h n.1), gF [(136, some 14), (137, some 15)] rfl rfl fun hp _ _ h n => ok_pickOr rfl (Gd.get n.1 hp) (cB rfl) (fun hm => (Gd.get n.2.1 ⟨hp, hm⟩)), gdF rfl rfl fun hp _ _ h n => ok_neB rfl Try.underlying4 (Gd.get n.1 hp) (Gd.get n.2.1 hp), o1 [(129, some 7), (139, some 17)] rfl fun _ _ h n => ok_pickM rfl n.1 hx1776_18 (cB rfl) (Gd.get n.2.1), cm 18 rfl rfl, mF rfl rfl i12, mF rfl rfl i20, mF rfl rfl i21, mF rfl rfl i19, gF [(142, some 20), (143, some 21), (144, some 22), (145, some 23)] rfl rfl fun hp _ _ h n => ok_call rfl Try.call19 (solid_Has_ok (Gd.get n.1 hp) (Gd.get n.2.1 hp) (Gd.get n.2.2.1 hp) (Gd.get n.2.2.2.1 hp) (hx1776_24 hp)), mF rfl rfl i22, gdF rfl rfl fun hp _ _ h n => ok_move rfl (Gd.get n.1 hp), gdTT rfl rfl fun hp b q h n => ok_move rfl (up i23 h n.1), gF [(148, some 26), (149, some 27)] rfl rfl fun hp _ _ h n => ok_pickAnd rfl (Gd.get n.1 hp) (fun hm => (Gd.get n.2.1 ⟨hp, hm⟩)) (cB rfl), gdF rfl rfl fun hp _ _ h n => ok_neB rfl Try.underlying4 (Gd.get n.1 hp) (Gd.get n.2.1 hp), o1 [(141, some 19), (151, some 29)] rfl fun _ _ h n => ok_pickM rfl n.1 hx1776_30 (cB rfl) (Gd.get n.2.1), cm 30 rfl rfl, mF rfl rfl i14, mF rfl rfl i20, mF rfl rfl i21, mF rfl rfl i19, gF [(154, some 32), (155, some 33), (156, some 34), (157, some 35)] rfl rfl fun hp _ _ h n => ok_call rfl Try.call19 (solid_Has_ok (Gd.get n.1 hp) (Gd.get n.2.1 hp) (Gd.get n.2.2.1 hp) (Gd.get n.2.2.2.1 hp) (hx1776_36 hp)), mF rfl rfl i22, gdF rfl rfl fun hp _ _ h n => ok_move rfl (Gd.get n.1 hp), gdTT rfl rfl fun hp b q h n => ok_move rfl (up i23 h n.1), gdTT rfl rfl fun hp b q h n => ok_not rfl (Gd.get n.1 hp), gF [(160, some 38), (162, some 40)] rfl rfl fun hp _ _ h n => ok_pickAnd rfl (Gd.get n.1 hp) (fun hm => (Gd.get n.2.1 ⟨hp, hm⟩)) (cB rfl), gdF rfl rfl fun hp _ _ h n => ok_neB rfl Try.underlying4 (Gd.get n.1 hp) (Gd.get n.2.1 hp), o1 [(153, some 31), (164, some 42)] rfl fun _ _ h n => ok_pickM rfl n.1 hx1776_43 (cB rfl) (Gd.get n.2.1), trivial⟩ hQQ1814 fun b q p => ?_
        exact tail_done (k := q) (hp1815 _ _ ⟨Bs.post ⟨hg, hs, hd⟩ p, p.ke 0 rfl i0, p.ke 1 rfl i1, p.ke 5 rfl i5, p.ke 6 rfl i6, p.ke 8 rfl i8, p.ke 10 rfl i10, p.ke 12 rfl i12, p.ke 14 rfl i14, p.ke 16 rfl i16, p.ke 17 rfl i17, p.ke 18 rfl i18, p.ke 19 rfl i19, p.ke 20 rfl i20, p.ke 21 rfl i21, p.ke 22 rfl i22, p.ke 23 rfl i23, p.ou 43 165 rfl, trivial⟩)
       rintro a k ⟨⟨hg, hs, hd⟩, i0, i1, i5, i6, i8, i10, i12, i14, i16, i17, i18, i19, i20, i21, i22, i23, i165, _⟩
       refine wp_cond_split (isBool i165) (fun hc1813 => ?_) (fun hc1813 => ?_)
       ·rw [if_pos hc1813] at hr
        refine stepL 1 (⟨some (IsV false), []⟩ :: []) rfl ⟨hg, hs, hd⟩ (by kernel_rfl) ⟨ob1 rfl fun _ _ h n => ok_assign rfl (isV_bool.2 rfl), trivial⟩ [⟨_, _⟩] (fun b q p => ⟨p.ou 0 4 rfl, trivial⟩) ?_
        rintro a k ⟨⟨hg, hs, hd⟩, i4, _⟩
        refine wp_ret ?_
        exact hret1772 _ _ _ (Option.some.inj hr).symm (retC1 rfl hd hg i4)
       rw [if_neg (by rw [hc1813]; decide)] at hr
       refine wp_skip ?_
       refine wp_seq ?_
       refine stepL 1 (_ :: []) rfl ⟨hg, hs, hd⟩ (by kernel_rfl) ⟨mu rfl i22, trivial⟩ [⟨_, _⟩, ⟨_, _⟩, ⟨_, _⟩, ⟨_, _⟩, ⟨_, _⟩, ⟨_, _⟩, ⟨_, _⟩, ⟨_, _⟩, ⟨_, _⟩, ⟨_, _⟩, ⟨_, _⟩, ⟨_, _⟩, ⟨_, _⟩, ⟨_, _⟩, ⟨_, _⟩, ⟨_, _⟩, ⟨_, _⟩] (fun b q p => ⟨p.ke 0 rfl i0, p.ke 1 rfl i1, p.ke 5 rfl i5, p.ke 6 rfl i6, p.ke 8 rfl i8, p.ke 10 rfl i10, p.ke 12 rfl i12, p.ke 14 rfl i14, p.ke 16 rfl i16, p.ke 17 rfl i17, p.ke 18 rfl i18, p.ke 19 rfl i19, p.ke 20 rfl i20, p.ke 21 rfl i21, p.ke 22 rfl i22, p.ke 23 rfl i23, p.ou 0 166 rfl, trivial⟩) ?_
       rintro a k ⟨⟨hg, hs, hd⟩, i0, i1, i5, i6, i8, i10, i12, i14, i16, i17, i18, i19, i20, i21, i22, i23, i166, _⟩
       obtain ⟨s1781, hs1781, hr⟩ := bind_some hr
       refine cut (fun a' k' => Bs noF k0 237 a' k' ∧ (IsV a_) (a'.get 0) k' ∧ (IsV b_) (a'.get 1) k' ∧ (IsV x1739_0) (a'.get 5) k' ∧ (IsV x1744_1.1) (a'.get 6) k' ∧ (IsV x1745_1.1) (a'.get 8) k' ∧ (IsV x1746_2.1) (a'.get 10) k' ∧ (IsV x1747_2.1) (a'.get 12) k' ∧ (IsV x1748_2.1) (a'.get 14) k' ∧ (IsV s1781) (a'.get 16) k' ∧ (IsV s1769.2.1) (a'.get 17) k' ∧ (IsV s1769.2.2.1) (a'.get 18) k' ∧ (IsV s1757.2.2.2) (a'.get 19) k' ∧ (IsV s1763.2.2.2) (a'.get 20) k' ∧ (IsV s1769.2.2.2) (a'.get 21) k' ∧ (IsV x1774_4) (a'.get 22) k' ∧ (IsV x1775_4) (a'.get 23) k' ∧ True) ?_ hQ ?_
       ·intro Q1810 hQQ1810 hp1782
        replace hr := hs1781
        clear hQ
        have hQ := hQQ1810
        refine wp_cond_split (isBool i166) (fun hc1786 => ?_) (fun hc1786 => ?_)
        ·rw [if_pos hc1786] at hr
         obtain ⟨x1783_1, hx1783_1, hr⟩ := bind_some hr
         refine cut (fun a' k' => Bs noF k0 237 a' k' ∧ (IsV a_) (a'.get 0) k' ∧ (IsV b_) (a'.get 1) k' ∧ (IsV x1739_0) (a'.get 5) k' ∧ (IsV x1744_1.1) (a'.get 6) k' ∧ (IsV x1745_1.1) (a'.get 8) k' ∧ (IsV x1746_2.1) (a'.get 10) k' ∧ (IsV x1747_2.1) (a'.get 12) k' ∧ (IsV x1748_2.1) (a'.get 14) k' ∧ (IsV x1783_1) (a'.get 16) k' ∧ (IsV s1769.2.1) (a'.get 17) k' ∧ (IsV s1769.2.2.1) (a'.get 18) k' ∧ (IsV s1757.2.2.2) (a'.get 19) k' ∧ (IsV s1763.2.2.2) (a'.get 20) k' ∧ (IsV s1769.2.2.2) (a'.get 21) k' ∧ (IsV x1774_4) (a'.get 22) k' ∧ (IsV x1775_4) (a'.get 23) k' ∧ True) ?_ hQ ?_
         ·intro Q1784 hQQ1784 hp1785
          refine gS 3 (_ :: _ :: _ :: []) hs (by kernel_rfl) ⟨mu rfl i16, o1 [(167, some 0)] rfl fun _ _ h n => ok_add rfl n.1 (cI rfl) hx1783_1, cp 1 rfl rfl, trivial⟩ hQQ1784 fun b q p => ?_
          exact tail_done (k := q) (hp1785 _ _ ⟨Bs.post ⟨hg, hs, hd⟩ p, p.ke 0 rfl i0, p.ke 1 rfl i1, p.ke 5 rfl i5, p.ke 6 rfl i6, p.ke 8 rfl i8, p.ke 10 rfl i10, p.ke 12 rfl i12, p.ke 14 rfl i14, p.ou 2 16 rfl, p.ke 17 rfl i17, p.ke 18 rfl i18, p.ke 19 rfl i19, p.ke 20 rfl i20, p.ke 21 rfl i21, p.ke 22 rfl i22, p.ke 23 rfl i23, trivial⟩)
         rintro a k ⟨⟨hg, hs, hd⟩, i0, i1, i5, i6, i8, i10, i12, i14, i16, i17, i18, i19, i20, i21, i22, i23, _⟩
         obtain rfl := Option.some.inj hr
         exact hp1782 _ _ ⟨⟨hg, hs, hd⟩, i0, i1, i5, i6, i8, i10, i12, i14, i16, i17, i18, i19, i20, i21, i22, i23, trivial⟩
        rw [if_neg (by rw [hc1786]; decide)] at hr
        refine wp_skip ?_
        obtain rfl := Option.some.inj hr
        exact hp1782 _ _ ⟨⟨hg, hs, hd⟩, i0, i1, i5, i6, i8, i10, i12, i14, i16, i17, i18, i19, i20, i21, i22, i23, trivial⟩
       clear hs1781
       rintro a k ⟨⟨hg, hs, hd⟩, i0, i1, i5, i6, i8, i10, i12, i14, i16, i17, i18, i19, i20, i21, i22, i23, _⟩
       refine wp_seq ?_
       refine stepL 1 (_ :: []) rfl ⟨hg, hs, hd⟩ (by kernel_rfl) ⟨mu rfl i23, trivial⟩ [⟨_, _⟩, ⟨_, _⟩, ⟨_, _⟩, ⟨_, _⟩, ⟨_, _⟩, ⟨_, _⟩, ⟨_, _⟩, ⟨_, _⟩, ⟨_, _⟩, ⟨_, _⟩, ⟨_, _⟩, ⟨_, _⟩, ⟨_, _⟩, ⟨_, _⟩, ⟨_, _⟩, ⟨_, _⟩, ⟨_, _⟩] (fun b q p => ⟨p.ke 0 rfl i0, p.ke 1 rfl i1, p.ke 5 rfl i5, p.ke 6 rfl i6, p.ke 8 rfl i8, p.ke 10 rfl i10, p.ke 12 rfl i12, p.ke 14 rfl i14, p.ke 16 rfl i16, p.ke 17 rfl i17, p.ke 18 rfl i18, p.ke 19 rfl i19, p.ke 20 rfl i20, p.ke 21 rfl i21, p.ke 22 rfl i22, p.ke 23 rfl i23, p.ou 0 169 rfl, trivial⟩) ?_
       rintro a k ⟨⟨hg, hs, hd⟩, i0, i1, i5, i6, i8, i10, i12, i14, i16, i17, i18, i19, i20, i21, i22, i23, i169, _⟩
       obtain ⟨s1788, hs1788, hr⟩ := bind_some hr
       refine cut (fun a' k' => Bs noF k0 237 a' k' ∧ (IsV a_) (a'.get 0) k' ∧ (IsV b_) (a'.get 1) k' ∧ (IsV x1739_0) (a'.get 5) k' ∧ (IsV x1744_1.1) (a'.get 6) k' ∧ (IsV x1745_1.1) (a'.get 8) k' ∧ (IsV x1746_2.1) (a'.get 10) k' ∧ (IsV x1747_2.1) (a'.get 12) k' ∧ (IsV x1748_2.1) (a'.get 14) k' ∧ (IsV s1781) (a'.get 16) k' ∧ (IsV s1788) (a'.get 17) k' ∧ (IsV s1769.2.2.1) (a'.get 18) k' ∧ (IsV s1757.2.2.2) (a'.get 19) k' ∧ (IsV s1763.2.2.2) (a'.get 20) k' ∧ (IsV s1769.2.2.2) (a'.get 21) k' ∧ (IsV x1774_4) (a'.get 22) k' ∧ (IsV x1775_4) (a'.get 23) k' ∧ True) ?_ hQ ?_
       ·intro Q1807 hQQ1807 hp1789
        replace hr := hs1788
        clear hQ
        have hQ := hQQ1807
        refine wp_cond_split (isBool i169) (fun hc1793 => ?_) (fun hc1793 => ?_)
        ·rw [if_pos hc1793] at hr
         obtain ⟨x1790_1, hx1790_1, hr⟩ := bind_some hr
         refine cut (fun a' k' => Bs noF k0 237 a' k' ∧ (IsV a_) (a'.get 0) k' ∧ (IsV b_) (a'.get 1) k' ∧ (IsV x1739_0) (a'.get 5) k' ∧ (IsV x1744_1.1) (a'.get 6) k' ∧ (IsV x1745_1.1) (a'.get 8) k' ∧ (IsV x1746_2.1) (a'.get 10) k' ∧ (IsV x1747_2.1) (a'.get 12) k' ∧ (IsV x1748_2.1) (a'.get 14) k' ∧ (IsV s1781) (a'.get 16) k' ∧ (IsV x1790_1) (a'.get 17) k' ∧ (IsV s1769.2.2.1) (a'.get 18) k' ∧ (IsV s1757.2.2.2) (a'.get 19) k' ∧ (IsV s1763.2.2.2) (a'.get 20) k' ∧ (IsV s1769.2.2.2) (a'.get 21) k' ∧ (IsV x1774_4) (a'.get 22) k' ∧ (IsV x1775_4) (a'.get 23) k' ∧ True) ?_ hQ ?_
         ·intro Q1791 hQQ1791 hp1792
          refine gS 3 (_ :: _ :: _ :: []) hs (by kernel_rfl) ⟨mu rfl i17, o1 [(170, some 0)] rfl fun _ _ h n => ok_add rfl n.1 (cI rfl) hx1790_1, cp 1 rfl rfl, trivial⟩ hQQ1791 fun b q p => ?_
          exact tail_done (k := q) (hp1792 _ _ ⟨Bs.post ⟨hg, hs, hd⟩ p, p.ke 0 rfl i0, p.ke 1 rfl i1, p.ke 5 rfl i5, p.ke 6 rfl i6, p.ke 8 rfl i8, p.ke 10 rfl i10, p.ke 12 rfl i12, p.ke 14 rfl i14, p.ke 16 rfl i16, p.ou 2 17 rfl, p.ke 18 rfl i18, p.ke 19 rfl i19, p.ke 20 rfl i20, p.ke 21 rfl i21, p.ke 22 rfl i22, p.ke 23 rfl i23, trivial⟩)
         rintro a k ⟨⟨hg, hs, hd⟩, i0, i1, i5, i6, i8, i10, i12, i14, i16, i17, i18, i19, i20, i21, i22, i23, _⟩
         obtain rfl := Option.some.inj hr
         exact hp1789 _ _ ⟨⟨hg, hs, hd⟩, i0, i1, i5, i6, i8, i10, i12, i14, i16, i17, i18, i19, i20, i21, i22, i23, trivial⟩
        rw [if_neg (by rw [hc1793]; decide)] at hr
        refine wp_skip ?_
        obtain rfl := Option.some.inj hr
        exact hp1789 _ _ ⟨⟨hg, hs, hd⟩, i0, i1, i5, i6, i8, i10, i12, i14, i16, i17, i18, i19, i20, i21, i22, i23, trivial⟩
       clear hs1788
       rintro a k ⟨⟨hg, hs, hd⟩, i0, i1, i5, i6, i8, i10, i12, i14, i16, i17, i18, i19, i20, i21, i22, i23, _⟩
       refine stepL 4 (_ :: _ :: _ :: _ :: []) rfl ⟨hg, hs, hd⟩ (by kernel_rfl) ⟨mu rfl i22, cm 0 rfl rfl, mT rfl rfl i23, o1 [(173, some 1), (174, some 2)] rfl fun _ _ h n => ok_pickAnd rfl n.1 (Gd.get n.2.1) (cB rfl), trivial⟩ [⟨_, _⟩, ⟨_, _⟩, ⟨_, _⟩, ⟨_, _⟩, ⟨_, _⟩, ⟨_, _⟩, ⟨_, _⟩, ⟨_, _⟩, ⟨_, _⟩, ⟨_, _⟩, ⟨_, _⟩, ⟨_, _⟩, ⟨_, _⟩, ⟨_, _⟩, ⟨_, _⟩] (fun b q p => ⟨p.ke 0 rfl i0, p.ke 1 rfl i1, p.ke 5 rfl i5, p.ke 6 rfl i6, p.ke 8 rfl i8, p.ke 10 rfl i10, p.ke 12 rfl i12, p.ke 14 rfl i14, p.ke 16 rfl i16, p.ke 17 rfl i17, p.ke 18 rfl i18, p.ke 19 rfl i19, p.ke 20 rfl i20, p.ke 21 rfl i21, p.ou 3 175 rfl, trivial⟩) ?_
       rintro a k ⟨⟨hg, hs, hd⟩, i0, i1, i5, i6, i8, i10, i12, i14, i16, i17, i18, i19, i20, i21, i175, _⟩
       obtain ⟨s1795, hs1795, hr⟩ := bind_some hr
       refine cut (fun a' k' => Bs noF k0 237 a' k' ∧ (IsV a_) (a'.get 0) k' ∧ (IsV b_) (a'.get 1) k' ∧ (IsV x1739_0) (a'.get 5) k' ∧ (IsV x1744_1.1) (a'.get 6) k' ∧ (IsV x1745_1.1) (a'.get 8) k' ∧ (IsV x1746_2.1) (a'.get 10) k' ∧ (IsV x1747_2.1) (a'.get 12) k' ∧ (IsV x1748_2.1) (a'.get 14) k' ∧ (IsV s1781) (a'.get 16) k' ∧ (IsV s1788) (a'.get 17) k' ∧ (IsV s1795) (a'.get 18) k' ∧ (IsV s1757.2.2.2) (a'.get 19) k' ∧ (IsV s1763.2.2.2) (a'.get 20) k' ∧ (IsV s1769.2.2.2) (a'.get 21) k' ∧ True) ?_ hQ ?_
       ·intro Q1804 hQQ1804 hp1796
        replace hr := hs1795
        clear hQ
        have hQ := hQQ1804
        refine wp_cond_split (isBool i175) (fun hc1800 => ?_) (fun hc1800 => ?_)
        ·rw [if_pos hc1800] at hr
         obtain ⟨x1797_1, hx1797_1, hr⟩ := bind_some hr
         refine cut (fun a' k' => Bs noF k0 237 a' k' ∧ (IsV a_) (a'.get 0) k' ∧ (IsV b_) (a'.get 1) k' ∧ (IsV x1739_0) (a'.get 5) k' ∧ (IsV x1744_1.1) (a'.get 6) k' ∧ (IsV x1745_1.1) (a'.get 8) k' ∧ (IsV x1746_2.1) (a'.get 10) k' ∧ (IsV x1747_2.1) (a'.get 12) k' ∧ (IsV x1748_2.1) (a'.get 14) k' ∧ (IsV s1781) (a'.get 16) k' ∧ (IsV s1788) (a'.get 17) k' ∧ (IsV x1797_1) (a'.get 18) k' ∧ (IsV s1757.2.2.2) (a'.get 19) k' ∧ (IsV s1763.2.2.2) (a'.get 20) k' ∧ (IsV s1769.2.2.2) (a'.get 21) k' ∧ True) ?_ hQ ?_
         ·intro Q1798 hQQ1798 hp1799
          refine gS 3 (_ :: _ :: _ :: []) hs (by kernel_rfl) ⟨mu rfl i18, o1 [(176, some 0)] rfl fun _ _ h n => ok_add rfl n.1 (cI rfl) hx1797_1, cp 1 rfl rfl, trivial⟩ hQQ1798 fun b q p => ?_
          exact tail_done (k := q) (hp1799 _ _ ⟨Bs.post ⟨hg, hs, hd⟩ p, p.ke 0 rfl i0, p.ke 1 rfl i1, p.ke 5 rfl i5, p.ke 6 rfl i6, p.ke 8 rfl i8, p.ke 10 rfl i10, p.ke 12 rfl i12, p.ke 14 rfl i14, p.ke 16 rfl i16, p.ke 17 rfl i17, p.ou 2 18 rfl, p.ke 19 rfl i19, p.ke 20 rfl i20, p.ke 21 rfl i21, trivial⟩)
         rintro a k ⟨⟨hg, hs, hd⟩, i0, i1, i5, i6, i8, i10, i12, i14, i16, i17, i18, i19, i20, i21, _⟩
         obtain rfl := Option.some.inj hr
         exact hp1796 _ _ ⟨⟨hg, hs, hd⟩, i0, i1, i5, i6, i8, i10, i12, i14, i16, i17, i18, i19, i20, i21, trivial⟩
        rw [if_neg (by rw [hc1800]; decide)] at hr
        refine wp_skip ?_
        obtain rfl := Option.some.inj hr
        exact hp1796 _ _ ⟨⟨hg, hs, hd⟩, i0, i1, i5, i6, i8, i10, i12, i14, i16, i17, i18, i19, i20, i21, trivial⟩
       clear hs1795
       rintro a k ⟨⟨hg, hs, hd⟩, i0, i1, i5, i6, i8, i10, i12, i14, i16, i17, i18, i19, i20, i21, _⟩
       obtain ⟨x1801_1, hx1801_1, hr⟩ := bind_some hr
       refine cut (fun a' k' => Bs noF k0 237 a' k' ∧ (IsV a_) (a'.get 0) k' ∧ (IsV b_) (a'.get 1) k' ∧ (IsV x1739_0) (a'.get 5) k' ∧ (IsV x1744_1.1) (a'.get 6) k' ∧ (IsV x1745_1.1) (a'.get 8) k' ∧ (IsV x1746_2.1) (a'.get 10) k' ∧ (IsV x1747_2.1) (a'.get 12) k' ∧ (IsV x1748_2.1) (a'.get 14) k' ∧ (IsV s1781) (a'.get 16) k' ∧ (IsV s1788) (a'.get 17) k' ∧ (IsV s1795) (a'.get 18) k' ∧ (IsV s1757.2.2.2) (a'.get 19) k' ∧ (IsV s1763.2.2.2) (a'.get 20) k' ∧ (IsV x1801_1) (a'.get 21) k' ∧ True) ?_ hQ ?_
       ·intro Q1802 hQQ1802 hp1803
        refine gS 3 (_ :: _ :: _ :: []) hs (by kernel_rfl) ⟨mu rfl i21, o1 [(110, some 0)] rfl fun _ _ h n => ok_add rfl n.1 (cI rfl) hx1801_1, cp 1 rfl rfl, trivial⟩ hQQ1802 fun b q p => ?_
        exact tail_done (k := q) (hp1803 _ _ ⟨Bs.post ⟨hg, hs, hd⟩ p, p.ke 0 rfl i0, p.ke 1 rfl i1, p.ke 5 rfl i5, p.ke 6 rfl i6, p.ke 8 rfl i8, p.ke 10 rfl i10, p.ke 12 rfl i12, p.ke 14 rfl i14, p.ke 16 rfl i16, p.ke 17 rfl i17, p.ke 18 rfl i18, p.ke 19 rfl i19, p.ke 20 rfl i20, p.ou 2 21 rfl, trivial⟩)
       rintro a k ⟨⟨hg, hs, hd⟩, i0, i1, i5, i6, i8, i10, i12, i14, i16, i17, i18, i19, i20, i21, _⟩
       exact hgo1770 _ _ _ (Option.some.inj hr).symm ⟨⟨hg, hs, hd⟩, i0, i1, i5, i6, i8, i10, i12, i14, i16, i17, i18, i19, i20, i21, trivial⟩
      rw [if_neg (by rw [hc1820]; decide)] at hr
      refine wp_exit ?_
      exact hex1771 _ _ _ _ (Option.some.inj hr).symm ⟨rfl, ⟨hg, hs, hd⟩, i0, i1, i5, i6, i8, i10, i12, i14, i16, i17, i18, i19, i20, trivial⟩
     ·rintro r1828 a k rfl hR
      dsimp only at hr
      exact hret1766 _ _ _ (Option.some.inj hr).symm hR
     ·rintro _ _ _ rfl _
      simp at hr
     clear hf1823
     rintro _ s1824 a k rfl ⟨rfl, ⟨hg, hs, hd⟩, i0, i1, i5, i6, i8, i10, i12, i14, i16, i17, i18, i19, i20, _⟩
     dsimp only at hr
     obtain ⟨x1825_1, hx1825_1, hr⟩ := bind_some hr
     refine cut (fun a' k' => Bs noF k0 237 a' k' ∧ (IsV a_) (a'.get 0) k' ∧ (IsV b_) (a'.get 1) k' ∧ (IsV x1739_0) (a'.get 5) k' ∧ (IsV x1744_1.1) (a'.get 6) k' ∧ (IsV x1745_1.1) (a'.get 8) k' ∧ (IsV x1746_2.1) (a'.get 10) k' ∧ (IsV x1747_2.1) (a'.get 12) k' ∧ (IsV x1748_2.1) (a'.get 14) k' ∧ (IsV s1824.1) (a'.get 16) k' ∧ (IsV s1824.2.1) (a'.get 17) k' ∧ (IsV s1824.2.2.1) (a'.get 18) k' ∧ (IsV s1757.2.2.2) (a'.get 19) k' ∧ (IsV x1825_1) (a'.get 20) k' ∧ True) ?_ hQ ?_
     ·intro Q1826 hQQ1826 hp1827
      refine gS 3 (_ :: _ :: _ :: []) hs (by kernel_rfl) ⟨mu rfl i20, o1 [(106, some 0)] rfl fun _ _ h n => ok_add rfl n.1 (cI rfl) hx1825_1, cp 1 rfl rfl, trivial⟩ hQQ1826 fun b q p => ?_
      exact tail_done (k := q) (hp1827 _ _ ⟨Bs.post ⟨hg, hs, hd⟩ p, p.ke 0 rfl i0, p.ke 1 rfl i1, p.ke 5 rfl i5, p.ke 6 rfl i6, p.ke 8 rfl i8, p.ke 10 rfl i10, p.ke 12 rfl i12, p.ke 14 rfl i14, p.ke 16 rfl i16, p.ke 17 rfl i17, p.ke 18 rfl i18, p.ke 19 rfl i19, p.ou 2 20 rfl, trivial⟩)
     rintro a k ⟨⟨hg, hs, hd⟩, i0, i1, i5, i6, i8, i10, i12, i14, i16, i17, i18, i19, i20, _⟩
     exact hgo1764 _ _ _ (Option.some.inj hr).symm ⟨⟨hg, hs, hd⟩, i0, i1, i5, i6, i8, i10, i12, i14, i16, i17, i18, i19, i20, trivial⟩
    rw [if_neg (by rw [hc1832]; decide)] at hr
    refine wp_exit ?_
    exact hex1765 _ _ _ _ (Option.some.inj hr).symm ⟨rfl, ⟨hg, hs, hd⟩, i0, i1, i5, i6, i8, i10, i12, i14, i16, i17, i18, i19, trivial⟩
   ·rintro r1840 a k rfl hR
    dsimp only at hr
    exact hret1760 _ _ _ (Option.some.inj hr).symm hR
   ·rintro _ _ _ rfl _
    simp at hr
   clear hf1835
   rintro _ s1836 a k rfl ⟨rfl, ⟨hg, hs, hd⟩, i0, i1, i5, i6, i8, i10, i12, i14, i16, i17, i18, i19, _⟩
   dsimp only at hr
   obtain ⟨x1837_1, hx1837_1, hr⟩ := bind_some hr
   refine cut (fun a' k' => Bs noF k0 237 a' k' ∧ (IsV a_) (a'.get 0) k' ∧ (IsV b_) (a'.get 1) k' ∧ (IsV x1739_0) (a'.get 5) k' ∧ (IsV x1744_1.1) (a'.get 6) k' ∧ (IsV x1745_1.1) (a'.get 8) k' ∧ (IsV x1746_2.1) (a'.get 10) k' ∧ (IsV x1747_2.1) (a'.get 12) k' ∧ (IsV x1748_2.1) (a'.get 14) k' ∧ (IsV s1836.1) (a'.get 16) k' ∧ (IsV s1836.2.1) (a'.get 17) k' ∧ (IsV s1836.2.2.1) (a'.get 18) k' ∧ (IsV x1837_1) (a'.get 19) k' ∧ True) ?_ hQ ?_
   ·intro Q1838 hQQ1838 hp1839
    refine gS 3 (_ :: _ :: _ :: []) hs (by kernel_rfl) ⟨mu rfl i19, o1 [(102, some 0)] rfl fun _ _ h n => ok_add rfl n.1 (cI rfl) hx1837_1, cp 1 rfl rfl, trivial⟩ hQQ1838 fun b q p => ?_
    exact tail_done (k := q) (hp1839 _ _ ⟨Bs.post ⟨hg, hs, hd⟩ p, p.ke 0 rfl i0, p.ke 1 rfl i1, p.ke 5 rfl i5, p.ke 6 rfl i6, p.ke 8 rfl i8, p.ke 10 rfl i10, p.ke 12 rfl i12, p.ke 14 rfl i14, p.ke 16 rfl i16, p.ke 17 rfl i17, p.ke 18 rfl i18, p.ou 2 19 rfl, trivial⟩)
   rintro a k ⟨⟨hg, hs, hd⟩, i0, i1, i5, i6, i8, i10, i12, i14, i16, i17, i18, i19, _⟩
   exact hgo1758 _ _ _ (Option.some.inj hr).symm ⟨⟨hg, hs, hd⟩, i0, i1, i5, i6, i8, i10, i12, i14, i16, i17, i18, i19, trivial⟩
  rw [if_neg (by rw [hc1844]; decide)] at hr
  refine wp_exit ?_
  exact hex1759 _ _ _ _ (Option.some.inj hr).symm ⟨rfl, ⟨hg, hs, hd⟩, i5, i6, i8, i10, i12, i14, i16, i17, i18, trivial⟩
 ·rintro r1859 a k rfl hR
  dsimp only at hr
  obtain rfl := Option.some.inj hr
  exact hR
 ·rintro _ _ _ rfl _
  simp at hr
 clear hf1847
 rintro _ s1848 a k rfl ⟨rfl, ⟨hg, hs, hd⟩, i5, i6, i8, i10, i12, i14, i16, i17, i18, _⟩
 dsimp only at hr
 refine wp_seq ?_
 refine wp_seq ?_
 obtain ⟨x1849_1, hx1849_1, hr⟩ := bind_some hr
 obtain ⟨x1849_9, hx1849_9, hr⟩ := bind_some hr
 obtain ⟨x1849_6, hx1849_6, hx1849_9⟩ := ite_bindF hx1849_9
 obtain ⟨x1849_15, hx1849_15, hr⟩ := bind_some hr
 obtain ⟨x1849_12, hx1849_12, hx1849_15⟩ := ite_bindF hx1849_15
 obtain ⟨x1849_25, hx1849_25, hr⟩ := bind_some hr
 obtain ⟨x1849_18, hx1849_18, hx1849_25⟩ := ite_bindF hx1849_25
 obtain ⟨x1849_21, hx1849_21, hx1849_25⟩ := ite_bindF hx1849_25
 obtain ⟨x1849_23, hx1849_23, hx1849_25⟩ := ite_bindF hx1849_25
 obtain ⟨x1849_33, hx1849_33, hr⟩ := bind_some hr
 obtain ⟨x1849_28, hx1849_28, hx1849_33⟩ := ite_bindF hx1849_33
 obtain ⟨x1849_31, hx1849_31, hx1849_33⟩ := ite_bindF hx1849_33
 refine cut (fun a' k' => Bs noF k0 237 a' k' ∧ (IsV x1739_0) (a'.get 5) k' ∧ (IsV x1744_1.1) (a'.get 6) k' ∧ (IsV x1745_1.1) (a'.get 8) k' ∧ (IsV s1848.1) (a'.get 16) k' ∧ (IsV s1848.2.1) (a'.get 17) k' ∧ (IsV s1848.2.2.1) (a'.get 18) k' ∧ (IsV x1849_33) (a'.get 211) k' ∧ True) ?_ hQ ?_
 ·intro Q1857 hQQ1857 hp1858
  refine gS 34 (_ :: _ :: _ :: ⟨some (IsV (x1849_1 != s1848.1)), [(179, some 1), (180, some 2)]⟩ :: _ :: _ :: _ :: _ :: ⟨some (Gd ((x1849_1 != s1848.1) = false) (IsV (x1849_6 != s1848.2.1))), [(184, some 6), (185, some 7)]⟩ :: _ :: _ :: _ :: _ :: _ :: ⟨some (Gd (x1849_9 = false) (IsV (x1849_12 != s1848.2.2.1))), [(190, some 12), (191, some 13)]⟩ :: _ :: _ :: _ :: _ :: _ :: _ :: _ :: _ :: _ :: ⟨some (Gd (x1849_15 = false) (IsV (x1849_18 != x1849_23))), [(196, some 18), (201, some 23)]⟩ :: _ :: _ :: _ :: _ :: _ :: _ :: _ :: ⟨some (Gd (x1849_25 = false) (IsV (x1849_28 != x1849_31))), [(206, some 28), (209, some 31)]⟩ :: _ :: []) hs (by kernel_rfl) ⟨mu rfl i6, o1 [(178, some 0)] rfl fun _ _ h n => ok_call rfl Try.call12 (solid_Volume_ok n.1 hx1849_1), mu rfl i16, ob1 rfl fun _ _ h n => ok_neI rfl n.1 n.2.1, cm 3 rfl rfl, mF rfl rfl i8, gF [(183, some 5)] rfl rfl fun hp _ _ h n => ok_call rfl Try.call12 (solid_Volume_ok (Gd.get n.1 hp) (hx1849_6 hp)), mF rfl rfl i17, gdF rfl rfl fun hp _ _ h n => ok_neI rfl (Gd.get n.1 hp) (Gd.get n.2.1 hp), o1 [(182, some 4), (186, some 8)] rfl fun _ _ h n => ok_pickM rfl n.1 hx1849_9 (cB rfl) (Gd.get n.2.1), cm 9 rfl rfl, mF rfl rfl i12, gF [(189, some 11)] rfl rfl fun hp _ _ h n => ok_call rfl Try.call12 (solid_Volume_ok (Gd.get n.1 hp) (hx1849_12 hp)), mF rfl rfl i18, gdF rfl rfl fun hp _ _ h n => ok_neI rfl (Gd.get n.1 hp) (Gd.get n.2.1 hp), o1 [(188, some 10), (192, some 14)] rfl fun _ _ h n => ok_pickM rfl n.1 hx1849_15 (cB rfl) (Gd.get n.2.1), cm 15 rfl rfl, mF rfl rfl i10, gF [(195, some 17)] rfl rfl fun hp _ _ h n => ok_call rfl Try.call12 (solid_Volume_ok (Gd.get n.1 hp) (hx1849_18 hp)), mF rfl rfl i16, mF rfl rfl i17, gF [(197, some 19), (198, some 20)] rfl rfl fun hp _ _ h n => ok_add rfl (Gd.get n.1 hp) (Gd.get n.2.1 hp) (hx1849_21 hp), mF rfl rfl i18, gF [(199, some 21), (200, some 22)] rfl rfl fun hp _ _ h n => ok_sub rfl (Gd.get n.1 hp) (Gd.get n.2.1 hp) (hx1849_23 hp), gdF rfl rfl fun hp _ _ h n => ok_neI rfl (Gd.get n.1 hp) (Gd.get n.2.1 hp), o1 [(194, some 16), (202, some 24)] rfl fun _ _ h n => ok_pickM rfl n.1 hx1849_25 (cB rfl) (Gd.get n.2.1), cm 25 rfl rfl, mF rfl rfl i14, gF [(205, some 27)] rfl rfl fun hp _ _ h n => ok_call rfl Try.call12 (solid_Volume_ok (Gd.get n.1 hp) (hx1849_28 hp)), mF rfl rfl i16, mF rfl rfl i18, gF [(207, some 29), (208, some 30)] rfl rfl fun hp _ _ h n => ok_sub rfl (Gd.get n.1 hp) (Gd.get n.2.1 hp) (hx1849_31 hp), gdF rfl rfl fun hp _ _ h n => ok_neI rfl (Gd.get n.1 hp) (Gd.get n.2.1 hp), o1 [(204, some 26), (210, some 32)] rfl fun _ _ h n => ok_pickM rfl n.1 hx1849_33 (cB rfl) (Gd.get n.2.1), trivial⟩ hQQ1857 fun b q p => ?_
  exact tail_done (k := q) (hp1858 _ _ ⟨Bs.post ⟨hg, hs, hd⟩ p, p.ke 5 rfl i5, p.ke 6 rfl i6, p.ke 8 rfl i8, p.ke 16 rfl i16, p.ke 17 rfl i17, p.ke 18 rfl i18, p.ou 33 211 rfl, trivial⟩)
 rintro a k ⟨⟨hg, hs, hd⟩, i5, i6, i8, i16, i17, i18, i211, _⟩
 refine wp_cond_split (isBool i211) (fun hc1856 => ?_) (fun hc1856 => ?_)
 ·rw [if_pos hc1856] at hr
  refine stepL 1 (⟨some (IsV false), []⟩ :: []) rfl ⟨hg, hs, hd⟩ (by kernel_rfl) ⟨ob1 rfl fun _ _ h n => ok_assign rfl (isV_bool.2 rfl), trivial⟩ [⟨_, _⟩] (fun b q p => ⟨p.ou 0 4 rfl, trivial⟩) ?_
  rintro a k ⟨⟨hg, hs, hd⟩, i4, _⟩
  refine wp_ret ?_
  obtain rfl := Option.some.inj hr
  exact retC1 rfl hd hg i4
 rw [if_neg (by rw [hc1856]; decide)] at hr
 refine wp_skip ?_
 refine wp_seq ?_
 obtain ⟨x1853_14, hx1853_14, hr⟩ := bind_some hr
 obtain ⟨x1853_4, hx1853_4, hx1853_14⟩ := ite_bind hx1853_14
 obtain ⟨x1853_19, hx1853_19, hr⟩ := bind_some hr
 obtain ⟨x1853_17, hx1853_17, hx1853_19⟩ := ite_bind hx1853_19
 obtain ⟨x1853_24, hx1853_24, hr⟩ := bind_some hr
 obtain ⟨x1853_22, hx1853_22, hx1853_24⟩ := ite_bind hx1853_24
 refine cut (fun a' k' => Bs noF k0 237 a' k' ∧ (IsV x1853_24) (a'.get 4) k' ∧ True) ?_ hQ ?_
 ·intro Q1854 hQQ1854 hp1855
  refine gS 26 (_ :: _ :: _ :: _ :: _ :: _ :: _ :: _ :: ⟨some (Gd (x1739_0 = true) (IsV (s1848.1 == s1848.2.2.1))), [(219, some 7)]⟩ :: ⟨some (Gd ((x1739_0 = true) ∧ (s1848.1 == s1848.2.2.1) = true) (IsV s1848.2.1)), [(17, none)]⟩ :: ⟨some (Gd ((x1739_0 = true) ∧ (s1848.1 == s1848.2.2.1) = true) (IsV s1848.2.2.1)), [(18, none)]⟩ :: ⟨some (Gd ((x1739_0 = true) ∧ (s1848.1 == s1848.2.2.1) = true) (IsV (s1848.2.1 == s1848.2.2.1))), [(221, some 9), (222, some 10)]⟩ :: _ :: _ :: _ :: _ :: _ :: _ :: _ :: _ :: _ :: _ :: _ :: _ :: _ :: _ :: []) hs (by kernel_rfl) ⟨mu rfl i5, cm 0 rfl rfl, mT rfl rfl i6, mT rfl rfl i8, gT [(214, some 2), (215, some 3)] rfl rfl fun hp _ _ h n => ok_call rfl Try.call11 (solid_Same_ok (Gd.get n.1 hp) (Gd.get n.2.1 hp) (hx1853_4 hp)), mT rfl rfl i16, mT rfl rfl i18, gT [(217, some 5), (218, some 6)] rfl rfl fun hp _ _ h n => ok_eqI rfl (Gd.get n.1 hp) (Gd.get n.2.1 hp), gdT rfl rfl fun hp _ _ h n => ok_move rfl (Gd.get n.1 hp), gdTT rfl rfl fun hp b q h n => ok_move rfl (up i17 h n.1), gdTT rfl rfl fun hp b q h n => ok_move rfl (up i18 h n.1), gdTT rfl rfl fun hp b q h n => ok_eqI rfl (Gd.get n.1 hp) (Gd.get n.2.1 hp), gT [(220, some 8), (223, some 11)] rfl rfl fun hp _ _ h n => ok_pickAnd rfl (Gd.get n.1 hp) (fun hm => (Gd.get n.2.1 ⟨hp, hm⟩)) (cB rfl), gT [(216, some 4), (224, some 12)] rfl rfl fun hp _ _ h n => ok_eqB rfl Try.underlying4 (Gd.get n.1 hp) (Gd.get n.2.1 hp), o1 [(213, some 1), (225, some 13)] rfl fun _ _ h n => ok_pickM rfl n.1 hx1853_14 (Gd.get n.2.1) (cB rfl), cm 14 rfl rfl, mT rfl rfl i6, gT [(228, some 16)] rfl rfl fun hp _ _ h n => ok_call rfl Try.call19 (solid_Has_ok (Gd.get n.1 hp) (cI rfl) (cI rfl) (cI rfl) (hx1853_17 hp)), gT [(229, some 17)] rfl rfl fun hp _ _ h n => ok_not rfl (Gd.get n.1 hp), o1 [(227, some 15), (230, some 18)] rfl fun _ _ h n => ok_pickM rfl n.1 hx1853_19 (Gd.get n.2.1) (cB rfl), cm 19 rfl rfl, mT rfl rfl i6, gT [(233, some 21)] rfl rfl fun hp _ _ h n => ok_call rfl Try.call19 (solid_Has_ok (Gd.get n.1 hp) (cI rfl) (cI rfl) (cI rfl) (hx1853_22 hp)), gT [(234, some 22)] rfl rfl fun hp _ _ h n => ok_not rfl (Gd.get n.1 hp), o1 [(232, some 20), (235, some 23)] rfl fun _ _ h n => ok_pickM rfl n.1 hx1853_24 (Gd.get n.2.1) (cB rfl), cp 24 rfl rfl, trivial⟩ hQQ1854 fun b q p => ?_
  exact tail_done (k := q) (hp1855 _ _ ⟨Bs.post ⟨hg, hs, hd⟩ p, p.ou 25 4 rfl, trivial⟩)
 rintro a k ⟨⟨hg, hs, hd⟩, i4, _⟩
 refine wp_ret ?_
 obtain rfl := Option.some.inj hr
 exact retC1 rfl hd hg i4
end Go.Proofs.Ytmniloampanhfaa
