/- What the functions compute that the law reaches, part 5 -/
import Derived.Test.YtmniloampanhfaaT4
namespace Go.Proofs.Ytmniloampanhfaa
open Go.Gb
set_option linter.unusedVariables false
set_option linter.unusedSimpArgs false
set_option maxRecDepth 100000
def law09_small  : Option (Bool) :=
 (solid_Of ([(⟨(⟨0, 0, 2, 2⟩ : Rect), 0, 3⟩ : Box), (⟨(⟨0, 0, 1, 2⟩ : Rect), 2, 5⟩ : Box)])).bind fun x1603_1 =>
 (solid_Of ([(⟨(⟨0, 0, 2, 1⟩ : Rect), 1, 5⟩ : Box)])).bind fun x1604_3 =>
 (solid_Minus x1603_1.1 x1604_3.1).bind fun x1605_2 =>
 (law09_square 0 0 2 2).bind fun x1606_0 =>
 (law09_square 0 0 1 2).bind fun x1606_2 =>
 (law09_square 0 0 2 2).bind fun x1607_0 =>
 (law09_square 0 1 2 2).bind fun x1607_2 =>
 (law09_square 0 1 1 2).bind fun x1607_4 =>
 (solid_Of ([(⟨(⟨0, 0, 2, 1⟩ : Rect), 1, 1⟩ : Box)])).bind fun x1608_3 =>
 (if ((((x1603_1.2 == 0) && (x1604_3.2 == 0)) && (x1605_2.2 == 0)) && (x1608_3.2 == 1)) then
  (ref09_Same x1603_1.1 ([(⟨0, 3, x1606_0⟩ : Slab), (⟨3, 5, x1606_2⟩ : Slab)])).bind fun x1609_17 =>
  some x1609_17
 else
  some false).bind fun x1609_18 =>
 (if x1609_18 then
  (ref09_Same x1605_2.1 ([(⟨0, 1, x1607_0⟩ : Slab), (⟨1, 3, x1607_2⟩ : Slab), (⟨3, 5, x1607_4⟩ : Slab)])).bind fun x1609_22 =>
  some x1609_22
 else
  some false).bind fun x1609_23 =>
 (if x1609_23 then
  (solid_Same x1605_2.1 ([(⟨0, 1, x1607_0⟩ : Slab), (⟨1, 3, x1607_2⟩ : Slab), (⟨3, 5, x1607_4⟩ : Slab)])).bind fun x1609_27 =>
  some x1609_27
 else
  some false).bind fun x1609_28 =>
 (if x1609_28 then
  (solid_Volume x1603_1.1).bind fun x1609_31 =>
  some (x1609_31 == 16)
 else
  some false).bind fun x1609_33 =>
 (solid_Top x1603_1.1 0 1).bind fun x1610_1 =>
 (if (x1610_1 == 5) then
  (solid_Top x1603_1.1 1 1).bind fun x1610_5 =>
  some (x1610_5 == 3)
 else
  some false).bind fun x1610_7 =>
 (if x1610_7 then
  (solid_Top x1603_1.1 2 0).bind fun x1610_10 =>
  some (x1610_10 == 0)
 else
  some false).bind fun x1610_12 =>
 (if x1610_12 then
  (solid_Section x1603_1.1 2).bind fun x1610_15 =>
  some ((x1610_15.length : Int) == 1)
 else
  some false).bind fun x1610_18 =>
 (if x1610_18 then
  (solid_Section x1603_1.1 5).bind fun x1610_21 =>
  some ((x1610_21.length : Int) == 0)
 else
  some false).bind fun x1610_24 =>
 (if x1610_24 then
  (solid_Boxes x1603_1.1).bind fun x1610_27 =>
  some ((x1610_27.length : Int) == 2)
 else
  some false).bind fun x1610_30 =>
 (if (x1609_33 && x1610_30) then
  (solid_Has x1603_1.1 0 0 4).bind fun x1611_6 =>
  some x1611_6
 else
  some false).bind fun x1611_7 =>
 (if x1611_7 then
  (solid_Has x1603_1.1 1 0 4).bind fun x1611_10 =>
  some (!x1611_10)
 else
  some false).bind fun x1611_12 =>
 (if x1611_12 then
  (solid_Right ([] : List Slab)).bind fun x1611_14 =>
  some x1611_14
 else
  some false).bind fun x1611_15 =>
 (if x1611_15 then
  (solid_Right ([(⟨0, 1, []⟩ : Slab)])).bind fun x1611_19 =>
  some (!x1611_19)
 else
  some false).bind fun x1611_21 =>
 some x1611_21
theorem law09_small_ok {k0 : K} {r : Bool} (hr : law09_small = some r) :
  Calls Try.prog 8 #[] k0.w (Ret k0 (IsV r)) := by
 unfold law09_small at hr
 refine Ret.ofC ?_
 refine enterK Try.func8 rfl Try.ntmps8 (show 0 ≤ 143 by decide) fun a k hk0 hs hd ha => ?_
 have hQ : Gb.LetsOut (bodyPost Try.prog Try.f8 (RetC noF k0 (IsV r))) := letsOutC
 have hg : Chg noF k0 k := by rw [hk0]; exact Chg.refl _ k0
 refine cutL noF k0 143 [] ?_ ?_
 ·intro Q1632 hQQ1632 hp1633
  refine gS 1 (⟨some (IsV false), []⟩ :: []) hs (by kernel_rfl) ⟨ob1 rfl fun _ _ h n => ok_assign rfl (isV_bool.2 rfl), trivial⟩ hQQ1632 fun b q p => ?_
  exact tail_done (k := q) (hp1633 _ _ ⟨Bs.post ⟨hg, hs, hd⟩ p, trivial⟩)
 rintro a k ⟨⟨hg, hs, hd⟩, _⟩
 refine stepL 6 (⟨some (IsV (⟨0, 0, 2, 2⟩ : Rect)), []⟩ :: ⟨some (IsV (⟨(⟨0, 0, 2, 2⟩ : Rect), 0, 3⟩ : Box)), [(14, some 0)]⟩ :: ⟨some (IsV (⟨0, 0, 1, 2⟩ : Rect)), []⟩ :: ⟨some (IsV (⟨(⟨0, 0, 1, 2⟩ : Rect), 2, 5⟩ : Box)), [(16, some 2)]⟩ :: ⟨some (IsV (α := (List Box)) ([(⟨(⟨0, 0, 2, 2⟩ : Rect), 0, 3⟩ : Box), (⟨(⟨0, 0, 1, 2⟩ : Rect), 2, 5⟩ : Box)])), [(15, some 1), (17, some 3)]⟩ :: _ :: []) rfl ⟨hg, hs, hd⟩ (by kernel_rfl) ⟨ob1 rfl fun _ _ h n => ok_build rfl (bld30_0_1_2_3 (cI rfl) (cI rfl) (cI rfl) (cI rfl)), ob1 rfl fun _ _ h n => ok_build rfl (bld32_0_1_2 n.1 (cI rfl) (cI rfl)), ob1 rfl fun _ _ h n => ok_build rfl (bld30_0_1_2_3 (cI rfl) (cI rfl) (cI rfl) (cI rfl)), ob1 rfl fun _ _ h n => ok_build rfl (bld32_0_1_2 n.1 (cI rfl) (cI rfl)), ob1 rfl fun _ _ h n => ok_buildSlice rfl Try.underlying22 eo32 rfl (by decide) (by decide) ⟨rfl, n.1, rfl, n.2.1, trivial⟩, cp 4 rfl rfl, trivial⟩ [⟨_, _⟩] (fun b q p => ⟨p.ou 5 1 rfl, trivial⟩) ?_
 rintro a k ⟨⟨hg, hs, hd⟩, i1, _⟩
 refine wp_seq ?_
 obtain ⟨x1603_1, hx1603_1, hr⟩ := bind_some hr
 refine cut (fun a' k' => Bs noF k0 143 a' k' ∧ (IsV x1603_1.1) (a'.get 2) k' ∧ (IsV x1603_1.2) (a'.get 3) k' ∧ True) ?_ hQ ?_
 ·intro Q1628 hQQ1628 hp1629
  refine gS 7 (_ :: _ :: _ :: _ :: _ :: _ :: _ :: []) hs (by kernel_rfl) ⟨mu rfl i1, o1 [(20, some 0)] rfl fun _ _ h n => ok_call rfl Try.call9 (solid_Of_ok n.1 hx1603_1), cm 1 rfl rfl, o1 [(19, some 2)] rfl fun _ _ h n => ok_ext2_0 rfl n.1, o1 [(19, some 2)] rfl fun _ _ h n => ok_ext2_1 rfl n.1, cp 3 rfl rfl, cp 4 rfl rfl, trivial⟩ hQQ1628 fun b q p => ?_
  exact tail_done (k := q) (hp1629 _ _ ⟨Bs.post ⟨hg, hs, hd⟩ p, p.ou 5 2 rfl, p.ou 6 3 rfl, trivial⟩)
 rintro a k ⟨⟨hg, hs, hd⟩, i2, i3, _⟩
 refine wp_seq ?_
 obtain ⟨x1604_3, hx1604_3, hr⟩ := bind_some hr
 refine cut (fun a' k' => Bs noF k0 143 a' k' ∧ (IsV x1603_1.1) (a'.get 2) k' ∧ (IsV x1603_1.2) (a'.get 3) k' ∧ (IsV x1604_3.1) (a'.get 4) k' ∧ (IsV x1604_3.2) (a'.get 5) k' ∧ True) ?_ hQ ?_
 ·intro Q1626 hQQ1626 hp1627
  refine gS 9 (⟨some (IsV (⟨0, 0, 2, 1⟩ : Rect)), []⟩ :: ⟨some (IsV (⟨(⟨0, 0, 2, 1⟩ : Rect), 1, 5⟩ : Box)), [(25, some 0)]⟩ :: ⟨some (IsV (α := (List Box)) ([(⟨(⟨0, 0, 2, 1⟩ : Rect), 1, 5⟩ : Box)])), [(26, some 1)]⟩ :: _ :: _ :: _ :: _ :: _ :: _ :: []) hs (by kernel_rfl) ⟨ob1 rfl fun _ _ h n => ok_build rfl (bld30_0_1_2_3 (cI rfl) (cI rfl) (cI rfl) (cI rfl)), ob1 rfl fun _ _ h n => ok_build rfl (bld32_0_1_2 n.1 (cI rfl) (cI rfl)), ob1 rfl fun _ _ h n => ok_buildSlice rfl Try.underlying22 eo32 rfl (by decide) (by decide) ⟨rfl, n.1, trivial⟩, o1 [(27, some 2)] rfl fun _ _ h n => ok_call rfl Try.call9 (solid_Of_ok n.1 hx1604_3), cm 3 rfl rfl, o1 [(24, some 4)] rfl fun _ _ h n => ok_ext2_0 rfl n.1, o1 [(24, some 4)] rfl fun _ _ h n => ok_ext2_1 rfl n.1, cp 5 rfl rfl, cp 6 rfl rfl, trivial⟩ hQQ1626 fun b q p => ?_
  exact tail_done (k := q) (hp1627 _ _ ⟨Bs.post ⟨hg, hs, hd⟩ p, p.ke 2 rfl i2, p.ke 3 rfl i3, p.ou 7 4 rfl, p.ou 8 5 rfl, trivial⟩)
 rintro a k ⟨⟨hg, hs, hd⟩, i2, i3, i4, i5, _⟩
 refine wp_seq ?_
 obtain ⟨x1605_2, hx1605_2, hr⟩ := bind_some hr
 refine cut (fun a' k' => Bs noF k0 143 a' k' ∧ (IsV x1603_1.1) (a'.get 2) k' ∧ (IsV x1603_1.2) (a'.get 3) k' ∧ (IsV x1604_3.2) (a'.get 5) k' ∧ (IsV x1605_2.1) (a'.get 6) k' ∧ (IsV x1605_2.2) (a'.get 7) k' ∧ True) ?_ hQ ?_
 ·intro Q1624 hQQ1624 hp1625
  refine gS 8 (_ :: _ :: _ :: _ :: _ :: _ :: _ :: _ :: []) hs (by kernel_rfl) ⟨mu rfl i2, mu rfl i4, o1 [(32, some 0), (33, some 1)] rfl fun _ _ h n => ok_call rfl Try.call16 (solid_Minus_ok n.1 n.2.1 hx1605_2), cm 2 rfl rfl, o1 [(31, some 3)] rfl fun _ _ h n => ok_ext2_0 rfl n.1, o1 [(31, some 3)] rfl fun _ _ h n => ok_ext2_1 rfl n.1, cp 4 rfl rfl, cp 5 rfl rfl, trivial⟩ hQQ1624 fun b q p => ?_
  exact tail_done (k := q) (hp1625 _ _ ⟨Bs.post ⟨hg, hs, hd⟩ p, p.ke 2 rfl i2, p.ke 3 rfl i3, p.ke 5 rfl i5, p.ou 6 6 rfl, p.ou 7 7 rfl, trivial⟩)
 rintro a k ⟨⟨hg, hs, hd⟩, i2, i3, i5, i6, i7, _⟩
 refine wp_seq ?_
 obtain ⟨x1606_0, hx1606_0, hr⟩ := bind_some hr
 obtain ⟨x1606_2, hx1606_2, hr⟩ := bind_some hr
 refine cut (fun a' k' => Bs noF k0 143 a' k' ∧ (IsV x1603_1.1) (a'.get 2) k' ∧ (IsV x1603_1.2) (a'.get 3) k' ∧ (IsV x1604_3.2) (a'.get 5) k' ∧ (IsV x1605_2.1) (a'.get 6) k' ∧ (IsV x1605_2.2) (a'.get 7) k' ∧ (IsV (α := (List Slab)) ([(⟨0, 3, x1606_0⟩ : Slab), (⟨3, 5, x1606_2⟩ : Slab)])) (a'.get 8) k' ∧ True) ?_ hQ ?_
 ·intro Q1622 hQQ1622 hp1623
  refine gS 6 (_ :: ⟨some (IsV (⟨0, 3, x1606_0⟩ : Slab)), [(37, some 0)]⟩ :: _ :: ⟨some (IsV (⟨3, 5, x1606_2⟩ : Slab)), [(39, some 2)]⟩ :: ⟨some (IsV (α := (List Slab)) ([(⟨0, 3, x1606_0⟩ : Slab), (⟨3, 5, x1606_2⟩ : Slab)])), [(38, some 1), (40, some 3)]⟩ :: _ :: []) hs (by kernel_rfl) ⟨o1 [] rfl fun _ _ h n => ok_call rfl Try.call21 (law09_square_ok (cI rfl) (cI rfl) (cI rfl) (cI rfl) hx1606_0), ob1 rfl fun _ _ h n => ok_build rfl (bld47_0_1_2 (cI rfl) (cI rfl) n.1), o1 [] rfl fun _ _ h n => ok_call rfl Try.call21 (law09_square_ok (cI rfl) (cI rfl) (cI rfl) (cI rfl) hx1606_2), ob1 rfl fun _ _ h n => ok_build rfl (bld47_0_1_2 (cI rfl) (cI rfl) n.1), ob1 rfl fun _ _ h n => ok_buildSlice rfl Try.underlying24 eo47 rfl (by decide) (by decide) ⟨rfl, n.1, rfl, n.2.1, trivial⟩, cp 4 rfl rfl, trivial⟩ hQQ1622 fun b q p => ?_
  exact tail_done (k := q) (hp1623 _ _ ⟨Bs.post ⟨hg, hs, hd⟩ p, p.ke 2 rfl i2, p.ke 3 rfl i3, p.ke 5 rfl i5, p.ke 6 rfl i6, p.ke 7 rfl i7, p.ou 5 8 rfl, trivial⟩)
 rintro a k ⟨⟨hg, hs, hd⟩, i2, i3, i5, i6, i7, i8, _⟩
 refine wp_seq ?_
 obtain ⟨x1607_0, hx1607_0, hr⟩ := bind_some hr
 obtain ⟨x1607_2, hx1607_2, hr⟩ := bind_some hr
 obtain ⟨x1607_4, hx1607_4, hr⟩ := bind_some hr
 refine cut (fun a' k' => Bs noF k0 143 a' k' ∧ (IsV x1603_1.1) (a'.get 2) k' ∧ (IsV x1603_1.2) (a'.get 3) k' ∧ (IsV x1604_3.2) (a'.get 5) k' ∧ (IsV x1605_2.1) (a'.get 6) k' ∧ (IsV x1605_2.2) (a'.get 7) k' ∧ (IsV (α := (List Slab)) ([(⟨0, 3, x1606_0⟩ : Slab), (⟨3, 5, x1606_2⟩ : Slab)])) (a'.get 8) k' ∧ (IsV (α := (List Slab)) ([(⟨0, 1, x1607_0⟩ : Slab), (⟨1, 3, x1607_2⟩ : Slab), (⟨3, 5, x1607_4⟩ : Slab)])) (a'.get 9) k' ∧ True) ?_ hQ ?_
 ·intro Q1620 hQQ1620 hp1621
  refine gS 8 (_ :: ⟨some (IsV (⟨0, 1, x1607_0⟩ : Slab)), [(42, some 0)]⟩ :: _ :: ⟨some (IsV (⟨1, 3, x1607_2⟩ : Slab)), [(44, some 2)]⟩ :: _ :: ⟨some (IsV (⟨3, 5, x1607_4⟩ : Slab)), [(46, some 4)]⟩ :: ⟨some (IsV (α := (List Slab)) ([(⟨0, 1, x1607_0⟩ : Slab), (⟨1, 3, x1607_2⟩ : Slab), (⟨3, 5, x1607_4⟩ : Slab)])), [(43, some 1), (45, some 3), (47, some 5)]⟩ :: _ :: []) hs (by kernel_rfl) ⟨o1 [] rfl fun _ _ h n => ok_call rfl Try.call21 (law09_square_ok (cI rfl) (cI rfl) (cI rfl) (cI rfl) hx1607_0), ob1 rfl fun _ _ h n => ok_build rfl (bld47_0_1_2 (cI rfl) (cI rfl) n.1), o1 [] rfl fun _ _ h n => ok_call rfl Try.call21 (law09_square_ok (cI rfl) (cI rfl) (cI rfl) (cI rfl) hx1607_2), ob1 rfl fun _ _ h n => ok_build rfl (bld47_0_1_2 (cI rfl) (cI rfl) n.1), o1 [] rfl fun _ _ h n => ok_call rfl Try.call21 (law09_square_ok (cI rfl) (cI rfl) (cI rfl) (cI rfl) hx1607_4), ob1 rfl fun _ _ h n => ok_build rfl (bld47_0_1_2 (cI rfl) (cI rfl) n.1), ob1 rfl fun _ _ h n => ok_buildSlice rfl Try.underlying24 eo47 rfl (by decide) (by decide) ⟨rfl, n.1, rfl, n.2.1, rfl, n.2.2.1, trivial⟩, cp 6 rfl rfl, trivial⟩ hQQ1620 fun b q p => ?_
  exact tail_done (k := q) (hp1621 _ _ ⟨Bs.post ⟨hg, hs, hd⟩ p, p.ke 2 rfl i2, p.ke 3 rfl i3, p.ke 5 rfl i5, p.ke 6 rfl i6, p.ke 7 rfl i7, p.ke 8 rfl i8, p.ou 7 9 rfl, trivial⟩)
 rintro a k ⟨⟨hg, hs, hd⟩, i2, i3, i5, i6, i7, i8, i9, _⟩
 refine wp_seq ?_
 obtain ⟨x1608_3, hx1608_3, hr⟩ := bind_some hr
 refine cut (fun a' k' => Bs noF k0 143 a' k' ∧ (IsV x1603_1.1) (a'.get 2) k' ∧ (IsV x1603_1.2) (a'.get 3) k' ∧ (IsV x1604_3.2) (a'.get 5) k' ∧ (IsV x1605_2.1) (a'.get 6) k' ∧ (IsV x1605_2.2) (a'.get 7) k' ∧ (IsV (α := (List Slab)) ([(⟨0, 3, x1606_0⟩ : Slab), (⟨3, 5, x1606_2⟩ : Slab)])) (a'.get 8) k' ∧ (IsV (α := (List Slab)) ([(⟨0, 1, x1607_0⟩ : Slab), (⟨1, 3, x1607_2⟩ : Slab), (⟨3, 5, x1607_4⟩ : Slab)])) (a'.get 9) k' ∧ (IsV x1608_3.2) (a'.get 11) k' ∧ True) ?_ hQ ?_
 ·intro Q1618 hQQ1618 hp1619
  refine gS 9 (⟨some (IsV (⟨0, 0, 2, 1⟩ : Rect)), []⟩ :: ⟨some (IsV (⟨(⟨0, 0, 2, 1⟩ : Rect), 1, 1⟩ : Box)), [(50, some 0)]⟩ :: ⟨some (IsV (α := (List Box)) ([(⟨(⟨0, 0, 2, 1⟩ : Rect), 1, 1⟩ : Box)])), [(51, some 1)]⟩ :: _ :: _ :: _ :: _ :: _ :: _ :: []) hs (by kernel_rfl) ⟨ob1 rfl fun _ _ h n => ok_build rfl (bld30_0_1_2_3 (cI rfl) (cI rfl) (cI rfl) (cI rfl)), ob1 rfl fun _ _ h n => ok_build rfl (bld32_0_1_2 n.1 (cI rfl) (cI rfl)), ob1 rfl fun _ _ h n => ok_buildSlice rfl Try.underlying22 eo32 rfl (by decide) (by decide) ⟨rfl, n.1, trivial⟩, o1 [(52, some 2)] rfl fun _ _ h n => ok_call rfl Try.call9 (solid_Of_ok n.1 hx1608_3), cm 3 rfl rfl, o1 [(49, some 4)] rfl fun _ _ h n => ok_ext2_0 rfl n.1, o1 [(49, some 4)] rfl fun _ _ h n => ok_ext2_1 rfl n.1, cp 5 rfl rfl, cp 6 rfl rfl, trivial⟩ hQQ1618 fun b q p => ?_
  exact tail_done (k := q) (hp1619 _ _ ⟨Bs.post ⟨hg, hs, hd⟩ p, p.ke 2 rfl i2, p.ke 3 rfl i3, p.ke 5 rfl i5, p.ke 6 rfl i6, p.ke 7 rfl i7, p.ke 8 rfl i8, p.ke 9 rfl i9, p.ou 8 11 rfl, trivial⟩)
 rintro a k ⟨⟨hg, hs, hd⟩, i2, i3, i5, i6, i7, i8, i9, i11, _⟩
 refine wp_seq ?_
 obtain ⟨x1609_18, hx1609_18, hr⟩ := bind_some hr
 obtain ⟨x1609_17, hx1609_17, hx1609_18⟩ := ite_bind hx1609_18
 obtain ⟨x1609_23, hx1609_23, hr⟩ := bind_some hr
 obtain ⟨x1609_22, hx1609_22, hx1609_23⟩ := ite_bind hx1609_23
 obtain ⟨x1609_28, hx1609_28, hr⟩ := bind_some hr
 obtain ⟨x1609_27, hx1609_27, hx1609_28⟩ := ite_bind hx1609_28
 obtain ⟨x1609_33, hx1609_33, hr⟩ := bind_some hr
 obtain ⟨x1609_31, hx1609_31, hx1609_33⟩ := ite_bind hx1609_33
 refine cut (fun a' k' => Bs noF k0 143 a' k' ∧ (IsV x1603_1.1) (a'.get 2) k' ∧ (IsV x1609_33) (a'.get 12) k' ∧ True) ?_ hQ ?_
 ·intro Q1616 hQQ1616 hp1617
  refine gS 35 (_ :: _ :: _ :: _ :: _ :: _ :: _ :: _ :: _ :: _ :: _ :: _ :: _ :: _ :: _ :: _ :: _ :: _ :: _ :: _ :: _ :: _ :: _ :: _ :: _ :: _ :: _ :: _ :: _ :: _ :: _ :: _ :: _ :: _ :: _ :: []) hs (by kernel_rfl) ⟨mu rfl i3, o1 [(56, some 0)] rfl fun _ _ h n => ok_eqI rfl n.1 (cI rfl), cm 1 rfl rfl, mT rfl rfl i5, gT [(59, some 3)] rfl rfl fun hp _ _ h n => ok_eqI rfl (Gd.get n.1 hp) (cI rfl), o1 [(58, some 2), (60, some 4)] rfl fun _ _ h n => ok_pickAnd rfl n.1 (Gd.get n.2.1) (cB rfl), cm 5 rfl rfl, mT rfl rfl i7, gT [(63, some 7)] rfl rfl fun hp _ _ h n => ok_eqI rfl (Gd.get n.1 hp) (cI rfl), o1 [(62, some 6), (64, some 8)] rfl fun _ _ h n => ok_pickAnd rfl n.1 (Gd.get n.2.1) (cB rfl), cm 9 rfl rfl, mT rfl rfl i11, gT [(67, some 11)] rfl rfl fun hp _ _ h n => ok_eqI rfl (Gd.get n.1 hp) (cI rfl), o1 [(66, some 10), (68, some 12)] rfl fun _ _ h n => ok_pickAnd rfl n.1 (Gd.get n.2.1) (cB rfl), cm 13 rfl rfl, mT rfl rfl i2, mT rfl rfl i8, gT [(71, some 15), (72, some 16)] rfl rfl fun hp _ _ h n => ok_call rfl Try.call28 (ref09_Same_ok (Gd.get n.1 hp) (Gd.get n.2.1 hp) (hx1609_17 hp)), o1 [(70, some 14), (73, some 17)] rfl fun _ _ h n => ok_pickM rfl n.1 hx1609_18 (Gd.get n.2.1) (cB rfl), cm 18 rfl rfl, mT rfl rfl i6, mT rfl rfl i9, gT [(76, some 20), (77, some 21)] rfl rfl fun hp _ _ h n => ok_call rfl Try.call28 (ref09_Same_ok (Gd.get n.1 hp) (Gd.get n.2.1 hp) (hx1609_22 hp)), o1 [(75, some 19), (78, some 22)] rfl fun _ _ h n => ok_pickM rfl n.1 hx1609_23 (Gd.get n.2.1) (cB rfl), cm 23 rfl rfl, mT rfl rfl i6, mT rfl rfl i9, gT [(81, some 25), (82, some 26)] rfl rfl fun hp _ _ h n => ok_call rfl Try.call11 (solid_Same_ok (Gd.get n.1 hp) (Gd.get n.2.1 hp) (hx1609_27 hp)), o1 [(80, some 24), (83, some 27)] rfl fun _ _ h n => ok_pickM rfl n.1 hx1609_28 (Gd.get n.2.1) (cB rfl), cm 28 rfl rfl, mT rfl rfl i2, gT [(86, some 30)] rfl rfl fun hp _ _ h n => ok_call rfl Try.call12 (solid_Volume_ok (Gd.get n.1 hp) (hx1609_31 hp)), gT [(87, some 31)] rfl rfl fun hp _ _ h n => ok_eqI rfl (Gd.get n.1 hp) (cI rfl), o1 [(85, some 29), (88, some 32)] rfl fun _ _ h n => ok_pickM rfl n.1 hx1609_33 (Gd.get n.2.1) (cB rfl), cp 33 rfl rfl, trivial⟩ hQQ1616 fun b q p => ?_
  exact tail_done (k := q) (hp1617 _ _ ⟨Bs.post ⟨hg, hs, hd⟩ p, p.ke 2 rfl i2, p.ou 34 12 rfl, trivial⟩)
 rintro a k ⟨⟨hg, hs, hd⟩, i2, i12, _⟩
 refine wp_seq ?_
 obtain ⟨x1610_1, hx1610_1, hr⟩ := bind_some hr
 obtain ⟨x1610_7, hx1610_7, hr⟩ := bind_some hr
 obtain ⟨x1610_5, hx1610_5, hx1610_7⟩ := ite_bind hx1610_7
 obtain ⟨x1610_12, hx1610_12, hr⟩ := bind_some hr
 obtain ⟨x1610_10, hx1610_10, hx1610_12⟩ := ite_bind hx1610_12
 obtain ⟨x1610_18, hx1610_18, hr⟩ := bind_some hr
 obtain ⟨x1610_15, hx1610_15, hx1610_18⟩ := ite_bind hx1610_18
 obtain ⟨x1610_24, hx1610_24, hr⟩ := bind_some hr
 obtain ⟨x1610_21, hx1610_21, hx1610_24⟩ := ite_bind hx1610_24
 obtain ⟨x1610_30, hx1610_30, hr⟩ := bind_some hr
 obtain ⟨x1610_27, hx1610_27, hx1610_30⟩ := ite_bind hx1610_30
 refine cut (fun a' k' => Bs noF k0 143 a' k' ∧ (IsV x1603_1.1) (a'.get 2) k' ∧ (IsV x1609_33) (a'.get 12) k' ∧ (IsV x1610_30) (a'.get 13) k' ∧ True) ?_ hQ ?_
 ·intro Q1614 hQQ1614 hp1615
  refine gS 32 (_ :: _ :: _ :: _ :: _ :: _ :: _ :: _ :: _ :: _ :: _ :: _ :: _ :: _ :: _ :: _ :: _ :: _ :: _ :: _ :: _ :: _ :: _ :: _ :: _ :: _ :: _ :: _ :: _ :: _ :: _ :: _ :: []) hs (by kernel_rfl) ⟨mu rfl i2, o1 [(90, some 0)] rfl fun _ _ h n => ok_call rfl Try.call22 (solid_Top_ok n.1 (cI rfl) (cI rfl) hx1610_1), o1 [(91, some 1)] rfl fun _ _ h n => ok_eqI rfl n.1 (cI rfl), cm 2 rfl rfl, mT rfl rfl i2, gT [(94, some 4)] rfl rfl fun hp _ _ h n => ok_call rfl Try.call22 (solid_Top_ok (Gd.get n.1 hp) (cI rfl) (cI rfl) (hx1610_5 hp)), gT [(95, some 5)] rfl rfl fun hp _ _ h n => ok_eqI rfl (Gd.get n.1 hp) (cI rfl), o1 [(93, some 3), (96, some 6)] rfl fun _ _ h n => ok_pickM rfl n.1 hx1610_7 (Gd.get n.2.1) (cB rfl), cm 7 rfl rfl, mT rfl rfl i2, gT [(99, some 9)] rfl rfl fun hp _ _ h n => ok_call rfl Try.call22 (solid_Top_ok (Gd.get n.1 hp) (cI rfl) (cI rfl) (hx1610_10 hp)), gT [(100, some 10)] rfl rfl fun hp _ _ h n => ok_eqI rfl (Gd.get n.1 hp) (cI rfl), o1 [(98, some 8), (101, some 11)] rfl fun _ _ h n => ok_pickM rfl n.1 hx1610_12 (Gd.get n.2.1) (cB rfl), cm 12 rfl rfl, mT rfl rfl i2, gT [(104, some 14)] rfl rfl fun hp _ _ h n => ok_call rfl Try.call23 (solid_Section_ok (Gd.get n.1 hp) (cI rfl) (hx1610_15 hp)), gT [(105, some 15)] rfl rfl fun hp _ _ h n => ok_len rfl rfl Try.underlying44 (IsV.rd (Gd.get n.1 hp)), gT [(106, some 16)] rfl rfl fun hp _ _ h n => ok_eqI rfl (Gd.get n.1 hp) (cI rfl), o1 [(103, some 13), (107, some 17)] rfl fun _ _ h n => ok_pickM rfl n.1 hx1610_18 (Gd.get n.2.1) (cB rfl), cm 18 rfl rfl, mT rfl rfl i2, gT [(110, some 20)] rfl rfl fun hp _ _ h n => ok_call rfl Try.call23 (solid_Section_ok (Gd.get n.1 hp) (cI rfl) (hx1610_21 hp)), gT [(111, some 21)] rfl rfl fun hp _ _ h n => ok_len rfl rfl Try.underlying44 (IsV.rd (Gd.get n.1 hp)), gT [(112, some 22)] rfl rfl fun hp _ _ h n => ok_eqI rfl (Gd.get n.1 hp) (cI rfl), o1 [(109, some 19), (113, some 23)] rfl fun _ _ h n => ok_pickM rfl n.1 hx1610_24 (Gd.get n.2.1) (cB rfl), cm 24 rfl rfl, mT rfl rfl i2, gT [(116, some 26)] rfl rfl fun hp _ _ h n => ok_call rfl Try.call10 (solid_Boxes_ok (Gd.get n.1 hp) (hx1610_27 hp)), gT [(117, some 27)] rfl rfl fun hp _ _ h n => ok_len rfl rfl Try.underlying22 (IsV.rd (Gd.get n.1 hp)), gT [(118, some 28)] rfl rfl fun hp _ _ h n => ok_eqI rfl (Gd.get n.1 hp) (cI rfl), o1 [(115, some 25), (119, some 29)] rfl fun _ _ h n => ok_pickM rfl n.1 hx1610_30 (Gd.get n.2.1) (cB rfl), cp 30 rfl rfl, trivial⟩ hQQ1614 fun b q p => ?_
  exact tail_done (k := q) (hp1615 _ _ ⟨Bs.post ⟨hg, hs, hd⟩ p, p.ke 2 rfl i2, p.ke 12 rfl i12, p.ou 31 13 rfl, trivial⟩)
 rintro a k ⟨⟨hg, hs, hd⟩, i2, i12, i13, _⟩
 refine wp_seq ?_
 obtain ⟨x1611_7, hx1611_7, hr⟩ := bind_some hr
 obtain ⟨x1611_6, hx1611_6, hx1611_7⟩ := ite_bind hx1611_7
 obtain ⟨x1611_12, hx1611_12, hr⟩ := bind_some hr
 obtain ⟨x1611_10, hx1611_10, hx1611_12⟩ := ite_bind hx1611_12
 obtain ⟨x1611_15, hx1611_15, hr⟩ := bind_some hr
 obtain ⟨x1611_14, hx1611_14, hx1611_15⟩ := ite_bind hx1611_15
 obtain ⟨x1611_21, hx1611_21, hr⟩ := bind_some hr
 obtain ⟨x1611_19, hx1611_19, hx1611_21⟩ := ite_bind hx1611_21
 refine cut (fun a' k' => Bs noF k0 143 a' k' ∧ (IsV x1611_21) (a'.get 0) k' ∧ True) ?_ hQ ?_
 ·intro Q1612 hQQ1612 hp1613
  refine gS 23 (_ :: _ :: _ :: _ :: _ :: _ :: _ :: _ :: _ :: _ :: _ :: _ :: _ :: _ :: _ :: _ :: _ :: ⟨some (Gd (x1611_15 = true) (IsV (⟨0, 1, []⟩ : Slab))), []⟩ :: ⟨some (Gd (x1611_15 = true) (IsV (α := (List Slab)) ([(⟨0, 1, []⟩ : Slab)]))), [(138, some 17)]⟩ :: _ :: _ :: _ :: _ :: []) hs (by kernel_rfl) ⟨mu rfl i12, cm 0 rfl rfl, mT rfl rfl i13, o1 [(122, some 1), (123, some 2)] rfl fun _ _ h n => ok_pickAnd rfl n.1 (Gd.get n.2.1) (cB rfl), cm 3 rfl rfl, mT rfl rfl i2, gT [(126, some 5)] rfl rfl fun hp _ _ h n => ok_call rfl Try.call19 (solid_Has_ok (Gd.get n.1 hp) (cI rfl) (cI rfl) (cI rfl) (hx1611_6 hp)), o1 [(125, some 4), (127, some 6)] rfl fun _ _ h n => ok_pickM rfl n.1 hx1611_7 (Gd.get n.2.1) (cB rfl), cm 7 rfl rfl, mT rfl rfl i2, gT [(130, some 9)] rfl rfl fun hp _ _ h n => ok_call rfl Try.call19 (solid_Has_ok (Gd.get n.1 hp) (cI rfl) (cI rfl) (cI rfl) (hx1611_10 hp)), gT [(131, some 10)] rfl rfl fun hp _ _ h n => ok_not rfl (Gd.get n.1 hp), o1 [(129, some 8), (132, some 11)] rfl fun _ _ h n => ok_pickM rfl n.1 hx1611_12 (Gd.get n.2.1) (cB rfl), cm 12 rfl rfl, gT [] rfl rfl fun hp _ _ h n => ok_call rfl Try.call17 (solid_Right_ok (isV_list.2 (.inl ⟨rfl, rfl⟩)) (hx1611_14 hp)), o1 [(134, some 13), (135, some 14)] rfl fun _ _ h n => ok_pickM rfl n.1 hx1611_15 (Gd.get n.2.1) (cB rfl), cm 15 rfl rfl, gdT rfl rfl fun hp _ _ h n => ok_build rfl (bld47_0_1 (cI rfl) (cI rfl)), gdT rfl rfl fun hp _ _ h n => ok_buildSlice rfl Try.underlying24 eo47 rfl (by decide) (by decide) ⟨rfl, (Gd.get n.1 hp), trivial⟩, gT [(139, some 18)] rfl rfl fun hp _ _ h n => ok_call rfl Try.call17 (solid_Right_ok (Gd.get n.1 hp) (hx1611_19 hp)), gT [(140, some 19)] rfl rfl fun hp _ _ h n => ok_not rfl (Gd.get n.1 hp), o1 [(137, some 16), (141, some 20)] rfl fun _ _ h n => ok_pickM rfl n.1 hx1611_21 (Gd.get n.2.1) (cB rfl), cp 21 rfl rfl, trivial⟩ hQQ1612 fun b q p => ?_
  exact tail_done (k := q) (hp1613 _ _ ⟨Bs.post ⟨hg, hs, hd⟩ p, p.ou 22 0 rfl, trivial⟩)
 rintro a k ⟨⟨hg, hs, hd⟩, i0, _⟩
 refine wp_ret ?_
 obtain rfl := Option.some.inj hr
 exact retC1 rfl hd hg i0
def law09_rects_L0 (a_ : (List Rect)) (b_ : (List Rect)) (s1640 : Int) : Option (Flow (Int) (Bool)) :=
 if (decide (s1640 < (a_.length : Int))) then
  (getI a_ s1640).bind fun x1645_2 =>
  (getI b_ s1640).bind fun x1645_6 =>
  if (!decide (x1645_2 = x1645_6)) then
   some (.ret false)
  else
   (addI s1640 1).bind fun x1649_1 =>
   some (.go x1649_1)
 else
  some (.ex 0 s1640)
def law09_rects (a_ : (List Rect)) (b_ : (List Rect)) : Option (Bool) :=
 if ((a_.length : Int) != (b_.length : Int)) then
  some false
 else
  (iterL (law09_rects_L0 a_ b_) (a_.length + b_.length + 1) 0).bind fun f1658 => match f1658 with
   | .go _ => none
   | .ex _ _ =>
    some true
   | .ret r1663 => some r1663
theorem law09_rects_ok {k0 : K} {v0 v1 : Value} {a_ : (List Rect)} {b_ : (List Rect)} {r : Bool} (i0 : (IsV a_) v0 k0) (i1 : (IsV b_) v1 k0) (hr : law09_rects a_ b_ = some r) :
  Calls Try.prog 25 #[v0, v1] k0.w (Ret k0 (IsV r)) := by
 unfold law09_rects at hr
 refine Ret.ofC ?_
 refine enterK Try.func25 rfl Try.ntmps25 (show 2 ≤ 26 by decide) fun a k hk0 hs hd ha => ?_
 obtain ⟨e0, e1, _⟩ := ha
 replace i0 : (IsV a_) (a.get 0) k := by rw [e0, hk0]; exact i0
 replace i1 : (IsV b_) (a.get 1) k := by rw [e1, hk0]; exact i1
 have hQ : Gb.LetsOut (bodyPost Try.prog Try.f25 (RetC noF k0 (IsV r))) := letsOutC
 have hg : Chg noF k0 k := by rw [hk0]; exact Chg.refl _ k0
 refine stepL 1 (⟨some (IsV false), []⟩ :: []) rfl ⟨hg, hs, hd⟩ (by kernel_rfl) ⟨ob1 rfl fun _ _ h n => ok_assign rfl (isV_bool.2 rfl), trivial⟩ [⟨_, _⟩, ⟨_, _⟩] (fun b q p => ⟨p.ke 0 rfl i0, p.ke 1 rfl i1, trivial⟩) ?_
 rintro a k ⟨⟨hg, hs, hd⟩, i0, i1, _⟩
 refine wp_seq ?_
 refine stepL 5 (_ :: _ :: _ :: _ :: ⟨some (IsV ((a_.length : Int) != (b_.length : Int))), [(7, some 1), (9, some 3)]⟩ :: []) rfl ⟨hg, hs, hd⟩ (by kernel_rfl) ⟨mu rfl i0, o1 [(6, some 0)] rfl fun _ _ h n => ok_len rfl rfl Try.underlying44 (IsV.rd n.1), mu rfl i1, o1 [(8, some 2)] rfl fun _ _ h n => ok_len rfl rfl Try.underlying44 (IsV.rd n.1), ob1 rfl fun _ _ h n => ok_neI rfl n.1 n.2.1, trivial⟩ [⟨_, _⟩, ⟨_, _⟩, ⟨_, _⟩] (fun b q p => ⟨p.ke 0 rfl i0, p.ke 1 rfl i1, p.ou 4 10 rfl, trivial⟩) ?_
 rintro a k ⟨⟨hg, hs, hd⟩, i0, i1, i10, _⟩
 refine wp_cond_split (isBool i10) (fun hc1667 => ?_) (fun hc1667 => ?_)
 ·rw [if_pos hc1667] at hr
  refine stepL 1 (⟨some (IsV false), []⟩ :: []) rfl ⟨hg, hs, hd⟩ (by kernel_rfl) ⟨ob1 rfl fun _ _ h n => ok_assign rfl (isV_bool.2 rfl), trivial⟩ [⟨_, _⟩] (fun b q p => ⟨p.ou 0 4 rfl, trivial⟩) ?_
  rintro a k ⟨⟨hg, hs, hd⟩, i4, _⟩
  refine wp_ret ?_
  obtain rfl := Option.some.inj hr
  exact retC1 rfl hd hg i4
 rw [if_neg (by rw [hc1667]; decide)] at hr
 refine wp_skip ?_
 refine wp_seq ?_
 refine stepL 1 (⟨some (IsI 0), []⟩ :: []) rfl ⟨hg, hs, hd⟩ (by kernel_rfl) ⟨aI rfl rfl, trivial⟩ [⟨_, _⟩, ⟨_, _⟩, ⟨_, _⟩] (fun b q p => ⟨p.ke 0 rfl i0, p.ke 1 rfl i1, p.ou 0 5 rfl, trivial⟩) ?_
 rintro a k ⟨⟨hg, hs, hd⟩, i0, i1, i5, _⟩
 refine wp_block ?_
 obtain ⟨f1658, hf1658, hr⟩ := bind_some hr
 refine cutFe f1658 (fun s' a' k' => Bs noF k0 26 a' k' ∧ (IsV a_) (a'.get 0) k' ∧ (IsV b_) (a'.get 1) k' ∧ (IsV s') (a'.get 5) k' ∧ True) (fun i' s' a' k' => (i' = 0 ∧ Bs noF k0 26 a' k' ∧ True)) (fun r' a' k' => bodyPost Try.prog Try.f25 (RetC noF k0 (IsV r')) .ret a' k'.w) ?_ hQ ?_ ?_ ?_
 ·intro Q1664 hQQ1664 hgo hex hret
  refine sim_loop ?_ _ _ _ _ _ hf1658 ⟨⟨hg, hs, hd⟩, i0, i1, i5, trivial⟩ Q1664 hQQ1664 hgo hex hret
  clear hr hf1658 hgo hex hret hQQ1664 hQ hg hs hd i0 i1 i5
  intro s1640 fl_ a k hr hS Q hQ hgo1641 hex1642 hret1643
  obtain ⟨⟨hg, hs, hd⟩, i0, i1, i5, _⟩ := hS
  unfold law09_rects_L0 at hr
  refine wp_seq ?_
  refine stepL 4 (_ :: _ :: _ :: _ :: []) rfl ⟨hg, hs, hd⟩ (by kernel_rfl) ⟨mu rfl i5, mu rfl i0, o1 [(12, some 1)] rfl fun _ _ h n => ok_len rfl rfl Try.underlying44 (IsV.rd n.1), o1 [(11, some 0), (13, some 2)] rfl fun _ _ h n => ok_lss rfl n.1 n.2.1, trivial⟩ [⟨_, _⟩, ⟨_, _⟩, ⟨_, _⟩, ⟨_, _⟩] (fun b q p => ⟨p.ke 0 rfl i0, p.ke 1 rfl i1, p.ke 5 rfl i5, p.ou 3 14 rfl, trivial⟩) ?_
  rintro a k ⟨⟨hg, hs, hd⟩, i0, i1, i5, i14, _⟩
  refine wp_cond_split (isBool i14) (fun hc1655 => ?_) (fun hc1655 => ?_)
  ·rw [if_pos hc1655] at hr
   refine wp_skip ?_
   refine wp_seq ?_
   refine wp_block ?_
   refine wp_seq ?_
   obtain ⟨x1645_2, hx1645_2, hr⟩ := bind_some hr
   obtain ⟨x1645_6, hx1645_6, hr⟩ := bind_some hr
   refine cut (fun a' k' => Bs noF k0 26 a' k' ∧ (IsV a_) (a'.get 0) k' ∧ (IsV b_) (a'.get 1) k' ∧ (IsV s1640) (a'.get 5) k' ∧ (IsV (!decide (x1645_2 = x1645_6))) (a'.get 25) k' ∧ True) ?_ hQ ?_
   ·intro Q1653 hQQ1653 hp1654
    refine region (a0 := a) (k0 := k) (n := 26) (m := 9) (⟨some (IsV a_), [(0, none)]⟩ :: ⟨some (IsV s1640), [(5, none)]⟩ :: ⟨some (IsPtr x1645_2), [(17, some 0), (18, some 1)]⟩ :: ⟨some (IsV x1645_2), [(19, some 2)]⟩ :: ⟨some (IsV b_), [(1, none)]⟩ :: ⟨some (IsV s1640), [(5, none)]⟩ :: ⟨some (IsPtr x1645_6), [(21, some 4), (22, some 5)]⟩ :: ⟨some (IsV x1645_6), [(23, some 6)]⟩ :: ⟨some (IsV (!decide (x1645_2 = x1645_6))), [(20, some 3), (24, some 7)]⟩ :: []) hmix hs (by kernel_rfl) ⟨ob1 rfl fun b q hk hn => ok_move rfl (up i0 hk hn.1), ob1 rfl fun b q hk hn => ok_move rfl (up i5 hk hn.1), ob1 rfl fun b q hk hn => ok_indexAddr rfl Try.underlying44 ty30 (IsV.rd hn.1) hn.2.1 hx1645_2, ob1 rfl fun b q hk hn => ok_load rfl ty30 hn.1, ob1 rfl fun b q hk hn => ok_move rfl (up i1 hk hn.1), ob1 rfl fun b q hk hn => ok_move rfl (up i5 hk hn.1), ob1 rfl fun b q hk hn => ok_indexAddr rfl Try.underlying44 ty30 (IsV.rd hn.1) hn.2.1 hx1645_6, ob1 rfl fun b q hk hn => ok_load rfl ty30 hn.1, ob1 rfl fun b q hk hn => ok_neA rfl eq30 hn.1 hn.2.1, trivial⟩ hQQ1653 fun b q p => ?_
    exact tail_done (k := q) (hp1654 _ _ ⟨Bs.post ⟨hg, hs, hd⟩ p, p.ke 0 rfl i0, p.ke 1 rfl i1, p.ke 5 rfl i5, p.ou 8 25 rfl, trivial⟩)
   rintro a k ⟨⟨hg, hs, hd⟩, i0, i1, i5, i25, _⟩
   refine wp_cond_split (isBool i25) (fun hc1652 => ?_) (fun hc1652 => ?_)
   ·rw [if_pos hc1652] at hr
    refine stepL 1 (⟨some (IsV false), []⟩ :: []) rfl ⟨hg, hs, hd⟩ (by kernel_rfl) ⟨ob1 rfl fun _ _ h n => ok_assign rfl (isV_bool.2 rfl), trivial⟩ [⟨_, _⟩] (fun b q p => ⟨p.ou 0 4 rfl, trivial⟩) ?_
    rintro a k ⟨⟨hg, hs, hd⟩, i4, _⟩
    refine wp_ret ?_
    exact hret1643 _ _ _ (Option.some.inj hr).symm (retC1 rfl hd hg i4)
   rw [if_neg (by rw [hc1652]; decide)] at hr
   refine wp_skip ?_
   obtain ⟨x1649_1, hx1649_1, hr⟩ := bind_some hr
   refine cut (fun a' k' => Bs noF k0 26 a' k' ∧ (IsV a_) (a'.get 0) k' ∧ (IsV b_) (a'.get 1) k' ∧ (IsV x1649_1) (a'.get 5) k' ∧ True) ?_ hQ ?_
   ·intro Q1650 hQQ1650 hp1651
    refine gS 3 (_ :: _ :: _ :: []) hs (by kernel_rfl) ⟨mu rfl i5, o1 [(15, some 0)] rfl fun _ _ h n => ok_add rfl n.1 (cI rfl) hx1649_1, cp 1 rfl rfl, trivial⟩ hQQ1650 fun b q p => ?_
    exact tail_done (k := q) (hp1651 _ _ ⟨Bs.post ⟨hg, hs, hd⟩ p, p.ke 0 rfl i0, p.ke 1 rfl i1, p.ou 2 5 rfl, trivial⟩)
   rintro a k ⟨⟨hg, hs, hd⟩, i0, i1, i5, _⟩
   exact hgo1641 _ _ _ (Option.some.inj hr).symm ⟨⟨hg, hs, hd⟩, i0, i1, i5, trivial⟩
  rw [if_neg (by rw [hc1655]; decide)] at hr
  refine wp_exit ?_
  exact hex1642 _ _ _ _ (Option.some.inj hr).symm ⟨rfl, ⟨hg, hs, hd⟩, trivial⟩
 ·rintro r1663 a k rfl hR
  dsimp only at hr
  obtain rfl := Option.some.inj hr
  exact hR
 ·rintro _ _ _ rfl _
  simp at hr
 clear hf1658
 rintro _ s1659 a k rfl ⟨rfl, ⟨hg, hs, hd⟩, _⟩
 dsimp only at hr
 refine stepL 1 (⟨some (IsV true), []⟩ :: []) rfl ⟨hg, hs, hd⟩ (by kernel_rfl) ⟨ob1 rfl fun _ _ h n => ok_assign rfl (isV_bool.2 rfl), trivial⟩ [⟨_, _⟩] (fun b q p => ⟨p.ou 0 4 rfl, trivial⟩) ?_
 rintro a k ⟨⟨hg, hs, hd⟩, i4, _⟩
 refine wp_ret ?_
 obtain rfl := Option.some.inj hr
 exact retC1 rfl hd hg i4
def region_Area_L0 (a_ : (List Rect)) (s1679 : Int × Int) : Option (Flow (Int × Int) (Int)) :=
 if (decide (s1679.2 < (a_.length : Int))) then
  (getI a_ s1679.2).bind fun x1684_0 =>
  (rect_Area x1684_0).bind fun x1685_2 =>
  (addI s1679.1 x1685_2).bind fun x1685_3 =>
  (addI s1679.2 1).bind fun x1686_0 =>
  some (.go (x1685_3, x1686_0))
 else
  some (.ex 0 (s1679.1, s1679.2))
def region_Area (a_ : (List Rect)) : Option (Int) :=
 (region_Right a_).bind fun x1673_1 =>
 if (!x1673_1) then
  some 0
 else
  (iterL (region_Area_L0 a_) (a_.length + 1) (0, 0)).bind fun f1696 => match f1696 with
   | .go _ => none
   | .ex _ s1697 =>
    some s1697.1
   | .ret r1701 => some r1701
theorem region_Area_ok {k0 : K} {v0 : Value} {a_ : (List Rect)} {r : Int} (i0 : (IsV a_) v0 k0) (hr : region_Area a_ = some r) :
  Calls Try.prog 27 #[v0] k0.w (Ret k0 (IsV r)) := by
 unfold region_Area at hr
 refine Ret.ofC ?_
 refine enterK Try.func27 rfl Try.ntmps27 (show 1 ≤ 21 by decide) fun a k hk0 hs hd ha => ?_
 obtain ⟨e0, _⟩ := ha
 replace i0 : (IsV a_) (a.get 0) k := by rw [e0, hk0]; exact i0
 have hQ : Gb.LetsOut (bodyPost Try.prog Try.f27 (RetC noF k0 (IsV r))) := letsOutC
 have hg : Chg noF k0 k := by rw [hk0]; exact Chg.refl _ k0
 refine stepL 1 (⟨some (IsI 0), []⟩ :: []) rfl ⟨hg, hs, hd⟩ (by kernel_rfl) ⟨aI rfl rfl, trivial⟩ [⟨_, _⟩] (fun b q p => ⟨p.ke 0 rfl i0, trivial⟩) ?_
 rintro a k ⟨⟨hg, hs, hd⟩, i0, _⟩
 refine wp_seq ?_
 refine wp_seq ?_
 obtain ⟨x1673_1, hx1673_1, hr⟩ := bind_some hr
 refine cut (fun a' k' => Bs noF k0 21 a' k' ∧ (IsV a_) (a'.get 0) k' ∧ (IsV (!x1673_1)) (a'.get 8) k' ∧ True) ?_ hQ ?_
 ·intro Q1708 hQQ1708 hp1709
  refine gS 3 (_ :: _ :: _ :: []) hs (by kernel_rfl) ⟨mu rfl i0, o1 [(6, some 0)] rfl fun _ _ h n => ok_call rfl Try.call41 (region_Right_ok n.1 hx1673_1), o1 [(7, some 1)] rfl fun _ _ h n => ok_not rfl n.1, trivial⟩ hQQ1708 fun b q p => ?_
  exact tail_done (k := q) (hp1709 _ _ ⟨Bs.post ⟨hg, hs, hd⟩ p, p.ke 0 rfl i0, p.ou 2 8 rfl, trivial⟩)
 rintro a k ⟨⟨hg, hs, hd⟩, i0, i8, _⟩
 refine wp_cond_split (isBool i8) (fun hc1707 => ?_) (fun hc1707 => ?_)
 ·rw [if_pos hc1707] at hr
  refine stepL 1 (⟨some (IsI 0), []⟩ :: []) rfl ⟨hg, hs, hd⟩ (by kernel_rfl) ⟨aI rfl rfl, trivial⟩ [⟨_, _⟩] (fun b q p => ⟨p.ou 0 2 rfl, trivial⟩) ?_
  rintro a k ⟨⟨hg, hs, hd⟩, i2, _⟩
  refine wp_ret ?_
  obtain rfl := Option.some.inj hr
  exact retC1 rfl hd hg i2
 rw [if_neg (by rw [hc1707]; decide)] at hr
 refine wp_skip ?_
 refine stepL 1 (⟨some (IsI 0), []⟩ :: []) rfl ⟨hg, hs, hd⟩ (by kernel_rfl) ⟨aI rfl rfl, trivial⟩ [⟨_, _⟩, ⟨_, _⟩] (fun b q p => ⟨p.ke 0 rfl i0, p.ou 0 3 rfl, trivial⟩) ?_
 rintro a k ⟨⟨hg, hs, hd⟩, i0, i3, _⟩
 refine wp_seq ?_
 refine stepL 3 (_ :: _ :: ⟨some (IsI 0), []⟩ :: []) rfl ⟨hg, hs, hd⟩ (by kernel_rfl) ⟨mu rfl i0, o1 [(9, some 0)] rfl fun _ _ h n => ok_len rfl rfl Try.underlying44 (IsV.rd n.1), ob1 rfl fun _ _ h n => ok_move rfl (cI rfl), trivial⟩ [⟨_, _⟩, ⟨_, _⟩, ⟨_, _⟩, ⟨_, _⟩] (fun b q p => ⟨p.ke 3 rfl i3, p.ou 0 9 rfl, p.ou 1 10 rfl, p.ou 2 11 rfl, trivial⟩) ?_
 rintro a k ⟨⟨hg, hs, hd⟩, i3, i9, i10, i11, _⟩
 refine wp_block ?_
 obtain ⟨f1696, hf1696, hr⟩ := bind_some hr
 refine cutFe f1696 (fun s' a' k' => Bs noF k0 21 a' k' ∧ (IsV s'.1) (a'.get 3) k' ∧ (IsV a_) (a'.get 9) k' ∧ (IsL a_) (a'.get 10) k' ∧ (IsV s'.2) (a'.get 11) k' ∧ True) (fun i' s' a' k' => (i' = 0 ∧ Bs noF k0 21 a' k' ∧ (IsV s'.1) (a'.get 3) k' ∧ True)) (fun r' a' k' => bodyPost Try.prog Try.f27 (RetC noF k0 (IsV r')) .ret a' k'.w) ?_ hQ ?_ ?_ ?_
 ·intro Q1702 hQQ1702 hgo hex hret
  refine sim_loop ?_ _ _ _ _ _ hf1696 ⟨⟨hg, hs, hd⟩, i3, i9, i10, i11, trivial⟩ Q1702 hQQ1702 hgo hex hret
  clear hr hf1696 hgo hex hret hQQ1702 hQ hg hs hd i10 i11 i3 i9
  intro s1679 fl_ a k hr hS Q hQ hgo1680 hex1681 hret1682
  obtain ⟨⟨hg, hs, hd⟩, i3, i9, i10, i11, _⟩ := hS
  unfold region_Area_L0 at hr
  refine stepL 1 (_ :: []) rfl ⟨hg, hs, hd⟩ (by kernel_rfl) ⟨o1 [(11, none), (10, none)] rfl fun _ _ h n => ok_lss rfl (up i11 h n.1) (up i10 h n.2.1), trivial⟩ [⟨_, _⟩, ⟨_, _⟩, ⟨_, _⟩, ⟨_, _⟩, ⟨_, _⟩] (fun b q p => ⟨p.ke 3 rfl i3, p.ke 9 rfl i9, p.ke 10 rfl i10, p.ke 11 rfl i11, p.ou 0 12 rfl, trivial⟩) ?_
  rintro a k ⟨⟨hg, hs, hd⟩, i3, i9, i10, i11, i12, _⟩
  refine wp_seq ?_
  refine wp_cond_split (isBool i12) (fun hc1693 => ?_) (fun hc1693 => ?_)
  ·rw [if_pos hc1693] at hr
   refine wp_skip ?_
   refine wp_seq ?_
   refine wp_block ?_
   refine wp_seq ?_
   obtain ⟨x1684_0, hx1684_0, hr⟩ := bind_some hr
   refine cut (fun a' k' => Bs noF k0 21 a' k' ∧ (IsV s1679.1) (a'.get 3) k' ∧ (IsRef x1684_0) (a'.get 5) k' ∧ (IsV a_) (a'.get 9) k' ∧ (IsL a_) (a'.get 10) k' ∧ (IsV s1679.2) (a'.get 11) k' ∧ True) ?_ hQ ?_
   ·intro Q1691 hQQ1691 hp1692
    refine gS 3 (_ :: _ :: ⟨some (IsBox k.w.heap.size (⟨0, 0, 0, 0⟩ : Rect)), []⟩ :: []) hs (by kernel_rfl) ⟨o1 [(9, none), (11, none)] rfl fun _ _ h n => ok_indexAddr rfl Try.underlying44 ty30 (IsV.rd (up i9 h n.1)) (up i11 h n.2.1) hx1684_0, o1 [(13, some 0)] rfl fun _ _ h n => ok_load rfl ty30 n.1, ob1 rfl fun _ _ h n => ok_alloc _ h.size rfl z30, trivial⟩ hQQ1691 fun b q p => ?_
    have hgq := hg.then p.grow
    have hsb := p.size.trans hs
    have hdb := p.defers.trans hd
    have j3 := p.ke 3 rfl i3
    obtain ⟨b5, j5, x5, z5⟩ : (IsBox k.w.heap.size (⟨0, 0, 0, 0⟩ : Rect)) (b.get 5) q := p.ou 2 5 rfl
    replace x5 : Lo k (Eq b5) := Lo.eq x5
    have y5 : Lo k0 (Eq b5) := x5.chg hg
    have j9 := p.ke 9 rfl i9
    have j10 := p.ke 10 rfl i10
    have j11 := p.ke 11 rfl i11
    have j14 : (IsV x1684_0) (b.get 14) q := p.ou 1 14 rfl
    have hns := z5.nshF
    refine tail_storeB (i := 3) rfl rfl rfl rfl szf30 (Upd.self (α := Rect)) j5 z5 j14 fun q2 hch hz => ?_
    replace hgq := hgq.step hch y5.wr
    have hle := hch.le hns
    replace j3 := Pers.pers hle j3
    replace j9 := Pers.pers hle j9
    replace j10 := Pers.pers hle j10
    replace j11 := Pers.pers hle j11
    replace j14 := Pers.pers hle j14
    replace z5 := hz
    clear hns hle hch
    obtain ⟨q, hqq⟩ : ∃ q, q = q2 := ⟨q2, rfl⟩
    subst hqq
    obtain ⟨q2, hsh, jn⟩ := z5.give
    replace j3 := Pers.pers hsh.le j3
    replace j9 := Pers.pers hsh.le j9
    replace j10 := Pers.pers hsh.le j10
    replace j11 := Pers.pers hsh.le j11
    rw [← j5] at jn
    replace j5 := jn
    replace hgq := hgq.hand hsh y5.wr
    rw [← hsh.w]
    clear hsh
    obtain ⟨q, hqq⟩ : ∃ q, q = q2 := ⟨q2, rfl⟩
    subst hqq
    exact tail_done (k := q) (hp1692 _ _ ⟨⟨hgq, hsb, hdb⟩, j3, j5, j9, j10, j11, trivial⟩)
   rintro a k ⟨⟨hg, hs, hd⟩, i3, i5, i9, i10, i11, _⟩
   obtain ⟨x1685_2, hx1685_2, hr⟩ := bind_some hr
   obtain ⟨x1685_3, hx1685_3, hr⟩ := bind_some hr
   refine cut (fun a' k' => Bs noF k0 21 a' k' ∧ (IsV x1685_3) (a'.get 3) k' ∧ (IsV a_) (a'.get 9) k' ∧ (IsL a_) (a'.get 10) k' ∧ (IsV s1679.2) (a'.get 11) k' ∧ True) ?_ hQ ?_
   ·intro Q1689 hQQ1689 hp1690
    refine gS 5 (_ :: _ :: _ :: _ :: _ :: []) hs (by kernel_rfl) ⟨mu rfl i3, o1 [(5, none)] rfl fun _ _ h n => ok_load rfl ty30 ((up i5 h n.1)).ptr, o1 [(16, some 1)] rfl fun _ _ h n => ok_call rfl Try.call36 (rect_Area_ok n.1 hx1685_2), o1 [(15, some 0), (17, some 2)] rfl fun _ _ h n => ok_add rfl n.1 n.2.1 hx1685_3, cp 3 rfl rfl, trivial⟩ hQQ1689 fun b q p => ?_
    exact tail_done (k := q) (hp1690 _ _ ⟨Bs.post ⟨hg, hs, hd⟩ p, p.ou 4 3 rfl, p.ke 9 rfl i9, p.ke 10 rfl i10, p.ke 11 rfl i11, trivial⟩)
   rintro a k ⟨⟨hg, hs, hd⟩, i3, i9, i10, i11, _⟩
   obtain ⟨x1686_0, hx1686_0, hr⟩ := bind_some hr
   refine cut (fun a' k' => Bs noF k0 21 a' k' ∧ (IsV x1685_3) (a'.get 3) k' ∧ (IsV a_) (a'.get 9) k' ∧ (IsL a_) (a'.get 10) k' ∧ (IsV x1686_0) (a'.get 11) k' ∧ True) ?_ hQ ?_
   ·intro Q1687 hQQ1687 hp1688
    refine gS 2 (_ :: _ :: []) hs (by kernel_rfl) ⟨o1 [(11, none)] rfl fun _ _ h n => ok_add rfl (up i11 h n.1) (cI rfl) hx1686_0, cm 0 rfl rfl, trivial⟩ hQQ1687 fun b q p => ?_
    exact tail_done (k := q) (hp1688 _ _ ⟨Bs.post ⟨hg, hs, hd⟩ p, p.ke 3 rfl i3, p.ke 9 rfl i9, p.ke 10 rfl i10, p.ou 1 11 rfl, trivial⟩)
   rintro a k ⟨⟨hg, hs, hd⟩, i3, i9, i10, i11, _⟩
   exact hgo1680 _ _ _ (Option.some.inj hr).symm ⟨⟨hg, hs, hd⟩, i3, i9, i10, i11, trivial⟩
  rw [if_neg (by rw [hc1693]; decide)] at hr
  refine wp_exit ?_
  exact hex1681 _ _ _ _ (Option.some.inj hr).symm ⟨rfl, ⟨hg, hs, hd⟩, i3, trivial⟩
 ·rintro r1701 a k rfl hR
  dsimp only at hr
  obtain rfl := Option.some.inj hr
  exact hR
 ·rintro _ _ _ rfl _
  simp at hr
 clear hf1696
 rintro _ s1697 a k rfl ⟨rfl, ⟨hg, hs, hd⟩, i3, _⟩
 dsimp only at hr
 refine stepL 2 (_ :: _ :: []) rfl ⟨hg, hs, hd⟩ (by kernel_rfl) ⟨mu rfl i3, cp 0 rfl rfl, trivial⟩ [⟨_, _⟩] (fun b q p => ⟨p.ou 1 2 rfl, trivial⟩) ?_
 rintro a k ⟨⟨hg, hs, hd⟩, i2, _⟩
 refine wp_ret ?_
 obtain rfl := Option.some.inj hr
 exact retC1 rfl hd hg i2
def law09_SolidSections_L0 (l_ : (List Box)) (x_ : Int) (y_ : Int) (z_ : Int) (s1726 : (List Rect) × Int × Int) : Option (Flow ((List Rect) × Int × Int) (Bool)) :=
 if (decide (s1726.2.2 < (l_.length : Int))) then
  (getI l_ s1726.2.2).bind fun x1731_2 =>
  (if ((decide (x1731_2.Z0 ≤ z_)) && (decide (z_ < x1731_2.Z1))) then
   (appI s1726.1 ([x1731_2.Base])).bind fun x1735_4 =>
   some x1735_4
  else
   some s1726.1).bind fun s1733 =>
  (if ((((decide (x1731_2.Base.X0 ≤ x_)) && (decide (x_ < x1731_2.Base.X1))) && (decide (x1731_2.Base.Y0 ≤ y_))) && (decide (y_ < x1731_2.Base.Y1))) then
   some (max s1726.2.1 x1731_2.Z1)
  else
   some s1726.2.1).bind fun s1740 =>
  (addI s1726.2.2 1).bind fun x1746_1 =>
  some (.go (s1733, s1740, x1746_1))
 else
  some (.ex 0 (s1726.1, s1726.2.1, s1726.2.2))
def law09_SolidSections_L1 (x1718_1 : (List Slab) × Int) (s1770 : Int × Int) : Option (Flow (Int × Int) (Bool)) :=
 if (decide (s1770.2 < (x1718_1.1.length : Int))) then
  (getI x1718_1.1 s1770.2).bind fun x1775_3 =>
  (solid_Section x1718_1.1 x1775_3.Z0).bind fun x1775_6 =>
  (getI x1718_1.1 s1770.2).bind fun x1776_3 =>
  (law09_rects x1775_6 x1776_3.Area).bind fun x1776_6 =>
  (if (!x1776_6) then
   some true
  else
   (getI x1718_1.1 s1770.2).bind fun x1776_12 =>
   (subI x1776_12.Z1 1).bind fun x1776_15 =>
   (solid_Section x1718_1.1 x1776_15).bind fun x1776_16 =>
   (law09_rects x1776_16 x1775_6).bind fun x1776_18 =>
   some (!x1776_18)).bind fun x1776_20 =>
  (if x1776_20 then
   some true
  else
   (getI x1718_1.1 s1770.2).bind fun x1776_25 =>
   (solid_Section x1718_1.1 x1776_25.Z1).bind fun x1776_28 =>
   (law09_rects x1776_28 x1775_6).bind fun x1776_30 =>
   some x1776_30).bind fun x1776_31 =>
  (if x1776_31 then
   some true
  else
   (getI x1718_1.1 s1770.2).bind fun x1776_36 =>
   (subI x1776_36.Z0 1).bind fun x1776_39 =>
   (solid_Section x1718_1.1 x1776_39).bind fun x1776_40 =>
   (law09_rects x1776_40 x1775_6).bind fun x1776_42 =>
   some x1776_42).bind fun x1776_43 =>
  if x1776_43 then
   some (.ret false)
  else
   (getI x1718_1.1 s1770.2).bind fun x1780_3 =>
   (getI x1718_1.1 s1770.2).bind fun x1780_8 =>
   (subI x1780_3.Z1 x1780_8.Z0).bind fun x1780_11 =>
   (region_Area x1775_6).bind fun x1780_13 =>
   (mulI x1780_11 x1780_13).bind fun x1780_14 =>
   (addI s1770.1 x1780_14).bind fun x1780_15 =>
   (addI s1770.2 1).bind fun x1781_1 =>
   some (.go (x1780_15, x1781_1))
 else
  some (.ex 2 (s1770.1, s1770.2))
def law09_SolidSections (l_ : (List Box)) (x_ : Int) (y_ : Int) (z_ : Int) : Option (Bool) :=
 (law09_small).bind fun x1713_0 =>
 if (decide (8 < (l_.length : Int))) then
  some x1713_0
 else
  (solid_Of l_).bind fun x1718_1 =>
  if (x1718_1.2 != 0) then
   some ((x1713_0 && (x1718_1.2 == 1)) && ((x1718_1.1.length : Int) == 0))
  else
   (iterL (law09_SolidSections_L0 l_ x_ y_ z_) (l_.length + x1718_1.1.length + ([] : List Rect).length + 1) (([] : List Rect), 0, 0)).bind fun f1761 => match f1761 with
    | .go _ => none
    | .ex _ s1762 =>
     (region_Of s1762.1).bind fun x1763_1 =>
     (if (x1763_1.2 != 0) then
      some true
     else
      (solid_Section x1718_1.1 z_).bind fun x1764_5 =>
      (law09_rects x1764_5 x1763_1.1).bind fun x1764_7 =>
      some (!x1764_7)).bind fun x1764_9 =>
     (if x1764_9 then
      some true
     else
      (solid_Top x1718_1.1 x_ y_).bind fun x1764_14 =>
      some (x1764_14 != s1762.2.1)).bind fun x1764_17 =>
     (if x1764_17 then
      some true
     else
      (solid_Has x1718_1.1 x_ y_ z_).bind fun x1764_23 =>
      (region_Has x1763_1.1 x_ y_).bind fun x1764_27 =>
      some (x1764_23 != x1764_27)).bind fun x1764_29 =>
     if x1764_29 then
      some false
     else
      (iterL (law09_SolidSections_L1 x1718_1) (x1718_1.1.length + 1) (0, 0)).bind fun f1794 => match f1794 with
       | .go _ => none
       | .ex _ s1795 =>
        (if x1713_0 then
         (solid_Volume x1718_1.1).bind fun x1796_3 =>
         some (x1796_3 == s1795.1)
        else
         some false).bind fun x1796_6 =>
        some x1796_6
       | .ret r1799 => some r1799
    | .ret r1810 => some r1810
theorem law09_SolidSections_ok {k0 : K} {v0 v1 v2 v3 : Value} {l_ : (List Box)} {x_ : Int} {y_ : Int} {z_ : Int} {r : Bool} (i0 : (IsV l_) v0 k0) (i1 : (IsV x_) v1 k0) (i2 : (IsV y_) v2 k0) (i3 : (IsV z_) v3 k0) (hr : law09_SolidSections l_ x_ y_ z_ = some r) :
  Calls Try.prog 7 #[v0, v1, v2, v3] k0.w (Ret k0 (IsV r)) := by
 unfold law09_SolidSections at hr
 refine Ret.ofC ?_
 refine enterK Try.func7 rfl Try.ntmps7 (show 4 ≤ 213 by decide) fun a k hk0 hs hd ha => ?_
 obtain ⟨e0, e1, e2, e3, _⟩ := ha
 replace i0 : (IsV l_) (a.get 0) k := by rw [e0, hk0]; exact i0
 replace i1 : (IsV x_) (a.get 1) k := by rw [e1, hk0]; exact i1
 replace i2 : (IsV y_) (a.get 2) k := by rw [e2, hk0]; exact i2
 replace i3 : (IsV z_) (a.get 3) k := by rw [e3, hk0]; exact i3
 have hQ : Gb.LetsOut (bodyPost Try.prog Try.f7 (RetC noF k0 (IsV r))) := letsOutC
 have hg : Chg noF k0 k := by rw [hk0]; exact Chg.refl _ k0
 refine stepL 1 (⟨some (IsV false), []⟩ :: []) rfl ⟨hg, hs, hd⟩ (by kernel_rfl) ⟨ob1 rfl fun _ _ h n => ok_assign rfl (isV_bool.2 rfl), trivial⟩ [⟨_, _⟩, ⟨_, _⟩, ⟨_, _⟩, ⟨_, _⟩] (fun b q p => ⟨p.ke 0 rfl i0, p.ke 1 rfl i1, p.ke 2 rfl i2, p.ke 3 rfl i3, trivial⟩) ?_
 rintro a k ⟨⟨hg, hs, hd⟩, i0, i1, i2, i3, _⟩
 refine wp_seq ?_
 obtain ⟨x1713_0, hx1713_0, hr⟩ := bind_some hr
 refine cut (fun a' k' => Bs noF k0 213 a' k' ∧ (IsV l_) (a'.get 0) k' ∧ (IsV x_) (a'.get 1) k' ∧ (IsV y_) (a'.get 2) k' ∧ (IsV z_) (a'.get 3) k' ∧ (IsV x1713_0) (a'.get 9) k' ∧ True) ?_ hQ ?_
 ·intro Q1826 hQQ1826 hp1827
  refine gS 2 (_ :: _ :: []) hs (by kernel_rfl) ⟨o1 [] rfl fun _ _ h n => ok_call rfl Try.call8 (law09_small_ok hx1713_0), cp 0 rfl rfl, trivial⟩ hQQ1826 fun b q p => ?_
  exact tail_done (k := q) (hp1827 _ _ ⟨Bs.post ⟨hg, hs, hd⟩ p, p.ke 0 rfl i0, p.ke 1 rfl i1, p.ke 2 rfl i2, p.ke 3 rfl i3, p.ou 1 9 rfl, trivial⟩)
 rintro a k ⟨⟨hg, hs, hd⟩, i0, i1, i2, i3, i9, _⟩
 refine wp_seq ?_
 refine stepL 3 (_ :: _ :: _ :: []) rfl ⟨hg, hs, hd⟩ (by kernel_rfl) ⟨mu rfl i0, o1 [(22, some 0)] rfl fun _ _ h n => ok_len rfl rfl Try.underlying22 (IsV.rd n.1), o1 [(23, some 1)] rfl fun _ _ h n => ok_gtr rfl n.1 (cI rfl), trivial⟩ [⟨_, _⟩, ⟨_, _⟩, ⟨_, _⟩, ⟨_, _⟩, ⟨_, _⟩, ⟨_, _⟩] (fun b q p => ⟨p.ke 0 rfl i0, p.ke 1 rfl i1, p.ke 2 rfl i2, p.ke 3 rfl i3, p.ke 9 rfl i9, p.ou 2 24 rfl, trivial⟩) ?_
 rintro a k ⟨⟨hg, hs, hd⟩, i0, i1, i2, i3, i9, i24, _⟩
 refine wp_cond_split (isBool i24) (fun hc1823 => ?_) (fun hc1823 => ?_)
 ·rw [if_pos hc1823] at hr
  refine stepL 2 (_ :: _ :: []) rfl ⟨hg, hs, hd⟩ (by kernel_rfl) ⟨mu rfl i9, cp 0 rfl rfl, trivial⟩ [⟨_, _⟩] (fun b q p => ⟨p.ou 1 8 rfl, trivial⟩) ?_
  rintro a k ⟨⟨hg, hs, hd⟩, i8, _⟩
  refine wp_ret ?_
  obtain rfl := Option.some.inj hr
  exact retC1 rfl hd hg i8
 rw [if_neg (by rw [hc1823]; decide)] at hr
 refine wp_skip ?_
 refine wp_seq ?_
 obtain ⟨x1718_1, hx1718_1, hr⟩ := bind_some hr
 refine cut (fun a' k' => Bs noF k0 213 a' k' ∧ (IsV l_) (a'.get 0) k' ∧ (IsV x_) (a'.get 1) k' ∧ (IsV y_) (a'.get 2) k' ∧ (IsV z_) (a'.get 3) k' ∧ (IsV x1713_0) (a'.get 9) k' ∧ (IsV x1718_1.1) (a'.get 10) k' ∧ (IsV x1718_1.2) (a'.get 11) k' ∧ True) ?_ hQ ?_
 ·intro Q1821 hQQ1821 hp1822
  refine gS 7 (_ :: _ :: _ :: _ :: _ :: _ :: _ :: []) hs (by kernel_rfl) ⟨mu rfl i0, o1 [(27, some 0)] rfl fun _ _ h n => ok_call rfl Try.call9 (solid_Of_ok n.1 hx1718_1), cm 1 rfl rfl, o1 [(26, some 2)] rfl fun _ _ h n => ok_ext2_0 rfl n.1, o1 [(26, some 2)] rfl fun _ _ h n => ok_ext2_1 rfl n.1, cp 3 rfl rfl, cp 4 rfl rfl, trivial⟩ hQQ1821 fun b q p => ?_
  exact tail_done (k := q) (hp1822 _ _ ⟨Bs.post ⟨hg, hs, hd⟩ p, p.ke 0 rfl i0, p.ke 1 rfl i1, p.ke 2 rfl i2, p.ke 3 rfl i3, p.ke 9 rfl i9, p.ou 5 10 rfl, p.ou 6 11 rfl, trivial⟩)
 rintro a k ⟨⟨hg, hs, hd⟩, i0, i1, i2, i3, i9, i10, i11, _⟩
 refine wp_seq ?_
 refine stepL 2 (_ :: ⟨some (IsV (x1718_1.2 != 0)), [(31, some 0)]⟩ :: []) rfl ⟨hg, hs, hd⟩ (by kernel_rfl) ⟨mu rfl i11, ob1 rfl fun _ _ h n => ok_neI rfl n.1 (cI rfl), trivial⟩ [⟨_, _⟩, ⟨_, _⟩, ⟨_, _⟩, ⟨_, _⟩, ⟨_, _⟩, ⟨_, _⟩, ⟨_, _⟩, ⟨_, _⟩] (fun b q p => ⟨p.ke 0 rfl i0, p.ke 1 rfl i1, p.ke 2 rfl i2, p.ke 3 rfl i3, p.ke 9 rfl i9, p.ke 10 rfl i10, p.ke 11 rfl i11, p.ou 1 32 rfl, trivial⟩) ?_
 rintro a k ⟨⟨hg, hs, hd⟩, i0, i1, i2, i3, i9, i10, i11, i32, _⟩
 refine wp_cond_split (isBool i32) (fun hc1818 => ?_) (fun hc1818 => ?_)
 ·rw [if_pos hc1818] at hr
  refine stepL 11 (_ :: _ :: _ :: _ :: _ :: _ :: _ :: _ :: _ :: _ :: _ :: []) rfl ⟨hg, hs, hd⟩ (by kernel_rfl) ⟨mu rfl i9, cm 0 rfl rfl, mT rfl rfl i11, gT [(35, some 2)] rfl rfl fun hp _ _ h n => ok_eqI rfl (Gd.get n.1 hp) (cI rfl), o1 [(34, some 1), (36, some 3)] rfl fun _ _ h n => ok_pickAnd rfl n.1 (Gd.get n.2.1) (cB rfl), cm 4 rfl rfl, mT rfl rfl i10, gT [(39, some 6)] rfl rfl fun hp _ _ h n => ok_len rfl rfl Try.underlying24 (IsV.rd (Gd.get n.1 hp)), gT [(40, some 7)] rfl rfl fun hp _ _ h n => ok_eqI rfl (Gd.get n.1 hp) (cI rfl), o1 [(38, some 5), (41, some 8)] rfl fun _ _ h n => ok_pickAnd rfl n.1 (Gd.get n.2.1) (cB rfl), cp 9 rfl rfl, trivial⟩ [⟨_, _⟩] (fun b q p => ⟨p.ou 10 8 rfl, trivial⟩) ?_
  rintro a k ⟨⟨hg, hs, hd⟩, i8, _⟩
  refine wp_ret ?_
  obtain rfl := Option.some.inj hr
  exact retC1 rfl hd hg i8
 rw [if_neg (by rw [hc1818]; decide)] at hr
 refine wp_skip ?_
 refine cutS (fun a' k' => Bs noF k0 213 a' k' ∧ (IsV l_) (a'.get 0) k' ∧ (IsV x_) (a'.get 1) k' ∧ (IsV y_) (a'.get 2) k' ∧ (IsV z_) (a'.get 3) k' ∧ (IsV x1713_0) (a'.get 9) k' ∧ (IsV x1718_1.1) (a'.get 10) k' ∧ IsOwn 0 30 ([] : List Rect) (a'.get 12) k' ∧ Lo k0 (obF (a'.get 12)) ∧ True) ?_ ?_
 ·intro Q1816 hQQ1816 hp1817
  refine gS 1 (⟨some IsE0, []⟩ :: []) hs (by kernel_rfl) ⟨ob1 rfl fun b q h n => ok_assign rfl isE0_nil, trivial⟩ hQQ1816 fun b q p => ?_
  have hgq := hg.then p.grow
  have hsb := p.size.trans hs
  have hdb := p.defers.trans hd
  have j0 := p.ke 0 rfl i0
  have j1 := p.ke 1 rfl i1
  have j2 := p.ke 2 rfl i2
  have j3 := p.ke 3 rfl i3
  have j9 := p.ke 9 rfl i9
  have j10 := p.ke 10 rfl i10
  have j12 : IsE0 (b.get 12) q := p.ou 0 12 rfl
  have y12 : Lo k0 (obF (b.get 12)) := j12.lo
  replace j12 : IsOwn 0 30 ([] : List Rect) (b.get 12) q := j12.own0
  exact tail_done (k := q) (hp1817 _ _ ⟨⟨hgq, hsb, hdb⟩, j0, j1, j2, j3, j9, j10, j12, y12, trivial⟩)
 rintro a k ⟨⟨hg, hs, hd⟩, i0, i1, i2, i3, i9, i10, i12, n12, _⟩
 refine cutS (fun a' k' => Bs noF k0 213 a' k' ∧ (IsV l_) (a'.get 0) k' ∧ (IsV x_) (a'.get 1) k' ∧ (IsV y_) (a'.get 2) k' ∧ (IsV z_) (a'.get 3) k' ∧ (IsV x1713_0) (a'.get 9) k' ∧ (IsV x1718_1.1) (a'.get 10) k' ∧ IsOwn 0 30 ([] : List Rect) (a'.get 12) k' ∧ Lo k0 (obF (a'.get 12)) ∧ (IsI 0) (a'.get 13) k' ∧ True) ?_ ?_
 ·intro Q1814 hQQ1814 hp1815
  refine gS 1 (⟨some (IsI 0), []⟩ :: []) hs (by kernel_rfl) ⟨aI rfl rfl, trivial⟩ hQQ1814 fun b q p => ?_
  exact tail_done (k := q) (hp1815 _ _ ⟨Bs.post ⟨hg, hs, hd⟩ p, p.ke 0 rfl i0, p.ke 1 rfl i1, p.ke 2 rfl i2, p.ke 3 rfl i3, p.ke 9 rfl i9, p.ke 10 rfl i10, p.ke 12 rfl i12, (by rw [p.old 12 rfl]; exact n12), p.ou 0 13 rfl, trivial⟩)
 rintro a k ⟨⟨hg, hs, hd⟩, i0, i1, i2, i3, i9, i10, i12, n12, i13, _⟩
 refine wp_seq ?_
 refine cutS (fun a' k' => Bs noF k0 213 a' k' ∧ (IsV l_) (a'.get 0) k' ∧ (IsV x_) (a'.get 1) k' ∧ (IsV y_) (a'.get 2) k' ∧ (IsV z_) (a'.get 3) k' ∧ (IsV x1713_0) (a'.get 9) k' ∧ (IsV x1718_1.1) (a'.get 10) k' ∧ IsOwn 0 30 ([] : List Rect) (a'.get 12) k' ∧ Lo k0 (obF (a'.get 12)) ∧ (IsI 0) (a'.get 13) k' ∧ (IsI 0) (a'.get 14) k' ∧ True) ?_ ?_
 ·intro Q1812 hQQ1812 hp1813
  refine gS 1 (⟨some (IsI 0), []⟩ :: []) hs (by kernel_rfl) ⟨aI rfl rfl, trivial⟩ hQQ1812 fun b q p => ?_
  exact tail_done (k := q) (hp1813 _ _ ⟨Bs.post ⟨hg, hs, hd⟩ p, p.ke 0 rfl i0, p.ke 1 rfl i1, p.ke 2 rfl i2, p.ke 3 rfl i3, p.ke 9 rfl i9, p.ke 10 rfl i10, p.ke 12 rfl i12, (by rw [p.old 12 rfl]; exact n12), p.ke 13 rfl i13, p.ou 0 14 rfl, trivial⟩)
 rintro a k ⟨⟨hg, hs, hd⟩, i0, i1, i2, i3, i9, i10, i12, n12, i13, i14, _⟩
 refine wp_block ?_
 obtain ⟨f1761, hf1761, hr⟩ := bind_some hr
 refine cutFe f1761 (fun s' a' k' => Bs noF k0 213 a' k' ∧ (IsV l_) (a'.get 0) k' ∧ (IsV x_) (a'.get 1) k' ∧ (IsV y_) (a'.get 2) k' ∧ (IsV z_) (a'.get 3) k' ∧ (IsV x1713_0) (a'.get 9) k' ∧ (IsV x1718_1.1) (a'.get 10) k' ∧ IsOwn 0 30 s'.1 (a'.get 12) k' ∧ Lo k0 (obF (a'.get 12)) ∧ (IsV s'.2.1) (a'.get 13) k' ∧ (IsV s'.2.2) (a'.get 14) k' ∧ True) (fun i' s' a' k' => (i' = 0 ∧ Bs noF k0 213 a' k' ∧ (IsV x_) (a'.get 1) k' ∧ (IsV y_) (a'.get 2) k' ∧ (IsV z_) (a'.get 3) k' ∧ (IsV x1713_0) (a'.get 9) k' ∧ (IsV x1718_1.1) (a'.get 10) k' ∧ (IsV s'.1) (a'.get 12) k' ∧ (IsV s'.2.1) (a'.get 13) k' ∧ True)) (fun r' a' k' => bodyPost Try.prog Try.f7 (RetC noF k0 (IsV r')) .ret a' k'.w) ?_ hQ ?_ ?_ ?_
 ·intro Q1811 hQQ1811 hgo hex hret
  refine sim_loop ?_ _ _ _ _ _ hf1761 ⟨⟨hg, hs, hd⟩, i0, i1, i2, i3, i9, i10, i12, n12, i13, i14, trivial⟩ Q1811 hQQ1811 hgo hex hret
  clear hr hf1761 hgo hex hret hQQ1811 hQ hg hs hd i0 i1 i10 i12 i13 i14 i2 i3 i9 n12
  intro s1726 fl_ a k hr hS Q hQ hgo1727 hex1728 hret1729
  obtain ⟨⟨hg, hs, hd⟩, i0, i1, i2, i3, i9, i10, i12, n12, i13, i14, _⟩ := hS
  unfold law09_SolidSections_L0 at hr
  refine wp_seq ?_
  refine cutS (fun a' k' => Bs noF k0 213 a' k' ∧ (IsV l_) (a'.get 0) k' ∧ (IsV x_) (a'.get 1) k' ∧ (IsV y_) (a'.get 2) k' ∧ (IsV z_) (a'.get 3) k' ∧ (IsV x1713_0) (a'.get 9) k' ∧ (IsV x1718_1.1) (a'.get 10) k' ∧ IsOwn 0 30 s1726.1 (a'.get 12) k' ∧ Lo k0 (obF (a'.get 12)) ∧ (IsV s1726.2.1) (a'.get 13) k' ∧ (IsV s1726.2.2) (a'.get 14) k' ∧ (IsV (decide (s1726.2.2 < (l_.length : Int)))) (a'.get 46) k' ∧ True) ?_ ?_
  ·intro Q1759 hQQ1759 hp1760
   refine gS 4 (_ :: _ :: _ :: _ :: []) hs (by kernel_rfl) ⟨mu rfl i14, mu rfl i0, o1 [(44, some 1)] rfl fun _ _ h n => ok_len rfl rfl Try.underlying22 (IsV.rd n.1), o1 [(43, some 0), (45, some 2)] rfl fun _ _ h n => ok_lss rfl n.1 n.2.1, trivial⟩ hQQ1759 fun b q p => ?_
   exact tail_done (k := q) (hp1760 _ _ ⟨Bs.post ⟨hg, hs, hd⟩ p, p.ke 0 rfl i0, p.ke 1 rfl i1, p.ke 2 rfl i2, p.ke 3 rfl i3, p.ke 9 rfl i9, p.ke 10 rfl i10, p.ke 12 rfl i12, (by rw [p.old 12 rfl]; exact n12), p.ke 13 rfl i13, p.ke 14 rfl i14, p.ou 3 46 rfl, trivial⟩)
  rintro a k ⟨⟨hg, hs, hd⟩, i0, i1, i2, i3, i9, i10, i12, n12, i13, i14, i46, _⟩
  refine wp_cond_split (isBool i46) (fun hc1758 => ?_) (fun hc1758 => ?_)
  ·rw [if_pos hc1758] at hr
   refine wp_skip ?_
   refine wp_seq ?_
   refine wp_block ?_
   refine wp_seq ?_
   obtain ⟨x1731_2, hx1731_2, hr⟩ := bind_some hr
   refine cut (fun a' k' => Bs noF k0 213 a' k' ∧ (IsV l_) (a'.get 0) k' ∧ (IsV x_) (a'.get 1) k' ∧ (IsV y_) (a'.get 2) k' ∧ (IsV z_) (a'.get 3) k' ∧ (IsV x1713_0) (a'.get 9) k' ∧ (IsV x1718_1.1) (a'.get 10) k' ∧ IsOwn 0 30 s1726.1 (a'.get 12) k' ∧ Lo k0 (obF (a'.get 12)) ∧ (IsV s1726.2.1) (a'.get 13) k' ∧ (IsV s1726.2.2) (a'.get 14) k' ∧ (IsRef x1731_2) (a'.get 15) k' ∧ True) ?_ hQ ?_
   ·intro Q1755 hQQ1755 hp1756
    refine gS 5 (_ :: _ :: _ :: _ :: ⟨some (IsBox k.w.heap.size (⟨(⟨0, 0, 0, 0⟩ : Rect), 0, 0⟩ : Box)), []⟩ :: []) hs (by kernel_rfl) ⟨mu rfl i0, mu rfl i14, o1 [(49, some 0), (50, some 1)] rfl fun _ _ h n => ok_indexAddr rfl Try.underlying22 ty32 (IsV.rd n.1) n.2.1 hx1731_2, o1 [(51, some 2)] rfl fun _ _ h n => ok_load rfl ty32 n.1, ob1 rfl fun _ _ h n => ok_alloc _ h.size rfl z32, trivial⟩ hQQ1755 fun b q p => ?_
    have hgq := hg.then p.grow
    have hsb := p.size.trans hs
    have hdb := p.defers.trans hd
    have j0 := p.ke 0 rfl i0
    have j1 := p.ke 1 rfl i1
    have j2 := p.ke 2 rfl i2
    have j3 := p.ke 3 rfl i3
    have j9 := p.ke 9 rfl i9
    have j10 := p.ke 10 rfl i10
    have j12 := p.ke 12 rfl i12
    have y12 : Lo k0 (obF (b.get 12)) := by rw [p.old 12 rfl]; exact n12
    have j13 := p.ke 13 rfl i13
    have j14 := p.ke 14 rfl i14
    obtain ⟨b15, j15, x15, z15⟩ : (IsBox k.w.heap.size (⟨(⟨0, 0, 0, 0⟩ : Rect), 0, 0⟩ : Box)) (b.get 15) q := p.ou 4 15 rfl
    replace x15 : Lo k (Eq b15) := Lo.eq x15
    have y15 : Lo k0 (Eq b15) := x15.chg hg
    have j52 : (IsV x1731_2) (b.get 52) q := p.ou 3 52 rfl
    have w12_15 : Apart (obF (b.get 12)) (Eq b15) := Apart.new (by rw [p.old 12 rfl]; exact i12.ltF) x15
    have hns := z15.nshF
    refine tail_storeB (i := 5) rfl rfl rfl rfl szf32 (Upd.self (α := Box)) j15 z15 j52 fun q2 hch hz => ?_
    replace hgq := hgq.step hch y15.wr
    have hle := hch.le hns
    replace j0 := Pers.pers hle j0
    replace j1 := Pers.pers hle j1
    replace j2 := Pers.pers hle j2
    replace j3 := Pers.pers hle j3
    replace j9 := Pers.pers hle j9
    replace j10 := Pers.pers hle j10
    replace j12 := j12.keep hch w12_15 hns
    replace j13 := Pers.pers hle j13
    replace j14 := Pers.pers hle j14
    replace j52 := Pers.pers hle j52
    replace z15 := hz
    clear hns hle hch
    obtain ⟨q, hqq⟩ : ∃ q, q = q2 := ⟨q2, rfl⟩
    subst hqq
    obtain ⟨q2, hsh, jn⟩ := z15.give
    replace j0 := Pers.pers hsh.le j0
    replace j1 := Pers.pers hsh.le j1
    replace j2 := Pers.pers hsh.le j2
    replace j3 := Pers.pers hsh.le j3
    replace j9 := Pers.pers hsh.le j9
    replace j10 := Pers.pers hsh.le j10
    replace j12 := j12.handed hsh w12_15
    replace j13 := Pers.pers hsh.le j13
    replace j14 := Pers.pers hsh.le j14
    rw [← j15] at jn
    replace j15 := jn
    replace hgq := hgq.hand hsh y15.wr
    rw [← hsh.w]
    clear hsh
    obtain ⟨q, hqq⟩ : ∃ q, q = q2 := ⟨q2, rfl⟩
    subst hqq
    exact tail_done (k := q) (hp1756 _ _ ⟨⟨hgq, hsb, hdb⟩, j0, j1, j2, j3, j9, j10, j12, y12, j13, j14, j15, trivial⟩)
   rintro a k ⟨⟨hg, hs, hd⟩, i0, i1, i2, i3, i9, i10, i12, n12, i13, i14, i15, _⟩
   refine wp_seq ?_
   refine cutS (fun a' k' => Bs noF k0 213 a' k' ∧ (IsV l_) (a'.get 0) k' ∧ (IsV x_) (a'.get 1) k' ∧ (IsV y_) (a'.get 2) k' ∧ (IsV z_) (a'.get 3) k' ∧ (IsV x1713_0) (a'.get 9) k' ∧ (IsV x1718_1.1) (a'.get 10) k' ∧ IsOwn 0 30 s1726.1 (a'.get 12) k' ∧ Lo k0 (obF (a'.get 12)) ∧ (IsV s1726.2.1) (a'.get 13) k' ∧ (IsV s1726.2.2) (a'.get 14) k' ∧ (IsRef x1731_2) (a'.get 15) k' ∧ (IsV ((decide (x1731_2.Z0 ≤ z_)) && (decide (z_ < x1731_2.Z1)))) (a'.get 62) k' ∧ True) ?_ ?_
   ·intro Q1753 hQQ1753 hp1754
    refine gS 10 (_ :: _ :: _ :: _ :: _ :: _ :: _ :: _ :: _ :: _ :: []) hs (by kernel_rfl) ⟨o1 [(15, none)] rfl fun _ _ h n => ok_fieldAddr rfl fo32_1 (at_Box_1 _) ((up i15 h n.1)).ptr, o1 [(53, some 0)] rfl fun _ _ h n => ok_load rfl ty3 n.1, mu rfl i3, o1 [(54, some 1), (55, some 2)] rfl fun _ _ h n => ok_leq rfl n.1 n.2.1, cm 3 rfl rfl, mT rfl rfl i3, gT [(15, none)] rfl rfl fun hp _ _ h n => ok_fieldAddr rfl fo32_2 (at_Box_2 _) ((up i15 h n.1)).ptr, gT [(59, some 6)] rfl rfl fun hp _ _ h n => ok_load rfl ty3 (Gd.get n.1 hp), gT [(58, some 5), (60, some 7)] rfl rfl fun hp _ _ h n => ok_lss rfl (Gd.get n.1 hp) (Gd.get n.2.1 hp), o1 [(57, some 4), (61, some 8)] rfl fun _ _ h n => ok_pickAnd rfl n.1 (Gd.get n.2.1) (cB rfl), trivial⟩ hQQ1753 fun b q p => ?_
    exact tail_done (k := q) (hp1754 _ _ ⟨Bs.post ⟨hg, hs, hd⟩ p, p.ke 0 rfl i0, p.ke 1 rfl i1, p.ke 2 rfl i2, p.ke 3 rfl i3, p.ke 9 rfl i9, p.ke 10 rfl i10, p.ke 12 rfl i12, (by rw [p.old 12 rfl]; exact n12), p.ke 13 rfl i13, p.ke 14 rfl i14, p.ke 15 rfl i15, p.ou 9 62 rfl, trivial⟩)
   rintro a k ⟨⟨hg, hs, hd⟩, i0, i1, i2, i3, i9, i10, i12, n12, i13, i14, i15, i62, _⟩
   obtain ⟨s1733, hs1733, hr⟩ := bind_some hr
   refine cut (fun a' k' => Bs noF k0 213 a' k' ∧ (IsV l_) (a'.get 0) k' ∧ (IsV x_) (a'.get 1) k' ∧ (IsV y_) (a'.get 2) k' ∧ (IsV z_) (a'.get 3) k' ∧ (IsV x1713_0) (a'.get 9) k' ∧ (IsV x1718_1.1) (a'.get 10) k' ∧ IsOwn 0 30 s1733 (a'.get 12) k' ∧ Lo k0 (obF (a'.get 12)) ∧ (IsV s1726.2.1) (a'.get 13) k' ∧ (IsV s1726.2.2) (a'.get 14) k' ∧ (IsRef x1731_2) (a'.get 15) k' ∧ True) ?_ hQ ?_
   ·intro Q1752 hQQ1752 hp1734
    replace hr := hs1733
    clear hQ
    have hQ := hQQ1752
    refine wp_cond_split (isBool i62) (fun hc1738 => ?_) (fun hc1738 => ?_)
    ·rw [if_pos hc1738] at hr
     obtain ⟨x1735_4, hx1735_4, hr⟩ := bind_some hr
     refine cut (fun a' k' => Bs noF k0 213 a' k' ∧ (IsV l_) (a'.get 0) k' ∧ (IsV x_) (a'.get 1) k' ∧ (IsV y_) (a'.get 2) k' ∧ (IsV z_) (a'.get 3) k' ∧ (IsV x1713_0) (a'.get 9) k' ∧ (IsV x1718_1.1) (a'.get 10) k' ∧ IsOwn 0 30 x1735_4 (a'.get 12) k' ∧ Lo k0 (obF (a'.get 12)) ∧ (IsV s1726.2.1) (a'.get 13) k' ∧ (IsV s1726.2.2) (a'.get 14) k' ∧ (IsRef x1731_2) (a'.get 15) k' ∧ True) ?_ hQ ?_
     ·intro Q1736 hQQ1736 hp1737
      refine gS 4 (⟨some (OwnAt (a.get 12) 0 30 s1726.1), [(12, none)]⟩ :: _ :: _ :: ⟨some (IsV (α := (List Rect)) ([x1731_2.Base])), [(65, some 2)]⟩ :: []) hs (by kernel_rfl) ⟨ob1 rfl fun _ _ h n => ok_moveOA (.inl rfl) (ownAt n.1 (up i12 h n.1)), o1 [(15, none)] rfl fun _ _ h n => ok_fieldAddr rfl fo32_0 (at_Box_0 _) ((up i15 h n.1)).ptr, o1 [(64, some 1)] rfl fun _ _ h n => ok_load rfl ty30 n.1, ob1 rfl fun _ _ h n => ok_buildSlice rfl Try.underlying44 eo30 rfl (by decide) (by decide) ⟨rfl, n.1, trivial⟩, trivial⟩ hQQ1736 fun b q p => ?_
      have hgq := hg.then p.grow
      have hsb := p.size.trans hs
      have hdb := p.defers.trans hd
      have j0 := p.ke 0 rfl i0
      have j1 := p.ke 1 rfl i1
      have j2 := p.ke 2 rfl i2
      have j3 := p.ke 3 rfl i3
      have j9 := p.ke 9 rfl i9
      have j10 := p.ke 10 rfl i10
      have j13 := p.ke 13 rfl i13
      have j14 := p.ke 14 rfl i14
      have j15 := p.ke 15 rfl i15
      have e63 : b.get 63 = a.get 12 := (p.ou 0 63 rfl).1
      have j63 : IsOwn 0 30 s1726.1 (b.get 63) q := (p.ou 0 63 rfl).2
      have y63 : Lo k0 (obF (b.get 63)) := by rw [e63]; exact n12
      have j66 : (IsV (α := (List Rect)) ([x1731_2.Base])) (b.get 66) q := p.ou 3 66 rfl
      have hns := j63.nshF
      refine tail_appendS (i := 4) (d := 67) rfl rfl rfl rfl (by rw [hsb]; decide) (e := 30) Try.underlying44 eo30 j63 (IsV.rd j66) hx1735_4 fun b2 q2 hsz hdf hoth hch hown hob => ?_
      have hle := hch.le hns
      have yn : Lo k0 (obF (b2.get 67)) := y63.app hgq hob
      replace j0 := Pers.pers hle j0
      replace j1 := Pers.pers hle j1
      replace j2 := Pers.pers hle j2
      replace j3 := Pers.pers hle j3
      replace j9 := Pers.pers hle j9
      replace j10 := Pers.pers hle j10
      replace j13 := Pers.pers hle j13
      replace j14 := Pers.pers hle j14
      replace j15 := Pers.pers hle j15
      replace j66 := Pers.pers hle j66
      replace hgq := hgq.step hch y63.wr
      rw [← hoth 0 (by decide)] at j0
      rw [← hoth 1 (by decide)] at j1
      rw [← hoth 2 (by decide)] at j2
      rw [← hoth 3 (by decide)] at j3
      rw [← hoth 9 (by decide)] at j9
      rw [← hoth 10 (by decide)] at j10
      rw [← hoth 13 (by decide)] at j13
      rw [← hoth 14 (by decide)] at j14
      rw [← hoth 15 (by decide)] at j15
      rw [← hoth 66 (by decide)] at j66
      have j67 := hown
      have y67 := yn
      replace hsb := hsz.trans hsb
      replace hdb := hdf.trans hdb
      clear hle hch hown hob hns yn hsz hdf hoth
      obtain ⟨b, hbb⟩ : ∃ b, b = b2 := ⟨b2, rfl⟩
      subst hbb
      obtain ⟨q, hqq⟩ : ∃ q, q = q2 := ⟨q2, rfl⟩
      subst hqq
      refine tail_assign (i := 5) (d := 12) rfl rfl (.inl rfl) rfl (by rw [hsb]; decide) fun b2 hsz hdf hnew hoth => ?_
      have jn : (IsOwn 0 30 x1735_4) (b2.get 12) q := by rw [hnew]; exact j67
      have yn : Lo k0 (obF (b2.get 12)) := by rw [hnew]; exact y67
      rw [← hoth 0 (by decide)] at j0
      rw [← hoth 1 (by decide)] at j1
      rw [← hoth 2 (by decide)] at j2
      rw [← hoth 3 (by decide)] at j3
      rw [← hoth 9 (by decide)] at j9
      rw [← hoth 10 (by decide)] at j10
      rw [← hoth 13 (by decide)] at j13
      rw [← hoth 14 (by decide)] at j14
      rw [← hoth 15 (by decide)] at j15
      rw [← hoth 66 (by decide)] at j66
      have j12 := jn
      have y12 := yn
      replace hsb := hsz.trans hsb
      replace hdb := hdf.trans hdb
      clear hsz hdf hoth
      obtain ⟨b, hbb⟩ : ∃ b, b = b2 := ⟨b2, rfl⟩
      subst hbb
      exact tail_done (k := q) (hp1737 _ _ ⟨⟨hgq, hsb, hdb⟩, j0, j1, j2, j3, j9, j10, j12, y12, j13, j14, j15, trivial⟩)
     rintro a k ⟨⟨hg, hs, hd⟩, i0, i1, i2, i3, i9, i10, i12, n12, i13, i14, i15, _⟩
     obtain rfl := Option.some.inj hr
     exact hp1734 _ _ ⟨⟨hg, hs, hd⟩, i0, i1, i2, i3, i9, i10, i12, n12, i13, i14, i15, trivial⟩
    rw [if_neg (by rw [hc1738]; decide)] at hr
    refine wp_skip ?_
    obtain rfl := Option.some.inj hr
    exact hp1734 _ _ ⟨⟨hg, hs, hd⟩, i0, i1, i2, i3, i9, i10, i12, n12, i13, i14, i15, trivial⟩
   clear hs1733
   rintro a k ⟨⟨hg, hs, hd⟩, i0, i1, i2, i3, i9, i10, i12, n12, i13, i14, i15, _⟩
   refine cutS (fun a' k' => Bs noF k0 213 a' k' ∧ (IsV l_) (a'.get 0) k' ∧ (IsV x_) (a'.get 1) k' ∧ (IsV y_) (a'.get 2) k' ∧ (IsV z_) (a'.get 3) k' ∧ (IsV x1713_0) (a'.get 9) k' ∧ (IsV x1718_1.1) (a'.get 10) k' ∧ IsOwn 0 30 s1733 (a'.get 12) k' ∧ Lo k0 (obF (a'.get 12)) ∧ (IsV s1726.2.1) (a'.get 13) k' ∧ (IsV s1726.2.2) (a'.get 14) k' ∧ (IsRef x1731_2) (a'.get 15) k' ∧ (IsV ((((decide (x1731_2.Base.X0 ≤ x_)) && (decide (x_ < x1731_2.Base.X1))) && (decide (x1731_2.Base.Y0 ≤ y_))) && (decide (y_ < x1731_2.Base.Y1)))) (a'.get 93) k' ∧ True) ?_ ?_
   ·intro Q1750 hQQ1750 hp1751
    refine gS 26 (_ :: _ :: _ :: _ :: _ :: _ :: _ :: _ :: _ :: _ :: _ :: _ :: _ :: _ :: _ :: _ :: _ :: _ :: _ :: _ :: _ :: _ :: _ :: _ :: _ :: _ :: []) hs (by kernel_rfl) ⟨o1 [(15, none)] rfl fun _ _ h n => ok_fieldAddr rfl fo32_0 (at_Box_0 _) ((up i15 h n.1)).ptr, o1 [(68, some 0)] rfl fun _ _ h n => ok_fieldAddr rfl fo30_0 (at_Rect_0 _) n.1, o1 [(69, some 1)] rfl fun _ _ h n => ok_load rfl ty3 n.1, mu rfl i1, o1 [(70, some 2), (71, some 3)] rfl fun _ _ h n => ok_leq rfl n.1 n.2.1, cm 4 rfl rfl, mT rfl rfl i1, gT [(15, none)] rfl rfl fun hp _ _ h n => ok_fieldAddr rfl fo32_0 (at_Box_0 _) ((up i15 h n.1)).ptr, gT [(75, some 7)] rfl rfl fun hp _ _ h n => ok_fieldAddr rfl fo30_2 (at_Rect_2 _) (Gd.get n.1 hp), gT [(76, some 8)] rfl rfl fun hp _ _ h n => ok_load rfl ty3 (Gd.get n.1 hp), gT [(74, some 6), (77, some 9)] rfl rfl fun hp _ _ h n => ok_lss rfl (Gd.get n.1 hp) (Gd.get n.2.1 hp), o1 [(73, some 5), (78, some 10)] rfl fun _ _ h n => ok_pickAnd rfl n.1 (Gd.get n.2.1) (cB rfl), cm 11 rfl rfl, gT [(15, none)] rfl rfl fun hp _ _ h n => ok_fieldAddr rfl fo32_0 (at_Box_0 _) ((up i15 h n.1)).ptr, gT [(81, some 13)] rfl rfl fun hp _ _ h n => ok_fieldAddr rfl fo30_1 (at_Rect_1 _) (Gd.get n.1 hp), gT [(82, some 14)] rfl rfl fun hp _ _ h n => ok_load rfl ty3 (Gd.get n.1 hp), mT rfl rfl i2, gT [(83, some 15), (84, some 16)] rfl rfl fun hp _ _ h n => ok_leq rfl (Gd.get n.1 hp) (Gd.get n.2.1 hp), o1 [(80, some 12), (85, some 17)] rfl fun _ _ h n => ok_pickAnd rfl n.1 (Gd.get n.2.1) (cB rfl), cm 18 rfl rfl, mT rfl rfl i2, gT [(15, none)] rfl rfl fun hp _ _ h n => ok_fieldAddr rfl fo32_0 (at_Box_0 _) ((up i15 h n.1)).ptr, gT [(89, some 21)] rfl rfl fun hp _ _ h n => ok_fieldAddr rfl fo30_3 (at_Rect_3 _) (Gd.get n.1 hp), gT [(90, some 22)] rfl rfl fun hp _ _ h n => ok_load rfl ty3 (Gd.get n.1 hp), gT [(88, some 20), (91, some 23)] rfl rfl fun hp _ _ h n => ok_lss rfl (Gd.get n.1 hp) (Gd.get n.2.1 hp), o1 [(87, some 19), (92, some 24)] rfl fun _ _ h n => ok_pickAnd rfl n.1 (Gd.get n.2.1) (cB rfl), trivial⟩ hQQ1750 fun b q p => ?_
    exact tail_done (k := q) (hp1751 _ _ ⟨Bs.post ⟨hg, hs, hd⟩ p, p.ke 0 rfl i0, p.ke 1 rfl i1, p.ke 2 rfl i2, p.ke 3 rfl i3, p.ke 9 rfl i9, p.ke 10 rfl i10, p.ke 12 rfl i12, (by rw [p.old 12 rfl]; exact n12), p.ke 13 rfl i13, p.ke 14 rfl i14, p.ke 15 rfl i15, p.ou 25 93 rfl, trivial⟩)
   rintro a k ⟨⟨hg, hs, hd⟩, i0, i1, i2, i3, i9, i10, i12, n12, i13, i14, i15, i93, _⟩
   obtain ⟨s1740, hs1740, hr⟩ := bind_some hr
   refine cut (fun a' k' => Bs noF k0 213 a' k' ∧ (IsV l_) (a'.get 0) k' ∧ (IsV x_) (a'.get 1) k' ∧ (IsV y_) (a'.get 2) k' ∧ (IsV z_) (a'.get 3) k' ∧ (IsV x1713_0) (a'.get 9) k' ∧ (IsV x1718_1.1) (a'.get 10) k' ∧ IsOwn 0 30 s1733 (a'.get 12) k' ∧ Lo k0 (obF (a'.get 12)) ∧ (IsV s1740) (a'.get 13) k' ∧ (IsV s1726.2.2) (a'.get 14) k' ∧ True) ?_ hQ ?_
   ·intro Q1749 hQQ1749 hp1741
    replace hr := hs1740
    clear hQ
    have hQ := hQQ1749
    refine wp_cond_split (isBool i93) (fun hc1745 => ?_) (fun hc1745 => ?_)
    ·rw [if_pos hc1745] at hr
     refine cut (fun a' k' => Bs noF k0 213 a' k' ∧ (IsV l_) (a'.get 0) k' ∧ (IsV x_) (a'.get 1) k' ∧ (IsV y_) (a'.get 2) k' ∧ (IsV z_) (a'.get 3) k' ∧ (IsV x1713_0) (a'.get 9) k' ∧ (IsV x1718_1.1) (a'.get 10) k' ∧ IsOwn 0 30 s1733 (a'.get 12) k' ∧ Lo k0 (obF (a'.get 12)) ∧ (IsI (max s1726.2.1 x1731_2.Z1)) (a'.get 13) k' ∧ (IsV s1726.2.2) (a'.get 14) k' ∧ True) ?_ hQ ?_
     ·intro Q1743 hQQ1743 hp1744
      refine gS 5 (_ :: _ :: _ :: _ :: _ :: []) hs (by kernel_rfl) ⟨mu rfl i13, o1 [(15, none)] rfl fun _ _ h n => ok_fieldAddr rfl fo32_2 (at_Box_2 _) ((up i15 h n.1)).ptr, o1 [(95, some 1)] rfl fun _ _ h n => ok_load rfl ty3 n.1, o1 [(94, some 0), (96, some 2)] rfl fun _ _ h n => ok_max2 rfl n.1 n.2.1, cp 3 rfl rfl, trivial⟩ hQQ1743 fun b q p => ?_
      exact tail_done (k := q) (hp1744 _ _ ⟨Bs.post ⟨hg, hs, hd⟩ p, p.ke 0 rfl i0, p.ke 1 rfl i1, p.ke 2 rfl i2, p.ke 3 rfl i3, p.ke 9 rfl i9, p.ke 10 rfl i10, p.ke 12 rfl i12, (by rw [p.old 12 rfl]; exact n12), p.ou 4 13 rfl, p.ke 14 rfl i14, trivial⟩)
     rintro a k ⟨⟨hg, hs, hd⟩, i0, i1, i2, i3, i9, i10, i12, n12, i13, i14, _⟩
     obtain rfl := Option.some.inj hr
     exact hp1741 _ _ ⟨⟨hg, hs, hd⟩, i0, i1, i2, i3, i9, i10, i12, n12, i13, i14, trivial⟩
    rw [if_neg (by rw [hc1745]; decide)] at hr
    refine wp_skip ?_
    obtain rfl := Option.some.inj hr
    exact hp1741 _ _ ⟨⟨hg, hs, hd⟩, i0, i1, i2, i3, i9, i10, i12, n12, i13, i14, trivial⟩
   clear hs1740
   rintro a k ⟨⟨hg, hs, hd⟩, i0, i1, i2, i3, i9, i10, i12, n12, i13, i14, _⟩
   obtain ⟨x1746_1, hx1746_1, hr⟩ := bind_some hr
   refine cut (fun a' k' => Bs noF k0 213 a' k' ∧ (IsV l_) (a'.get 0) k' ∧ (IsV x_) (a'.get 1) k' ∧ (IsV y_) (a'.get 2) k' ∧ (IsV z_) (a'.get 3) k' ∧ (IsV x1713_0) (a'.get 9) k' ∧ (IsV x1718_1.1) (a'.get 10) k' ∧ IsOwn 0 30 s1733 (a'.get 12) k' ∧ Lo k0 (obF (a'.get 12)) ∧ (IsV s1740) (a'.get 13) k' ∧ (IsV x1746_1) (a'.get 14) k' ∧ True) ?_ hQ ?_
   ·intro Q1747 hQQ1747 hp1748
    refine gS 3 (_ :: _ :: _ :: []) hs (by kernel_rfl) ⟨mu rfl i14, o1 [(47, some 0)] rfl fun _ _ h n => ok_add rfl n.1 (cI rfl) hx1746_1, cp 1 rfl rfl, trivial⟩ hQQ1747 fun b q p => ?_
    exact tail_done (k := q) (hp1748 _ _ ⟨Bs.post ⟨hg, hs, hd⟩ p, p.ke 0 rfl i0, p.ke 1 rfl i1, p.ke 2 rfl i2, p.ke 3 rfl i3, p.ke 9 rfl i9, p.ke 10 rfl i10, p.ke 12 rfl i12, (by rw [p.old 12 rfl]; exact n12), p.ke 13 rfl i13, p.ou 2 14 rfl, trivial⟩)
   rintro a k ⟨⟨hg, hs, hd⟩, i0, i1, i2, i3, i9, i10, i12, n12, i13, i14, _⟩
   exact hgo1727 _ _ _ (Option.some.inj hr).symm ⟨⟨hg, hs, hd⟩, i0, i1, i2, i3, i9, i10, i12, n12, i13, i14, trivial⟩
  rw [if_neg (by rw [hc1758]; decide)] at hr
  refine wp_exit ?_
  obtain ⟨kk, sh1757, ii12⟩ := i12.give
  replace i1 := Pers.pers sh1757.le i1
  replace i2 := Pers.pers sh1757.le i2
  replace i3 := Pers.pers sh1757.le i3
  replace i9 := Pers.pers sh1757.le i9
  replace i10 := Pers.pers sh1757.le i10
  replace i13 := Pers.pers sh1757.le i13
  replace i12 := ii12
  replace hg := hg.hand sh1757 n12.wr
  rw [← sh1757.w]
  clear sh1757
  obtain ⟨k, hkk⟩ : ∃ k, k = kk := ⟨kk, rfl⟩
  subst hkk
  exact hex1728 _ _ _ _ (Option.some.inj hr).symm ⟨rfl, ⟨hg, hs, hd⟩, i1, i2, i3, i9, i10, i12, i13, trivial⟩
 ·rintro r1810 a k rfl hR
  dsimp only at hr
  obtain rfl := Option.some.inj hr
  exact hR
 ·rintro _ _ _ rfl _
  simp at hr
 clear hf1761
 rintro _ s1762 a k rfl ⟨rfl, ⟨hg, hs, hd⟩, i1, i2, i3, i9, i10, i12, i13, _⟩
 dsimp only at hr
 refine wp_seq ?_
 obtain ⟨x1763_1, hx1763_1, hr⟩ := bind_some hr
 refine cut (fun a' k' => Bs noF k0 213 a' k' ∧ (IsV x_) (a'.get 1) k' ∧ (IsV y_) (a'.get 2) k' ∧ (IsV z_) (a'.get 3) k' ∧ (IsV x1713_0) (a'.get 9) k' ∧ (IsV x1718_1.1) (a'.get 10) k' ∧ (IsV s1762.2.1) (a'.get 13) k' ∧ (IsV x1763_1.1) (a'.get 16) k' ∧ (IsV x1763_1.2) (a'.get 17) k' ∧ True) ?_ hQ ?_
 ·intro Q1808 hQQ1808 hp1809
  refine gS 7 (_ :: _ :: _ :: _ :: _ :: _ :: _ :: []) hs (by kernel_rfl) ⟨mu rfl i12, o1 [(99, some 0)] rfl fun _ _ h n => ok_call rfl Try.call24 (region_Of_ok n.1 hx1763_1), cm 1 rfl rfl, o1 [(98, some 2)] rfl fun _ _ h n => ok_ext2_0 rfl n.1, o1 [(98, some 2)] rfl fun _ _ h n => ok_ext2_1 rfl n.1, cp 3 rfl rfl, cp 4 rfl rfl, trivial⟩ hQQ1808 fun b q p => ?_
  exact tail_done (k := q) (hp1809 _ _ ⟨Bs.post ⟨hg, hs, hd⟩ p, p.ke 1 rfl i1, p.ke 2 rfl i2, p.ke 3 rfl i3, p.ke 9 rfl i9, p.ke 10 rfl i10, p.ke 13 rfl i13, p.ou 5 16 rfl, p.ou 6 17 rfl, trivial⟩)
 rintro a k ⟨⟨hg, hs, hd⟩, i1, i2, i3, i9, i10, i13, i16, i17, _⟩
 refine wp_seq ?_
 refine wp_seq ?_
 obtain ⟨x1764_9, hx1764_9, hr⟩ := bind_some hr
 obtain ⟨x1764_5, hx1764_5, hx1764_9⟩ := ite_bindF hx1764_9
 obtain ⟨x1764_7, hx1764_7, hx1764_9⟩ := ite_bindF hx1764_9
 obtain ⟨x1764_17, hx1764_17, hr⟩ := bind_some hr
 obtain ⟨x1764_14, hx1764_14, hx1764_17⟩ := ite_bindF hx1764_17
 obtain ⟨x1764_29, hx1764_29, hr⟩ := bind_some hr
 obtain ⟨x1764_23, hx1764_23, hx1764_29⟩ := ite_bindF hx1764_29
 obtain ⟨x1764_27, hx1764_27, hx1764_29⟩ := ite_bindF hx1764_29
 refine cut (fun a' k' => Bs noF k0 213 a' k' ∧ (IsV x1713_0) (a'.get 9) k' ∧ (IsV x1718_1.1) (a'.get 10) k' ∧ (IsV x1764_29) (a'.get 132) k' ∧ True) ?_ hQ ?_
 ·intro Q1806 hQQ1806 hp1807
  refine gS 30 (_ :: ⟨some (IsV (x1763_1.2 != 0)), [(103, some 0)]⟩ :: _ :: _ :: _ :: _ :: _ :: _ :: _ :: _ :: _ :: _ :: _ :: _ :: _ :: _ :: ⟨some (Gd (x1764_9 = false) (IsV (x1764_14 != s1762.2.1))), [(117, some 14), (118, some 15)]⟩ :: _ :: _ :: _ :: _ :: _ :: _ :: _ :: _ :: _ :: _ :: _ :: ⟨some (Gd (x1764_17 = false) (IsV (x1764_23 != x1764_27))), [(126, some 23), (130, some 27)]⟩ :: _ :: []) hs (by kernel_rfl) ⟨mu rfl i17, ob1 rfl fun _ _ h n => ok_neI rfl n.1 (cI rfl), cm 1 rfl rfl, mF rfl rfl i10, mF rfl rfl i3, gF [(106, some 3), (107, some 4)] rfl rfl fun hp _ _ h n => ok_call rfl Try.call23 (solid_Section_ok (Gd.get n.1 hp) (Gd.get n.2.1 hp) (hx1764_5 hp)), mF rfl rfl i16, gF [(108, some 5), (109, some 6)] rfl rfl fun hp _ _ h n => ok_call rfl Try.call25 (law09_rects_ok (Gd.get n.1 hp) (Gd.get n.2.1 hp) (hx1764_7 hp)), gF [(110, some 7)] rfl rfl fun hp _ _ h n => ok_not rfl (Gd.get n.1 hp), o1 [(105, some 2), (111, some 8)] rfl fun _ _ h n => ok_pickM rfl n.1 hx1764_9 (cB rfl) (Gd.get n.2.1), cm 9 rfl rfl, mF rfl rfl i10, mF rfl rfl i1, mF rfl rfl i2, gF [(114, some 11), (115, some 12), (116, some 13)] rfl rfl fun hp _ _ h n => ok_call rfl Try.call22 (solid_Top_ok (Gd.get n.1 hp) (Gd.get n.2.1 hp) (Gd.get n.2.2.1 hp) (hx1764_14 hp)), mF rfl rfl i13, gdF rfl rfl fun hp _ _ h n => ok_neI rfl (Gd.get n.1 hp) (Gd.get n.2.1 hp), o1 [(113, some 10), (119, some 16)] rfl fun _ _ h n => ok_pickM rfl n.1 hx1764_17 (cB rfl) (Gd.get n.2.1), cm 17 rfl rfl, mF rfl rfl i10, mF rfl rfl i1, mF rfl rfl i2, mF rfl rfl i3, gF [(122, some 19), (123, some 20), (124, some 21), (125, some 22)] rfl rfl fun hp _ _ h n => ok_call rfl Try.call19 (solid_Has_ok (Gd.get n.1 hp) (Gd.get n.2.1 hp) (Gd.get n.2.2.1 hp) (Gd.get n.2.2.2.1 hp) (hx1764_23 hp)), mF rfl rfl i16, mF rfl rfl i1, mF rfl rfl i2, gF [(127, some 24), (128, some 25), (129, some 26)] rfl rfl fun hp _ _ h n => ok_call rfl Try.call26 (region_Has_ok (Gd.get n.1 hp) (Gd.get n.2.1 hp) (Gd.get n.2.2.1 hp) (hx1764_27 hp)), gdF rfl rfl fun hp _ _ h n => ok_neB rfl Try.underlying4 (Gd.get n.1 hp) (Gd.get n.2.1 hp), o1 [(121, some 18), (131, some 28)] rfl fun _ _ h n => ok_pickM rfl n.1 hx1764_29 (cB rfl) (Gd.get n.2.1), trivial⟩ hQQ1806 fun b q p => ?_
  exact tail_done (k := q) (hp1807 _ _ ⟨Bs.post ⟨hg, hs, hd⟩ p, p.ke 9 rfl i9, p.ke 10 rfl i10, p.ou 29 132 rfl, trivial⟩)
 rintro a k ⟨⟨hg, hs, hd⟩, i9, i10, i132, _⟩
 refine wp_cond_split (isBool i132) (fun hc1805 => ?_) (fun hc1805 => ?_)
 ·rw [if_pos hc1805] at hr
  refine stepL 1 (⟨some (IsV false), []⟩ :: []) rfl ⟨hg, hs, hd⟩ (by kernel_rfl) ⟨ob1 rfl fun _ _ h n => ok_assign rfl (isV_bool.2 rfl), trivial⟩ [⟨_, _⟩] (fun b q p => ⟨p.ou 0 8 rfl, trivial⟩) ?_
  rintro a k ⟨⟨hg, hs, hd⟩, i8, _⟩
  refine wp_ret ?_
  obtain rfl := Option.some.inj hr
  exact retC1 rfl hd hg i8
 rw [if_neg (by rw [hc1805]; decide)] at hr
 refine wp_skip ?_
 refine stepL 1 (⟨some (IsI 0), []⟩ :: []) rfl ⟨hg, hs, hd⟩ (by kernel_rfl) ⟨aI rfl rfl, trivial⟩ [⟨_, _⟩, ⟨_, _⟩, ⟨_, _⟩] (fun b q p => ⟨p.ke 9 rfl i9, p.ke 10 rfl i10, p.ou 0 18 rfl, trivial⟩) ?_
 rintro a k ⟨⟨hg, hs, hd⟩, i9, i10, i18, _⟩
 refine wp_seq ?_
 refine stepL 1 (⟨some (IsI 0), []⟩ :: []) rfl ⟨hg, hs, hd⟩ (by kernel_rfl) ⟨aI rfl rfl, trivial⟩ [⟨_, _⟩, ⟨_, _⟩, ⟨_, _⟩, ⟨_, _⟩] (fun b q p => ⟨p.ke 9 rfl i9, p.ke 10 rfl i10, p.ke 18 rfl i18, p.ou 0 19 rfl, trivial⟩) ?_
 rintro a k ⟨⟨hg, hs, hd⟩, i9, i10, i18, i19, _⟩
 refine wp_block ?_
 obtain ⟨f1794, hf1794, hr⟩ := bind_some hr
 refine cutFe f1794 (fun s' a' k' => Bs noF k0 213 a' k' ∧ (IsV x1713_0) (a'.get 9) k' ∧ (IsV x1718_1.1) (a'.get 10) k' ∧ (IsV s'.1) (a'.get 18) k' ∧ (IsV s'.2) (a'.get 19) k' ∧ True) (fun i' s' a' k' => (i' = 2 ∧ Bs noF k0 213 a' k' ∧ (IsV x1713_0) (a'.get 9) k' ∧ (IsV x1718_1.1) (a'.get 10) k' ∧ (IsV s'.1) (a'.get 18) k' ∧ True)) (fun r' a' k' => bodyPost Try.prog Try.f7 (RetC noF k0 (IsV r')) .ret a' k'.w) ?_ hQ ?_ ?_ ?_
 ·intro Q1800 hQQ1800 hgo hex hret
  refine sim_loop ?_ _ _ _ _ _ hf1794 ⟨⟨hg, hs, hd⟩, i9, i10, i18, i19, trivial⟩ Q1800 hQQ1800 hgo hex hret
  clear hr hf1794 hgo hex hret hQQ1800 hQ hg hs hd i10 i18 i19 i9
  intro s1770 fl_ a k hr hS Q hQ hgo1771 hex1772 hret1773
  obtain ⟨⟨hg, hs, hd⟩, i9, i10, i18, i19, _⟩ := hS
  unfold law09_SolidSections_L1 at hr
  refine wp_seq ?_
  refine stepL 4 (_ :: _ :: _ :: _ :: []) rfl ⟨hg, hs, hd⟩ (by kernel_rfl) ⟨mu rfl i19, mu rfl i10, o1 [(134, some 1)] rfl fun _ _ h n => ok_len rfl rfl Try.underlying24 (IsV.rd n.1), o1 [(133, some 0), (135, some 2)] rfl fun _ _ h n => ok_lss rfl n.1 n.2.1, trivial⟩ [⟨_, _⟩, ⟨_, _⟩, ⟨_, _⟩, ⟨_, _⟩, ⟨_, _⟩] (fun b q p => ⟨p.ke 9 rfl i9, p.ke 10 rfl i10, p.ke 18 rfl i18, p.ke 19 rfl i19, p.ou 3 136 rfl, trivial⟩) ?_
  rintro a k ⟨⟨hg, hs, hd⟩, i9, i10, i18, i19, i136, _⟩
  refine wp_cond_split (isBool i136) (fun hc1791 => ?_) (fun hc1791 => ?_)
  ·rw [if_pos hc1791] at hr
   refine wp_skip ?_
   refine wp_seq ?_
   refine wp_block ?_
   refine wp_seq ?_
   obtain ⟨x1775_3, hx1775_3, hr⟩ := bind_some hr
   obtain ⟨x1775_6, hx1775_6, hr⟩ := bind_some hr
   refine cut (fun a' k' => Bs noF k0 213 a' k' ∧ (IsV x1713_0) (a'.get 9) k' ∧ (IsV x1718_1.1) (a'.get 10) k' ∧ (IsV s1770.1) (a'.get 18) k' ∧ (IsV s1770.2) (a'.get 19) k' ∧ (IsV x1775_6) (a'.get 20) k' ∧ True) ?_ hQ ?_
   ·intro Q1789 hQQ1789 hp1790
    refine gS 8 (_ :: _ :: _ :: _ :: _ :: _ :: _ :: _ :: []) hs (by kernel_rfl) ⟨mu rfl i10, mu rfl i10, mu rfl i19, o1 [(140, some 1), (141, some 2)] rfl fun _ _ h n => ok_indexAddr rfl Try.underlying24 ty47 (IsV.rd n.1) n.2.1 hx1775_3, o1 [(142, some 3)] rfl fun _ _ h n => ok_fieldAddr rfl fo47_0 (at_Slab_0 _) n.1, o1 [(143, some 4)] rfl fun _ _ h n => ok_load rfl ty3 n.1, o1 [(139, some 0), (144, some 5)] rfl fun _ _ h n => ok_call rfl Try.call23 (solid_Section_ok n.1 n.2.1 hx1775_6), cp 6 rfl rfl, trivial⟩ hQQ1789 fun b q p => ?_
    exact tail_done (k := q) (hp1790 _ _ ⟨Bs.post ⟨hg, hs, hd⟩ p, p.ke 9 rfl i9, p.ke 10 rfl i10, p.ke 18 rfl i18, p.ke 19 rfl i19, p.ou 7 20 rfl, trivial⟩)
   rintro a k ⟨⟨hg, hs, hd⟩, i9, i10, i18, i19, i20, _⟩
   refine wp_seq ?_
   refine wp_seq ?_
   obtain ⟨x1776_3, hx1776_3, hr⟩ := bind_some hr
   obtain ⟨x1776_6, hx1776_6, hr⟩ := bind_some hr
   obtain ⟨x1776_20, hx1776_20, hr⟩ := bind_some hr
   obtain ⟨x1776_12, hx1776_12, hx1776_20⟩ := ite_bindF hx1776_20
   obtain ⟨x1776_15, hx1776_15, hx1776_20⟩ := ite_bindF hx1776_20
   obtain ⟨x1776_16, hx1776_16, hx1776_20⟩ := ite_bindF hx1776_20
   obtain ⟨x1776_18, hx1776_18, hx1776_20⟩ := ite_bindF hx1776_20
   obtain ⟨x1776_31, hx1776_31, hr⟩ := bind_some hr
   obtain ⟨x1776_25, hx1776_25, hx1776_31⟩ := ite_bindF hx1776_31
   obtain ⟨x1776_28, hx1776_28, hx1776_31⟩ := ite_bindF hx1776_31
   obtain ⟨x1776_30, hx1776_30, hx1776_31⟩ := ite_bindF hx1776_31
   obtain ⟨x1776_43, hx1776_43, hr⟩ := bind_some hr
   obtain ⟨x1776_36, hx1776_36, hx1776_43⟩ := ite_bindF hx1776_43
   obtain ⟨x1776_39, hx1776_39, hx1776_43⟩ := ite_bindF hx1776_43
   obtain ⟨x1776_40, hx1776_40, hx1776_43⟩ := ite_bindF hx1776_43
   obtain ⟨x1776_42, hx1776_42, hx1776_43⟩ := ite_bindF hx1776_43
   refine cut (fun a' k' => Bs noF k0 213 a' k' ∧ (IsV x1713_0) (a'.get 9) k' ∧ (IsV x1718_1.1) (a'.get 10) k' ∧ (IsV s1770.1) (a'.get 18) k' ∧ (IsV s1770.2) (a'.get 19) k' ∧ (IsV x1775_6) (a'.get 20) k' ∧ (IsV x1776_43) (a'.get 189) k' ∧ True) ?_ hQ ?_
   ·intro Q1787 hQQ1787 hp1788
    refine gS 44 (_ :: _ :: _ :: _ :: _ :: _ :: _ :: _ :: _ :: _ :: _ :: _ :: _ :: _ :: _ :: _ :: _ :: _ :: _ :: _ :: _ :: _ :: _ :: _ :: _ :: _ :: _ :: _ :: _ :: _ :: _ :: _ :: _ :: _ :: _ :: _ :: _ :: _ :: _ :: _ :: _ :: _ :: _ :: _ :: []) hs (by kernel_rfl) ⟨mu rfl i20, mu rfl i10, mu rfl i19, o1 [(147, some 1), (148, some 2)] rfl fun _ _ h n => ok_indexAddr rfl Try.underlying24 ty47 (IsV.rd n.1) n.2.1 hx1776_3, o1 [(149, some 3)] rfl fun _ _ h n => ok_fieldAddr rfl fo47_2 (at_Slab_2 _) n.1, o1 [(150, some 4)] rfl fun _ _ h n => ok_load rfl ty44 n.1, o1 [(146, some 0), (151, some 5)] rfl fun _ _ h n => ok_call rfl Try.call25 (law09_rects_ok n.1 n.2.1 hx1776_6), o1 [(152, some 6)] rfl fun _ _ h n => ok_not rfl n.1, cm 7 rfl rfl, mF rfl rfl i10, mF rfl rfl i10, mF rfl rfl i19, gF [(156, some 10), (157, some 11)] rfl rfl fun hp _ _ h n => ok_indexAddr rfl Try.underlying24 ty47 (IsV.rd (Gd.get n.1 hp)) (Gd.get n.2.1 hp) (hx1776_12 hp), gF [(158, some 12)] rfl rfl fun hp _ _ h n => ok_fieldAddr rfl fo47_1 (at_Slab_1 _) (Gd.get n.1 hp), gF [(159, some 13)] rfl rfl fun hp _ _ h n => ok_load rfl ty3 (Gd.get n.1 hp), gF [(160, some 14)] rfl rfl fun hp _ _ h n => ok_sub rfl (Gd.get n.1 hp) (cI rfl) (hx1776_15 hp), gF [(155, some 9), (161, some 15)] rfl rfl fun hp _ _ h n => ok_call rfl Try.call23 (solid_Section_ok (Gd.get n.1 hp) (Gd.get n.2.1 hp) (hx1776_16 hp)), mF rfl rfl i20, gF [(162, some 16), (163, some 17)] rfl rfl fun hp _ _ h n => ok_call rfl Try.call25 (law09_rects_ok (Gd.get n.1 hp) (Gd.get n.2.1 hp) (hx1776_18 hp)), gF [(164, some 18)] rfl rfl fun hp _ _ h n => ok_not rfl (Gd.get n.1 hp), o1 [(154, some 8), (165, some 19)] rfl fun _ _ h n => ok_pickM rfl n.1 hx1776_20 (cB rfl) (Gd.get n.2.1), cm 20 rfl rfl, mF rfl rfl i10, mF rfl rfl i10, mF rfl rfl i19, gF [(169, some 23), (170, some 24)] rfl rfl fun hp _ _ h n => ok_indexAddr rfl Try.underlying24 ty47 (IsV.rd (Gd.get n.1 hp)) (Gd.get n.2.1 hp) (hx1776_25 hp), gF [(171, some 25)] rfl rfl fun hp _ _ h n => ok_fieldAddr rfl fo47_1 (at_Slab_1 _) (Gd.get n.1 hp), gF [(172, some 26)] rfl rfl fun hp _ _ h n => ok_load rfl ty3 (Gd.get n.1 hp), gF [(168, some 22), (173, some 27)] rfl rfl fun hp _ _ h n => ok_call rfl Try.call23 (solid_Section_ok (Gd.get n.1 hp) (Gd.get n.2.1 hp) (hx1776_28 hp)), mF rfl rfl i20, gF [(174, some 28), (175, some 29)] rfl rfl fun hp _ _ h n => ok_call rfl Try.call25 (law09_rects_ok (Gd.get n.1 hp) (Gd.get n.2.1 hp) (hx1776_30 hp)), o1 [(167, some 21), (176, some 30)] rfl fun _ _ h n => ok_pickM rfl n.1 hx1776_31 (cB rfl) (Gd.get n.2.1), cm 31 rfl rfl, mF rfl rfl i10, mF rfl rfl i10, mF rfl rfl i19, gF [(180, some 34), (181, some 35)] rfl rfl fun hp _ _ h n => ok_indexAddr rfl Try.underlying24 ty47 (IsV.rd (Gd.get n.1 hp)) (Gd.get n.2.1 hp) (hx1776_36 hp), gF [(182, some 36)] rfl rfl fun hp _ _ h n => ok_fieldAddr rfl fo47_0 (at_Slab_0 _) (Gd.get n.1 hp), gF [(183, some 37)] rfl rfl fun hp _ _ h n => ok_load rfl ty3 (Gd.get n.1 hp), gF [(184, some 38)] rfl rfl fun hp _ _ h n => ok_sub rfl (Gd.get n.1 hp) (cI rfl) (hx1776_39 hp), gF [(179, some 33), (185, some 39)] rfl rfl fun hp _ _ h n => ok_call rfl Try.call23 (solid_Section_ok (Gd.get n.1 hp) (Gd.get n.2.1 hp) (hx1776_40 hp)), mF rfl rfl i20, gF [(186, some 40), (187, some 41)] rfl rfl fun hp _ _ h n => ok_call rfl Try.call25 (law09_rects_ok (Gd.get n.1 hp) (Gd.get n.2.1 hp) (hx1776_42 hp)), o1 [(178, some 32), (188, some 42)] rfl fun _ _ h n => ok_pickM rfl n.1 hx1776_43 (cB rfl) (Gd.get n.2.1), trivial⟩ hQQ1787 fun b q p => ?_
    exact tail_done (k := q) (hp1788 _ _ ⟨Bs.post ⟨hg, hs, hd⟩ p, p.ke 9 rfl i9, p.ke 10 rfl i10, p.ke 18 rfl i18, p.ke 19 rfl i19, p.ke 20 rfl i20, p.ou 43 189 rfl, trivial⟩)
   rintro a k ⟨⟨hg, hs, hd⟩, i9, i10, i18, i19, i20, i189, _⟩
   refine wp_cond_split (isBool i189) (fun hc1786 => ?_) (fun hc1786 => ?_)
   ·rw [if_pos hc1786] at hr
    refine stepL 1 (⟨some (IsV false), []⟩ :: []) rfl ⟨hg, hs, hd⟩ (by kernel_rfl) ⟨ob1 rfl fun _ _ h n => ok_assign rfl (isV_bool.2 rfl), trivial⟩ [⟨_, _⟩] (fun b q p => ⟨p.ou 0 8 rfl, trivial⟩) ?_
    rintro a k ⟨⟨hg, hs, hd⟩, i8, _⟩
    refine wp_ret ?_
    exact hret1773 _ _ _ (Option.some.inj hr).symm (retC1 rfl hd hg i8)
   rw [if_neg (by rw [hc1786]; decide)] at hr
   refine wp_skip ?_
   obtain ⟨x1780_3, hx1780_3, hr⟩ := bind_some hr
   obtain ⟨x1780_8, hx1780_8, hr⟩ := bind_some hr
   obtain ⟨x1780_11, hx1780_11, hr⟩ := bind_some hr
   obtain ⟨x1780_13, hx1780_13, hr⟩ := bind_some hr
   obtain ⟨x1780_14, hx1780_14, hr⟩ := bind_some hr
   obtain ⟨x1780_15, hx1780_15, hr⟩ := bind_some hr
   refine cut (fun a' k' => Bs noF k0 213 a' k' ∧ (IsV x1713_0) (a'.get 9) k' ∧ (IsV x1718_1.1) (a'.get 10) k' ∧ (IsV x1780_15) (a'.get 18) k' ∧ (IsV s1770.2) (a'.get 19) k' ∧ True) ?_ hQ ?_
   ·intro Q1784 hQQ1784 hp1785
    refine region (a0 := a) (k0 := k) (n := 213) (m := 17) (⟨some (IsV s1770.1), [(18, none)]⟩ :: ⟨some (IsV x1718_1.1), [(10, none)]⟩ :: ⟨some (IsV s1770.2), [(19, none)]⟩ :: ⟨some (IsPtr x1780_3), [(191, some 1), (192, some 2)]⟩ :: ⟨some (IsPtr x1780_3.Z1), [(193, some 3)]⟩ :: ⟨some (IsV x1780_3.Z1), [(194, some 4)]⟩ :: ⟨some (IsV x1718_1.1), [(10, none)]⟩ :: ⟨some (IsV s1770.2), [(19, none)]⟩ :: ⟨some (IsPtr x1780_8), [(196, some 6), (197, some 7)]⟩ :: ⟨some (IsPtr x1780_8.Z0), [(198, some 8)]⟩ :: ⟨some (IsV x1780_8.Z0), [(199, some 9)]⟩ :: ⟨some (IsV x1780_11), [(195, some 5), (200, some 10)]⟩ :: ⟨some (IsV x1775_6), [(20, none)]⟩ :: ⟨some (IsV x1780_13), [(202, some 12)]⟩ :: ⟨some (IsV x1780_14), [(201, some 11), (203, some 13)]⟩ :: ⟨some (IsV x1780_15), [(190, some 0), (204, some 14)]⟩ :: ⟨some (IsV x1780_15), [(205, some 15)]⟩ :: []) hmix hs (by kernel_rfl) ⟨ob1 rfl fun b q hk hn => ok_move rfl (up i18 hk hn.1), ob1 rfl fun b q hk hn => ok_move rfl (up i10 hk hn.1), ob1 rfl fun b q hk hn => ok_move rfl (up i19 hk hn.1), ob1 rfl fun b q hk hn => ok_indexAddr rfl Try.underlying24 ty47 (IsV.rd hn.1) hn.2.1 hx1780_3, ob1 rfl fun b q hk hn => ok_fieldAddr rfl fo47_1 (at_Slab_1 _) hn.1, ob1 rfl fun b q hk hn => ok_load rfl ty3 hn.1, ob1 rfl fun b q hk hn => ok_move rfl (up i10 hk hn.1), ob1 rfl fun b q hk hn => ok_move rfl (up i19 hk hn.1), ob1 rfl fun b q hk hn => ok_indexAddr rfl Try.underlying24 ty47 (IsV.rd hn.1) hn.2.1 hx1780_8, ob1 rfl fun b q hk hn => ok_fieldAddr rfl fo47_0 (at_Slab_0 _) hn.1, ob1 rfl fun b q hk hn => ok_load rfl ty3 hn.1, ob1 rfl fun b q hk hn => ok_sub rfl hn.1 hn.2.1 hx1780_11, ob1 rfl fun b q hk hn => ok_move rfl (up i20 hk hn.1), ob1 rfl fun b q hk hn => ok_call rfl Try.call27 (region_Area_ok hn.1 hx1780_13), ob1 rfl fun b q hk hn => ok_mul rfl hn.1 hn.2.1 hx1780_14, ob1 rfl fun b q hk hn => ok_add rfl hn.1 hn.2.1 hx1780_15, ob1 rfl fun b q hk hn => ok_assign rfl hn.1, trivial⟩ hQQ1784 fun b q p => ?_
    exact tail_done (k := q) (hp1785 _ _ ⟨Bs.post ⟨hg, hs, hd⟩ p, p.ke 9 rfl i9, p.ke 10 rfl i10, p.ou 16 18 rfl, p.ke 19 rfl i19, trivial⟩)
   rintro a k ⟨⟨hg, hs, hd⟩, i9, i10, i18, i19, _⟩
   obtain ⟨x1781_1, hx1781_1, hr⟩ := bind_some hr
   refine cut (fun a' k' => Bs noF k0 213 a' k' ∧ (IsV x1713_0) (a'.get 9) k' ∧ (IsV x1718_1.1) (a'.get 10) k' ∧ (IsV x1780_15) (a'.get 18) k' ∧ (IsV x1781_1) (a'.get 19) k' ∧ True) ?_ hQ ?_
   ·intro Q1782 hQQ1782 hp1783
    refine gS 3 (_ :: _ :: _ :: []) hs (by kernel_rfl) ⟨mu rfl i19, o1 [(137, some 0)] rfl fun _ _ h n => ok_add rfl n.1 (cI rfl) hx1781_1, cp 1 rfl rfl, trivial⟩ hQQ1782 fun b q p => ?_
    exact tail_done (k := q) (hp1783 _ _ ⟨Bs.post ⟨hg, hs, hd⟩ p, p.ke 9 rfl i9, p.ke 10 rfl i10, p.ke 18 rfl i18, p.ou 2 19 rfl, trivial⟩)
   rintro a k ⟨⟨hg, hs, hd⟩, i9, i10, i18, i19, _⟩
   exact hgo1771 _ _ _ (Option.some.inj hr).symm ⟨⟨hg, hs, hd⟩, i9, i10, i18, i19, trivial⟩
  rw [if_neg (by rw [hc1791]; decide)] at hr
  refine wp_exit ?_
  exact hex1772 _ _ _ _ (Option.some.inj hr).symm ⟨rfl, ⟨hg, hs, hd⟩, i9, i10, i18, trivial⟩
 ·rintro r1799 a k rfl hR
  dsimp only at hr
  obtain rfl := Option.some.inj hr
  exact hR
 ·rintro _ _ _ rfl _
  simp at hr
 clear hf1794
 rintro _ s1795 a k rfl ⟨rfl, ⟨hg, hs, hd⟩, i9, i10, i18, _⟩
 dsimp only at hr
 refine wp_seq ?_
 obtain ⟨x1796_6, hx1796_6, hr⟩ := bind_some hr
 obtain ⟨x1796_3, hx1796_3, hx1796_6⟩ := ite_bind hx1796_6
 refine cut (fun a' k' => Bs noF k0 213 a' k' ∧ (IsV x1796_6) (a'.get 8) k' ∧ True) ?_ hQ ?_
 ·intro Q1797 hQQ1797 hp1798
  refine gS 8 (_ :: _ :: _ :: _ :: _ :: _ :: _ :: _ :: []) hs (by kernel_rfl) ⟨mu rfl i9, cm 0 rfl rfl, mT rfl rfl i10, gT [(208, some 2)] rfl rfl fun hp _ _ h n => ok_call rfl Try.call12 (solid_Volume_ok (Gd.get n.1 hp) (hx1796_3 hp)), mT rfl rfl i18, gT [(209, some 3), (210, some 4)] rfl rfl fun hp _ _ h n => ok_eqI rfl (Gd.get n.1 hp) (Gd.get n.2.1 hp), o1 [(207, some 1), (211, some 5)] rfl fun _ _ h n => ok_pickM rfl n.1 hx1796_6 (Gd.get n.2.1) (cB rfl), cp 6 rfl rfl, trivial⟩ hQQ1797 fun b q p => ?_
  exact tail_done (k := q) (hp1798 _ _ ⟨Bs.post ⟨hg, hs, hd⟩ p, p.ou 7 8 rfl, trivial⟩)
 rintro a k ⟨⟨hg, hs, hd⟩, i8, _⟩
 refine wp_ret ?_
 obtain rfl := Option.some.inj hr
 exact retC1 rfl hd hg i8
end Go.Proofs.Ytmniloampanhfaa
