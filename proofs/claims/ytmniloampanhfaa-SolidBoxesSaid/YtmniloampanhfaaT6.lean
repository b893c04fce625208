/- What the functions compute that the law reaches, part 6 -/
import Derived.Test.YtmniloampanhfaaT5
namespace Go.Proofs.Ytmniloampanhfaa
open Go.Gb
set_option linter.unusedVariables false
set_option linter.unusedSimpArgs false
set_option maxRecDepth 100000
def law09_SolidAlgebra_L0 (a_ : (List Box)) (s1991 : (List Slab) × Int) : Option (Flow ((List Slab) × Int) (Bool)) :=
 if (decide (s1991.2 < (a_.length : Int))) then
  (subI (a_.length : Int) 1).bind fun x1996_3 =>
  (subI x1996_3 s1991.2).bind fun x1996_5 =>
  (getI a_ x1996_5).bind fun x1996_6 =>
  (solid_Of ([x1996_6])).bind fun x1996_9 =>
  (solid_Union s1991.1 x1996_9.1).bind fun x1997_2 =>
  (addI s1991.2 1).bind fun x1998_1 =>
  some (.go (x1997_2.1, x1998_1))
 else
  some (.ex 0 (s1991.1, s1991.2))
def law09_SolidAlgebra (a_ : (List Box)) (b_ : (List Box)) (c_ : (List Box)) : Option (Bool) :=
 (law09_small).bind fun x1953_0 =>
 if (((decide (4 < (a_.length : Int))) || (decide (4 < (b_.length : Int)))) || (decide (4 < (c_.length : Int)))) then
  some x1953_0
 else
  (solid_Of a_).bind fun x1958_1 =>
  (solid_Of b_).bind fun x1959_1 =>
  (solid_Of c_).bind fun x1960_1 =>
  if (((x1958_1.2 != 0) || (x1959_1.2 != 0)) || (x1960_1.2 != 0)) then
   some (x1953_0 && (((x1958_1.2 == 1) || (x1959_1.2 == 1)) || (x1960_1.2 == 1)))
  else
   (solid_Union x1958_1.1 x1959_1.1).bind fun x1965_2 =>
   (solid_Union x1959_1.1 x1958_1.1).bind fun x1966_2 =>
   (solid_Union x1959_1.1 x1960_1.1).bind fun x1967_2 =>
   (solid_Union x1965_2.1 x1960_1.1).bind fun x1968_2 =>
   (solid_Union x1958_1.1 x1967_2.1).bind fun x1969_2 =>
   (appI [] c_).bind fun x1970_2 =>
   (appI x1970_2 a_).bind fun x1970_4 =>
   (appI x1970_4 b_).bind fun x1970_6 =>
   (solid_Of x1970_6).bind fun x1970_7 =>
   (solid_Common x1958_1.1 x1959_1.1).bind fun x1971_2 =>
   (solid_Common x1959_1.1 x1958_1.1).bind fun x1972_2 =>
   (solid_Common x1958_1.1 x1960_1.1).bind fun x1973_2 =>
   (solid_Common x1958_1.1 x1967_2.1).bind fun x1974_2 =>
   (solid_Union x1971_2.1 x1973_2.1).bind fun x1975_2 =>
   (if (x1970_7.2 != 0) then
    some true
   else
    (solid_Same x1965_2.1 x1966_2.1).bind fun x1976_5 =>
    some (!x1976_5)).bind fun x1976_7 =>
   (if x1976_7 then
    some true
   else
    (solid_Same x1968_2.1 x1969_2.1).bind fun x1976_11 =>
    some (!x1976_11)).bind fun x1976_13 =>
   (if x1976_13 then
    some true
   else
    (solid_Same x1968_2.1 x1970_7.1).bind fun x1976_17 =>
    some (!x1976_17)).bind fun x1976_19 =>
   (if x1976_19 then
    some true
   else
    (solid_Same x1971_2.1 x1972_2.1).bind fun x1976_23 =>
    some (!x1976_23)).bind fun x1976_25 =>
   (if x1976_25 then
    some true
   else
    (solid_Same x1974_2.1 x1975_2.1).bind fun x1976_29 =>
    some (!x1976_29)).bind fun x1976_31 =>
   (if x1976_31 then
    some true
   else
    (solid_Volume x1965_2.1).bind fun x1976_34 =>
    (solid_Volume x1971_2.1).bind fun x1976_36 =>
    (addI x1976_34 x1976_36).bind fun x1976_37 =>
    (solid_Volume x1958_1.1).bind fun x1976_39 =>
    (solid_Volume x1959_1.1).bind fun x1976_41 =>
    (addI x1976_39 x1976_41).bind fun x1976_42 =>
    some (x1976_37 != x1976_42)).bind fun x1976_44 =>
   if x1976_44 then
    some false
   else
    (solid_Minus x1958_1.1 x1959_1.1).bind fun x1980_2 =>
    (solid_Common x1980_2.1 x1959_1.1).bind fun x1981_2 =>
    (solid_Union x1980_2.1 x1971_2.1).bind fun x1982_2 =>
    (solid_Minus x1958_1.1 x1967_2.1).bind fun x1983_2 =>
    (solid_Minus x1980_2.1 x1960_1.1).bind fun x1984_2 =>
    (if ((x1980_2.2 != 0) || ((x1981_2.1.length : Int) != 0)) then
     some true
    else
     (solid_Same x1982_2.1 x1958_1.1).bind fun x1985_10 =>
     some (!x1985_10)).bind fun x1985_12 =>
    (if x1985_12 then
     some true
    else
     (solid_Same x1983_2.1 x1984_2.1).bind fun x1985_16 =>
     some (!x1985_16)).bind fun x1985_18 =>
    if x1985_18 then
     some false
    else
     (iterL (law09_SolidAlgebra_L0 a_) (a_.length + x1958_1.1.length + ([] : List Slab).length + 1) (([] : List Slab), 0)).bind fun f2008 => match f2008 with
      | .go _ => none
      | .ex _ s2009 =>
       (if x1953_0 then
        (solid_Same s2009.1 x1958_1.1).bind fun x2010_4 =>
        some x2010_4
       else
        some false).bind fun x2010_5 =>
       some x2010_5
      | .ret r2013 => some r2013
theorem law09_SolidAlgebra_ok {k0 : K} {v0 v1 v2 : Value} {a_ : (List Box)} {b_ : (List Box)} {c_ : (List Box)} {r : Bool} (i0 : (IsV a_) v0 k0) (i1 : (IsV b_) v1 k0) (i2 : (IsV c_) v2 k0) (hr : law09_SolidAlgebra a_ b_ c_ = some r) :
  Calls Try.prog 5 #[v0, v1, v2] k0.w (Ret k0 (IsV r)) := by
 unfold law09_SolidAlgebra at hr
 refine Ret.ofC ?_
 refine enterK Try.func5 rfl Try.ntmps5 (show 3 ≤ 299 by decide) fun a k hk0 hs hd ha => ?_
 obtain ⟨e0, e1, e2, _⟩ := ha
 replace i0 : (IsV a_) (a.get 0) k := by rw [e0, hk0]; exact i0
 replace i1 : (IsV b_) (a.get 1) k := by rw [e1, hk0]; exact i1
 replace i2 : (IsV c_) (a.get 2) k := by rw [e2, hk0]; exact i2
 have hQ : Gb.LetsOut (bodyPost Try.prog Try.f5 (RetC noF k0 (IsV r))) := letsOutC
 have hg : Chg noF k0 k := by rw [hk0]; exact Chg.refl _ k0
 refine stepL 1 (⟨some (IsV false), []⟩ :: []) rfl ⟨hg, hs, hd⟩ (by kernel_rfl) ⟨ob1 rfl fun _ _ h n => ok_assign rfl (isV_bool.2 rfl), trivial⟩ [⟨_, _⟩, ⟨_, _⟩, ⟨_, _⟩] (fun b q p => ⟨p.ke 0 rfl i0, p.ke 1 rfl i1, p.ke 2 rfl i2, trivial⟩) ?_
 rintro a k ⟨⟨hg, hs, hd⟩, i0, i1, i2, _⟩
 refine wp_seq ?_
 obtain ⟨x1953_0, hx1953_0, hr⟩ := bind_some hr
 refine cut (fun a' k' => Bs noF k0 299 a' k' ∧ (IsV a_) (a'.get 0) k' ∧ (IsV b_) (a'.get 1) k' ∧ (IsV c_) (a'.get 2) k' ∧ (IsV x1953_0) (a'.get 7) k' ∧ True) ?_ hQ ?_
 ·intro Q2069 hQQ2069 hp2070
  refine gS 2 (_ :: _ :: []) hs (by kernel_rfl) ⟨o1 [] rfl fun _ _ h n => ok_call rfl Try.call8 (law09_small_ok hx1953_0), cp 0 rfl rfl, trivial⟩ hQQ2069 fun b q p => ?_
  exact tail_done (k := q) (hp2070 _ _ ⟨Bs.post ⟨hg, hs, hd⟩ p, p.ke 0 rfl i0, p.ke 1 rfl i1, p.ke 2 rfl i2, p.ou 1 7 rfl, trivial⟩)
 rintro a k ⟨⟨hg, hs, hd⟩, i0, i1, i2, i7, _⟩
 refine wp_seq ?_
 refine stepL 13 (_ :: _ :: _ :: _ :: _ :: _ :: _ :: _ :: _ :: _ :: _ :: _ :: _ :: []) rfl ⟨hg, hs, hd⟩ (by kernel_rfl) ⟨mu rfl i0, o1 [(51, some 0)] rfl fun _ _ h n => ok_len rfl rfl Try.underlying22 (IsV.rd n.1), o1 [(52, some 1)] rfl fun _ _ h n => ok_gtr rfl n.1 (cI rfl), cm 2 rfl rfl, mF rfl rfl i1, gF [(55, some 4)] rfl rfl fun hp _ _ h n => ok_len rfl rfl Try.underlying22 (IsV.rd (Gd.get n.1 hp)), gF [(56, some 5)] rfl rfl fun hp _ _ h n => ok_gtr rfl (Gd.get n.1 hp) (cI rfl), o1 [(54, some 3), (57, some 6)] rfl fun _ _ h n => ok_pickOr rfl n.1 (cB rfl) (Gd.get n.2.1), cm 7 rfl rfl, mF rfl rfl i2, gF [(60, some 9)] rfl rfl fun hp _ _ h n => ok_len rfl rfl Try.underlying22 (IsV.rd (Gd.get n.1 hp)), gF [(61, some 10)] rfl rfl fun hp _ _ h n => ok_gtr rfl (Gd.get n.1 hp) (cI rfl), o1 [(59, some 8), (62, some 11)] rfl fun _ _ h n => ok_pickOr rfl n.1 (cB rfl) (Gd.get n.2.1), trivial⟩ [⟨_, _⟩, ⟨_, _⟩, ⟨_, _⟩, ⟨_, _⟩, ⟨_, _⟩] (fun b q p => ⟨p.ke 0 rfl i0, p.ke 1 rfl i1, p.ke 2 rfl i2, p.ke 7 rfl i7, p.ou 12 63 rfl, trivial⟩) ?_
 rintro a k ⟨⟨hg, hs, hd⟩, i0, i1, i2, i7, i63, _⟩
 refine wp_cond_split (isBool i63) (fun hc2066 => ?_) (fun hc2066 => ?_)
 ·rw [if_pos hc2066] at hr
  refine stepL 2 (_ :: _ :: []) rfl ⟨hg, hs, hd⟩ (by kernel_rfl) ⟨mu rfl i7, cp 0 rfl rfl, trivial⟩ [⟨_, _⟩] (fun b q p => ⟨p.ou 1 6 rfl, trivial⟩) ?_
  rintro a k ⟨⟨hg, hs, hd⟩, i6, _⟩
  refine wp_ret ?_
  obtain rfl := Option.some.inj hr
  exact retC1 rfl hd hg i6
 rw [if_neg (by rw [hc2066]; decide)] at hr
 refine wp_skip ?_
 refine wp_seq ?_
 obtain ⟨x1958_1, hx1958_1, hr⟩ := bind_some hr
 refine cut (fun a' k' => Bs noF k0 299 a' k' ∧ (IsV a_) (a'.get 0) k' ∧ (IsV b_) (a'.get 1) k' ∧ (IsV c_) (a'.get 2) k' ∧ (IsV x1953_0) (a'.get 7) k' ∧ (IsV x1958_1.1) (a'.get 8) k' ∧ (IsV x1958_1.2) (a'.get 9) k' ∧ True) ?_ hQ ?_
 ·intro Q2064 hQQ2064 hp2065
  refine gS 7 (_ :: _ :: _ :: _ :: _ :: _ :: _ :: []) hs (by kernel_rfl) ⟨mu rfl i0, o1 [(66, some 0)] rfl fun _ _ h n => ok_call rfl Try.call9 (solid_Of_ok n.1 hx1958_1), cm 1 rfl rfl, o1 [(65, some 2)] rfl fun _ _ h n => ok_ext2_0 rfl n.1, o1 [(65, some 2)] rfl fun _ _ h n => ok_ext2_1 rfl n.1, cp 3 rfl rfl, cp 4 rfl rfl, trivial⟩ hQQ2064 fun b q p => ?_
  exact tail_done (k := q) (hp2065 _ _ ⟨Bs.post ⟨hg, hs, hd⟩ p, p.ke 0 rfl i0, p.ke 1 rfl i1, p.ke 2 rfl i2, p.ke 7 rfl i7, p.ou 5 8 rfl, p.ou 6 9 rfl, trivial⟩)
 rintro a k ⟨⟨hg, hs, hd⟩, i0, i1, i2, i7, i8, i9, _⟩
 refine wp_seq ?_
 obtain ⟨x1959_1, hx1959_1, hr⟩ := bind_some hr
 refine cut (fun a' k' => Bs noF k0 299 a' k' ∧ (IsV a_) (a'.get 0) k' ∧ (IsV b_) (a'.get 1) k' ∧ (IsV c_) (a'.get 2) k' ∧ (IsV x1953_0) (a'.get 7) k' ∧ (IsV x1958_1.1) (a'.get 8) k' ∧ (IsV x1958_1.2) (a'.get 9) k' ∧ (IsV x1959_1.1) (a'.get 10) k' ∧ (IsV x1959_1.2) (a'.get 11) k' ∧ True) ?_ hQ ?_
 ·intro Q2062 hQQ2062 hp2063
  refine gS 7 (_ :: _ :: _ :: _ :: _ :: _ :: _ :: []) hs (by kernel_rfl) ⟨mu rfl i1, o1 [(71, some 0)] rfl fun _ _ h n => ok_call rfl Try.call9 (solid_Of_ok n.1 hx1959_1), cm 1 rfl rfl, o1 [(70, some 2)] rfl fun _ _ h n => ok_ext2_0 rfl n.1, o1 [(70, some 2)] rfl fun _ _ h n => ok_ext2_1 rfl n.1, cp 3 rfl rfl, cp 4 rfl rfl, trivial⟩ hQQ2062 fun b q p => ?_
  exact tail_done (k := q) (hp2063 _ _ ⟨Bs.post ⟨hg, hs, hd⟩ p, p.ke 0 rfl i0, p.ke 1 rfl i1, p.ke 2 rfl i2, p.ke 7 rfl i7, p.ke 8 rfl i8, p.ke 9 rfl i9, p.ou 5 10 rfl, p.ou 6 11 rfl, trivial⟩)
 rintro a k ⟨⟨hg, hs, hd⟩, i0, i1, i2, i7, i8, i9, i10, i11, _⟩
 refine wp_seq ?_
 obtain ⟨x1960_1, hx1960_1, hr⟩ := bind_some hr
 refine cut (fun a' k' => Bs noF k0 299 a' k' ∧ (IsV a_) (a'.get 0) k' ∧ (IsV b_) (a'.get 1) k' ∧ (IsV c_) (a'.get 2) k' ∧ (IsV x1953_0) (a'.get 7) k' ∧ (IsV x1958_1.1) (a'.get 8) k' ∧ (IsV x1958_1.2) (a'.get 9) k' ∧ (IsV x1959_1.1) (a'.get 10) k' ∧ (IsV x1959_1.2) (a'.get 11) k' ∧ (IsV x1960_1.1) (a'.get 12) k' ∧ (IsV x1960_1.2) (a'.get 13) k' ∧ True) ?_ hQ ?_
 ·intro Q2060 hQQ2060 hp2061
  refine gS 7 (_ :: _ :: _ :: _ :: _ :: _ :: _ :: []) hs (by kernel_rfl) ⟨mu rfl i2, o1 [(76, some 0)] rfl fun _ _ h n => ok_call rfl Try.call9 (solid_Of_ok n.1 hx1960_1), cm 1 rfl rfl, o1 [(75, some 2)] rfl fun _ _ h n => ok_ext2_0 rfl n.1, o1 [(75, some 2)] rfl fun _ _ h n => ok_ext2_1 rfl n.1, cp 3 rfl rfl, cp 4 rfl rfl, trivial⟩ hQQ2060 fun b q p => ?_
  exact tail_done (k := q) (hp2061 _ _ ⟨Bs.post ⟨hg, hs, hd⟩ p, p.ke 0 rfl i0, p.ke 1 rfl i1, p.ke 2 rfl i2, p.ke 7 rfl i7, p.ke 8 rfl i8, p.ke 9 rfl i9, p.ke 10 rfl i10, p.ke 11 rfl i11, p.ou 5 12 rfl, p.ou 6 13 rfl, trivial⟩)
 rintro a k ⟨⟨hg, hs, hd⟩, i0, i1, i2, i7, i8, i9, i10, i11, i12, i13, _⟩
 refine wp_seq ?_
 refine stepL 10 (_ :: ⟨some (IsV (x1958_1.2 != 0)), [(80, some 0)]⟩ :: _ :: _ :: ⟨some (Gd ((x1958_1.2 != 0) = false) (IsV (x1959_1.2 != 0))), [(83, some 3)]⟩ :: _ :: _ :: _ :: ⟨some (Gd (((x1958_1.2 != 0) || (x1959_1.2 != 0)) = false) (IsV (x1960_1.2 != 0))), [(87, some 7)]⟩ :: _ :: []) rfl ⟨hg, hs, hd⟩ (by kernel_rfl) ⟨mu rfl i9, ob1 rfl fun _ _ h n => ok_neI rfl n.1 (cI rfl), cm 1 rfl rfl, mF rfl rfl i11, gdF rfl rfl fun hp _ _ h n => ok_neI rfl (Gd.get n.1 hp) (cI rfl), o1 [(82, some 2), (84, some 4)] rfl fun _ _ h n => ok_pickOr rfl n.1 (cB rfl) (Gd.get n.2.1), cm 5 rfl rfl, mF rfl rfl i13, gdF rfl rfl fun hp _ _ h n => ok_neI rfl (Gd.get n.1 hp) (cI rfl), o1 [(86, some 6), (88, some 8)] rfl fun _ _ h n => ok_pickOr rfl n.1 (cB rfl) (Gd.get n.2.1), trivial⟩ [⟨_, _⟩, ⟨_, _⟩, ⟨_, _⟩, ⟨_, _⟩, ⟨_, _⟩, ⟨_, _⟩, ⟨_, _⟩, ⟨_, _⟩, ⟨_, _⟩, ⟨_, _⟩, ⟨_, _⟩] (fun b q p => ⟨p.ke 0 rfl i0, p.ke 1 rfl i1, p.ke 2 rfl i2, p.ke 7 rfl i7, p.ke 8 rfl i8, p.ke 9 rfl i9, p.ke 10 rfl i10, p.ke 11 rfl i11, p.ke 12 rfl i12, p.ke 13 rfl i13, p.ou 9 89 rfl, trivial⟩) ?_
 rintro a k ⟨⟨hg, hs, hd⟩, i0, i1, i2, i7, i8, i9, i10, i11, i12, i13, i89, _⟩
 refine wp_cond_split (isBool i89) (fun hc2057 => ?_) (fun hc2057 => ?_)
 ·rw [if_pos hc2057] at hr
  refine stepL 14 (_ :: _ :: _ :: _ :: ⟨some (Gd (x1953_0 = true) (IsV (x1958_1.2 == 1))), [(93, some 3)]⟩ :: ⟨some (Gd ((x1953_0 = true) ∧ (x1958_1.2 == 1) = false) (IsV x1959_1.2)), [(11, none)]⟩ :: ⟨some (Gd ((x1953_0 = true) ∧ (x1958_1.2 == 1) = false) (IsV (x1959_1.2 == 1))), [(95, some 5)]⟩ :: _ :: ⟨some (Gd (x1953_0 = true) (IsV ((x1958_1.2 == 1) || (x1959_1.2 == 1)))), [(97, some 7)]⟩ :: ⟨some (Gd ((x1953_0 = true) ∧ ((x1958_1.2 == 1) || (x1959_1.2 == 1)) = false) (IsV x1960_1.2)), [(13, none)]⟩ :: ⟨some (Gd ((x1953_0 = true) ∧ ((x1958_1.2 == 1) || (x1959_1.2 == 1)) = false) (IsV (x1960_1.2 == 1))), [(99, some 9)]⟩ :: _ :: _ :: _ :: []) rfl ⟨hg, hs, hd⟩ (by kernel_rfl) ⟨mu rfl i7, cm 0 rfl rfl, mT rfl rfl i9, gT [(92, some 2)] rfl rfl fun hp _ _ h n => ok_eqI rfl (Gd.get n.1 hp) (cI rfl), gdT rfl rfl fun hp _ _ h n => ok_move rfl (Gd.get n.1 hp), gdTF rfl rfl fun hp b q h n => ok_move rfl (up i11 h n.1), gdTF rfl rfl fun hp b q h n => ok_eqI rfl (Gd.get n.1 hp) (cI rfl), gT [(94, some 4), (96, some 6)] rfl rfl fun hp _ _ h n => ok_pickOr rfl (Gd.get n.1 hp) (cB rfl) (fun hm => (Gd.get n.2.1 ⟨hp, hm⟩)), gdT rfl rfl fun hp _ _ h n => ok_move rfl (Gd.get n.1 hp), gdTF rfl rfl fun hp b q h n => ok_move rfl (up i13 h n.1), gdTF rfl rfl fun hp b q h n => ok_eqI rfl (Gd.get n.1 hp) (cI rfl), gT [(98, some 8), (100, some 10)] rfl rfl fun hp _ _ h n => ok_pickOr rfl (Gd.get n.1 hp) (cB rfl) (fun hm => (Gd.get n.2.1 ⟨hp, hm⟩)), o1 [(91, some 1), (101, some 11)] rfl fun _ _ h n => ok_pickAnd rfl n.1 (Gd.get n.2.1) (cB rfl), cp 12 rfl rfl, trivial⟩ [⟨_, _⟩] (fun b q p => ⟨p.ou 13 6 rfl, trivial⟩) ?_
  rintro a k ⟨⟨hg, hs, hd⟩, i6, _⟩
  refine wp_ret ?_
  obtain rfl := Option.some.inj hr
  exact retC1 rfl hd hg i6
 rw [if_neg (by rw [hc2057]; decide)] at hr
 refine wp_skip ?_
 refine wp_seq ?_
 obtain ⟨x1965_2, hx1965_2, hr⟩ := bind_some hr
 refine cut (fun a' k' => Bs noF k0 299 a' k' ∧ (IsV a_) (a'.get 0) k' ∧ (IsV b_) (a'.get 1) k' ∧ (IsV c_) (a'.get 2) k' ∧ (IsV x1953_0) (a'.get 7) k' ∧ (IsV x1958_1.1) (a'.get 8) k' ∧ (IsV x1959_1.1) (a'.get 10) k' ∧ (IsV x1960_1.1) (a'.get 12) k' ∧ (IsV x1965_2.1) (a'.get 14) k' ∧ True) ?_ hQ ?_
 ·intro Q2055 hQQ2055 hp2056
  refine gS 8 (_ :: _ :: _ :: _ :: _ :: _ :: _ :: _ :: []) hs (by kernel_rfl) ⟨mu rfl i8, mu rfl i10, o1 [(104, some 0), (105, some 1)] rfl fun _ _ h n => ok_call rfl Try.call14 (solid_Union_ok n.1 n.2.1 hx1965_2), cm 2 rfl rfl, o1 [(103, some 3)] rfl fun _ _ h n => ok_ext2_0 rfl n.1, o1 [(103, some 3)] rfl fun _ _ h n => ok_ext2_1 rfl n.1, cp 4 rfl rfl, cp 5 rfl rfl, trivial⟩ hQQ2055 fun b q p => ?_
  exact tail_done (k := q) (hp2056 _ _ ⟨Bs.post ⟨hg, hs, hd⟩ p, p.ke 0 rfl i0, p.ke 1 rfl i1, p.ke 2 rfl i2, p.ke 7 rfl i7, p.ke 8 rfl i8, p.ke 10 rfl i10, p.ke 12 rfl i12, p.ou 6 14 rfl, trivial⟩)
 rintro a k ⟨⟨hg, hs, hd⟩, i0, i1, i2, i7, i8, i10, i12, i14, _⟩
 refine wp_seq ?_
 obtain ⟨x1966_2, hx1966_2, hr⟩ := bind_some hr
 refine cut (fun a' k' => Bs noF k0 299 a' k' ∧ (IsV a_) (a'.get 0) k' ∧ (IsV b_) (a'.get 1) k' ∧ (IsV c_) (a'.get 2) k' ∧ (IsV x1953_0) (a'.get 7) k' ∧ (IsV x1958_1.1) (a'.get 8) k' ∧ (IsV x1959_1.1) (a'.get 10) k' ∧ (IsV x1960_1.1) (a'.get 12) k' ∧ (IsV x1965_2.1) (a'.get 14) k' ∧ (IsV x1966_2.1) (a'.get 16) k' ∧ True) ?_ hQ ?_
 ·intro Q2053 hQQ2053 hp2054
  refine gS 8 (_ :: _ :: _ :: _ :: _ :: _ :: _ :: _ :: []) hs (by kernel_rfl) ⟨mu rfl i10, mu rfl i8, o1 [(110, some 0), (111, some 1)] rfl fun _ _ h n => ok_call rfl Try.call14 (solid_Union_ok n.1 n.2.1 hx1966_2), cm 2 rfl rfl, o1 [(109, some 3)] rfl fun _ _ h n => ok_ext2_0 rfl n.1, o1 [(109, some 3)] rfl fun _ _ h n => ok_ext2_1 rfl n.1, cp 4 rfl rfl, cp 5 rfl rfl, trivial⟩ hQQ2053 fun b q p => ?_
  exact tail_done (k := q) (hp2054 _ _ ⟨Bs.post ⟨hg, hs, hd⟩ p, p.ke 0 rfl i0, p.ke 1 rfl i1, p.ke 2 rfl i2, p.ke 7 rfl i7, p.ke 8 rfl i8, p.ke 10 rfl i10, p.ke 12 rfl i12, p.ke 14 rfl i14, p.ou 6 16 rfl, trivial⟩)
 rintro a k ⟨⟨hg, hs, hd⟩, i0, i1, i2, i7, i8, i10, i12, i14, i16, _⟩
 refine wp_seq ?_
 obtain ⟨x1967_2, hx1967_2, hr⟩ := bind_some hr
 refine cut (fun a' k' => Bs noF k0 299 a' k' ∧ (IsV a_) (a'.get 0) k' ∧ (IsV b_) (a'.get 1) k' ∧ (IsV c_) (a'.get 2) k' ∧ (IsV x1953_0) (a'.get 7) k' ∧ (IsV x1958_1.1) (a'.get 8) k' ∧ (IsV x1959_1.1) (a'.get 10) k' ∧ (IsV x1960_1.1) (a'.get 12) k' ∧ (IsV x1965_2.1) (a'.get 14) k' ∧ (IsV x1966_2.1) (a'.get 16) k' ∧ (IsV x1967_2.1) (a'.get 18) k' ∧ True) ?_ hQ ?_
 ·intro Q2051 hQQ2051 hp2052
  refine gS 8 (_ :: _ :: _ :: _ :: _ :: _ :: _ :: _ :: []) hs (by kernel_rfl) ⟨mu rfl i10, mu rfl i12, o1 [(116, some 0), (117, some 1)] rfl fun _ _ h n => ok_call rfl Try.call14 (solid_Union_ok n.1 n.2.1 hx1967_2), cm 2 rfl rfl, o1 [(115, some 3)] rfl fun _ _ h n => ok_ext2_0 rfl n.1, o1 [(115, some 3)] rfl fun _ _ h n => ok_ext2_1 rfl n.1, cp 4 rfl rfl, cp 5 rfl rfl, trivial⟩ hQQ2051 fun b q p => ?_
  exact tail_done (k := q) (hp2052 _ _ ⟨Bs.post ⟨hg, hs, hd⟩ p, p.ke 0 rfl i0, p.ke 1 rfl i1, p.ke 2 rfl i2, p.ke 7 rfl i7, p.ke 8 rfl i8, p.ke 10 rfl i10, p.ke 12 rfl i12, p.ke 14 rfl i14, p.ke 16 rfl i16, p.ou 6 18 rfl, trivial⟩)
 rintro a k ⟨⟨hg, hs, hd⟩, i0, i1, i2, i7, i8, i10, i12, i14, i16, i18, _⟩
 refine wp_seq ?_
 obtain ⟨x1968_2, hx1968_2, hr⟩ := bind_some hr
 refine cut (fun a' k' => Bs noF k0 299 a' k' ∧ (IsV a_) (a'.get 0) k' ∧ (IsV b_) (a'.get 1) k' ∧ (IsV c_) (a'.get 2) k' ∧ (IsV x1953_0) (a'.get 7) k' ∧ (IsV x1958_1.1) (a'.get 8) k' ∧ (IsV x1959_1.1) (a'.get 10) k' ∧ (IsV x1960_1.1) (a'.get 12) k' ∧ (IsV x1965_2.1) (a'.get 14) k' ∧ (IsV x1966_2.1) (a'.get 16) k' ∧ (IsV x1967_2.1) (a'.get 18) k' ∧ (IsV x1968_2.1) (a'.get 20) k' ∧ True) ?_ hQ ?_
 ·intro Q2049 hQQ2049 hp2050
  refine gS 8 (_ :: _ :: _ :: _ :: _ :: _ :: _ :: _ :: []) hs (by kernel_rfl) ⟨mu rfl i14, mu rfl i12, o1 [(122, some 0), (123, some 1)] rfl fun _ _ h n => ok_call rfl Try.call14 (solid_Union_ok n.1 n.2.1 hx1968_2), cm 2 rfl rfl, o1 [(121, some 3)] rfl fun _ _ h n => ok_ext2_0 rfl n.1, o1 [(121, some 3)] rfl fun _ _ h n => ok_ext2_1 rfl n.1, cp 4 rfl rfl, cp 5 rfl rfl, trivial⟩ hQQ2049 fun b q p => ?_
  exact tail_done (k := q) (hp2050 _ _ ⟨Bs.post ⟨hg, hs, hd⟩ p, p.ke 0 rfl i0, p.ke 1 rfl i1, p.ke 2 rfl i2, p.ke 7 rfl i7, p.ke 8 rfl i8, p.ke 10 rfl i10, p.ke 12 rfl i12, p.ke 14 rfl i14, p.ke 16 rfl i16, p.ke 18 rfl i18, p.ou 6 20 rfl, trivial⟩)
 rintro a k ⟨⟨hg, hs, hd⟩, i0, i1, i2, i7, i8, i10, i12, i14, i16, i18, i20, _⟩
 refine wp_seq ?_
 obtain ⟨x1969_2, hx1969_2, hr⟩ := bind_some hr
 refine cut (fun a' k' => Bs noF k0 299 a' k' ∧ (IsV a_) (a'.get 0) k' ∧ (IsV b_) (a'.get 1) k' ∧ (IsV c_) (a'.get 2) k' ∧ (IsV x1953_0) (a'.get 7) k' ∧ (IsV x1958_1.1) (a'.get 8) k' ∧ (IsV x1959_1.1) (a'.get 10) k' ∧ (IsV x1960_1.1) (a'.get 12) k' ∧ (IsV x1965_2.1) (a'.get 14) k' ∧ (IsV x1966_2.1) (a'.get 16) k' ∧ (IsV x1967_2.1) (a'.get 18) k' ∧ (IsV x1968_2.1) (a'.get 20) k' ∧ (IsV x1969_2.1) (a'.get 22) k' ∧ True) ?_ hQ ?_
 ·intro Q2047 hQQ2047 hp2048
  refine gS 8 (_ :: _ :: _ :: _ :: _ :: _ :: _ :: _ :: []) hs (by kernel_rfl) ⟨mu rfl i8, mu rfl i18, o1 [(128, some 0), (129, some 1)] rfl fun _ _ h n => ok_call rfl Try.call14 (solid_Union_ok n.1 n.2.1 hx1969_2), cm 2 rfl rfl, o1 [(127, some 3)] rfl fun _ _ h n => ok_ext2_0 rfl n.1, o1 [(127, some 3)] rfl fun _ _ h n => ok_ext2_1 rfl n.1, cp 4 rfl rfl, cp 5 rfl rfl, trivial⟩ hQQ2047 fun b q p => ?_
  exact tail_done (k := q) (hp2048 _ _ ⟨Bs.post ⟨hg, hs, hd⟩ p, p.ke 0 rfl i0, p.ke 1 rfl i1, p.ke 2 rfl i2, p.ke 7 rfl i7, p.ke 8 rfl i8, p.ke 10 rfl i10, p.ke 12 rfl i12, p.ke 14 rfl i14, p.ke 16 rfl i16, p.ke 18 rfl i18, p.ke 20 rfl i20, p.ou 6 22 rfl, trivial⟩)
 rintro a k ⟨⟨hg, hs, hd⟩, i0, i1, i2, i7, i8, i10, i12, i14, i16, i18, i20, i22, _⟩
 refine wp_seq ?_
 obtain ⟨x1970_2, hx1970_2, hr⟩ := bind_some hr
 obtain ⟨x1970_4, hx1970_4, hr⟩ := bind_some hr
 obtain ⟨x1970_6, hx1970_6, hr⟩ := bind_some hr
 obtain ⟨x1970_7, hx1970_7, hr⟩ := bind_some hr
 refine cut (fun a' k' => Bs noF k0 299 a' k' ∧ (IsV a_) (a'.get 0) k' ∧ (IsV x1953_0) (a'.get 7) k' ∧ (IsV x1958_1.1) (a'.get 8) k' ∧ (IsV x1959_1.1) (a'.get 10) k' ∧ (IsV x1960_1.1) (a'.get 12) k' ∧ (IsV x1965_2.1) (a'.get 14) k' ∧ (IsV x1966_2.1) (a'.get 16) k' ∧ (IsV x1967_2.1) (a'.get 18) k' ∧ (IsV x1968_2.1) (a'.get 20) k' ∧ (IsV x1969_2.1) (a'.get 22) k' ∧ (IsV x1970_7.1) (a'.get 24) k' ∧ (IsV x1970_7.2) (a'.get 25) k' ∧ True) ?_ hQ ?_
 ·intro Q2045 hQQ2045 hp2046
  refine gS 4 (⟨some IsE0, []⟩ :: _ :: ⟨some (IsOwn k.w.heap.size 32 x1970_2), [(134, some 0), (135, some 1)]⟩ :: _ :: []) hs (by kernel_rfl) ⟨ob1 rfl fun b q h n => ok_buildSlice0 rfl Try.underlying22 eo32, mu rfl i2, ob1 rfl fun _ _ h n => ok_append0 rfl Try.underlying22 eo32 h.size n.1 (IsV.rd n.2.1) hx1970_2, mu rfl i0, trivial⟩ hQQ2045 fun b q p => ?_
  have hgq := hg.then p.grow
  have hsb := p.size.trans hs
  have hdb := p.defers.trans hd
  have j0 := p.ke 0 rfl i0
  have j1 := p.ke 1 rfl i1
  have j7 := p.ke 7 rfl i7
  have j8 := p.ke 8 rfl i8
  have j10 := p.ke 10 rfl i10
  have j12 := p.ke 12 rfl i12
  have j14 := p.ke 14 rfl i14
  have j16 := p.ke 16 rfl i16
  have j18 := p.ke 18 rfl i18
  have j20 := p.ke 20 rfl i20
  have j22 := p.ke 22 rfl i22
  have j136 : (IsOwn k.w.heap.size 32 x1970_2) (b.get 136) q := p.ou 2 136 rfl
  have x136 : Lo k (obF (b.get 136)) := j136.loF
  have y136 := x136.chg hg
  replace j136 := j136.weaken (Nat.zero_le _)
  have j137 : (IsV a_) (b.get 137) q := p.ou 3 137 rfl
  have hns := j136.nshF
  refine tail_appendS (i := 4) (d := 138) rfl rfl rfl rfl (by rw [hsb]; decide) (e := 32) Try.underlying22 eo32 j136 (IsV.rd j137) hx1970_4 fun b2 q2 hsz hdf hoth hch hown hob => ?_
  have hle := hch.le hns
  have yn : Lo k0 (obF (b2.get 138)) := y136.app hgq hob
  replace j0 := Pers.pers hle j0
  replace j1 := Pers.pers hle j1
  replace j7 := Pers.pers hle j7
  replace j8 := Pers.pers hle j8
  replace j10 := Pers.pers hle j10
  replace j12 := Pers.pers hle j12
  replace j14 := Pers.pers hle j14
  replace j16 := Pers.pers hle j16
  replace j18 := Pers.pers hle j18
  replace j20 := Pers.pers hle j20
  replace j22 := Pers.pers hle j22
  replace j137 := Pers.pers hle j137
  replace hgq := hgq.step hch y136.wr
  rw [← hoth 0 (by decide)] at j0
  rw [← hoth 1 (by decide)] at j1
  rw [← hoth 7 (by decide)] at j7
  rw [← hoth 8 (by decide)] at j8
  rw [← hoth 10 (by decide)] at j10
  rw [← hoth 12 (by decide)] at j12
  rw [← hoth 14 (by decide)] at j14
  rw [← hoth 16 (by decide)] at j16
  rw [← hoth 18 (by decide)] at j18
  rw [← hoth 20 (by decide)] at j20
  rw [← hoth 22 (by decide)] at j22
  rw [← hoth 137 (by decide)] at j137
  have j138 := hown
  have y138 := yn
  replace hsb := hsz.trans hsb
  replace hdb := hdf.trans hdb
  clear hle hch hown hob hns yn hsz hdf hoth
  obtain ⟨b, hbb⟩ : ∃ b, b = b2 := ⟨b2, rfl⟩
  subst hbb
  obtain ⟨q, hqq⟩ : ∃ q, q = q2 := ⟨q2, rfl⟩
  subst hqq
  refine tail_assign (i := 5) (d := 139) rfl rfl (.inr rfl) rfl (by rw [hsb]; decide) fun b2 hsz hdf hnew hoth => ?_
  have jn : (IsV b_) (b2.get 139) q := by rw [hnew]; exact j1
  rw [← hoth 0 (by decide)] at j0
  rw [← hoth 1 (by decide)] at j1
  rw [← hoth 7 (by decide)] at j7
  rw [← hoth 8 (by decide)] at j8
  rw [← hoth 10 (by decide)] at j10
  rw [← hoth 12 (by decide)] at j12
  rw [← hoth 14 (by decide)] at j14
  rw [← hoth 16 (by decide)] at j16
  rw [← hoth 18 (by decide)] at j18
  rw [← hoth 20 (by decide)] at j20
  rw [← hoth 22 (by decide)] at j22
  rw [← hoth 137 (by decide)] at j137
  rw [← hoth 138 (by decide)] at j138
  rw [← hoth 138 (by decide)] at y138
  have j139 := jn
  replace hsb := hsz.trans hsb
  replace hdb := hdf.trans hdb
  clear hsz hdf hoth
  obtain ⟨b, hbb⟩ : ∃ b, b = b2 := ⟨b2, rfl⟩
  subst hbb
  have hns := j138.nshF
  refine tail_appendS (i := 6) (d := 140) rfl rfl rfl rfl (by rw [hsb]; decide) (e := 32) Try.underlying22 eo32 j138 (IsV.rd j139) hx1970_6 fun b2 q2 hsz hdf hoth hch hown hob => ?_
  have hle := hch.le hns
  have yn : Lo k0 (obF (b2.get 140)) := y138.app hgq hob
  replace j0 := Pers.pers hle j0
  replace j1 := Pers.pers hle j1
  replace j7 := Pers.pers hle j7
  replace j8 := Pers.pers hle j8
  replace j10 := Pers.pers hle j10
  replace j12 := Pers.pers hle j12
  replace j14 := Pers.pers hle j14
  replace j16 := Pers.pers hle j16
  replace j18 := Pers.pers hle j18
  replace j20 := Pers.pers hle j20
  replace j22 := Pers.pers hle j22
  replace j137 := Pers.pers hle j137
  replace j139 := Pers.pers hle j139
  replace hgq := hgq.step hch y138.wr
  rw [← hoth 0 (by decide)] at j0
  rw [← hoth 1 (by decide)] at j1
  rw [← hoth 7 (by decide)] at j7
  rw [← hoth 8 (by decide)] at j8
  rw [← hoth 10 (by decide)] at j10
  rw [← hoth 12 (by decide)] at j12
  rw [← hoth 14 (by decide)] at j14
  rw [← hoth 16 (by decide)] at j16
  rw [← hoth 18 (by decide)] at j18
  rw [← hoth 20 (by decide)] at j20
  rw [← hoth 22 (by decide)] at j22
  rw [← hoth 137 (by decide)] at j137
  rw [← hoth 139 (by decide)] at j139
  have j140 := hown
  have y140 := yn
  replace hsb := hsz.trans hsb
  replace hdb := hdf.trans hdb
  clear hle hch hown hob hns yn hsz hdf hoth
  obtain ⟨b, hbb⟩ : ∃ b, b = b2 := ⟨b2, rfl⟩
  subst hbb
  obtain ⟨q, hqq⟩ : ∃ q, q = q2 := ⟨q2, rfl⟩
  subst hqq
  obtain ⟨q2, hsh, jn⟩ := j140.give
  replace j0 := Pers.pers hsh.le j0
  replace j1 := Pers.pers hsh.le j1
  replace j7 := Pers.pers hsh.le j7
  replace j8 := Pers.pers hsh.le j8
  replace j10 := Pers.pers hsh.le j10
  replace j12 := Pers.pers hsh.le j12
  replace j14 := Pers.pers hsh.le j14
  replace j16 := Pers.pers hsh.le j16
  replace j18 := Pers.pers hsh.le j18
  replace j20 := Pers.pers hsh.le j20
  replace j22 := Pers.pers hsh.le j22
  replace j137 := Pers.pers hsh.le j137
  replace j139 := Pers.pers hsh.le j139
  replace j140 := jn
  replace hgq := hgq.hand hsh y140.wr
  rw [← hsh.w]
  clear hsh
  obtain ⟨q, hqq⟩ : ∃ q, q = q2 := ⟨q2, rfl⟩
  subst hqq
  refine tail_call (F := noF) (i := 7) (d := 141) rfl rfl rfl rfl (by rw [hsb]; decide) Try.call9 hQQ2045 (Ret.toC (solid_Of_ok j140 hx1970_7)) fun b2 q2 hsz hdf hoth hch hres => ?_
  have hgr := hch.grow
  replace j0 := Pers.pers hgr.le j0
  replace j1 := Pers.pers hgr.le j1
  replace j7 := Pers.pers hgr.le j7
  replace j8 := Pers.pers hgr.le j8
  replace j10 := Pers.pers hgr.le j10
  replace j12 := Pers.pers hgr.le j12
  replace j14 := Pers.pers hgr.le j14
  replace j16 := Pers.pers hgr.le j16
  replace j18 := Pers.pers hgr.le j18
  replace j20 := Pers.pers hgr.le j20
  replace j22 := Pers.pers hgr.le j22
  replace j137 := Pers.pers hgr.le j137
  replace j139 := Pers.pers hgr.le j139
  replace j140 := Pers.pers hgr.le j140
  replace hgq := hgq.then hgr
  rw [← hoth 0 (by decide)] at j0
  rw [← hoth 1 (by decide)] at j1
  rw [← hoth 7 (by decide)] at j7
  rw [← hoth 8 (by decide)] at j8
  rw [← hoth 10 (by decide)] at j10
  rw [← hoth 12 (by decide)] at j12
  rw [← hoth 14 (by decide)] at j14
  rw [← hoth 16 (by decide)] at j16
  rw [← hoth 18 (by decide)] at j18
  rw [← hoth 20 (by decide)] at j20
  rw [← hoth 22 (by decide)] at j22
  rw [← hoth 137 (by decide)] at j137
  rw [← hoth 139 (by decide)] at j139
  rw [← hoth 140 (by decide)] at j140
  have j141 : (IsTup2 (IsV x1970_7.1) (IsV x1970_7.2)) (b2.get 141) q2 := hres
  replace hsb := hsz.trans hsb
  replace hdb := hdf.trans hdb
  clear hch hgr hres hsz hdf hoth
  obtain ⟨b, hbb⟩ : ∃ b, b = b2 := ⟨b2, rfl⟩
  subst hbb
  obtain ⟨q, hqq⟩ : ∃ q, q = q2 := ⟨q2, rfl⟩
  subst hqq
  refine tail_assign (i := 8) (d := 133) rfl rfl (.inr rfl) rfl (by rw [hsb]; decide) fun b2 hsz hdf hnew hoth => ?_
  have jn : (IsTup2 (IsV x1970_7.1) (IsV x1970_7.2)) (b2.get 133) q := by rw [hnew]; exact j141
  rw [← hoth 0 (by decide)] at j0
  rw [← hoth 1 (by decide)] at j1
  rw [← hoth 7 (by decide)] at j7
  rw [← hoth 8 (by decide)] at j8
  rw [← hoth 10 (by decide)] at j10
  rw [← hoth 12 (by decide)] at j12
  rw [← hoth 14 (by decide)] at j14
  rw [← hoth 16 (by decide)] at j16
  rw [← hoth 18 (by decide)] at j18
  rw [← hoth 20 (by decide)] at j20
  rw [← hoth 22 (by decide)] at j22
  rw [← hoth 137 (by decide)] at j137
  rw [← hoth 139 (by decide)] at j139
  rw [← hoth 140 (by decide)] at j140
  rw [← hoth 141 (by decide)] at j141
  have j133 := jn
  replace hsb := hsz.trans hsb
  replace hdb := hdf.trans hdb
  clear hsz hdf hoth
  obtain ⟨b, hbb⟩ : ∃ b, b = b2 := ⟨b2, rfl⟩
  subst hbb
  have jx : (IsTup2 (IsV x1970_7.1) (IsV x1970_7.2)) (b.get 133) q := j133
  obtain ⟨y0_, y1_, hxt, jy0_, jy1_⟩ := jx
  refine tail_ext (i := 9) (d := 142) rfl rfl rfl rfl (by rw [hsb]; decide) hxt rfl fun b2 hsz hdf hnew hoth => ?_
  have jn : (IsV x1970_7.1) (b2.get 142) q := by rw [hnew]; exact jy0_
  rw [← hoth 0 (by decide)] at j0
  rw [← hoth 1 (by decide)] at j1
  rw [← hoth 7 (by decide)] at j7
  rw [← hoth 8 (by decide)] at j8
  rw [← hoth 10 (by decide)] at j10
  rw [← hoth 12 (by decide)] at j12
  rw [← hoth 14 (by decide)] at j14
  rw [← hoth 16 (by decide)] at j16
  rw [← hoth 18 (by decide)] at j18
  rw [← hoth 20 (by decide)] at j20
  rw [← hoth 22 (by decide)] at j22
  rw [← hoth 133 (by decide)] at j133
  rw [← hoth 137 (by decide)] at j137
  rw [← hoth 139 (by decide)] at j139
  rw [← hoth 140 (by decide)] at j140
  rw [← hoth 141 (by decide)] at j141
  have j142 := jn
  replace hsb := hsz.trans hsb
  replace hdb := hdf.trans hdb
  clear hsz hdf hoth jn hnew hxt
  obtain ⟨b, hbb⟩ : ∃ b, b = b2 := ⟨b2, rfl⟩
  subst hbb
  have jx : (IsTup2 (IsV x1970_7.1) (IsV x1970_7.2)) (b.get 133) q := j133
  obtain ⟨y0_, y1_, hxt, jy0_, jy1_⟩ := jx
  refine tail_ext (i := 10) (d := 143) rfl rfl rfl rfl (by rw [hsb]; decide) hxt rfl fun b2 hsz hdf hnew hoth => ?_
  have jn : (IsV x1970_7.2) (b2.get 143) q := by rw [hnew]; exact jy1_
  rw [← hoth 0 (by decide)] at j0
  rw [← hoth 1 (by decide)] at j1
  rw [← hoth 7 (by decide)] at j7
  rw [← hoth 8 (by decide)] at j8
  rw [← hoth 10 (by decide)] at j10
  rw [← hoth 12 (by decide)] at j12
  rw [← hoth 14 (by decide)] at j14
  rw [← hoth 16 (by decide)] at j16
  rw [← hoth 18 (by decide)] at j18
  rw [← hoth 20 (by decide)] at j20
  rw [← hoth 22 (by decide)] at j22
  rw [← hoth 133 (by decide)] at j133
  rw [← hoth 137 (by decide)] at j137
  rw [← hoth 139 (by decide)] at j139
  rw [← hoth 140 (by decide)] at j140
  rw [← hoth 141 (by decide)] at j141
  rw [← hoth 142 (by decide)] at j142
  have j143 := jn
  replace hsb := hsz.trans hsb
  replace hdb := hdf.trans hdb
  clear hsz hdf hoth jn hnew hxt
  obtain ⟨b, hbb⟩ : ∃ b, b = b2 := ⟨b2, rfl⟩
  subst hbb
  refine tail_assign (i := 11) (d := 24) rfl rfl (.inl rfl) rfl (by rw [hsb]; decide) fun b2 hsz hdf hnew hoth => ?_
  have jn : (IsV x1970_7.1) (b2.get 24) q := by rw [hnew]; exact j142
  rw [← hoth 0 (by decide)] at j0
  rw [← hoth 1 (by decide)] at j1
  rw [← hoth 7 (by decide)] at j7
  rw [← hoth 8 (by decide)] at j8
  rw [← hoth 10 (by decide)] at j10
  rw [← hoth 12 (by decide)] at j12
  rw [← hoth 14 (by decide)] at j14
  rw [← hoth 16 (by decide)] at j16
  rw [← hoth 18 (by decide)] at j18
  rw [← hoth 20 (by decide)] at j20
  rw [← hoth 22 (by decide)] at j22
  rw [← hoth 133 (by decide)] at j133
  rw [← hoth 137 (by decide)] at j137
  rw [← hoth 139 (by decide)] at j139
  rw [← hoth 140 (by decide)] at j140
  rw [← hoth 141 (by decide)] at j141
  rw [← hoth 142 (by decide)] at j142
  rw [← hoth 143 (by decide)] at j143
  have j24 := jn
  replace hsb := hsz.trans hsb
  replace hdb := hdf.trans hdb
  clear hsz hdf hoth
  obtain ⟨b, hbb⟩ : ∃ b, b = b2 := ⟨b2, rfl⟩
  subst hbb
  refine tail_assign (i := 12) (d := 25) rfl rfl (.inl rfl) rfl (by rw [hsb]; decide) fun b2 hsz hdf hnew hoth => ?_
  have jn : (IsV x1970_7.2) (b2.get 25) q := by rw [hnew]; exact j143
  rw [← hoth 0 (by decide)] at j0
  rw [← hoth 1 (by decide)] at j1
  rw [← hoth 7 (by decide)] at j7
  rw [← hoth 8 (by decide)] at j8
  rw [← hoth 10 (by decide)] at j10
  rw [← hoth 12 (by decide)] at j12
  rw [← hoth 14 (by decide)] at j14
  rw [← hoth 16 (by decide)] at j16
  rw [← hoth 18 (by decide)] at j18
  rw [← hoth 20 (by decide)] at j20
  rw [← hoth 22 (by decide)] at j22
  rw [← hoth 24 (by decide)] at j24
  rw [← hoth 133 (by decide)] at j133
  rw [← hoth 137 (by decide)] at j137
  rw [← hoth 139 (by decide)] at j139
  rw [← hoth 140 (by decide)] at j140
  rw [← hoth 141 (by decide)] at j141
  rw [← hoth 142 (by decide)] at j142
  rw [← hoth 143 (by decide)] at j143
  have j25 := jn
  replace hsb := hsz.trans hsb
  replace hdb := hdf.trans hdb
  clear hsz hdf hoth
  obtain ⟨b, hbb⟩ : ∃ b, b = b2 := ⟨b2, rfl⟩
  subst hbb
  exact tail_done (k := q) (hp2046 _ _ ⟨⟨hgq, hsb, hdb⟩, j0, j7, j8, j10, j12, j14, j16, j18, j20, j22, j24, j25, trivial⟩)
 rintro a k ⟨⟨hg, hs, hd⟩, i0, i7, i8, i10, i12, i14, i16, i18, i20, i22, i24, i25, _⟩
 refine wp_seq ?_
 obtain ⟨x1971_2, hx1971_2, hr⟩ := bind_some hr
 refine cut (fun a' k' => Bs noF k0 299 a' k' ∧ (IsV a_) (a'.get 0) k' ∧ (IsV x1953_0) (a'.get 7) k' ∧ (IsV x1958_1.1) (a'.get 8) k' ∧ (IsV x1959_1.1) (a'.get 10) k' ∧ (IsV x1960_1.1) (a'.get 12) k' ∧ (IsV x1965_2.1) (a'.get 14) k' ∧ (IsV x1966_2.1) (a'.get 16) k' ∧ (IsV x1967_2.1) (a'.get 18) k' ∧ (IsV x1968_2.1) (a'.get 20) k' ∧ (IsV x1969_2.1) (a'.get 22) k' ∧ (IsV x1970_7.1) (a'.get 24) k' ∧ (IsV x1970_7.2) (a'.get 25) k' ∧ (IsV x1971_2.1) (a'.get 26) k' ∧ True) ?_ hQ ?_
 ·intro Q2043 hQQ2043 hp2044
  refine gS 8 (_ :: _ :: _ :: _ :: _ :: _ :: _ :: _ :: []) hs (by kernel_rfl) ⟨mu rfl i8, mu rfl i10, o1 [(145, some 0), (146, some 1)] rfl fun _ _ h n => ok_call rfl Try.call15 (solid_Common_ok n.1 n.2.1 hx1971_2), cm 2 rfl rfl, o1 [(144, some 3)] rfl fun _ _ h n => ok_ext2_0 rfl n.1, o1 [(144, some 3)] rfl fun _ _ h n => ok_ext2_1 rfl n.1, cp 4 rfl rfl, cp 5 rfl rfl, trivial⟩ hQQ2043 fun b q p => ?_
  exact tail_done (k := q) (hp2044 _ _ ⟨Bs.post ⟨hg, hs, hd⟩ p, p.ke 0 rfl i0, p.ke 7 rfl i7, p.ke 8 rfl i8, p.ke 10 rfl i10, p.ke 12 rfl i12, p.ke 14 rfl i14, p.ke 16 rfl i16, p.ke 18 rfl i18, p.ke 20 rfl i20, p.ke 22 rfl i22, p.ke 24 rfl i24, p.ke 25 rfl i25, p.ou 6 26 rfl, trivial⟩)
 rintro a k ⟨⟨hg, hs, hd⟩, i0, i7, i8, i10, i12, i14, i16, i18, i20, i22, i24, i25, i26, _⟩
 refine wp_seq ?_
 obtain ⟨x1972_2, hx1972_2, hr⟩ := bind_some hr
 refine cut (fun a' k' => Bs noF k0 299 a' k' ∧ (IsV a_) (a'.get 0) k' ∧ (IsV x1953_0) (a'.get 7) k' ∧ (IsV x1958_1.1) (a'.get 8) k' ∧ (IsV x1959_1.1) (a'.get 10) k' ∧ (IsV x1960_1.1) (a'.get 12) k' ∧ (IsV x1965_2.1) (a'.get 14) k' ∧ (IsV x1966_2.1) (a'.get 16) k' ∧ (IsV x1967_2.1) (a'.get 18) k' ∧ (IsV x1968_2.1) (a'.get 20) k' ∧ (IsV x1969_2.1) (a'.get 22) k' ∧ (IsV x1970_7.1) (a'.get 24) k' ∧ (IsV x1970_7.2) (a'.get 25) k' ∧ (IsV x1971_2.1) (a'.get 26) k' ∧ (IsV x1972_2.1) (a'.get 28) k' ∧ True) ?_ hQ ?_
 ·intro Q2041 hQQ2041 hp2042
  refine gS 8 (_ :: _ :: _ :: _ :: _ :: _ :: _ :: _ :: []) hs (by kernel_rfl) ⟨mu rfl i10, mu rfl i8, o1 [(151, some 0), (152, some 1)] rfl fun _ _ h n => ok_call rfl Try.call15 (solid_Common_ok n.1 n.2.1 hx1972_2), cm 2 rfl rfl, o1 [(150, some 3)] rfl fun _ _ h n => ok_ext2_0 rfl n.1, o1 [(150, some 3)] rfl fun _ _ h n => ok_ext2_1 rfl n.1, cp 4 rfl rfl, cp 5 rfl rfl, trivial⟩ hQQ2041 fun b q p => ?_
  exact tail_done (k := q) (hp2042 _ _ ⟨Bs.post ⟨hg, hs, hd⟩ p, p.ke 0 rfl i0, p.ke 7 rfl i7, p.ke 8 rfl i8, p.ke 10 rfl i10, p.ke 12 rfl i12, p.ke 14 rfl i14, p.ke 16 rfl i16, p.ke 18 rfl i18, p.ke 20 rfl i20, p.ke 22 rfl i22, p.ke 24 rfl i24, p.ke 25 rfl i25, p.ke 26 rfl i26, p.ou 6 28 rfl, trivial⟩)
 rintro a k ⟨⟨hg, hs, hd⟩, i0, i7, i8, i10, i12, i14, i16, i18, i20, i22, i24, i25, i26, i28, _⟩
 refine wp_seq ?_
 obtain ⟨x1973_2, hx1973_2, hr⟩ := bind_some hr
 refine cut (fun a' k' => Bs noF k0 299 a' k' ∧ (IsV a_) (a'.get 0) k' ∧ (IsV x1953_0) (a'.get 7) k' ∧ (IsV x1958_1.1) (a'.get 8) k' ∧ (IsV x1959_1.1) (a'.get 10) k' ∧ (IsV x1960_1.1) (a'.get 12) k' ∧ (IsV x1965_2.1) (a'.get 14) k' ∧ (IsV x1966_2.1) (a'.get 16) k' ∧ (IsV x1967_2.1) (a'.get 18) k' ∧ (IsV x1968_2.1) (a'.get 20) k' ∧ (IsV x1969_2.1) (a'.get 22) k' ∧ (IsV x1970_7.1) (a'.get 24) k' ∧ (IsV x1970_7.2) (a'.get 25) k' ∧ (IsV x1971_2.1) (a'.get 26) k' ∧ (IsV x1972_2.1) (a'.get 28) k' ∧ (IsV x1973_2.1) (a'.get 30) k' ∧ True) ?_ hQ ?_
 ·intro Q2039 hQQ2039 hp2040
  refine gS 8 (_ :: _ :: _ :: _ :: _ :: _ :: _ :: _ :: []) hs (by kernel_rfl) ⟨mu rfl i8, mu rfl i12, o1 [(157, some 0), (158, some 1)] rfl fun _ _ h n => ok_call rfl Try.call15 (solid_Common_ok n.1 n.2.1 hx1973_2), cm 2 rfl rfl, o1 [(156, some 3)] rfl fun _ _ h n => ok_ext2_0 rfl n.1, o1 [(156, some 3)] rfl fun _ _ h n => ok_ext2_1 rfl n.1, cp 4 rfl rfl, cp 5 rfl rfl, trivial⟩ hQQ2039 fun b q p => ?_
  exact tail_done (k := q) (hp2040 _ _ ⟨Bs.post ⟨hg, hs, hd⟩ p, p.ke 0 rfl i0, p.ke 7 rfl i7, p.ke 8 rfl i8, p.ke 10 rfl i10, p.ke 12 rfl i12, p.ke 14 rfl i14, p.ke 16 rfl i16, p.ke 18 rfl i18, p.ke 20 rfl i20, p.ke 22 rfl i22, p.ke 24 rfl i24, p.ke 25 rfl i25, p.ke 26 rfl i26, p.ke 28 rfl i28, p.ou 6 30 rfl, trivial⟩)
 rintro a k ⟨⟨hg, hs, hd⟩, i0, i7, i8, i10, i12, i14, i16, i18, i20, i22, i24, i25, i26, i28, i30, _⟩
 refine wp_seq ?_
 obtain ⟨x1974_2, hx1974_2, hr⟩ := bind_some hr
 refine cut (fun a' k' => Bs noF k0 299 a' k' ∧ (IsV a_) (a'.get 0) k' ∧ (IsV x1953_0) (a'.get 7) k' ∧ (IsV x1958_1.1) (a'.get 8) k' ∧ (IsV x1959_1.1) (a'.get 10) k' ∧ (IsV x1960_1.1) (a'.get 12) k' ∧ (IsV x1965_2.1) (a'.get 14) k' ∧ (IsV x1966_2.1) (a'.get 16) k' ∧ (IsV x1967_2.1) (a'.get 18) k' ∧ (IsV x1968_2.1) (a'.get 20) k' ∧ (IsV x1969_2.1) (a'.get 22) k' ∧ (IsV x1970_7.1) (a'.get 24) k' ∧ (IsV x1970_7.2) (a'.get 25) k' ∧ (IsV x1971_2.1) (a'.get 26) k' ∧ (IsV x1972_2.1) (a'.get 28) k' ∧ (IsV x1973_2.1) (a'.get 30) k' ∧ (IsV x1974_2.1) (a'.get 32) k' ∧ True) ?_ hQ ?_
 ·intro Q2037 hQQ2037 hp2038
  refine gS 8 (_ :: _ :: _ :: _ :: _ :: _ :: _ :: _ :: []) hs (by kernel_rfl) ⟨mu rfl i8, mu rfl i18, o1 [(163, some 0), (164, some 1)] rfl fun _ _ h n => ok_call rfl Try.call15 (solid_Common_ok n.1 n.2.1 hx1974_2), cm 2 rfl rfl, o1 [(162, some 3)] rfl fun _ _ h n => ok_ext2_0 rfl n.1, o1 [(162, some 3)] rfl fun _ _ h n => ok_ext2_1 rfl n.1, cp 4 rfl rfl, cp 5 rfl rfl, trivial⟩ hQQ2037 fun b q p => ?_
  exact tail_done (k := q) (hp2038 _ _ ⟨Bs.post ⟨hg, hs, hd⟩ p, p.ke 0 rfl i0, p.ke 7 rfl i7, p.ke 8 rfl i8, p.ke 10 rfl i10, p.ke 12 rfl i12, p.ke 14 rfl i14, p.ke 16 rfl i16, p.ke 18 rfl i18, p.ke 20 rfl i20, p.ke 22 rfl i22, p.ke 24 rfl i24, p.ke 25 rfl i25, p.ke 26 rfl i26, p.ke 28 rfl i28, p.ke 30 rfl i30, p.ou 6 32 rfl, trivial⟩)
 rintro a k ⟨⟨hg, hs, hd⟩, i0, i7, i8, i10, i12, i14, i16, i18, i20, i22, i24, i25, i26, i28, i30, i32, _⟩
 refine wp_seq ?_
 obtain ⟨x1975_2, hx1975_2, hr⟩ := bind_some hr
 refine cut (fun a' k' => Bs noF k0 299 a' k' ∧ (IsV a_) (a'.get 0) k' ∧ (IsV x1953_0) (a'.get 7) k' ∧ (IsV x1958_1.1) (a'.get 8) k' ∧ (IsV x1959_1.1) (a'.get 10) k' ∧ (IsV x1960_1.1) (a'.get 12) k' ∧ (IsV x1965_2.1) (a'.get 14) k' ∧ (IsV x1966_2.1) (a'.get 16) k' ∧ (IsV x1967_2.1) (a'.get 18) k' ∧ (IsV x1968_2.1) (a'.get 20) k' ∧ (IsV x1969_2.1) (a'.get 22) k' ∧ (IsV x1970_7.1) (a'.get 24) k' ∧ (IsV x1970_7.2) (a'.get 25) k' ∧ (IsV x1971_2.1) (a'.get 26) k' ∧ (IsV x1972_2.1) (a'.get 28) k' ∧ (IsV x1974_2.1) (a'.get 32) k' ∧ (IsV x1975_2.1) (a'.get 34) k' ∧ True) ?_ hQ ?_
 ·intro Q2035 hQQ2035 hp2036
  refine gS 8 (_ :: _ :: _ :: _ :: _ :: _ :: _ :: _ :: []) hs (by kernel_rfl) ⟨mu rfl i26, mu rfl i30, o1 [(169, some 0), (170, some 1)] rfl fun _ _ h n => ok_call rfl Try.call14 (solid_Union_ok n.1 n.2.1 hx1975_2), cm 2 rfl rfl, o1 [(168, some 3)] rfl fun _ _ h n => ok_ext2_0 rfl n.1, o1 [(168, some 3)] rfl fun _ _ h n => ok_ext2_1 rfl n.1, cp 4 rfl rfl, cp 5 rfl rfl, trivial⟩ hQQ2035 fun b q p => ?_
  exact tail_done (k := q) (hp2036 _ _ ⟨Bs.post ⟨hg, hs, hd⟩ p, p.ke 0 rfl i0, p.ke 7 rfl i7, p.ke 8 rfl i8, p.ke 10 rfl i10, p.ke 12 rfl i12, p.ke 14 rfl i14, p.ke 16 rfl i16, p.ke 18 rfl i18, p.ke 20 rfl i20, p.ke 22 rfl i22, p.ke 24 rfl i24, p.ke 25 rfl i25, p.ke 26 rfl i26, p.ke 28 rfl i28, p.ke 32 rfl i32, p.ou 6 34 rfl, trivial⟩)
 rintro a k ⟨⟨hg, hs, hd⟩, i0, i7, i8, i10, i12, i14, i16, i18, i20, i22, i24, i25, i26, i28, i32, i34, _⟩
 refine wp_seq ?_
 refine wp_seq ?_
 obtain ⟨x1976_7, hx1976_7, hr⟩ := bind_some hr
 obtain ⟨x1976_5, hx1976_5, hx1976_7⟩ := ite_bindF hx1976_7
 obtain ⟨x1976_13, hx1976_13, hr⟩ := bind_some hr
 obtain ⟨x1976_11, hx1976_11, hx1976_13⟩ := ite_bindF hx1976_13
 obtain ⟨x1976_19, hx1976_19, hr⟩ := bind_some hr
 obtain ⟨x1976_17, hx1976_17, hx1976_19⟩ := ite_bindF hx1976_19
 obtain ⟨x1976_25, hx1976_25, hr⟩ := bind_some hr
 obtain ⟨x1976_23, hx1976_23, hx1976_25⟩ := ite_bindF hx1976_25
 obtain ⟨x1976_31, hx1976_31, hr⟩ := bind_some hr
 obtain ⟨x1976_29, hx1976_29, hx1976_31⟩ := ite_bindF hx1976_31
 obtain ⟨x1976_44, hx1976_44, hr⟩ := bind_some hr
 obtain ⟨x1976_34, hx1976_34, hx1976_44⟩ := ite_bindF hx1976_44
 obtain ⟨x1976_36, hx1976_36, hx1976_44⟩ := ite_bindF hx1976_44
 obtain ⟨x1976_37, hx1976_37, hx1976_44⟩ := ite_bindF hx1976_44
 obtain ⟨x1976_39, hx1976_39, hx1976_44⟩ := ite_bindF hx1976_44
 obtain ⟨x1976_41, hx1976_41, hx1976_44⟩ := ite_bindF hx1976_44
 obtain ⟨x1976_42, hx1976_42, hx1976_44⟩ := ite_bindF hx1976_44
 refine cut (fun a' k' => Bs noF k0 299 a' k' ∧ (IsV a_) (a'.get 0) k' ∧ (IsV x1953_0) (a'.get 7) k' ∧ (IsV x1958_1.1) (a'.get 8) k' ∧ (IsV x1959_1.1) (a'.get 10) k' ∧ (IsV x1960_1.1) (a'.get 12) k' ∧ (IsV x1967_2.1) (a'.get 18) k' ∧ (IsV x1971_2.1) (a'.get 26) k' ∧ (IsV x1976_44) (a'.get 218) k' ∧ True) ?_ hQ ?_
 ·intro Q2033 hQQ2033 hp2034
  refine gS 45 (_ :: ⟨some (IsV (x1970_7.2 != 0)), [(174, some 0)]⟩ :: _ :: _ :: _ :: _ :: _ :: _ :: _ :: _ :: _ :: _ :: _ :: _ :: _ :: _ :: _ :: _ :: _ :: _ :: _ :: _ :: _ :: _ :: _ :: _ :: _ :: _ :: _ :: _ :: _ :: _ :: _ :: _ :: _ :: _ :: _ :: _ :: _ :: _ :: _ :: _ :: _ :: ⟨some (Gd (x1976_31 = false) (IsV (x1976_37 != x1976_42))), [(211, some 37), (216, some 42)]⟩ :: _ :: []) hs (by kernel_rfl) ⟨mu rfl i25, ob1 rfl fun _ _ h n => ok_neI rfl n.1 (cI rfl), cm 1 rfl rfl, mF rfl rfl i14, mF rfl rfl i16, gF [(177, some 3), (178, some 4)] rfl rfl fun hp _ _ h n => ok_call rfl Try.call11 (solid_Same_ok (Gd.get n.1 hp) (Gd.get n.2.1 hp) (hx1976_5 hp)), gF [(179, some 5)] rfl rfl fun hp _ _ h n => ok_not rfl (Gd.get n.1 hp), o1 [(176, some 2), (180, some 6)] rfl fun _ _ h n => ok_pickM rfl n.1 hx1976_7 (cB rfl) (Gd.get n.2.1), cm 7 rfl rfl, mF rfl rfl i20, mF rfl rfl i22, gF [(183, some 9), (184, some 10)] rfl rfl fun hp _ _ h n => ok_call rfl Try.call11 (solid_Same_ok (Gd.get n.1 hp) (Gd.get n.2.1 hp) (hx1976_11 hp)), gF [(185, some 11)] rfl rfl fun hp _ _ h n => ok_not rfl (Gd.get n.1 hp), o1 [(182, some 8), (186, some 12)] rfl fun _ _ h n => ok_pickM rfl n.1 hx1976_13 (cB rfl) (Gd.get n.2.1), cm 13 rfl rfl, mF rfl rfl i20, mF rfl rfl i24, gF [(189, some 15), (190, some 16)] rfl rfl fun hp _ _ h n => ok_call rfl Try.call11 (solid_Same_ok (Gd.get n.1 hp) (Gd.get n.2.1 hp) (hx1976_17 hp)), gF [(191, some 17)] rfl rfl fun hp _ _ h n => ok_not rfl (Gd.get n.1 hp), o1 [(188, some 14), (192, some 18)] rfl fun _ _ h n => ok_pickM rfl n.1 hx1976_19 (cB rfl) (Gd.get n.2.1), cm 19 rfl rfl, mF rfl rfl i26, mF rfl rfl i28, gF [(195, some 21), (196, some 22)] rfl rfl fun hp _ _ h n => ok_call rfl Try.call11 (solid_Same_ok (Gd.get n.1 hp) (Gd.get n.2.1 hp) (hx1976_23 hp)), gF [(197, some 23)] rfl rfl fun hp _ _ h n => ok_not rfl (Gd.get n.1 hp), o1 [(194, some 20), (198, some 24)] rfl fun _ _ h n => ok_pickM rfl n.1 hx1976_25 (cB rfl) (Gd.get n.2.1), cm 25 rfl rfl, mF rfl rfl i32, mF rfl rfl i34, gF [(201, some 27), (202, some 28)] rfl rfl fun hp _ _ h n => ok_call rfl Try.call11 (solid_Same_ok (Gd.get n.1 hp) (Gd.get n.2.1 hp) (hx1976_29 hp)), gF [(203, some 29)] rfl rfl fun hp _ _ h n => ok_not rfl (Gd.get n.1 hp), o1 [(200, some 26), (204, some 30)] rfl fun _ _ h n => ok_pickM rfl n.1 hx1976_31 (cB rfl) (Gd.get n.2.1), cm 31 rfl rfl, mF rfl rfl i14, gF [(207, some 33)] rfl rfl fun hp _ _ h n => ok_call rfl Try.call12 (solid_Volume_ok (Gd.get n.1 hp) (hx1976_34 hp)), mF rfl rfl i26, gF [(209, some 35)] rfl rfl fun hp _ _ h n => ok_call rfl Try.call12 (solid_Volume_ok (Gd.get n.1 hp) (hx1976_36 hp)), gF [(208, some 34), (210, some 36)] rfl rfl fun hp _ _ h n => ok_add rfl (Gd.get n.1 hp) (Gd.get n.2.1 hp) (hx1976_37 hp), mF rfl rfl i8, gF [(212, some 38)] rfl rfl fun hp _ _ h n => ok_call rfl Try.call12 (solid_Volume_ok (Gd.get n.1 hp) (hx1976_39 hp)), mF rfl rfl i10, gF [(214, some 40)] rfl rfl fun hp _ _ h n => ok_call rfl Try.call12 (solid_Volume_ok (Gd.get n.1 hp) (hx1976_41 hp)), gF [(213, some 39), (215, some 41)] rfl rfl fun hp _ _ h n => ok_add rfl (Gd.get n.1 hp) (Gd.get n.2.1 hp) (hx1976_42 hp), gdF rfl rfl fun hp _ _ h n => ok_neI rfl (Gd.get n.1 hp) (Gd.get n.2.1 hp), o1 [(206, some 32), (217, some 43)] rfl fun _ _ h n => ok_pickM rfl n.1 hx1976_44 (cB rfl) (Gd.get n.2.1), trivial⟩ hQQ2033 fun b q p => ?_
  exact tail_done (k := q) (hp2034 _ _ ⟨Bs.post ⟨hg, hs, hd⟩ p, p.ke 0 rfl i0, p.ke 7 rfl i7, p.ke 8 rfl i8, p.ke 10 rfl i10, p.ke 12 rfl i12, p.ke 18 rfl i18, p.ke 26 rfl i26, p.ou 44 218 rfl, trivial⟩)
 rintro a k ⟨⟨hg, hs, hd⟩, i0, i7, i8, i10, i12, i18, i26, i218, _⟩
 refine wp_cond_split (isBool i218) (fun hc2032 => ?_) (fun hc2032 => ?_)
 ·rw [if_pos hc2032] at hr
  refine stepL 1 (⟨some (IsV false), []⟩ :: []) rfl ⟨hg, hs, hd⟩ (by kernel_rfl) ⟨ob1 rfl fun _ _ h n => ok_assign rfl (isV_bool.2 rfl), trivial⟩ [⟨_, _⟩] (fun b q p => ⟨p.ou 0 6 rfl, trivial⟩) ?_
  rintro a k ⟨⟨hg, hs, hd⟩, i6, _⟩
  refine wp_ret ?_
  obtain rfl := Option.some.inj hr
  exact retC1 rfl hd hg i6
 rw [if_neg (by rw [hc2032]; decide)] at hr
 refine wp_skip ?_
 refine wp_seq ?_
 obtain ⟨x1980_2, hx1980_2, hr⟩ := bind_some hr
 refine cut (fun a' k' => Bs noF k0 299 a' k' ∧ (IsV a_) (a'.get 0) k' ∧ (IsV x1953_0) (a'.get 7) k' ∧ (IsV x1958_1.1) (a'.get 8) k' ∧ (IsV x1959_1.1) (a'.get 10) k' ∧ (IsV x1960_1.1) (a'.get 12) k' ∧ (IsV x1967_2.1) (a'.get 18) k' ∧ (IsV x1971_2.1) (a'.get 26) k' ∧ (IsV x1980_2.1) (a'.get 36) k' ∧ (IsV x1980_2.2) (a'.get 37) k' ∧ True) ?_ hQ ?_
 ·intro Q2030 hQQ2030 hp2031
  refine gS 8 (_ :: _ :: _ :: _ :: _ :: _ :: _ :: _ :: []) hs (by kernel_rfl) ⟨mu rfl i8, mu rfl i10, o1 [(220, some 0), (221, some 1)] rfl fun _ _ h n => ok_call rfl Try.call16 (solid_Minus_ok n.1 n.2.1 hx1980_2), cm 2 rfl rfl, o1 [(219, some 3)] rfl fun _ _ h n => ok_ext2_0 rfl n.1, o1 [(219, some 3)] rfl fun _ _ h n => ok_ext2_1 rfl n.1, cp 4 rfl rfl, cp 5 rfl rfl, trivial⟩ hQQ2030 fun b q p => ?_
  exact tail_done (k := q) (hp2031 _ _ ⟨Bs.post ⟨hg, hs, hd⟩ p, p.ke 0 rfl i0, p.ke 7 rfl i7, p.ke 8 rfl i8, p.ke 10 rfl i10, p.ke 12 rfl i12, p.ke 18 rfl i18, p.ke 26 rfl i26, p.ou 6 36 rfl, p.ou 7 37 rfl, trivial⟩)
 rintro a k ⟨⟨hg, hs, hd⟩, i0, i7, i8, i10, i12, i18, i26, i36, i37, _⟩
 refine wp_seq ?_
 obtain ⟨x1981_2, hx1981_2, hr⟩ := bind_some hr
 refine cut (fun a' k' => Bs noF k0 299 a' k' ∧ (IsV a_) (a'.get 0) k' ∧ (IsV x1953_0) (a'.get 7) k' ∧ (IsV x1958_1.1) (a'.get 8) k' ∧ (IsV x1960_1.1) (a'.get 12) k' ∧ (IsV x1967_2.1) (a'.get 18) k' ∧ (IsV x1971_2.1) (a'.get 26) k' ∧ (IsV x1980_2.1) (a'.get 36) k' ∧ (IsV x1980_2.2) (a'.get 37) k' ∧ (IsV x1981_2.1) (a'.get 38) k' ∧ True) ?_ hQ ?_
 ·intro Q2028 hQQ2028 hp2029
  refine gS 8 (_ :: _ :: _ :: _ :: _ :: _ :: _ :: _ :: []) hs (by kernel_rfl) ⟨mu rfl i36, mu rfl i10, o1 [(226, some 0), (227, some 1)] rfl fun _ _ h n => ok_call rfl Try.call15 (solid_Common_ok n.1 n.2.1 hx1981_2), cm 2 rfl rfl, o1 [(225, some 3)] rfl fun _ _ h n => ok_ext2_0 rfl n.1, o1 [(225, some 3)] rfl fun _ _ h n => ok_ext2_1 rfl n.1, cp 4 rfl rfl, cp 5 rfl rfl, trivial⟩ hQQ2028 fun b q p => ?_
  exact tail_done (k := q) (hp2029 _ _ ⟨Bs.post ⟨hg, hs, hd⟩ p, p.ke 0 rfl i0, p.ke 7 rfl i7, p.ke 8 rfl i8, p.ke 12 rfl i12, p.ke 18 rfl i18, p.ke 26 rfl i26, p.ke 36 rfl i36, p.ke 37 rfl i37, p.ou 6 38 rfl, trivial⟩)
 rintro a k ⟨⟨hg, hs, hd⟩, i0, i7, i8, i12, i18, i26, i36, i37, i38, _⟩
 refine wp_seq ?_
 obtain ⟨x1982_2, hx1982_2, hr⟩ := bind_some hr
 refine cut (fun a' k' => Bs noF k0 299 a' k' ∧ (IsV a_) (a'.get 0) k' ∧ (IsV x1953_0) (a'.get 7) k' ∧ (IsV x1958_1.1) (a'.get 8) k' ∧ (IsV x1960_1.1) (a'.get 12) k' ∧ (IsV x1967_2.1) (a'.get 18) k' ∧ (IsV x1980_2.1) (a'.get 36) k' ∧ (IsV x1980_2.2) (a'.get 37) k' ∧ (IsV x1981_2.1) (a'.get 38) k' ∧ (IsV x1982_2.1) (a'.get 40) k' ∧ True) ?_ hQ ?_
 ·intro Q2026 hQQ2026 hp2027
  refine gS 8 (_ :: _ :: _ :: _ :: _ :: _ :: _ :: _ :: []) hs (by kernel_rfl) ⟨mu rfl i36, mu rfl i26, o1 [(232, some 0), (233, some 1)] rfl fun _ _ h n => ok_call rfl Try.call14 (solid_Union_ok n.1 n.2.1 hx1982_2), cm 2 rfl rfl, o1 [(231, some 3)] rfl fun _ _ h n => ok_ext2_0 rfl n.1, o1 [(231, some 3)] rfl fun _ _ h n => ok_ext2_1 rfl n.1, cp 4 rfl rfl, cp 5 rfl rfl, trivial⟩ hQQ2026 fun b q p => ?_
  exact tail_done (k := q) (hp2027 _ _ ⟨Bs.post ⟨hg, hs, hd⟩ p, p.ke 0 rfl i0, p.ke 7 rfl i7, p.ke 8 rfl i8, p.ke 12 rfl i12, p.ke 18 rfl i18, p.ke 36 rfl i36, p.ke 37 rfl i37, p.ke 38 rfl i38, p.ou 6 40 rfl, trivial⟩)
 rintro a k ⟨⟨hg, hs, hd⟩, i0, i7, i8, i12, i18, i36, i37, i38, i40, _⟩
 refine wp_seq ?_
 obtain ⟨x1983_2, hx1983_2, hr⟩ := bind_some hr
 refine cut (fun a' k' => Bs noF k0 299 a' k' ∧ (IsV a_) (a'.get 0) k' ∧ (IsV x1953_0) (a'.get 7) k' ∧ (IsV x1958_1.1) (a'.get 8) k' ∧ (IsV x1960_1.1) (a'.get 12) k' ∧ (IsV x1980_2.1) (a'.get 36) k' ∧ (IsV x1980_2.2) (a'.get 37) k' ∧ (IsV x1981_2.1) (a'.get 38) k' ∧ (IsV x1982_2.1) (a'.get 40) k' ∧ (IsV x1983_2.1) (a'.get 42) k' ∧ True) ?_ hQ ?_
 ·intro Q2024 hQQ2024 hp2025
  refine gS 8 (_ :: _ :: _ :: _ :: _ :: _ :: _ :: _ :: []) hs (by kernel_rfl) ⟨mu rfl i8, mu rfl i18, o1 [(238, some 0), (239, some 1)] rfl fun _ _ h n => ok_call rfl Try.call16 (solid_Minus_ok n.1 n.2.1 hx1983_2), cm 2 rfl rfl, o1 [(237, some 3)] rfl fun _ _ h n => ok_ext2_0 rfl n.1, o1 [(237, some 3)] rfl fun _ _ h n => ok_ext2_1 rfl n.1, cp 4 rfl rfl, cp 5 rfl rfl, trivial⟩ hQQ2024 fun b q p => ?_
  exact tail_done (k := q) (hp2025 _ _ ⟨Bs.post ⟨hg, hs, hd⟩ p, p.ke 0 rfl i0, p.ke 7 rfl i7, p.ke 8 rfl i8, p.ke 12 rfl i12, p.ke 36 rfl i36, p.ke 37 rfl i37, p.ke 38 rfl i38, p.ke 40 rfl i40, p.ou 6 42 rfl, trivial⟩)
 rintro a k ⟨⟨hg, hs, hd⟩, i0, i7, i8, i12, i36, i37, i38, i40, i42, _⟩
 refine wp_seq ?_
 obtain ⟨x1984_2, hx1984_2, hr⟩ := bind_some hr
 refine cut (fun a' k' => Bs noF k0 299 a' k' ∧ (IsV a_) (a'.get 0) k' ∧ (IsV x1953_0) (a'.get 7) k' ∧ (IsV x1958_1.1) (a'.get 8) k' ∧ (IsV x1980_2.2) (a'.get 37) k' ∧ (IsV x1981_2.1) (a'.get 38) k' ∧ (IsV x1982_2.1) (a'.get 40) k' ∧ (IsV x1983_2.1) (a'.get 42) k' ∧ (IsV x1984_2.1) (a'.get 44) k' ∧ True) ?_ hQ ?_
 ·intro Q2022 hQQ2022 hp2023
  refine gS 8 (_ :: _ :: _ :: _ :: _ :: _ :: _ :: _ :: []) hs (by kernel_rfl) ⟨mu rfl i36, mu rfl i12, o1 [(244, some 0), (245, some 1)] rfl fun _ _ h n => ok_call rfl Try.call16 (solid_Minus_ok n.1 n.2.1 hx1984_2), cm 2 rfl rfl, o1 [(243, some 3)] rfl fun _ _ h n => ok_ext2_0 rfl n.1, o1 [(243, some 3)] rfl fun _ _ h n => ok_ext2_1 rfl n.1, cp 4 rfl rfl, cp 5 rfl rfl, trivial⟩ hQQ2022 fun b q p => ?_
  exact tail_done (k := q) (hp2023 _ _ ⟨Bs.post ⟨hg, hs, hd⟩ p, p.ke 0 rfl i0, p.ke 7 rfl i7, p.ke 8 rfl i8, p.ke 37 rfl i37, p.ke 38 rfl i38, p.ke 40 rfl i40, p.ke 42 rfl i42, p.ou 6 44 rfl, trivial⟩)
 rintro a k ⟨⟨hg, hs, hd⟩, i0, i7, i8, i37, i38, i40, i42, i44, _⟩
 refine wp_seq ?_
 refine wp_seq ?_
 obtain ⟨x1985_12, hx1985_12, hr⟩ := bind_some hr
 obtain ⟨x1985_10, hx1985_10, hx1985_12⟩ := ite_bindF hx1985_12
 obtain ⟨x1985_18, hx1985_18, hr⟩ := bind_some hr
 obtain ⟨x1985_16, hx1985_16, hx1985_18⟩ := ite_bindF hx1985_18
 refine cut (fun a' k' => Bs noF k0 299 a' k' ∧ (IsV a_) (a'.get 0) k' ∧ (IsV x1953_0) (a'.get 7) k' ∧ (IsV x1958_1.1) (a'.get 8) k' ∧ (IsV x1985_18) (a'.get 267) k' ∧ True) ?_ hQ ?_
 ·intro Q2020 hQQ2020 hp2021
  refine gS 19 (_ :: ⟨some (IsV (x1980_2.2 != 0)), [(249, some 0)]⟩ :: _ :: _ :: _ :: ⟨some (Gd ((x1980_2.2 != 0) = false) (IsV ((x1981_2.1.length : Int) != 0))), [(253, some 4)]⟩ :: _ :: _ :: _ :: _ :: _ :: _ :: _ :: _ :: _ :: _ :: _ :: _ :: _ :: []) hs (by kernel_rfl) ⟨mu rfl i37, ob1 rfl fun _ _ h n => ok_neI rfl n.1 (cI rfl), cm 1 rfl rfl, mF rfl rfl i38, gF [(252, some 3)] rfl rfl fun hp _ _ h n => ok_len rfl rfl Try.underlying24 (IsV.rd (Gd.get n.1 hp)), gdF rfl rfl fun hp _ _ h n => ok_neI rfl (Gd.get n.1 hp) (cI rfl), o1 [(251, some 2), (254, some 5)] rfl fun _ _ h n => ok_pickOr rfl n.1 (cB rfl) (Gd.get n.2.1), cm 6 rfl rfl, mF rfl rfl i40, mF rfl rfl i8, gF [(257, some 8), (258, some 9)] rfl rfl fun hp _ _ h n => ok_call rfl Try.call11 (solid_Same_ok (Gd.get n.1 hp) (Gd.get n.2.1 hp) (hx1985_10 hp)), gF [(259, some 10)] rfl rfl fun hp _ _ h n => ok_not rfl (Gd.get n.1 hp), o1 [(256, some 7), (260, some 11)] rfl fun _ _ h n => ok_pickM rfl n.1 hx1985_12 (cB rfl) (Gd.get n.2.1), cm 12 rfl rfl, mF rfl rfl i42, mF rfl rfl i44, gF [(263, some 14), (264, some 15)] rfl rfl fun hp _ _ h n => ok_call rfl Try.call11 (solid_Same_ok (Gd.get n.1 hp) (Gd.get n.2.1 hp) (hx1985_16 hp)), gF [(265, some 16)] rfl rfl fun hp _ _ h n => ok_not rfl (Gd.get n.1 hp), o1 [(262, some 13), (266, some 17)] rfl fun _ _ h n => ok_pickM rfl n.1 hx1985_18 (cB rfl) (Gd.get n.2.1), trivial⟩ hQQ2020 fun b q p => ?_
  exact tail_done (k := q) (hp2021 _ _ ⟨Bs.post ⟨hg, hs, hd⟩ p, p.ke 0 rfl i0, p.ke 7 rfl i7, p.ke 8 rfl i8, p.ou 18 267 rfl, trivial⟩)
 rintro a k ⟨⟨hg, hs, hd⟩, i0, i7, i8, i267, _⟩
 refine wp_cond_split (isBool i267) (fun hc2019 => ?_) (fun hc2019 => ?_)
 ·rw [if_pos hc2019] at hr
  refine stepL 1 (⟨some (IsV false), []⟩ :: []) rfl ⟨hg, hs, hd⟩ (by kernel_rfl) ⟨ob1 rfl fun _ _ h n => ok_assign rfl (isV_bool.2 rfl), trivial⟩ [⟨_, _⟩] (fun b q p => ⟨p.ou 0 6 rfl, trivial⟩) ?_
  rintro a k ⟨⟨hg, hs, hd⟩, i6, _⟩
  refine wp_ret ?_
  obtain rfl := Option.some.inj hr
  exact retC1 rfl hd hg i6
 rw [if_neg (by rw [hc2019]; decide)] at hr
 refine wp_skip ?_
 refine cutL noF k0 299 [⟨0, IsV a_⟩, ⟨7, IsV x1953_0⟩, ⟨8, IsV x1958_1.1⟩, ⟨46, IsV ([] : List Slab)⟩] ?_ ?_
 ·intro Q2017 hQQ2017 hp2018
  refine gS 1 (⟨some IsE0, []⟩ :: []) hs (by kernel_rfl) ⟨ob1 rfl fun b q h n => ok_assign rfl isE0_nil, trivial⟩ hQQ2017 fun b q p => ?_
  have hgq := hg.then p.grow
  have hsb := p.size.trans hs
  have hdb := p.defers.trans hd
  have j0 := p.ke 0 rfl i0
  have j7 := p.ke 7 rfl i7
  have j8 := p.ke 8 rfl i8
  have j46 : IsE0 (b.get 46) q := p.ou 0 46 rfl
  replace j46 : IsV ([] : List Slab) (b.get 46) q := j46.isV
  exact tail_done (k := q) (hp2018 _ _ ⟨⟨hgq, hsb, hdb⟩, j0, j7, j8, j46, trivial⟩)
 rintro a k ⟨⟨hg, hs, hd⟩, i0, i7, i8, i46, _⟩
 refine wp_seq ?_
 refine stepL 1 (⟨some (IsI 0), []⟩ :: []) rfl ⟨hg, hs, hd⟩ (by kernel_rfl) ⟨aI rfl rfl, trivial⟩ [⟨_, _⟩, ⟨_, _⟩, ⟨_, _⟩, ⟨_, _⟩, ⟨_, _⟩] (fun b q p => ⟨p.ke 0 rfl i0, p.ke 7 rfl i7, p.ke 8 rfl i8, p.ke 46 rfl i46, p.ou 0 47 rfl, trivial⟩) ?_
 rintro a k ⟨⟨hg, hs, hd⟩, i0, i7, i8, i46, i47, _⟩
 refine wp_block ?_
 obtain ⟨f2008, hf2008, hr⟩ := bind_some hr
 refine cutFe f2008 (fun s' a' k' => Bs noF k0 299 a' k' ∧ (IsV a_) (a'.get 0) k' ∧ (IsV x1953_0) (a'.get 7) k' ∧ (IsV x1958_1.1) (a'.get 8) k' ∧ (IsV s'.1) (a'.get 46) k' ∧ (IsV s'.2) (a'.get 47) k' ∧ True) (fun i' s' a' k' => (i' = 0 ∧ Bs noF k0 299 a' k' ∧ (IsV x1953_0) (a'.get 7) k' ∧ (IsV x1958_1.1) (a'.get 8) k' ∧ (IsV s'.1) (a'.get 46) k' ∧ True)) (fun r' a' k' => bodyPost Try.prog Try.f5 (RetC noF k0 (IsV r')) .ret a' k'.w) ?_ hQ ?_ ?_ ?_
 ·intro Q2014 hQQ2014 hgo hex hret
  refine sim_loop ?_ _ _ _ _ _ hf2008 ⟨⟨hg, hs, hd⟩, i0, i7, i8, i46, i47, trivial⟩ Q2014 hQQ2014 hgo hex hret
  clear hr hf2008 hgo hex hret hQQ2014 hQ hg hs hd i0 i46 i47 i7 i8
  intro s1991 fl_ a k hr hS Q hQ hgo1992 hex1993 hret1994
  obtain ⟨⟨hg, hs, hd⟩, i0, i7, i8, i46, i47, _⟩ := hS
  unfold law09_SolidAlgebra_L0 at hr
  refine wp_seq ?_
  refine stepL 4 (_ :: _ :: _ :: _ :: []) rfl ⟨hg, hs, hd⟩ (by kernel_rfl) ⟨mu rfl i47, mu rfl i0, o1 [(269, some 1)] rfl fun _ _ h n => ok_len rfl rfl Try.underlying22 (IsV.rd n.1), o1 [(268, some 0), (270, some 2)] rfl fun _ _ h n => ok_lss rfl n.1 n.2.1, trivial⟩ [⟨_, _⟩, ⟨_, _⟩, ⟨_, _⟩, ⟨_, _⟩, ⟨_, _⟩, ⟨_, _⟩] (fun b q p => ⟨p.ke 0 rfl i0, p.ke 7 rfl i7, p.ke 8 rfl i8, p.ke 46 rfl i46, p.ke 47 rfl i47, p.ou 3 271 rfl, trivial⟩) ?_
  rintro a k ⟨⟨hg, hs, hd⟩, i0, i7, i8, i46, i47, i271, _⟩
  refine wp_cond_split (isBool i271) (fun hc2005 => ?_) (fun hc2005 => ?_)
  ·rw [if_pos hc2005] at hr
   refine wp_skip ?_
   refine wp_seq ?_
   refine wp_block ?_
   refine wp_seq ?_
   obtain ⟨x1996_3, hx1996_3, hr⟩ := bind_some hr
   obtain ⟨x1996_5, hx1996_5, hr⟩ := bind_some hr
   obtain ⟨x1996_6, hx1996_6, hr⟩ := bind_some hr
   obtain ⟨x1996_9, hx1996_9, hr⟩ := bind_some hr
   refine cut (fun a' k' => Bs noF k0 299 a' k' ∧ (IsV a_) (a'.get 0) k' ∧ (IsV x1953_0) (a'.get 7) k' ∧ (IsV x1958_1.1) (a'.get 8) k' ∧ (IsV s1991.1) (a'.get 46) k' ∧ (IsV s1991.2) (a'.get 47) k' ∧ (IsV x1996_9.1) (a'.get 48) k' ∧ True) ?_ hQ ?_
   ·intro Q2003 hQQ2003 hp2004
    refine gS 15 (_ :: _ :: _ :: _ :: _ :: _ :: _ :: _ :: ⟨some (IsV ([x1996_6])), [(282, some 7)]⟩ :: _ :: _ :: _ :: _ :: _ :: _ :: []) hs (by kernel_rfl) ⟨mu rfl i0, mu rfl i0, o1 [(276, some 1)] rfl fun _ _ h n => ok_len rfl rfl Try.underlying22 (IsV.rd n.1), o1 [(277, some 2)] rfl fun _ _ h n => ok_sub rfl n.1 (cI rfl) hx1996_3, mu rfl i47, o1 [(278, some 3), (279, some 4)] rfl fun _ _ h n => ok_sub rfl n.1 n.2.1 hx1996_5, o1 [(275, some 0), (280, some 5)] rfl fun _ _ h n => ok_indexAddr rfl Try.underlying22 ty32 (IsV.rd n.1) n.2.1 hx1996_6, o1 [(281, some 6)] rfl fun _ _ h n => ok_load rfl ty32 n.1, ob1 rfl fun _ _ h n => ok_buildSlice rfl Try.underlying22 eo32 rfl (by decide) (by decide) ⟨rfl, n.1, trivial⟩, o1 [(283, some 8)] rfl fun _ _ h n => ok_call rfl Try.call9 (solid_Of_ok n.1 hx1996_9), cm 9 rfl rfl, o1 [(274, some 10)] rfl fun _ _ h n => ok_ext2_0 rfl n.1, o1 [(274, some 10)] rfl fun _ _ h n => ok_ext2_1 rfl n.1, cp 11 rfl rfl, cp 12 rfl rfl, trivial⟩ hQQ2003 fun b q p => ?_
    exact tail_done (k := q) (hp2004 _ _ ⟨Bs.post ⟨hg, hs, hd⟩ p, p.ke 0 rfl i0, p.ke 7 rfl i7, p.ke 8 rfl i8, p.ke 46 rfl i46, p.ke 47 rfl i47, p.ou 13 48 rfl, trivial⟩)
   rintro a k ⟨⟨hg, hs, hd⟩, i0, i7, i8, i46, i47, i48, _⟩
   obtain ⟨x1997_2, hx1997_2, hr⟩ := bind_some hr
   refine cut (fun a' k' => Bs noF k0 299 a' k' ∧ (IsV a_) (a'.get 0) k' ∧ (IsV x1953_0) (a'.get 7) k' ∧ (IsV x1958_1.1) (a'.get 8) k' ∧ (IsV x1997_2.1) (a'.get 46) k' ∧ (IsV s1991.2) (a'.get 47) k' ∧ True) ?_ hQ ?_
   ·intro Q2001 hQQ2001 hp2002
    refine gS 7 (_ :: _ :: _ :: _ :: _ :: _ :: _ :: []) hs (by kernel_rfl) ⟨mu rfl i46, mu rfl i48, o1 [(288, some 0), (289, some 1)] rfl fun _ _ h n => ok_call rfl Try.call14 (solid_Union_ok n.1 n.2.1 hx1997_2), cm 2 rfl rfl, o1 [(287, some 3)] rfl fun _ _ h n => ok_ext2_0 rfl n.1, o1 [(287, some 3)] rfl fun _ _ h n => ok_ext2_1 rfl n.1, cp 4 rfl rfl, trivial⟩ hQQ2001 fun b q p => ?_
    exact tail_done (k := q) (hp2002 _ _ ⟨Bs.post ⟨hg, hs, hd⟩ p, p.ke 0 rfl i0, p.ke 7 rfl i7, p.ke 8 rfl i8, p.ou 6 46 rfl, p.ke 47 rfl i47, trivial⟩)
   rintro a k ⟨⟨hg, hs, hd⟩, i0, i7, i8, i46, i47, _⟩
   obtain ⟨x1998_1, hx1998_1, hr⟩ := bind_some hr
   refine cut (fun a' k' => Bs noF k0 299 a' k' ∧ (IsV a_) (a'.get 0) k' ∧ (IsV x1953_0) (a'.get 7) k' ∧ (IsV x1958_1.1) (a'.get 8) k' ∧ (IsV x1997_2.1) (a'.get 46) k' ∧ (IsV x1998_1) (a'.get 47) k' ∧ True) ?_ hQ ?_
   ·intro Q1999 hQQ1999 hp2000
    refine gS 3 (_ :: _ :: _ :: []) hs (by kernel_rfl) ⟨mu rfl i47, o1 [(272, some 0)] rfl fun _ _ h n => ok_add rfl n.1 (cI rfl) hx1998_1, cp 1 rfl rfl, trivial⟩ hQQ1999 fun b q p => ?_
    exact tail_done (k := q) (hp2000 _ _ ⟨Bs.post ⟨hg, hs, hd⟩ p, p.ke 0 rfl i0, p.ke 7 rfl i7, p.ke 8 rfl i8, p.ke 46 rfl i46, p.ou 2 47 rfl, trivial⟩)
   rintro a k ⟨⟨hg, hs, hd⟩, i0, i7, i8, i46, i47, _⟩
   exact hgo1992 _ _ _ (Option.some.inj hr).symm ⟨⟨hg, hs, hd⟩, i0, i7, i8, i46, i47, trivial⟩
  rw [if_neg (by rw [hc2005]; decide)] at hr
  refine wp_exit ?_
  exact hex1993 _ _ _ _ (Option.some.inj hr).symm ⟨rfl, ⟨hg, hs, hd⟩, i7, i8, i46, trivial⟩
 ·rintro r2013 a k rfl hR
  dsimp only at hr
  obtain rfl := Option.some.inj hr
  exact hR
 ·rintro _ _ _ rfl _
  simp at hr
 clear hf2008
 rintro _ s2009 a k rfl ⟨rfl, ⟨hg, hs, hd⟩, i7, i8, i46, _⟩
 dsimp only at hr
 refine wp_seq ?_
 obtain ⟨x2010_5, hx2010_5, hr⟩ := bind_some hr
 obtain ⟨x2010_4, hx2010_4, hx2010_5⟩ := ite_bind hx2010_5
 refine cut (fun a' k' => Bs noF k0 299 a' k' ∧ (IsV x2010_5) (a'.get 6) k' ∧ True) ?_ hQ ?_
 ·intro Q2011 hQQ2011 hp2012
  refine gS 7 (_ :: _ :: _ :: _ :: _ :: _ :: _ :: []) hs (by kernel_rfl) ⟨mu rfl i7, cm 0 rfl rfl, mT rfl rfl i46, mT rfl rfl i8, gT [(295, some 2), (296, some 3)] rfl rfl fun hp _ _ h n => ok_call rfl Try.call11 (solid_Same_ok (Gd.get n.1 hp) (Gd.get n.2.1 hp) (hx2010_4 hp)), o1 [(294, some 1), (297, some 4)] rfl fun _ _ h n => ok_pickM rfl n.1 hx2010_5 (Gd.get n.2.1) (cB rfl), cp 5 rfl rfl, trivial⟩ hQQ2011 fun b q p => ?_
  exact tail_done (k := q) (hp2012 _ _ ⟨Bs.post ⟨hg, hs, hd⟩ p, p.ou 6 6 rfl, trivial⟩)
 rintro a k ⟨⟨hg, hs, hd⟩, i6, _⟩
 refine wp_ret ?_
 obtain rfl := Option.some.inj hr
 exact retC1 rfl hd hg i6
def law09_few_L0 (s_ : (List Slab)) (n_ : Int) (s2075 : Int) : Option (Flow (Int) (Bool)) :=
 if ((decide (s2075 < (s_.length : Int))) && (decide (s2075 ≤ n_))) then
  (getI s_ s2075).bind fun x2080_2 =>
  if (decide (8 < (x2080_2.Area.length : Int))) then
   some (.ret false)
  else
   (addI s2075 1).bind fun x2084_1 =>
   some (.go x2084_1)
 else
  some (.ex 0 s2075)
def law09_few (s_ : (List Slab)) (n_ : Int) : Option (Bool) :=
 (iterL (law09_few_L0 s_ n_) (s_.length + 1) 0).bind fun f2093 => match f2093 with
  | .go _ => none
  | .ex _ _ =>
   some (decide ((s_.length : Int) ≤ n_))
  | .ret r2098 => some r2098
theorem law09_few_ok {k0 : K} {v0 v1 : Value} {s_ : (List Slab)} {n_ : Int} {r : Bool} (i0 : (IsV s_) v0 k0) (i1 : (IsV n_) v1 k0) (hr : law09_few s_ n_ = some r) :
  Calls Try.prog 20 #[v0, v1] k0.w (Ret k0 (IsV r)) := by
 unfold law09_few at hr
 refine Ret.ofC ?_
 refine enterK Try.func20 rfl Try.ntmps20 (show 2 ≤ 28 by decide) fun a k hk0 hs hd ha => ?_
 obtain ⟨e0, e1, _⟩ := ha
 replace i0 : (IsV s_) (a.get 0) k := by rw [e0, hk0]; exact i0
 replace i1 : (IsV n_) (a.get 1) k := by rw [e1, hk0]; exact i1
 have hQ : Gb.LetsOut (bodyPost Try.prog Try.f20 (RetC noF k0 (IsV r))) := letsOutC
 have hg : Chg noF k0 k := by rw [hk0]; exact Chg.refl _ k0
 refine stepL 1 (⟨some (IsV false), []⟩ :: []) rfl ⟨hg, hs, hd⟩ (by kernel_rfl) ⟨ob1 rfl fun _ _ h n => ok_assign rfl (isV_bool.2 rfl), trivial⟩ [⟨_, _⟩, ⟨_, _⟩] (fun b q p => ⟨p.ke 0 rfl i0, p.ke 1 rfl i1, trivial⟩) ?_
 rintro a k ⟨⟨hg, hs, hd⟩, i0, i1, _⟩
 refine wp_seq ?_
 refine stepL 1 (⟨some (IsI 0), []⟩ :: []) rfl ⟨hg, hs, hd⟩ (by kernel_rfl) ⟨aI rfl rfl, trivial⟩ [⟨_, _⟩, ⟨_, _⟩, ⟨_, _⟩] (fun b q p => ⟨p.ke 0 rfl i0, p.ke 1 rfl i1, p.ou 0 5 rfl, trivial⟩) ?_
 rintro a k ⟨⟨hg, hs, hd⟩, i0, i1, i5, _⟩
 refine wp_block ?_
 obtain ⟨f2093, hf2093, hr⟩ := bind_some hr
 refine cutFe f2093 (fun s' a' k' => Bs noF k0 28 a' k' ∧ (IsV s_) (a'.get 0) k' ∧ (IsV n_) (a'.get 1) k' ∧ (IsV s') (a'.get 5) k' ∧ True) (fun i' s' a' k' => (i' = 0 ∧ Bs noF k0 28 a' k' ∧ (IsV s_) (a'.get 0) k' ∧ (IsV n_) (a'.get 1) k' ∧ True)) (fun r' a' k' => bodyPost Try.prog Try.f20 (RetC noF k0 (IsV r')) .ret a' k'.w) ?_ hQ ?_ ?_ ?_
 ·intro Q2099 hQQ2099 hgo hex hret
  refine sim_loop ?_ _ _ _ _ _ hf2093 ⟨⟨hg, hs, hd⟩, i0, i1, i5, trivial⟩ Q2099 hQQ2099 hgo hex hret
  clear hr hf2093 hgo hex hret hQQ2099 hQ hg hs hd i0 i1 i5
  intro s2075 fl_ a k hr hS Q hQ hgo2076 hex2077 hret2078
  obtain ⟨⟨hg, hs, hd⟩, i0, i1, i5, _⟩ := hS
  unfold law09_few_L0 at hr
  refine wp_seq ?_
  refine stepL 9 (_ :: _ :: _ :: _ :: _ :: _ :: _ :: _ :: _ :: []) rfl ⟨hg, hs, hd⟩ (by kernel_rfl) ⟨mu rfl i5, mu rfl i0, o1 [(7, some 1)] rfl fun _ _ h n => ok_len rfl rfl Try.underlying24 (IsV.rd n.1), o1 [(6, some 0), (8, some 2)] rfl fun _ _ h n => ok_lss rfl n.1 n.2.1, cm 3 rfl rfl, mT rfl rfl i5, mT rfl rfl i1, gT [(11, some 5), (12, some 6)] rfl rfl fun hp _ _ h n => ok_leq rfl (Gd.get n.1 hp) (Gd.get n.2.1 hp), o1 [(10, some 4), (13, some 7)] rfl fun _ _ h n => ok_pickAnd rfl n.1 (Gd.get n.2.1) (cB rfl), trivial⟩ [⟨_, _⟩, ⟨_, _⟩, ⟨_, _⟩, ⟨_, _⟩] (fun b q p => ⟨p.ke 0 rfl i0, p.ke 1 rfl i1, p.ke 5 rfl i5, p.ou 8 14 rfl, trivial⟩) ?_
  rintro a k ⟨⟨hg, hs, hd⟩, i0, i1, i5, i14, _⟩
  refine wp_cond_split (isBool i14) (fun hc2090 => ?_) (fun hc2090 => ?_)
  ·rw [if_pos hc2090] at hr
   refine wp_skip ?_
   refine wp_seq ?_
   refine wp_block ?_
   refine wp_seq ?_
   obtain ⟨x2080_2, hx2080_2, hr⟩ := bind_some hr
   refine cut (fun a' k' => Bs noF k0 28 a' k' ∧ (IsV s_) (a'.get 0) k' ∧ (IsV n_) (a'.get 1) k' ∧ (IsV s2075) (a'.get 5) k' ∧ (IsV (decide (8 < (x2080_2.Area.length : Int)))) (a'.get 23) k' ∧ True) ?_ hQ ?_
   ·intro Q2088 hQQ2088 hp2089
    refine gS 7 (_ :: _ :: _ :: _ :: _ :: _ :: _ :: []) hs (by kernel_rfl) ⟨mu rfl i0, mu rfl i5, o1 [(17, some 0), (18, some 1)] rfl fun _ _ h n => ok_indexAddr rfl Try.underlying24 ty47 (IsV.rd n.1) n.2.1 hx2080_2, o1 [(19, some 2)] rfl fun _ _ h n => ok_fieldAddr rfl fo47_2 (at_Slab_2 _) n.1, o1 [(20, some 3)] rfl fun _ _ h n => ok_load rfl ty44 n.1, o1 [(21, some 4)] rfl fun _ _ h n => ok_len rfl rfl Try.underlying44 (IsV.rd n.1), o1 [(22, some 5)] rfl fun _ _ h n => ok_gtr rfl n.1 (cI rfl), trivial⟩ hQQ2088 fun b q p => ?_
    exact tail_done (k := q) (hp2089 _ _ ⟨Bs.post ⟨hg, hs, hd⟩ p, p.ke 0 rfl i0, p.ke 1 rfl i1, p.ke 5 rfl i5, p.ou 6 23 rfl, trivial⟩)
   rintro a k ⟨⟨hg, hs, hd⟩, i0, i1, i5, i23, _⟩
   refine wp_cond_split (isBool i23) (fun hc2087 => ?_) (fun hc2087 => ?_)
   ·rw [if_pos hc2087] at hr
    refine stepL 1 (⟨some (IsV false), []⟩ :: []) rfl ⟨hg, hs, hd⟩ (by kernel_rfl) ⟨ob1 rfl fun _ _ h n => ok_assign rfl (isV_bool.2 rfl), trivial⟩ [⟨_, _⟩] (fun b q p => ⟨p.ou 0 4 rfl, trivial⟩) ?_
    rintro a k ⟨⟨hg, hs, hd⟩, i4, _⟩
    refine wp_ret ?_
    exact hret2078 _ _ _ (Option.some.inj hr).symm (retC1 rfl hd hg i4)
   rw [if_neg (by rw [hc2087]; decide)] at hr
   refine wp_skip ?_
   obtain ⟨x2084_1, hx2084_1, hr⟩ := bind_some hr
   refine cut (fun a' k' => Bs noF k0 28 a' k' ∧ (IsV s_) (a'.get 0) k' ∧ (IsV n_) (a'.get 1) k' ∧ (IsV x2084_1) (a'.get 5) k' ∧ True) ?_ hQ ?_
   ·intro Q2085 hQQ2085 hp2086
    refine gS 3 (_ :: _ :: _ :: []) hs (by kernel_rfl) ⟨mu rfl i5, o1 [(15, some 0)] rfl fun _ _ h n => ok_add rfl n.1 (cI rfl) hx2084_1, cp 1 rfl rfl, trivial⟩ hQQ2085 fun b q p => ?_
    exact tail_done (k := q) (hp2086 _ _ ⟨Bs.post ⟨hg, hs, hd⟩ p, p.ke 0 rfl i0, p.ke 1 rfl i1, p.ou 2 5 rfl, trivial⟩)
   rintro a k ⟨⟨hg, hs, hd⟩, i0, i1, i5, _⟩
   exact hgo2076 _ _ _ (Option.some.inj hr).symm ⟨⟨hg, hs, hd⟩, i0, i1, i5, trivial⟩
  rw [if_neg (by rw [hc2090]; decide)] at hr
  refine wp_exit ?_
  exact hex2077 _ _ _ _ (Option.some.inj hr).symm ⟨rfl, ⟨hg, hs, hd⟩, i0, i1, trivial⟩
 ·rintro r2098 a k rfl hR
  dsimp only at hr
  obtain rfl := Option.some.inj hr
  exact hR
 ·rintro _ _ _ rfl _
  simp at hr
 clear hf2093
 rintro _ s2094 a k rfl ⟨rfl, ⟨hg, hs, hd⟩, i0, i1, _⟩
 dsimp only at hr
 refine stepL 5 (_ :: _ :: _ :: _ :: _ :: []) rfl ⟨hg, hs, hd⟩ (by kernel_rfl) ⟨mu rfl i0, o1 [(24, some 0)] rfl fun _ _ h n => ok_len rfl rfl Try.underlying24 (IsV.rd n.1), mu rfl i1, o1 [(25, some 1), (26, some 2)] rfl fun _ _ h n => ok_leq rfl n.1 n.2.1, cp 3 rfl rfl, trivial⟩ [⟨_, _⟩] (fun b q p => ⟨p.ou 4 4 rfl, trivial⟩) ?_
 rintro a k ⟨⟨hg, hs, hd⟩, i4, _⟩
 refine wp_ret ?_
 obtain rfl := Option.some.inj hr
 exact retC1 rfl hd hg i4
def law09_SolidFull_L0 (n_ : Int) (s2112 : (List Box) × Int) : Option (Flow ((List Box) × Int) (Bool)) :=
 if (decide (s2112.2 < n_)) then
  (mulI 2 s2112.2).bind fun x2117_3 =>
  (mulI 2 s2112.2).bind fun x2117_5 =>
  (addI x2117_5 1).bind fun x2117_6 =>
  (appI s2112.1 ([(⟨(⟨3, 3, 4, 4⟩ : Rect), x2117_3, x2117_6⟩ : Box)])).bind fun x2117_9 =>
  (addI s2112.2 1).bind fun x2118_1 =>
  some (.go (x2117_9, x2118_1))
 else
  some (.ex 0 (s2112.1, s2112.2))
def law09_SolidFull (n_ : Int) (s_ : (List Slab)) : Option (Bool) :=
 (law09_small).bind fun x2105_0 =>
 (if ((decide (n_ < 1)) || (decide (120 < n_))) then
  some true
 else
  (law09_few s_ 12).bind fun x2106_8 =>
  some (!x2106_8)).bind fun x2106_10 =>
 if x2106_10 then
  some x2105_0
 else
  (iterL (law09_SolidFull_L0 n_) (n_.toNat + 1) (([] : List Box), 0)).bind fun f2127 => match f2127 with
   | .go _ => none
   | .ex _ s2128 =>
    (solid_Of s2128.1).bind fun x2129_1 =>
    (if (((x2129_1.2 == 0) != (decide (n_ ≤ 80))) || ((x2129_1.2 != 0) && ((x2129_1.2 != 6) || ((x2129_1.1.length : Int) != 0)))) then
     some true
    else
     (if (x2129_1.2 == 0) then
      (if ((x2129_1.1.length : Int) != n_) then
       some true
      else
       (solid_Volume x2129_1.1).bind fun x2130_28 =>
       some (x2130_28 != n_)).bind fun x2130_31 =>
      some x2130_31
     else
      some false).bind fun x2130_32 =>
     some x2130_32).bind fun x2130_33 =>
    if x2130_33 then
     some false
    else
     (solid_Right s_).bind fun x2134_1 =>
     if x2134_1 then
      some x2105_0
     else
      (law09_square 0 0 1 1).bind fun x2138_0 =>
      (solid_Union s_ ([(⟨0, 1, x2138_0⟩ : Slab)])).bind fun x2139_2 =>
      (solid_Common ([(⟨0, 1, x2138_0⟩ : Slab)]) s_).bind fun x2140_2 =>
      (solid_Minus ([(⟨0, 1, x2138_0⟩ : Slab)]) s_).bind fun x2141_2 =>
      (if (((x2105_0 && (x2139_2.2 == 1)) && (x2140_2.2 == 1)) && (x2141_2.2 == 1)) then
       (addI (x2139_2.1.length : Int) (x2140_2.1.length : Int)).bind fun x2142_18 =>
       (addI x2142_18 (x2141_2.1.length : Int)).bind fun x2142_21 =>
       some (x2142_21 == 0)
      else
       some false).bind fun x2142_23 =>
      (if x2142_23 then
       (solid_Volume s_).bind fun x2142_26 =>
       some (x2142_26 == 0)
      else
       some false).bind fun x2142_28 =>
      (if x2142_28 then
       (solid_Boxes s_).bind fun x2142_31 =>
       some ((x2142_31.length : Int) == 0)
      else
       some false).bind fun x2142_34 =>
      (if x2142_34 then
       (solid_Top s_ 0 0).bind fun x2142_37 =>
       some (x2142_37 == 0)
      else
       some false).bind fun x2142_39 =>
      (if x2142_39 then
       (solid_Section s_ 0).bind fun x2142_42 =>
       some ((x2142_42.length : Int) == 0)
      else
       some false).bind fun x2142_45 =>
      (if x2142_45 then
       (solid_Has s_ 0 0 0).bind fun x2142_48 =>
       some (!x2142_48)
      else
       some false).bind fun x2142_50 =>
      some x2142_50
   | .ret r2161 => some r2161
theorem law09_SolidFull_ok {k0 : K} {v0 v1 : Value} {n_ : Int} {s_ : (List Slab)} {r : Bool} (i0 : (IsV n_) v0 k0) (i1 : (IsV s_) v1 k0) (hr : law09_SolidFull n_ s_ = some r) :
  Calls Try.prog 6 #[v0, v1] k0.w (Ret k0 (IsV r)) := by
 unfold law09_SolidFull at hr
 refine Ret.ofC ?_
 refine enterK Try.func6 rfl Try.ntmps6 (show 2 ≤ 159 by decide) fun a k hk0 hs hd ha => ?_
 obtain ⟨e0, e1, _⟩ := ha
 replace i0 : (IsV n_) (a.get 0) k := by rw [e0, hk0]; exact i0
 replace i1 : (IsV s_) (a.get 1) k := by rw [e1, hk0]; exact i1
 have hQ : Gb.LetsOut (bodyPost Try.prog Try.f6 (RetC noF k0 (IsV r))) := letsOutC
 have hg : Chg noF k0 k := by rw [hk0]; exact Chg.refl _ k0
 refine stepL 1 (⟨some (IsV false), []⟩ :: []) rfl ⟨hg, hs, hd⟩ (by kernel_rfl) ⟨ob1 rfl fun _ _ h n => ok_assign rfl (isV_bool.2 rfl), trivial⟩ [⟨_, _⟩, ⟨_, _⟩] (fun b q p => ⟨p.ke 0 rfl i0, p.ke 1 rfl i1, trivial⟩) ?_
 rintro a k ⟨⟨hg, hs, hd⟩, i0, i1, _⟩
 refine wp_seq ?_
 obtain ⟨x2105_0, hx2105_0, hr⟩ := bind_some hr
 refine cut (fun a' k' => Bs noF k0 159 a' k' ∧ (IsV n_) (a'.get 0) k' ∧ (IsV s_) (a'.get 1) k' ∧ (IsV x2105_0) (a'.get 5) k' ∧ True) ?_ hQ ?_
 ·intro Q2170 hQQ2170 hp2171
  refine gS 2 (_ :: _ :: []) hs (by kernel_rfl) ⟨o1 [] rfl fun _ _ h n => ok_call rfl Try.call8 (law09_small_ok hx2105_0), cp 0 rfl rfl, trivial⟩ hQQ2170 fun b q p => ?_
  exact tail_done (k := q) (hp2171 _ _ ⟨Bs.post ⟨hg, hs, hd⟩ p, p.ke 0 rfl i0, p.ke 1 rfl i1, p.ou 1 5 rfl, trivial⟩)
 rintro a k ⟨⟨hg, hs, hd⟩, i0, i1, i5, _⟩
 refine wp_seq ?_
 refine wp_seq ?_
 obtain ⟨x2106_10, hx2106_10, hr⟩ := bind_some hr
 obtain ⟨x2106_8, hx2106_8, hx2106_10⟩ := ite_bindF hx2106_10
 refine cut (fun a' k' => Bs noF k0 159 a' k' ∧ (IsV n_) (a'.get 0) k' ∧ (IsV s_) (a'.get 1) k' ∧ (IsV x2105_0) (a'.get 5) k' ∧ (IsV x2106_10) (a'.get 28) k' ∧ True) ?_ hQ ?_
 ·intro Q2168 hQQ2168 hp2169
  refine gS 11 (_ :: _ :: _ :: _ :: _ :: _ :: _ :: _ :: _ :: _ :: _ :: []) hs (by kernel_rfl) ⟨mu rfl i0, o1 [(18, some 0)] rfl fun _ _ h n => ok_lss rfl n.1 (cI rfl), cm 1 rfl rfl, mF rfl rfl i0, gF [(21, some 3)] rfl rfl fun hp _ _ h n => ok_gtr rfl (Gd.get n.1 hp) (cI rfl), o1 [(20, some 2), (22, some 4)] rfl fun _ _ h n => ok_pickOr rfl n.1 (cB rfl) (Gd.get n.2.1), cm 5 rfl rfl, mF rfl rfl i1, gF [(25, some 7)] rfl rfl fun hp _ _ h n => ok_call rfl Try.call20 (law09_few_ok (Gd.get n.1 hp) (cI rfl) (hx2106_8 hp)), gF [(26, some 8)] rfl rfl fun hp _ _ h n => ok_not rfl (Gd.get n.1 hp), o1 [(24, some 6), (27, some 9)] rfl fun _ _ h n => ok_pickM rfl n.1 hx2106_10 (cB rfl) (Gd.get n.2.1), trivial⟩ hQQ2168 fun b q p => ?_
  exact tail_done (k := q) (hp2169 _ _ ⟨Bs.post ⟨hg, hs, hd⟩ p, p.ke 0 rfl i0, p.ke 1 rfl i1, p.ke 5 rfl i5, p.ou 10 28 rfl, trivial⟩)
 rintro a k ⟨⟨hg, hs, hd⟩, i0, i1, i5, i28, _⟩
 refine wp_cond_split (isBool i28) (fun hc2167 => ?_) (fun hc2167 => ?_)
 ·rw [if_pos hc2167] at hr
  refine stepL 2 (_ :: _ :: []) rfl ⟨hg, hs, hd⟩ (by kernel_rfl) ⟨mu rfl i5, cp 0 rfl rfl, trivial⟩ [⟨_, _⟩] (fun b q p => ⟨p.ou 1 4 rfl, trivial⟩) ?_
  rintro a k ⟨⟨hg, hs, hd⟩, i4, _⟩
  refine wp_ret ?_
  obtain rfl := Option.some.inj hr
  exact retC1 rfl hd hg i4
 rw [if_neg (by rw [hc2167]; decide)] at hr
 refine wp_skip ?_
 refine cutS (fun a' k' => Bs noF k0 159 a' k' ∧ (IsV n_) (a'.get 0) k' ∧ (IsV s_) (a'.get 1) k' ∧ (IsV x2105_0) (a'.get 5) k' ∧ IsOwn 0 32 ([] : List Box) (a'.get 6) k' ∧ Lo k0 (obF (a'.get 6)) ∧ True) ?_ ?_
 ·intro Q2165 hQQ2165 hp2166
  refine gS 1 (⟨some IsE0, []⟩ :: []) hs (by kernel_rfl) ⟨ob1 rfl fun b q h n => ok_assign rfl isE0_nil, trivial⟩ hQQ2165 fun b q p => ?_
  have hgq := hg.then p.grow
  have hsb := p.size.trans hs
  have hdb := p.defers.trans hd
  have j0 := p.ke 0 rfl i0
  have j1 := p.ke 1 rfl i1
  have j5 := p.ke 5 rfl i5
  have j6 : IsE0 (b.get 6) q := p.ou 0 6 rfl
  have y6 : Lo k0 (obF (b.get 6)) := j6.lo
  replace j6 : IsOwn 0 32 ([] : List Box) (b.get 6) q := j6.own0
  exact tail_done (k := q) (hp2166 _ _ ⟨⟨hgq, hsb, hdb⟩, j0, j1, j5, j6, y6, trivial⟩)
 rintro a k ⟨⟨hg, hs, hd⟩, i0, i1, i5, i6, n6, _⟩
 refine wp_seq ?_
 refine cutS (fun a' k' => Bs noF k0 159 a' k' ∧ (IsV n_) (a'.get 0) k' ∧ (IsV s_) (a'.get 1) k' ∧ (IsV x2105_0) (a'.get 5) k' ∧ IsOwn 0 32 ([] : List Box) (a'.get 6) k' ∧ Lo k0 (obF (a'.get 6)) ∧ (IsI 0) (a'.get 7) k' ∧ True) ?_ ?_
 ·intro Q2163 hQQ2163 hp2164
  refine gS 1 (⟨some (IsI 0), []⟩ :: []) hs (by kernel_rfl) ⟨aI rfl rfl, trivial⟩ hQQ2163 fun b q p => ?_
  exact tail_done (k := q) (hp2164 _ _ ⟨Bs.post ⟨hg, hs, hd⟩ p, p.ke 0 rfl i0, p.ke 1 rfl i1, p.ke 5 rfl i5, p.ke 6 rfl i6, (by rw [p.old 6 rfl]; exact n6), p.ou 0 7 rfl, trivial⟩)
 rintro a k ⟨⟨hg, hs, hd⟩, i0, i1, i5, i6, n6, i7, _⟩
 refine wp_block ?_
 obtain ⟨f2127, hf2127, hr⟩ := bind_some hr
 refine cutFe f2127 (fun s' a' k' => Bs noF k0 159 a' k' ∧ (IsV n_) (a'.get 0) k' ∧ (IsV s_) (a'.get 1) k' ∧ (IsV x2105_0) (a'.get 5) k' ∧ IsOwn 0 32 s'.1 (a'.get 6) k' ∧ Lo k0 (obF (a'.get 6)) ∧ (IsV s'.2) (a'.get 7) k' ∧ True) (fun i' s' a' k' => (i' = 0 ∧ Bs noF k0 159 a' k' ∧ (IsV n_) (a'.get 0) k' ∧ (IsV s_) (a'.get 1) k' ∧ (IsV x2105_0) (a'.get 5) k' ∧ (IsV s'.1) (a'.get 6) k' ∧ True)) (fun r' a' k' => bodyPost Try.prog Try.f6 (RetC noF k0 (IsV r')) .ret a' k'.w) ?_ hQ ?_ ?_ ?_
 ·intro Q2162 hQQ2162 hgo hex hret
  refine sim_loop ?_ _ _ _ _ _ hf2127 ⟨⟨hg, hs, hd⟩, i0, i1, i5, i6, n6, i7, trivial⟩ Q2162 hQQ2162 hgo hex hret
  clear hr hf2127 hgo hex hret hQQ2162 hQ hg hs hd i0 i1 i5 i6 i7 n6
  intro s2112 fl_ a k hr hS Q hQ hgo2113 hex2114 hret2115
  obtain ⟨⟨hg, hs, hd⟩, i0, i1, i5, i6, n6, i7, _⟩ := hS
  unfold law09_SolidFull_L0 at hr
  refine wp_seq ?_
  refine cutS (fun a' k' => Bs noF k0 159 a' k' ∧ (IsV n_) (a'.get 0) k' ∧ (IsV s_) (a'.get 1) k' ∧ (IsV x2105_0) (a'.get 5) k' ∧ IsOwn 0 32 s2112.1 (a'.get 6) k' ∧ Lo k0 (obF (a'.get 6)) ∧ (IsV s2112.2) (a'.get 7) k' ∧ (IsV (decide (s2112.2 < n_))) (a'.get 32) k' ∧ True) ?_ ?_
  ·intro Q2125 hQQ2125 hp2126
   refine gS 3 (_ :: _ :: _ :: []) hs (by kernel_rfl) ⟨mu rfl i7, mu rfl i0, o1 [(30, some 0), (31, some 1)] rfl fun _ _ h n => ok_lss rfl n.1 n.2.1, trivial⟩ hQQ2125 fun b q p => ?_
   exact tail_done (k := q) (hp2126 _ _ ⟨Bs.post ⟨hg, hs, hd⟩ p, p.ke 0 rfl i0, p.ke 1 rfl i1, p.ke 5 rfl i5, p.ke 6 rfl i6, (by rw [p.old 6 rfl]; exact n6), p.ke 7 rfl i7, p.ou 2 32 rfl, trivial⟩)
  rintro a k ⟨⟨hg, hs, hd⟩, i0, i1, i5, i6, n6, i7, i32, _⟩
  refine wp_cond_split (isBool i32) (fun hc2124 => ?_) (fun hc2124 => ?_)
  ·rw [if_pos hc2124] at hr
   refine wp_skip ?_
   refine wp_seq ?_
   refine wp_block ?_
   obtain ⟨x2117_3, hx2117_3, hr⟩ := bind_some hr
   obtain ⟨x2117_5, hx2117_5, hr⟩ := bind_some hr
   obtain ⟨x2117_6, hx2117_6, hr⟩ := bind_some hr
   obtain ⟨x2117_9, hx2117_9, hr⟩ := bind_some hr
   refine cut (fun a' k' => Bs noF k0 159 a' k' ∧ (IsV n_) (a'.get 0) k' ∧ (IsV s_) (a'.get 1) k' ∧ (IsV x2105_0) (a'.get 5) k' ∧ IsOwn 0 32 x2117_9 (a'.get 6) k' ∧ Lo k0 (obF (a'.get 6)) ∧ (IsV s2112.2) (a'.get 7) k' ∧ True) ?_ hQ ?_
   ·intro Q2121 hQQ2121 hp2122
    refine gS 9 (⟨some (OwnAt (a.get 6) 0 32 s2112.1), [(6, none)]⟩ :: ⟨some (IsV (⟨3, 3, 4, 4⟩ : Rect)), []⟩ :: _ :: _ :: _ :: _ :: _ :: ⟨some (IsV (⟨(⟨3, 3, 4, 4⟩ : Rect), x2117_3, x2117_6⟩ : Box)), [(36, some 1), (38, some 3), (41, some 6)]⟩ :: ⟨some (IsV ([(⟨(⟨3, 3, 4, 4⟩ : Rect), x2117_3, x2117_6⟩ : Box)])), [(42, some 7)]⟩ :: []) hs (by kernel_rfl) ⟨ob1 rfl fun _ _ h n => ok_moveOA (.inl rfl) (ownAt n.1 (up i6 h n.1)), ob1 rfl fun _ _ h n => ok_build rfl (bld30_0_1_2_3 (cI rfl) (cI rfl) (cI rfl) (cI rfl)), mu rfl i7, o1 [(37, some 2)] rfl fun _ _ h n => ok_mul rfl (cI rfl) n.1 hx2117_3, mu rfl i7, o1 [(39, some 4)] rfl fun _ _ h n => ok_mul rfl (cI rfl) n.1 hx2117_5, o1 [(40, some 5)] rfl fun _ _ h n => ok_add rfl n.1 (cI rfl) hx2117_6, ob1 rfl fun _ _ h n => ok_build rfl (bld32_0_1_2 n.1 n.2.1 n.2.2.1), ob1 rfl fun _ _ h n => ok_buildSlice rfl Try.underlying22 eo32 rfl (by decide) (by decide) ⟨rfl, n.1, trivial⟩, trivial⟩ hQQ2121 fun b q p => ?_
    have hgq := hg.then p.grow
    have hsb := p.size.trans hs
    have hdb := p.defers.trans hd
    have j0 := p.ke 0 rfl i0
    have j1 := p.ke 1 rfl i1
    have j5 := p.ke 5 rfl i5
    have j7 := p.ke 7 rfl i7
    have e35 : b.get 35 = a.get 6 := (p.ou 0 35 rfl).1
    have j35 : IsOwn 0 32 s2112.1 (b.get 35) q := (p.ou 0 35 rfl).2
    have y35 : Lo k0 (obF (b.get 35)) := by rw [e35]; exact n6
    have j43 : (IsV ([(⟨(⟨3, 3, 4, 4⟩ : Rect), x2117_3, x2117_6⟩ : Box)])) (b.get 43) q := p.ou 8 43 rfl
    have hns := j35.nshF
    refine tail_appendS (i := 9) (d := 44) rfl rfl rfl rfl (by rw [hsb]; decide) (e := 32) Try.underlying22 eo32 j35 (IsV.rd j43) hx2117_9 fun b2 q2 hsz hdf hoth hch hown hob => ?_
    have hle := hch.le hns
    have yn : Lo k0 (obF (b2.get 44)) := y35.app hgq hob
    replace j0 := Pers.pers hle j0
    replace j1 := Pers.pers hle j1
    replace j5 := Pers.pers hle j5
    replace j7 := Pers.pers hle j7
    replace j43 := Pers.pers hle j43
    replace hgq := hgq.step hch y35.wr
    rw [← hoth 0 (by decide)] at j0
    rw [← hoth 1 (by decide)] at j1
    rw [← hoth 5 (by decide)] at j5
    rw [← hoth 7 (by decide)] at j7
    rw [← hoth 43 (by decide)] at j43
    have j44 := hown
    have y44 := yn
    replace hsb := hsz.trans hsb
    replace hdb := hdf.trans hdb
    clear hle hch hown hob hns yn hsz hdf hoth
    obtain ⟨b, hbb⟩ : ∃ b, b = b2 := ⟨b2, rfl⟩
    subst hbb
    obtain ⟨q, hqq⟩ : ∃ q, q = q2 := ⟨q2, rfl⟩
    subst hqq
    refine tail_assign (i := 10) (d := 6) rfl rfl (.inl rfl) rfl (by rw [hsb]; decide) fun b2 hsz hdf hnew hoth => ?_
    have jn : (IsOwn 0 32 x2117_9) (b2.get 6) q := by rw [hnew]; exact j44
    have yn : Lo k0 (obF (b2.get 6)) := by rw [hnew]; exact y44
    rw [← hoth 0 (by decide)] at j0
    rw [← hoth 1 (by decide)] at j1
    rw [← hoth 5 (by decide)] at j5
    rw [← hoth 7 (by decide)] at j7
    rw [← hoth 43 (by decide)] at j43
    have j6 := jn
    have y6 := yn
    replace hsb := hsz.trans hsb
    replace hdb := hdf.trans hdb
    clear hsz hdf hoth
    obtain ⟨b, hbb⟩ : ∃ b, b = b2 := ⟨b2, rfl⟩
    subst hbb
    exact tail_done (k := q) (hp2122 _ _ ⟨⟨hgq, hsb, hdb⟩, j0, j1, j5, j6, y6, j7, trivial⟩)
   rintro a k ⟨⟨hg, hs, hd⟩, i0, i1, i5, i6, n6, i7, _⟩
   obtain ⟨x2118_1, hx2118_1, hr⟩ := bind_some hr
   refine cut (fun a' k' => Bs noF k0 159 a' k' ∧ (IsV n_) (a'.get 0) k' ∧ (IsV s_) (a'.get 1) k' ∧ (IsV x2105_0) (a'.get 5) k' ∧ IsOwn 0 32 x2117_9 (a'.get 6) k' ∧ Lo k0 (obF (a'.get 6)) ∧ (IsV x2118_1) (a'.get 7) k' ∧ True) ?_ hQ ?_
   ·intro Q2119 hQQ2119 hp2120
    refine gS 3 (_ :: _ :: _ :: []) hs (by kernel_rfl) ⟨mu rfl i7, o1 [(33, some 0)] rfl fun _ _ h n => ok_add rfl n.1 (cI rfl) hx2118_1, cp 1 rfl rfl, trivial⟩ hQQ2119 fun b q p => ?_
    exact tail_done (k := q) (hp2120 _ _ ⟨Bs.post ⟨hg, hs, hd⟩ p, p.ke 0 rfl i0, p.ke 1 rfl i1, p.ke 5 rfl i5, p.ke 6 rfl i6, (by rw [p.old 6 rfl]; exact n6), p.ou 2 7 rfl, trivial⟩)
   rintro a k ⟨⟨hg, hs, hd⟩, i0, i1, i5, i6, n6, i7, _⟩
   exact hgo2113 _ _ _ (Option.some.inj hr).symm ⟨⟨hg, hs, hd⟩, i0, i1, i5, i6, n6, i7, trivial⟩
  rw [if_neg (by rw [hc2124]; decide)] at hr
  refine wp_exit ?_
  obtain ⟨kk, sh2123, ii6⟩ := i6.give
  replace i0 := Pers.pers sh2123.le i0
  replace i1 := Pers.pers sh2123.le i1
  replace i5 := Pers.pers sh2123.le i5
  replace i6 := ii6
  replace hg := hg.hand sh2123 n6.wr
  rw [← sh2123.w]
  clear sh2123
  obtain ⟨k, hkk⟩ : ∃ k, k = kk := ⟨kk, rfl⟩
  subst hkk
  exact hex2114 _ _ _ _ (Option.some.inj hr).symm ⟨rfl, ⟨hg, hs, hd⟩, i0, i1, i5, i6, trivial⟩
 ·rintro r2161 a k rfl hR
  dsimp only at hr
  obtain rfl := Option.some.inj hr
  exact hR
 ·rintro _ _ _ rfl _
  simp at hr
 clear hf2127
 rintro _ s2128 a k rfl ⟨rfl, ⟨hg, hs, hd⟩, i0, i1, i5, i6, _⟩
 dsimp only at hr
 refine wp_seq ?_
 obtain ⟨x2129_1, hx2129_1, hr⟩ := bind_some hr
 refine cut (fun a' k' => Bs noF k0 159 a' k' ∧ (IsV n_) (a'.get 0) k' ∧ (IsV s_) (a'.get 1) k' ∧ (IsV x2105_0) (a'.get 5) k' ∧ (IsV x2129_1.1) (a'.get 8) k' ∧ (IsV x2129_1.2) (a'.get 9) k' ∧ True) ?_ hQ ?_
 ·intro Q2159 hQQ2159 hp2160
  refine gS 7 (_ :: _ :: _ :: _ :: _ :: _ :: _ :: []) hs (by kernel_rfl) ⟨mu rfl i6, o1 [(46, some 0)] rfl fun _ _ h n => ok_call rfl Try.call9 (solid_Of_ok n.1 hx2129_1), cm 1 rfl rfl, o1 [(45, some 2)] rfl fun _ _ h n => ok_ext2_0 rfl n.1, o1 [(45, some 2)] rfl fun _ _ h n => ok_ext2_1 rfl n.1, cp 3 rfl rfl, cp 4 rfl rfl, trivial⟩ hQQ2159 fun b q p => ?_
  exact tail_done (k := q) (hp2160 _ _ ⟨Bs.post ⟨hg, hs, hd⟩ p, p.ke 0 rfl i0, p.ke 1 rfl i1, p.ke 5 rfl i5, p.ou 5 8 rfl, p.ou 6 9 rfl, trivial⟩)
 rintro a k ⟨⟨hg, hs, hd⟩, i0, i1, i5, i8, i9, _⟩
 refine wp_seq ?_
 refine wp_seq ?_
 obtain ⟨x2130_33, hx2130_33, hr⟩ := bind_some hr
 obtain ⟨x2130_32, hx2130_32, hx2130_33⟩ := ite_bindF hx2130_33
 obtain ⟨x2130_31, hx2130_31, hx2130_32⟩ := ite_bindP hx2130_32
 obtain ⟨x2130_28, hx2130_28, hx2130_31⟩ := ite_bindFP hx2130_31
 refine cut (fun a' k' => Bs noF k0 159 a' k' ∧ (IsV s_) (a'.get 1) k' ∧ (IsV x2105_0) (a'.get 5) k' ∧ (IsV x2130_33) (a'.get 83) k' ∧ True) ?_ hQ ?_
 ·intro Q2157 hQQ2157 hp2158
  refine gS 34 (_ :: _ :: _ :: _ :: ⟨some (IsV ((x2129_1.2 == 0) != (decide (n_ ≤ 80)))), [(51, some 1), (53, some 3)]⟩ :: _ :: _ :: ⟨some (Gd (((x2129_1.2 == 0) != (decide (n_ ≤ 80))) = false) (IsV (x2129_1.2 != 0))), [(56, some 6)]⟩ :: ⟨some (Gd (((x2129_1.2 == 0) != (decide (n_ ≤ 80))) = false) (IsV (x2129_1.2 != 0))), [(57, some 7)]⟩ :: ⟨some (Gd ((((x2129_1.2 == 0) != (decide (n_ ≤ 80))) = false) ∧ (x2129_1.2 != 0) = true) (IsV x2129_1.2)), [(9, none)]⟩ :: ⟨some (Gd ((((x2129_1.2 == 0) != (decide (n_ ≤ 80))) = false) ∧ (x2129_1.2 != 0) = true) (IsV (x2129_1.2 != 6))), [(59, some 9)]⟩ :: ⟨some (Gd ((((x2129_1.2 == 0) != (decide (n_ ≤ 80))) = false) ∧ (x2129_1.2 != 0) = true) (IsV (x2129_1.2 != 6))), [(60, some 10)]⟩ :: ⟨some (Gd (((((x2129_1.2 == 0) != (decide (n_ ≤ 80))) = false) ∧ (x2129_1.2 != 0) = true) ∧ (x2129_1.2 != 6) = false) (IsV x2129_1.1)), [(8, none)]⟩ :: ⟨some (Gd (((((x2129_1.2 == 0) != (decide (n_ ≤ 80))) = false) ∧ (x2129_1.2 != 0) = true) ∧ (x2129_1.2 != 6) = false) (IsI (x2129_1.1.length : Int))), [(62, some 12)]⟩ :: ⟨some (Gd (((((x2129_1.2 == 0) != (decide (n_ ≤ 80))) = false) ∧ (x2129_1.2 != 0) = true) ∧ (x2129_1.2 != 6) = false) (IsV ((x2129_1.1.length : Int) != 0))), [(63, some 13)]⟩ :: ⟨some (Gd ((((x2129_1.2 == 0) != (decide (n_ ≤ 80))) = false) ∧ (x2129_1.2 != 0) = true) (IsV ((x2129_1.2 != 6) || ((x2129_1.1.length : Int) != 0)))), [(61, some 11), (64, some 14)]⟩ :: _ :: _ :: _ :: _ :: _ :: ⟨some (Gd ((((x2129_1.2 == 0) != (decide (n_ ≤ 80))) || ((x2129_1.2 != 0) && ((x2129_1.2 != 6) || ((x2129_1.1.length : Int) != 0)))) = false) (IsV (x2129_1.2 == 0))), [(70, some 20)]⟩ :: ⟨some (Gd (((((x2129_1.2 == 0) != (decide (n_ ≤ 80))) || ((x2129_1.2 != 0) && ((x2129_1.2 != 6) || ((x2129_1.1.length : Int) != 0)))) = false) ∧ (x2129_1.2 == 0) = true) (IsV x2129_1.1)), [(8, none)]⟩ :: ⟨some (Gd (((((x2129_1.2 == 0) != (decide (n_ ≤ 80))) || ((x2129_1.2 != 0) && ((x2129_1.2 != 6) || ((x2129_1.1.length : Int) != 0)))) = false) ∧ (x2129_1.2 == 0) = true) (IsI (x2129_1.1.length : Int))), [(72, some 22)]⟩ :: ⟨some (Gd (((((x2129_1.2 == 0) != (decide (n_ ≤ 80))) || ((x2129_1.2 != 0) && ((x2129_1.2 != 6) || ((x2129_1.1.length : Int) != 0)))) = false) ∧ (x2129_1.2 == 0) = true) (IsV n_)), [(0, none)]⟩ :: ⟨some (Gd (((((x2129_1.2 == 0) != (decide (n_ ≤ 80))) || ((x2129_1.2 != 0) && ((x2129_1.2 != 6) || ((x2129_1.1.length : Int) != 0)))) = false) ∧ (x2129_1.2 == 0) = true) (IsV ((x2129_1.1.length : Int) != n_))), [(73, some 23), (74, some 24)]⟩ :: ⟨some (Gd (((((x2129_1.2 == 0) != (decide (n_ ≤ 80))) || ((x2129_1.2 != 0) && ((x2129_1.2 != 6) || ((x2129_1.1.length : Int) != 0)))) = false) ∧ (x2129_1.2 == 0) = true) (IsV ((x2129_1.1.length : Int) != n_))), [(75, some 25)]⟩ :: ⟨some (Gd ((((((x2129_1.2 == 0) != (decide (n_ ≤ 80))) || ((x2129_1.2 != 0) && ((x2129_1.2 != 6) || ((x2129_1.1.length : Int) != 0)))) = false) ∧ (x2129_1.2 == 0) = true) ∧ ((x2129_1.1.length : Int) != n_) = false) (IsV x2129_1.1)), [(8, none)]⟩ :: ⟨some (Gd ((((((x2129_1.2 == 0) != (decide (n_ ≤ 80))) || ((x2129_1.2 != 0) && ((x2129_1.2 != 6) || ((x2129_1.1.length : Int) != 0)))) = false) ∧ (x2129_1.2 == 0) = true) ∧ ((x2129_1.1.length : Int) != n_) = false) (IsV x2130_28)), [(77, some 27)]⟩ :: ⟨some (Gd ((((((x2129_1.2 == 0) != (decide (n_ ≤ 80))) || ((x2129_1.2 != 0) && ((x2129_1.2 != 6) || ((x2129_1.1.length : Int) != 0)))) = false) ∧ (x2129_1.2 == 0) = true) ∧ ((x2129_1.1.length : Int) != n_) = false) (IsV n_)), [(0, none)]⟩ :: ⟨some (Gd ((((((x2129_1.2 == 0) != (decide (n_ ≤ 80))) || ((x2129_1.2 != 0) && ((x2129_1.2 != 6) || ((x2129_1.1.length : Int) != 0)))) = false) ∧ (x2129_1.2 == 0) = true) ∧ ((x2129_1.1.length : Int) != n_) = false) (IsV (x2130_28 != n_))), [(78, some 28), (79, some 29)]⟩ :: ⟨some (Gd (((((x2129_1.2 == 0) != (decide (n_ ≤ 80))) || ((x2129_1.2 != 0) && ((x2129_1.2 != 6) || ((x2129_1.1.length : Int) != 0)))) = false) ∧ (x2129_1.2 == 0) = true) (IsV x2130_31)), [(76, some 26), (80, some 30)]⟩ :: _ :: _ :: []) hs (by kernel_rfl) ⟨mu rfl i9, o1 [(50, some 0)] rfl fun _ _ h n => ok_eqI rfl n.1 (cI rfl), mu rfl i0, o1 [(52, some 2)] rfl fun _ _ h n => ok_leq rfl n.1 (cI rfl), ob1 rfl fun _ _ h n => ok_neB rfl Try.underlying4 n.1 n.2.1, cm 4 rfl rfl, mF rfl rfl i9, gdF rfl rfl fun hp _ _ h n => ok_neI rfl (Gd.get n.1 hp) (cI rfl), gdF rfl rfl fun hp _ _ h n => ok_move rfl (Gd.get n.1 hp), gdTT rfl rfl fun hp b q h n => ok_move rfl (up i9 h n.1), gdTT rfl rfl fun hp b q h n => ok_neI rfl (Gd.get n.1 hp) (cI rfl), gdTT rfl rfl fun hp b q h n => ok_move rfl (Gd.get n.1 hp), gdTF rfl rfl fun hp b q h n => ok_move rfl (up i8 h n.1), gdTF rfl rfl fun hp b q h n => ok_len rfl rfl Try.underlying24 (IsV.rd (Gd.get n.1 hp)), gdTF rfl rfl fun hp b q h n => ok_neI rfl (Gd.get n.1 hp) (cI rfl), gdTT rfl rfl fun hp b q h n => ok_pickOr rfl (Gd.get n.1 hp) (cB rfl) (fun hm => (Gd.get n.2.1 ⟨hp, hm⟩)), gF [(58, some 8), (65, some 15)] rfl rfl fun hp _ _ h n => ok_pickAnd rfl (Gd.get n.1 hp) (fun hm => (Gd.get n.2.1 ⟨hp, hm⟩)) (cB rfl), o1 [(55, some 5), (66, some 16)] rfl fun _ _ h n => ok_pickOr rfl n.1 (cB rfl) (Gd.get n.2.1), cm 17 rfl rfl, mF rfl rfl i9, gF [(69, some 19)] rfl rfl fun hp _ _ h n => ok_eqI rfl (Gd.get n.1 hp) (cI rfl), gdF rfl rfl fun hp _ _ h n => ok_move rfl (Gd.get n.1 hp), gdTT rfl rfl fun hp b q h n => ok_move rfl (up i8 h n.1), gdTT rfl rfl fun hp b q h n => ok_len rfl rfl Try.underlying24 (IsV.rd (Gd.get n.1 hp)), gdTT rfl rfl fun hp b q h n => ok_move rfl (up i0 h n.1), gdTT rfl rfl fun hp b q h n => ok_neI rfl (Gd.get n.1 hp) (Gd.get n.2.1 hp), gdTT rfl rfl fun hp b q h n => ok_move rfl (Gd.get n.1 hp), gdTF rfl rfl fun hp b q h n => ok_move rfl (up i8 h n.1), gdTF rfl rfl fun hp b q h n => ok_call rfl Try.call12 (solid_Volume_ok (Gd.get n.1 hp) (hx2130_28 hp)), gdTF rfl rfl fun hp b q h n => ok_move rfl (up i0 h n.1), gdTF rfl rfl fun hp b q h n => ok_neI rfl (Gd.get n.1 hp) (Gd.get n.2.1 hp), gdTT rfl rfl fun hp b q h n => ok_pickM rfl (Gd.get n.1 hp) (hx2130_31 hp) (cB rfl) (fun hm => (Gd.get n.2.1 ⟨hp, hm⟩)), gF [(71, some 21), (81, some 31)] rfl rfl fun hp _ _ h n => ok_pickM rfl (Gd.get n.1 hp) (hx2130_32 hp) (fun hm => (Gd.get n.2.1 ⟨hp, hm⟩)) (cB rfl), o1 [(68, some 18), (82, some 32)] rfl fun _ _ h n => ok_pickM rfl n.1 hx2130_33 (cB rfl) (Gd.get n.2.1), trivial⟩ hQQ2157 fun b q p => ?_
  exact tail_done (k := q) (hp2158 _ _ ⟨Bs.post ⟨hg, hs, hd⟩ p, p.ke 1 rfl i1, p.ke 5 rfl i5, p.ou 33 83 rfl, trivial⟩)
 rintro a k ⟨⟨hg, hs, hd⟩, i1, i5, i83, _⟩
 refine wp_cond_split (isBool i83) (fun hc2156 => ?_) (fun hc2156 => ?_)
 ·rw [if_pos hc2156] at hr
  refine stepL 1 (⟨some (IsV false), []⟩ :: []) rfl ⟨hg, hs, hd⟩ (by kernel_rfl) ⟨ob1 rfl fun _ _ h n => ok_assign rfl (isV_bool.2 rfl), trivial⟩ [⟨_, _⟩] (fun b q p => ⟨p.ou 0 4 rfl, trivial⟩) ?_
  rintro a k ⟨⟨hg, hs, hd⟩, i4, _⟩
  refine wp_ret ?_
  obtain rfl := Option.some.inj hr
  exact retC1 rfl hd hg i4
 rw [if_neg (by rw [hc2156]; decide)] at hr
 refine wp_skip ?_
 refine wp_seq ?_
 refine wp_seq ?_
 obtain ⟨x2134_1, hx2134_1, hr⟩ := bind_some hr
 refine cut (fun a' k' => Bs noF k0 159 a' k' ∧ (IsV s_) (a'.get 1) k' ∧ (IsV x2105_0) (a'.get 5) k' ∧ (IsV x2134_1) (a'.get 85) k' ∧ True) ?_ hQ ?_
 ·intro Q2154 hQQ2154 hp2155
  refine gS 2 (_ :: _ :: []) hs (by kernel_rfl) ⟨mu rfl i1, o1 [(84, some 0)] rfl fun _ _ h n => ok_call rfl Try.call17 (solid_Right_ok n.1 hx2134_1), trivial⟩ hQQ2154 fun b q p => ?_
  exact tail_done (k := q) (hp2155 _ _ ⟨Bs.post ⟨hg, hs, hd⟩ p, p.ke 1 rfl i1, p.ke 5 rfl i5, p.ou 1 85 rfl, trivial⟩)
 rintro a k ⟨⟨hg, hs, hd⟩, i1, i5, i85, _⟩
 refine wp_cond_split (isBool i85) (fun hc2153 => ?_) (fun hc2153 => ?_)
 ·rw [if_pos hc2153] at hr
  refine stepL 2 (_ :: _ :: []) rfl ⟨hg, hs, hd⟩ (by kernel_rfl) ⟨mu rfl i5, cp 0 rfl rfl, trivial⟩ [⟨_, _⟩] (fun b q p => ⟨p.ou 1 4 rfl, trivial⟩) ?_
  rintro a k ⟨⟨hg, hs, hd⟩, i4, _⟩
  refine wp_ret ?_
  obtain rfl := Option.some.inj hr
  exact retC1 rfl hd hg i4
 rw [if_neg (by rw [hc2153]; decide)] at hr
 refine wp_skip ?_
 refine wp_seq ?_
 obtain ⟨x2138_0, hx2138_0, hr⟩ := bind_some hr
 refine cut (fun a' k' => Bs noF k0 159 a' k' ∧ (IsV s_) (a'.get 1) k' ∧ (IsV x2105_0) (a'.get 5) k' ∧ (IsV ([(⟨0, 1, x2138_0⟩ : Slab)])) (a'.get 10) k' ∧ True) ?_ hQ ?_
 ·intro Q2151 hQQ2151 hp2152
  refine gS 4 (_ :: ⟨some (IsV (⟨0, 1, x2138_0⟩ : Slab)), [(87, some 0)]⟩ :: ⟨some (IsV ([(⟨0, 1, x2138_0⟩ : Slab)])), [(88, some 1)]⟩ :: _ :: []) hs (by kernel_rfl) ⟨o1 [] rfl fun _ _ h n => ok_call rfl Try.call21 (law09_square_ok (cI rfl) (cI rfl) (cI rfl) (cI rfl) hx2138_0), ob1 rfl fun _ _ h n => ok_build rfl (bld47_0_1_2 (cI rfl) (cI rfl) n.1), ob1 rfl fun _ _ h n => ok_buildSlice rfl Try.underlying24 eo47 rfl (by decide) (by decide) ⟨rfl, n.1, trivial⟩, cp 2 rfl rfl, trivial⟩ hQQ2151 fun b q p => ?_
  exact tail_done (k := q) (hp2152 _ _ ⟨Bs.post ⟨hg, hs, hd⟩ p, p.ke 1 rfl i1, p.ke 5 rfl i5, p.ou 3 10 rfl, trivial⟩)
 rintro a k ⟨⟨hg, hs, hd⟩, i1, i5, i10, _⟩
 refine wp_seq ?_
 obtain ⟨x2139_2, hx2139_2, hr⟩ := bind_some hr
 refine cut (fun a' k' => Bs noF k0 159 a' k' ∧ (IsV s_) (a'.get 1) k' ∧ (IsV x2105_0) (a'.get 5) k' ∧ (IsV ([(⟨0, 1, x2138_0⟩ : Slab)])) (a'.get 10) k' ∧ (IsV x2139_2.1) (a'.get 11) k' ∧ (IsV x2139_2.2) (a'.get 12) k' ∧ True) ?_ hQ ?_
 ·intro Q2149 hQQ2149 hp2150
  refine gS 8 (_ :: _ :: _ :: _ :: _ :: _ :: _ :: _ :: []) hs (by kernel_rfl) ⟨mu rfl i1, mu rfl i10, o1 [(91, some 0), (92, some 1)] rfl fun _ _ h n => ok_call rfl Try.call14 (solid_Union_ok n.1 n.2.1 hx2139_2), cm 2 rfl rfl, o1 [(90, some 3)] rfl fun _ _ h n => ok_ext2_0 rfl n.1, o1 [(90, some 3)] rfl fun _ _ h n => ok_ext2_1 rfl n.1, cp 4 rfl rfl, cp 5 rfl rfl, trivial⟩ hQQ2149 fun b q p => ?_
  exact tail_done (k := q) (hp2150 _ _ ⟨Bs.post ⟨hg, hs, hd⟩ p, p.ke 1 rfl i1, p.ke 5 rfl i5, p.ke 10 rfl i10, p.ou 6 11 rfl, p.ou 7 12 rfl, trivial⟩)
 rintro a k ⟨⟨hg, hs, hd⟩, i1, i5, i10, i11, i12, _⟩
 refine wp_seq ?_
 obtain ⟨x2140_2, hx2140_2, hr⟩ := bind_some hr
 refine cut (fun a' k' => Bs noF k0 159 a' k' ∧ (IsV s_) (a'.get 1) k' ∧ (IsV x2105_0) (a'.get 5) k' ∧ (IsV ([(⟨0, 1, x2138_0⟩ : Slab)])) (a'.get 10) k' ∧ (IsV x2139_2.1) (a'.get 11) k' ∧ (IsV x2139_2.2) (a'.get 12) k' ∧ (IsV x2140_2.1) (a'.get 13) k' ∧ (IsV x2140_2.2) (a'.get 14) k' ∧ True) ?_ hQ ?_
 ·intro Q2147 hQQ2147 hp2148
  refine gS 8 (_ :: _ :: _ :: _ :: _ :: _ :: _ :: _ :: []) hs (by kernel_rfl) ⟨mu rfl i10, mu rfl i1, o1 [(97, some 0), (98, some 1)] rfl fun _ _ h n => ok_call rfl Try.call15 (solid_Common_ok n.1 n.2.1 hx2140_2), cm 2 rfl rfl, o1 [(96, some 3)] rfl fun _ _ h n => ok_ext2_0 rfl n.1, o1 [(96, some 3)] rfl fun _ _ h n => ok_ext2_1 rfl n.1, cp 4 rfl rfl, cp 5 rfl rfl, trivial⟩ hQQ2147 fun b q p => ?_
  exact tail_done (k := q) (hp2148 _ _ ⟨Bs.post ⟨hg, hs, hd⟩ p, p.ke 1 rfl i1, p.ke 5 rfl i5, p.ke 10 rfl i10, p.ke 11 rfl i11, p.ke 12 rfl i12, p.ou 6 13 rfl, p.ou 7 14 rfl, trivial⟩)
 rintro a k ⟨⟨hg, hs, hd⟩, i1, i5, i10, i11, i12, i13, i14, _⟩
 refine wp_seq ?_
 obtain ⟨x2141_2, hx2141_2, hr⟩ := bind_some hr
 refine cut (fun a' k' => Bs noF k0 159 a' k' ∧ (IsV s_) (a'.get 1) k' ∧ (IsV x2105_0) (a'.get 5) k' ∧ (IsV x2139_2.1) (a'.get 11) k' ∧ (IsV x2139_2.2) (a'.get 12) k' ∧ (IsV x2140_2.1) (a'.get 13) k' ∧ (IsV x2140_2.2) (a'.get 14) k' ∧ (IsV x2141_2.1) (a'.get 15) k' ∧ (IsV x2141_2.2) (a'.get 16) k' ∧ True) ?_ hQ ?_
 ·intro Q2145 hQQ2145 hp2146
  refine gS 8 (_ :: _ :: _ :: _ :: _ :: _ :: _ :: _ :: []) hs (by kernel_rfl) ⟨mu rfl i10, mu rfl i1, o1 [(103, some 0), (104, some 1)] rfl fun _ _ h n => ok_call rfl Try.call16 (solid_Minus_ok n.1 n.2.1 hx2141_2), cm 2 rfl rfl, o1 [(102, some 3)] rfl fun _ _ h n => ok_ext2_0 rfl n.1, o1 [(102, some 3)] rfl fun _ _ h n => ok_ext2_1 rfl n.1, cp 4 rfl rfl, cp 5 rfl rfl, trivial⟩ hQQ2145 fun b q p => ?_
  exact tail_done (k := q) (hp2146 _ _ ⟨Bs.post ⟨hg, hs, hd⟩ p, p.ke 1 rfl i1, p.ke 5 rfl i5, p.ke 11 rfl i11, p.ke 12 rfl i12, p.ke 13 rfl i13, p.ke 14 rfl i14, p.ou 6 15 rfl, p.ou 7 16 rfl, trivial⟩)
 rintro a k ⟨⟨hg, hs, hd⟩, i1, i5, i11, i12, i13, i14, i15, i16, _⟩
 refine wp_seq ?_
 obtain ⟨x2142_23, hx2142_23, hr⟩ := bind_some hr
 obtain ⟨x2142_18, hx2142_18, hx2142_23⟩ := ite_bind hx2142_23
 obtain ⟨x2142_21, hx2142_21, hx2142_23⟩ := ite_bind hx2142_23
 obtain ⟨x2142_28, hx2142_28, hr⟩ := bind_some hr
 obtain ⟨x2142_26, hx2142_26, hx2142_28⟩ := ite_bind hx2142_28
 obtain ⟨x2142_34, hx2142_34, hr⟩ := bind_some hr
 obtain ⟨x2142_31, hx2142_31, hx2142_34⟩ := ite_bind hx2142_34
 obtain ⟨x2142_39, hx2142_39, hr⟩ := bind_some hr
 obtain ⟨x2142_37, hx2142_37, hx2142_39⟩ := ite_bind hx2142_39
 obtain ⟨x2142_45, hx2142_45, hr⟩ := bind_some hr
 obtain ⟨x2142_42, hx2142_42, hx2142_45⟩ := ite_bind hx2142_45
 obtain ⟨x2142_50, hx2142_50, hr⟩ := bind_some hr
 obtain ⟨x2142_48, hx2142_48, hx2142_50⟩ := ite_bind hx2142_50
 refine cut (fun a' k' => Bs noF k0 159 a' k' ∧ (IsV x2142_50) (a'.get 4) k' ∧ True) ?_ hQ ?_
 ·intro Q2143 hQQ2143 hp2144
  refine gS 52 (_ :: _ :: _ :: _ :: _ :: _ :: _ :: _ :: _ :: _ :: _ :: _ :: _ :: _ :: _ :: _ :: _ :: _ :: _ :: _ :: _ :: _ :: _ :: _ :: _ :: _ :: _ :: _ :: _ :: _ :: _ :: _ :: _ :: _ :: _ :: _ :: _ :: _ :: _ :: _ :: _ :: _ :: _ :: _ :: _ :: _ :: _ :: _ :: _ :: _ :: _ :: _ :: []) hs (by kernel_rfl) ⟨mu rfl i5, cm 0 rfl rfl, mT rfl rfl i12, gT [(110, some 2)] rfl rfl fun hp _ _ h n => ok_eqI rfl (Gd.get n.1 hp) (cI rfl), o1 [(109, some 1), (111, some 3)] rfl fun _ _ h n => ok_pickAnd rfl n.1 (Gd.get n.2.1) (cB rfl), cm 4 rfl rfl, mT rfl rfl i14, gT [(114, some 6)] rfl rfl fun hp _ _ h n => ok_eqI rfl (Gd.get n.1 hp) (cI rfl), o1 [(113, some 5), (115, some 7)] rfl fun _ _ h n => ok_pickAnd rfl n.1 (Gd.get n.2.1) (cB rfl), cm 8 rfl rfl, mT rfl rfl i16, gT [(118, some 10)] rfl rfl fun hp _ _ h n => ok_eqI rfl (Gd.get n.1 hp) (cI rfl), o1 [(117, some 9), (119, some 11)] rfl fun _ _ h n => ok_pickAnd rfl n.1 (Gd.get n.2.1) (cB rfl), cm 12 rfl rfl, mT rfl rfl i11, gT [(122, some 14)] rfl rfl fun hp _ _ h n => ok_len rfl rfl Try.underlying24 (IsV.rd (Gd.get n.1 hp)), mT rfl rfl i13, gT [(124, some 16)] rfl rfl fun hp _ _ h n => ok_len rfl rfl Try.underlying24 (IsV.rd (Gd.get n.1 hp)), gT [(123, some 15), (125, some 17)] rfl rfl fun hp _ _ h n => ok_add rfl (Gd.get n.1 hp) (Gd.get n.2.1 hp) (hx2142_18 hp), mT rfl rfl i15, gT [(127, some 19)] rfl rfl fun hp _ _ h n => ok_len rfl rfl Try.underlying24 (IsV.rd (Gd.get n.1 hp)), gT [(126, some 18), (128, some 20)] rfl rfl fun hp _ _ h n => ok_add rfl (Gd.get n.1 hp) (Gd.get n.2.1 hp) (hx2142_21 hp), gT [(129, some 21)] rfl rfl fun hp _ _ h n => ok_eqI rfl (Gd.get n.1 hp) (cI rfl), o1 [(121, some 13), (130, some 22)] rfl fun _ _ h n => ok_pickM rfl n.1 hx2142_23 (Gd.get n.2.1) (cB rfl), cm 23 rfl rfl, mT rfl rfl i1, gT [(133, some 25)] rfl rfl fun hp _ _ h n => ok_call rfl Try.call12 (solid_Volume_ok (Gd.get n.1 hp) (hx2142_26 hp)), gT [(134, some 26)] rfl rfl fun hp _ _ h n => ok_eqI rfl (Gd.get n.1 hp) (cI rfl), o1 [(132, some 24), (135, some 27)] rfl fun _ _ h n => ok_pickM rfl n.1 hx2142_28 (Gd.get n.2.1) (cB rfl), cm 28 rfl rfl, mT rfl rfl i1, gT [(138, some 30)] rfl rfl fun hp _ _ h n => ok_call rfl Try.call10 (solid_Boxes_ok (Gd.get n.1 hp) (hx2142_31 hp)), gT [(139, some 31)] rfl rfl fun hp _ _ h n => ok_len rfl rfl Try.underlying22 (IsV.rd (Gd.get n.1 hp)), gT [(140, some 32)] rfl rfl fun hp _ _ h n => ok_eqI rfl (Gd.get n.1 hp) (cI rfl), o1 [(137, some 29), (141, some 33)] rfl fun _ _ h n => ok_pickM rfl n.1 hx2142_34 (Gd.get n.2.1) (cB rfl), cm 34 rfl rfl, mT rfl rfl i1, gT [(144, some 36)] rfl rfl fun hp _ _ h n => ok_call rfl Try.call22 (solid_Top_ok (Gd.get n.1 hp) (cI rfl) (cI rfl) (hx2142_37 hp)), gT [(145, some 37)] rfl rfl fun hp _ _ h n => ok_eqI rfl (Gd.get n.1 hp) (cI rfl), o1 [(143, some 35), (146, some 38)] rfl fun _ _ h n => ok_pickM rfl n.1 hx2142_39 (Gd.get n.2.1) (cB rfl), cm 39 rfl rfl, mT rfl rfl i1, gT [(149, some 41)] rfl rfl fun hp _ _ h n => ok_call rfl Try.call23 (solid_Section_ok (Gd.get n.1 hp) (cI rfl) (hx2142_42 hp)), gT [(150, some 42)] rfl rfl fun hp _ _ h n => ok_len rfl rfl Try.underlying44 (IsV.rd (Gd.get n.1 hp)), gT [(151, some 43)] rfl rfl fun hp _ _ h n => ok_eqI rfl (Gd.get n.1 hp) (cI rfl), o1 [(148, some 40), (152, some 44)] rfl fun _ _ h n => ok_pickM rfl n.1 hx2142_45 (Gd.get n.2.1) (cB rfl), cm 45 rfl rfl, mT rfl rfl i1, gT [(155, some 47)] rfl rfl fun hp _ _ h n => ok_call rfl Try.call19 (solid_Has_ok (Gd.get n.1 hp) (cI rfl) (cI rfl) (cI rfl) (hx2142_48 hp)), gT [(156, some 48)] rfl rfl fun hp _ _ h n => ok_not rfl (Gd.get n.1 hp), o1 [(154, some 46), (157, some 49)] rfl fun _ _ h n => ok_pickM rfl n.1 hx2142_50 (Gd.get n.2.1) (cB rfl), cp 50 rfl rfl, trivial⟩ hQQ2143 fun b q p => ?_
  exact tail_done (k := q) (hp2144 _ _ ⟨Bs.post ⟨hg, hs, hd⟩ p, p.ou 51 4 rfl, trivial⟩)
 rintro a k ⟨⟨hg, hs, hd⟩, i4, _⟩
 refine wp_ret ?_
 obtain rfl := Option.some.inj hr
 exact retC1 rfl hd hg i4
def law09_rects_L0 (a_ : (List Rect)) (b_ : (List Rect)) (s2180 : Int) : Option (Flow (Int) (Bool)) :=
 if (decide (s2180 < (a_.length : Int))) then
  (getI a_ s2180).bind fun x2185_2 =>
  (getI b_ s2180).bind fun x2185_6 =>
  if (!decide (x2185_2 = x2185_6)) then
   some (.ret false)
  else
   (addI s2180 1).bind fun x2189_1 =>
   some (.go x2189_1)
 else
  some (.ex 0 s2180)
def law09_rects (a_ : (List Rect)) (b_ : (List Rect)) : Option (Bool) :=
 if ((a_.length : Int) != (b_.length : Int)) then
  some false
 else
  (iterL (law09_rects_L0 a_ b_) (a_.length + b_.length + 1) 0).bind fun f2198 => match f2198 with
   | .go _ => none
   | .ex _ _ =>
    some true
   | .ret r2203 => some r2203
theorem law09_rects_ok {k0 : K} {v0 v1 : Value} {a_ : (List Rect)} {b_ : (List Rect)} {r : Bool} (i0 : (IsV a_) v0 k0) (i1 : (IsV b_) v1 k0) (hr : law09_rects a_ b_ = some r) :
  Calls Try.prog 25 #[v0, v1] k0.w (Ret k0 (IsV r)) := by
 unfold law09_rects at hr
 refine Ret.ofC ?_
 refine enterK Try.func25 rfl Try.ntmps25 (show 2 ≤ 26 by decide) fun a k hk0 hs hd ha => ?_
 obtain ⟨e0, e1, _⟩ := ha
 replace i0 : (IsV a_) (a.get 0) k := by rw [e0, hk0]; exact i0
 replace i1 : (IsV b_) (a.get 1) k := by rw [e1, hk0]; exact i1
 have hQ : Gb.LetsOut (bodyPost Try.prog Try.f25 (RetC noF k0 (IsV r))) := letsOutC
 have hg : Chg noF k0 k := by rw [hk0]; exact Chg.refl _ k0
 refine stepL 1 (⟨some (IsV false), []⟩ :: []) rfl ⟨hg, hs, hd⟩ (by kernel_rfl) ⟨ob1 rfl fun _ _ h n => ok_assign rfl (isV_bool.2 rfl), trivial⟩ [⟨_, _⟩, ⟨_, _⟩] (fun b q p => ⟨p.ke 0 rfl i0, p.ke 1 rfl i1, trivial⟩) ?_
 rintro a k ⟨⟨hg, hs, hd⟩, i0, i1, _⟩
 refine wp_seq ?_
 refine stepL 5 (_ :: _ :: _ :: _ :: ⟨some (IsV ((a_.length : Int) != (b_.length : Int))), [(7, some 1), (9, some 3)]⟩ :: []) rfl ⟨hg, hs, hd⟩ (by kernel_rfl) ⟨mu rfl i0, o1 [(6, some 0)] rfl fun _ _ h n => ok_len rfl rfl Try.underlying44 (IsV.rd n.1), mu rfl i1, o1 [(8, some 2)] rfl fun _ _ h n => ok_len rfl rfl Try.underlying44 (IsV.rd n.1), ob1 rfl fun _ _ h n => ok_neI rfl n.1 n.2.1, trivial⟩ [⟨_, _⟩, ⟨_, _⟩, ⟨_, _⟩] (fun b q p => ⟨p.ke 0 rfl i0, p.ke 1 rfl i1, p.ou 4 10 rfl, trivial⟩) ?_
 rintro a k ⟨⟨hg, hs, hd⟩, i0, i1, i10, _⟩
 refine wp_cond_split (isBool i10) (fun hc2207 => ?_) (fun hc2207 => ?_)
 ·rw [if_pos hc2207] at hr
  refine stepL 1 (⟨some (IsV false), []⟩ :: []) rfl ⟨hg, hs, hd⟩ (by kernel_rfl) ⟨ob1 rfl fun _ _ h n => ok_assign rfl (isV_bool.2 rfl), trivial⟩ [⟨_, _⟩] (fun b q p => ⟨p.ou 0 4 rfl, trivial⟩) ?_
  rintro a k ⟨⟨hg, hs, hd⟩, i4, _⟩
  refine wp_ret ?_
  obtain rfl := Option.some.inj hr
  exact retC1 rfl hd hg i4
 rw [if_neg (by rw [hc2207]; decide)] at hr
 refine wp_skip ?_
 refine wp_seq ?_
 refine stepL 1 (⟨some (IsI 0), []⟩ :: []) rfl ⟨hg, hs, hd⟩ (by kernel_rfl) ⟨aI rfl rfl, trivial⟩ [⟨_, _⟩, ⟨_, _⟩, ⟨_, _⟩] (fun b q p => ⟨p.ke 0 rfl i0, p.ke 1 rfl i1, p.ou 0 5 rfl, trivial⟩) ?_
 rintro a k ⟨⟨hg, hs, hd⟩, i0, i1, i5, _⟩
 refine wp_block ?_
 obtain ⟨f2198, hf2198, hr⟩ := bind_some hr
 refine cutFe f2198 (fun s' a' k' => Bs noF k0 26 a' k' ∧ (IsV a_) (a'.get 0) k' ∧ (IsV b_) (a'.get 1) k' ∧ (IsV s') (a'.get 5) k' ∧ True) (fun i' s' a' k' => (i' = 0 ∧ Bs noF k0 26 a' k' ∧ True)) (fun r' a' k' => bodyPost Try.prog Try.f25 (RetC noF k0 (IsV r')) .ret a' k'.w) ?_ hQ ?_ ?_ ?_
 ·intro Q2204 hQQ2204 hgo hex hret
  refine sim_loop ?_ _ _ _ _ _ hf2198 ⟨⟨hg, hs, hd⟩, i0, i1, i5, trivial⟩ Q2204 hQQ2204 hgo hex hret
  clear hr hf2198 hgo hex hret hQQ2204 hQ hg hs hd i0 i1 i5
  intro s2180 fl_ a k hr hS Q hQ hgo2181 hex2182 hret2183
  obtain ⟨⟨hg, hs, hd⟩, i0, i1, i5, _⟩ := hS
  unfold law09_rects_L0 at hr
  refine wp_seq ?_
  refine stepL 4 (_ :: _ :: _ :: _ :: []) rfl ⟨hg, hs, hd⟩ (by kernel_rfl) ⟨mu rfl i5, mu rfl i0, o1 [(12, some 1)] rfl fun _ _ h n => ok_len rfl rfl Try.underlying44 (IsV.rd n.1), o1 [(11, some 0), (13, some 2)] rfl fun _ _ h n => ok_lss rfl n.1 n.2.1, trivial⟩ [⟨_, _⟩, ⟨_, _⟩, ⟨_, _⟩, ⟨_, _⟩] (fun b q p => ⟨p.ke 0 rfl i0, p.ke 1 rfl i1, p.ke 5 rfl i5, p.ou 3 14 rfl, trivial⟩) ?_
  rintro a k ⟨⟨hg, hs, hd⟩, i0, i1, i5, i14, _⟩
  refine wp_cond_split (isBool i14) (fun hc2195 => ?_) (fun hc2195 => ?_)
  ·rw [if_pos hc2195] at hr
   refine wp_skip ?_
   refine wp_seq ?_
   refine wp_block ?_
   refine wp_seq ?_
   obtain ⟨x2185_2, hx2185_2, hr⟩ := bind_some hr
   obtain ⟨x2185_6, hx2185_6, hr⟩ := bind_some hr
   refine cut (fun a' k' => Bs noF k0 26 a' k' ∧ (IsV a_) (a'.get 0) k' ∧ (IsV b_) (a'.get 1) k' ∧ (IsV s2180) (a'.get 5) k' ∧ (IsV (!decide (x2185_2 = x2185_6))) (a'.get 25) k' ∧ True) ?_ hQ ?_
   ·intro Q2193 hQQ2193 hp2194
    refine region (a0 := a) (k0 := k) (n := 26) (m := 9) (⟨some (IsV a_), [(0, none)]⟩ :: ⟨some (IsV s2180), [(5, none)]⟩ :: ⟨some (IsPtr x2185_2), [(17, some 0), (18, some 1)]⟩ :: ⟨some (IsV x2185_2), [(19, some 2)]⟩ :: ⟨some (IsV b_), [(1, none)]⟩ :: ⟨some (IsV s2180), [(5, none)]⟩ :: ⟨some (IsPtr x2185_6), [(21, some 4), (22, some 5)]⟩ :: ⟨some (IsV x2185_6), [(23, some 6)]⟩ :: ⟨some (IsV (!decide (x2185_2 = x2185_6))), [(20, some 3), (24, some 7)]⟩ :: []) hmix hs (by kernel_rfl) ⟨ob1 rfl fun b q hk hn => ok_move rfl (up i0 hk hn.1), ob1 rfl fun b q hk hn => ok_move rfl (up i5 hk hn.1), ob1 rfl fun b q hk hn => ok_indexAddr rfl Try.underlying44 ty30 (IsV.rd hn.1) hn.2.1 hx2185_2, ob1 rfl fun b q hk hn => ok_load rfl ty30 hn.1, ob1 rfl fun b q hk hn => ok_move rfl (up i1 hk hn.1), ob1 rfl fun b q hk hn => ok_move rfl (up i5 hk hn.1), ob1 rfl fun b q hk hn => ok_indexAddr rfl Try.underlying44 ty30 (IsV.rd hn.1) hn.2.1 hx2185_6, ob1 rfl fun b q hk hn => ok_load rfl ty30 hn.1, ob1 rfl fun b q hk hn => ok_neA rfl eq30 hn.1 hn.2.1, trivial⟩ hQQ2193 fun b q p => ?_
    exact tail_done (k := q) (hp2194 _ _ ⟨Bs.post ⟨hg, hs, hd⟩ p, p.ke 0 rfl i0, p.ke 1 rfl i1, p.ke 5 rfl i5, p.ou 8 25 rfl, trivial⟩)
   rintro a k ⟨⟨hg, hs, hd⟩, i0, i1, i5, i25, _⟩
   refine wp_cond_split (isBool i25) (fun hc2192 => ?_) (fun hc2192 => ?_)
   ·rw [if_pos hc2192] at hr
    refine stepL 1 (⟨some (IsV false), []⟩ :: []) rfl ⟨hg, hs, hd⟩ (by kernel_rfl) ⟨ob1 rfl fun _ _ h n => ok_assign rfl (isV_bool.2 rfl), trivial⟩ [⟨_, _⟩] (fun b q p => ⟨p.ou 0 4 rfl, trivial⟩) ?_
    rintro a k ⟨⟨hg, hs, hd⟩, i4, _⟩
    refine wp_ret ?_
    exact hret2183 _ _ _ (Option.some.inj hr).symm (retC1 rfl hd hg i4)
   rw [if_neg (by rw [hc2192]; decide)] at hr
   refine wp_skip ?_
   obtain ⟨x2189_1, hx2189_1, hr⟩ := bind_some hr
   refine cut (fun a' k' => Bs noF k0 26 a' k' ∧ (IsV a_) (a'.get 0) k' ∧ (IsV b_) (a'.get 1) k' ∧ (IsV x2189_1) (a'.get 5) k' ∧ True) ?_ hQ ?_
   ·intro Q2190 hQQ2190 hp2191
    refine gS 3 (_ :: _ :: _ :: []) hs (by kernel_rfl) ⟨mu rfl i5, o1 [(15, some 0)] rfl fun _ _ h n => ok_add rfl n.1 (cI rfl) hx2189_1, cp 1 rfl rfl, trivial⟩ hQQ2190 fun b q p => ?_
    exact tail_done (k := q) (hp2191 _ _ ⟨Bs.post ⟨hg, hs, hd⟩ p, p.ke 0 rfl i0, p.ke 1 rfl i1, p.ou 2 5 rfl, trivial⟩)
   rintro a k ⟨⟨hg, hs, hd⟩, i0, i1, i5, _⟩
   exact hgo2181 _ _ _ (Option.some.inj hr).symm ⟨⟨hg, hs, hd⟩, i0, i1, i5, trivial⟩
  rw [if_neg (by rw [hc2195]; decide)] at hr
  refine wp_exit ?_
  exact hex2182 _ _ _ _ (Option.some.inj hr).symm ⟨rfl, ⟨hg, hs, hd⟩, trivial⟩
 ·rintro r2203 a k rfl hR
  dsimp only at hr
  obtain rfl := Option.some.inj hr
  exact hR
 ·rintro _ _ _ rfl _
  simp at hr
 clear hf2198
 rintro _ s2199 a k rfl ⟨rfl, ⟨hg, hs, hd⟩, _⟩
 dsimp only at hr
 refine stepL 1 (⟨some (IsV true), []⟩ :: []) rfl ⟨hg, hs, hd⟩ (by kernel_rfl) ⟨ob1 rfl fun _ _ h n => ok_assign rfl (isV_bool.2 rfl), trivial⟩ [⟨_, _⟩] (fun b q p => ⟨p.ou 0 4 rfl, trivial⟩) ?_
 rintro a k ⟨⟨hg, hs, hd⟩, i4, _⟩
 refine wp_ret ?_
 obtain rfl := Option.some.inj hr
 exact retC1 rfl hd hg i4
def region_Area_L0 (a_ : (List Rect)) (s2219 : Int × Int) : Option (Flow (Int × Int) (Int)) :=
 if (decide (s2219.2 < (a_.length : Int))) then
  (getI a_ s2219.2).bind fun x2224_0 =>
  (rect_Area x2224_0).bind fun x2225_2 =>
  (addI s2219.1 x2225_2).bind fun x2225_3 =>
  (addI s2219.2 1).bind fun x2226_0 =>
  some (.go (x2225_3, x2226_0))
 else
  some (.ex 0 (s2219.1, s2219.2))
def region_Area (a_ : (List Rect)) : Option (Int) :=
 (region_Right a_).bind fun x2213_1 =>
 if (!x2213_1) then
  some 0
 else
  (iterL (region_Area_L0 a_) (a_.length + 1) (0, 0)).bind fun f2236 => match f2236 with
   | .go _ => none
   | .ex _ s2237 =>
    some s2237.1
   | .ret r2241 => some r2241
theorem region_Area_ok {k0 : K} {v0 : Value} {a_ : (List Rect)} {r : Int} (i0 : (IsV a_) v0 k0) (hr : region_Area a_ = some r) :
  Calls Try.prog 27 #[v0] k0.w (Ret k0 (IsV r)) := by
 unfold region_Area at hr
 refine Ret.ofC ?_
 refine enterK Try.func27 rfl Try.ntmps27 (show 1 ≤ 21 by decide) fun a k hk0 hs hd ha => ?_
 obtain ⟨e0, _⟩ := ha
 replace i0 : (IsV a_) (a.get 0) k := by rw [e0, hk0]; exact i0
 have hQ : Gb.LetsOut (bodyPost Try.prog Try.f27 (RetC noF k0 (IsV r))) := letsOutC
 have hg : Chg noF k0 k := by rw [hk0]; exact Chg.refl _ k0
 refine stepL 1 (⟨some (IsI 0), []⟩ :: []) rfl ⟨hg, hs, hd⟩ (by kernel_rfl) ⟨aI rfl rfl, trivial⟩ [⟨_, _⟩] (fun b q p => ⟨p.ke 0 rfl i0, trivial⟩) ?_
 rintro a k ⟨⟨hg, hs, hd⟩, i0, _⟩
 refine wp_seq ?_
 refine wp_seq ?_
 obtain ⟨x2213_1, hx2213_1, hr⟩ := bind_some hr
 refine cut (fun a' k' => Bs noF k0 21 a' k' ∧ (IsV a_) (a'.get 0) k' ∧ (IsV (!x2213_1)) (a'.get 8) k' ∧ True) ?_ hQ ?_
 ·intro Q2248 hQQ2248 hp2249
  refine gS 3 (_ :: _ :: _ :: []) hs (by kernel_rfl) ⟨mu rfl i0, o1 [(6, some 0)] rfl fun _ _ h n => ok_call rfl Try.call41 (region_Right_ok n.1 hx2213_1), o1 [(7, some 1)] rfl fun _ _ h n => ok_not rfl n.1, trivial⟩ hQQ2248 fun b q p => ?_
  exact tail_done (k := q) (hp2249 _ _ ⟨Bs.post ⟨hg, hs, hd⟩ p, p.ke 0 rfl i0, p.ou 2 8 rfl, trivial⟩)
 rintro a k ⟨⟨hg, hs, hd⟩, i0, i8, _⟩
 refine wp_cond_split (isBool i8) (fun hc2247 => ?_) (fun hc2247 => ?_)
 ·rw [if_pos hc2247] at hr
  refine stepL 1 (⟨some (IsI 0), []⟩ :: []) rfl ⟨hg, hs, hd⟩ (by kernel_rfl) ⟨aI rfl rfl, trivial⟩ [⟨_, _⟩] (fun b q p => ⟨p.ou 0 2 rfl, trivial⟩) ?_
  rintro a k ⟨⟨hg, hs, hd⟩, i2, _⟩
  refine wp_ret ?_
  obtain rfl := Option.some.inj hr
  exact retC1 rfl hd hg i2
 rw [if_neg (by rw [hc2247]; decide)] at hr
 refine wp_skip ?_
 refine stepL 1 (⟨some (IsI 0), []⟩ :: []) rfl ⟨hg, hs, hd⟩ (by kernel_rfl) ⟨aI rfl rfl, trivial⟩ [⟨_, _⟩, ⟨_, _⟩] (fun b q p => ⟨p.ke 0 rfl i0, p.ou 0 3 rfl, trivial⟩) ?_
 rintro a k ⟨⟨hg, hs, hd⟩, i0, i3, _⟩
 refine wp_seq ?_
 refine stepL 3 (_ :: _ :: ⟨some (IsI 0), []⟩ :: []) rfl ⟨hg, hs, hd⟩ (by kernel_rfl) ⟨mu rfl i0, o1 [(9, some 0)] rfl fun _ _ h n => ok_len rfl rfl Try.underlying44 (IsV.rd n.1), ob1 rfl fun _ _ h n => ok_move rfl (cI rfl), trivial⟩ [⟨_, _⟩, ⟨_, _⟩, ⟨_, _⟩, ⟨_, _⟩] (fun b q p => ⟨p.ke 3 rfl i3, p.ou 0 9 rfl, p.ou 1 10 rfl, p.ou 2 11 rfl, trivial⟩) ?_
 rintro a k ⟨⟨hg, hs, hd⟩, i3, i9, i10, i11, _⟩
 refine wp_block ?_
 obtain ⟨f2236, hf2236, hr⟩ := bind_some hr
 refine cutFe f2236 (fun s' a' k' => Bs noF k0 21 a' k' ∧ (IsV s'.1) (a'.get 3) k' ∧ (IsV a_) (a'.get 9) k' ∧ (IsL a_) (a'.get 10) k' ∧ (IsV s'.2) (a'.get 11) k' ∧ True) (fun i' s' a' k' => (i' = 0 ∧ Bs noF k0 21 a' k' ∧ (IsV s'.1) (a'.get 3) k' ∧ True)) (fun r' a' k' => bodyPost Try.prog Try.f27 (RetC noF k0 (IsV r')) .ret a' k'.w) ?_ hQ ?_ ?_ ?_
 ·intro Q2242 hQQ2242 hgo hex hret
  refine sim_loop ?_ _ _ _ _ _ hf2236 ⟨⟨hg, hs, hd⟩, i3, i9, i10, i11, trivial⟩ Q2242 hQQ2242 hgo hex hret
  clear hr hf2236 hgo hex hret hQQ2242 hQ hg hs hd i10 i11 i3 i9
  intro s2219 fl_ a k hr hS Q hQ hgo2220 hex2221 hret2222
  obtain ⟨⟨hg, hs, hd⟩, i3, i9, i10, i11, _⟩ := hS
  unfold region_Area_L0 at hr
  refine stepL 1 (_ :: []) rfl ⟨hg, hs, hd⟩ (by kernel_rfl) ⟨o1 [(11, none), (10, none)] rfl fun _ _ h n => ok_lss rfl (up i11 h n.1) (up i10 h n.2.1), trivial⟩ [⟨_, _⟩, ⟨_, _⟩, ⟨_, _⟩, ⟨_, _⟩, ⟨_, _⟩] (fun b q p => ⟨p.ke 3 rfl i3, p.ke 9 rfl i9, p.ke 10 rfl i10, p.ke 11 rfl i11, p.ou 0 12 rfl, trivial⟩) ?_
  rintro a k ⟨⟨hg, hs, hd⟩, i3, i9, i10, i11, i12, _⟩
  refine wp_seq ?_
  refine wp_cond_split (isBool i12) (fun hc2233 => ?_) (fun hc2233 => ?_)
  ·rw [if_pos hc2233] at hr
   refine wp_skip ?_
   refine wp_seq ?_
   refine wp_block ?_
   refine wp_seq ?_
   obtain ⟨x2224_0, hx2224_0, hr⟩ := bind_some hr
   refine cut (fun a' k' => Bs noF k0 21 a' k' ∧ (IsV s2219.1) (a'.get 3) k' ∧ (IsRef x2224_0) (a'.get 5) k' ∧ (IsV a_) (a'.get 9) k' ∧ (IsL a_) (a'.get 10) k' ∧ (IsV s2219.2) (a'.get 11) k' ∧ True) ?_ hQ ?_
   ·intro Q2231 hQQ2231 hp2232
    refine gS 3 (_ :: _ :: ⟨some (IsBox k.w.heap.size (⟨0, 0, 0, 0⟩ : Rect)), []⟩ :: []) hs (by kernel_rfl) ⟨o1 [(9, none), (11, none)] rfl fun _ _ h n => ok_indexAddr rfl Try.underlying44 ty30 (IsV.rd (up i9 h n.1)) (up i11 h n.2.1) hx2224_0, o1 [(13, some 0)] rfl fun _ _ h n => ok_load rfl ty30 n.1, ob1 rfl fun _ _ h n => ok_alloc _ h.size rfl z30, trivial⟩ hQQ2231 fun b q p => ?_
    have hgq := hg.then p.grow
    have hsb := p.size.trans hs
    have hdb := p.defers.trans hd
    have j3 := p.ke 3 rfl i3
    obtain ⟨b5, j5, x5, z5⟩ : (IsBox k.w.heap.size (⟨0, 0, 0, 0⟩ : Rect)) (b.get 5) q := p.ou 2 5 rfl
    replace x5 : Lo k (Eq b5) := Lo.eq x5
    have y5 : Lo k0 (Eq b5) := x5.chg hg
    have j9 := p.ke 9 rfl i9
    have j10 := p.ke 10 rfl i10
    have j11 := p.ke 11 rfl i11
    have j14 : (IsV x2224_0) (b.get 14) q := p.ou 1 14 rfl
    have hns := z5.nshF
    refine tail_storeB (i := 3) rfl rfl rfl rfl szf30 (Upd.self (α := Rect)) j5 z5 j14 fun q2 hch hz => ?_
    replace hgq := hgq.step hch y5.wr
    have hle := hch.le hns
    replace j3 := Pers.pers hle j3
    replace j9 := Pers.pers hle j9
    replace j10 := Pers.pers hle j10
    replace j11 := Pers.pers hle j11
    replace j14 := Pers.pers hle j14
    replace z5 := hz
    clear hns hle hch
    obtain ⟨q, hqq⟩ : ∃ q, q = q2 := ⟨q2, rfl⟩
    subst hqq
    obtain ⟨q2, hsh, jn⟩ := z5.give
    replace j3 := Pers.pers hsh.le j3
    replace j9 := Pers.pers hsh.le j9
    replace j10 := Pers.pers hsh.le j10
    replace j11 := Pers.pers hsh.le j11
    rw [← j5] at jn
    replace j5 := jn
    replace hgq := hgq.hand hsh y5.wr
    rw [← hsh.w]
    clear hsh
    obtain ⟨q, hqq⟩ : ∃ q, q = q2 := ⟨q2, rfl⟩
    subst hqq
    exact tail_done (k := q) (hp2232 _ _ ⟨⟨hgq, hsb, hdb⟩, j3, j5, j9, j10, j11, trivial⟩)
   rintro a k ⟨⟨hg, hs, hd⟩, i3, i5, i9, i10, i11, _⟩
   obtain ⟨x2225_2, hx2225_2, hr⟩ := bind_some hr
   obtain ⟨x2225_3, hx2225_3, hr⟩ := bind_some hr
   refine cut (fun a' k' => Bs noF k0 21 a' k' ∧ (IsV x2225_3) (a'.get 3) k' ∧ (IsV a_) (a'.get 9) k' ∧ (IsL a_) (a'.get 10) k' ∧ (IsV s2219.2) (a'.get 11) k' ∧ True) ?_ hQ ?_
   ·intro Q2229 hQQ2229 hp2230
    refine gS 5 (_ :: _ :: _ :: _ :: _ :: []) hs (by kernel_rfl) ⟨mu rfl i3, o1 [(5, none)] rfl fun _ _ h n => ok_load rfl ty30 ((up i5 h n.1)).ptr, o1 [(16, some 1)] rfl fun _ _ h n => ok_call rfl Try.call36 (rect_Area_ok n.1 hx2225_2), o1 [(15, some 0), (17, some 2)] rfl fun _ _ h n => ok_add rfl n.1 n.2.1 hx2225_3, cp 3 rfl rfl, trivial⟩ hQQ2229 fun b q p => ?_
    exact tail_done (k := q) (hp2230 _ _ ⟨Bs.post ⟨hg, hs, hd⟩ p, p.ou 4 3 rfl, p.ke 9 rfl i9, p.ke 10 rfl i10, p.ke 11 rfl i11, trivial⟩)
   rintro a k ⟨⟨hg, hs, hd⟩, i3, i9, i10, i11, _⟩
   obtain ⟨x2226_0, hx2226_0, hr⟩ := bind_some hr
   refine cut (fun a' k' => Bs noF k0 21 a' k' ∧ (IsV x2225_3) (a'.get 3) k' ∧ (IsV a_) (a'.get 9) k' ∧ (IsL a_) (a'.get 10) k' ∧ (IsV x2226_0) (a'.get 11) k' ∧ True) ?_ hQ ?_
   ·intro Q2227 hQQ2227 hp2228
    refine gS 2 (_ :: _ :: []) hs (by kernel_rfl) ⟨o1 [(11, none)] rfl fun _ _ h n => ok_add rfl (up i11 h n.1) (cI rfl) hx2226_0, cm 0 rfl rfl, trivial⟩ hQQ2227 fun b q p => ?_
    exact tail_done (k := q) (hp2228 _ _ ⟨Bs.post ⟨hg, hs, hd⟩ p, p.ke 3 rfl i3, p.ke 9 rfl i9, p.ke 10 rfl i10, p.ou 1 11 rfl, trivial⟩)
   rintro a k ⟨⟨hg, hs, hd⟩, i3, i9, i10, i11, _⟩
   exact hgo2220 _ _ _ (Option.some.inj hr).symm ⟨⟨hg, hs, hd⟩, i3, i9, i10, i11, trivial⟩
  rw [if_neg (by rw [hc2233]; decide)] at hr
  refine wp_exit ?_
  exact hex2221 _ _ _ _ (Option.some.inj hr).symm ⟨rfl, ⟨hg, hs, hd⟩, i3, trivial⟩
 ·rintro r2241 a k rfl hR
  dsimp only at hr
  obtain rfl := Option.some.inj hr
  exact hR
 ·rintro _ _ _ rfl _
  simp at hr
 clear hf2236
 rintro _ s2237 a k rfl ⟨rfl, ⟨hg, hs, hd⟩, i3, _⟩
 dsimp only at hr
 refine stepL 2 (_ :: _ :: []) rfl ⟨hg, hs, hd⟩ (by kernel_rfl) ⟨mu rfl i3, cp 0 rfl rfl, trivial⟩ [⟨_, _⟩] (fun b q p => ⟨p.ou 1 2 rfl, trivial⟩) ?_
 rintro a k ⟨⟨hg, hs, hd⟩, i2, _⟩
 refine wp_ret ?_
 obtain rfl := Option.some.inj hr
 exact retC1 rfl hd hg i2
def law09_SolidSections_L0 (l_ : (List Box)) (x_ : Int) (y_ : Int) (z_ : Int) (s2266 : (List Rect) × Int × Int) : Option (Flow ((List Rect) × Int × Int) (Bool)) :=
 if (decide (s2266.2.2 < (l_.length : Int))) then
  (getI l_ s2266.2.2).bind fun x2271_2 =>
  (if ((decide (x2271_2.Z0 ≤ z_)) && (decide (z_ < x2271_2.Z1))) then
   (appI s2266.1 ([x2271_2.Base])).bind fun x2275_4 =>
   some x2275_4
  else
   some s2266.1).bind fun s2273 =>
  (if ((((decide (x2271_2.Base.X0 ≤ x_)) && (decide (x_ < x2271_2.Base.X1))) && (decide (x2271_2.Base.Y0 ≤ y_))) && (decide (y_ < x2271_2.Base.Y1))) then
   some (max s2266.2.1 x2271_2.Z1)
  else
   some s2266.2.1).bind fun s2280 =>
  (addI s2266.2.2 1).bind fun x2286_1 =>
  some (.go (s2273, s2280, x2286_1))
 else
  some (.ex 0 (s2266.1, s2266.2.1, s2266.2.2))
def law09_SolidSections_L1 (x2258_1 : (List Slab) × Int) (s2310 : Int × Int) : Option (Flow (Int × Int) (Bool)) :=
 if (decide (s2310.2 < (x2258_1.1.length : Int))) then
  (getI x2258_1.1 s2310.2).bind fun x2315_3 =>
  (solid_Section x2258_1.1 x2315_3.Z0).bind fun x2315_6 =>
  (getI x2258_1.1 s2310.2).bind fun x2316_3 =>
  (law09_rects x2315_6 x2316_3.Area).bind fun x2316_6 =>
  (if (!x2316_6) then
   some true
  else
   (getI x2258_1.1 s2310.2).bind fun x2316_12 =>
   (subI x2316_12.Z1 1).bind fun x2316_15 =>
   (solid_Section x2258_1.1 x2316_15).bind fun x2316_16 =>
   (law09_rects x2316_16 x2315_6).bind fun x2316_18 =>
   some (!x2316_18)).bind fun x2316_20 =>
  (if x2316_20 then
   some true
  else
   (getI x2258_1.1 s2310.2).bind fun x2316_25 =>
   (solid_Section x2258_1.1 x2316_25.Z1).bind fun x2316_28 =>
   (law09_rects x2316_28 x2315_6).bind fun x2316_30 =>
   some x2316_30).bind fun x2316_31 =>
  (if x2316_31 then
   some true
  else
   (getI x2258_1.1 s2310.2).bind fun x2316_36 =>
   (subI x2316_36.Z0 1).bind fun x2316_39 =>
   (solid_Section x2258_1.1 x2316_39).bind fun x2316_40 =>
   (law09_rects x2316_40 x2315_6).bind fun x2316_42 =>
   some x2316_42).bind fun x2316_43 =>
  if x2316_43 then
   some (.ret false)
  else
   (getI x2258_1.1 s2310.2).bind fun x2320_3 =>
   (getI x2258_1.1 s2310.2).bind fun x2320_8 =>
   (subI x2320_3.Z1 x2320_8.Z0).bind fun x2320_11 =>
   (region_Area x2315_6).bind fun x2320_13 =>
   (mulI x2320_11 x2320_13).bind fun x2320_14 =>
   (addI s2310.1 x2320_14).bind fun x2320_15 =>
   (addI s2310.2 1).bind fun x2321_1 =>
   some (.go (x2320_15, x2321_1))
 else
  some (.ex 2 (s2310.1, s2310.2))
def law09_SolidSections (l_ : (List Box)) (x_ : Int) (y_ : Int) (z_ : Int) : Option (Bool) :=
 (law09_small).bind fun x2253_0 =>
 if (decide (8 < (l_.length : Int))) then
  some x2253_0
 else
  (solid_Of l_).bind fun x2258_1 =>
  if (x2258_1.2 != 0) then
   some ((x2253_0 && (x2258_1.2 == 1)) && ((x2258_1.1.length : Int) == 0))
  else
   (iterL (law09_SolidSections_L0 l_ x_ y_ z_) (l_.length + x2258_1.1.length + ([] : List Rect).length + 1) (([] : List Rect), 0, 0)).bind fun f2301 => match f2301 with
    | .go _ => none
    | .ex _ s2302 =>
     (region_Of s2302.1).bind fun x2303_1 =>
     (if (x2303_1.2 != 0) then
      some true
     else
      (solid_Section x2258_1.1 z_).bind fun x2304_5 =>
      (law09_rects x2304_5 x2303_1.1).bind fun x2304_7 =>
      some (!x2304_7)).bind fun x2304_9 =>
     (if x2304_9 then
      some true
     else
      (solid_Top x2258_1.1 x_ y_).bind fun x2304_14 =>
      some (x2304_14 != s2302.2.1)).bind fun x2304_17 =>
     (if x2304_17 then
      some true
     else
      (solid_Has x2258_1.1 x_ y_ z_).bind fun x2304_23 =>
      (region_Has x2303_1.1 x_ y_).bind fun x2304_27 =>
      some (x2304_23 != x2304_27)).bind fun x2304_29 =>
     if x2304_29 then
      some false
     else
      (iterL (law09_SolidSections_L1 x2258_1) (x2258_1.1.length + 1) (0, 0)).bind fun f2334 => match f2334 with
       | .go _ => none
       | .ex _ s2335 =>
        (if x2253_0 then
         (solid_Volume x2258_1.1).bind fun x2336_3 =>
         some (x2336_3 == s2335.1)
        else
         some false).bind fun x2336_6 =>
        some x2336_6
       | .ret r2339 => some r2339
    | .ret r2350 => some r2350
theorem law09_SolidSections_ok {k0 : K} {v0 v1 v2 v3 : Value} {l_ : (List Box)} {x_ : Int} {y_ : Int} {z_ : Int} {r : Bool} (i0 : (IsV l_) v0 k0) (i1 : (IsV x_) v1 k0) (i2 : (IsV y_) v2 k0) (i3 : (IsV z_) v3 k0) (hr : law09_SolidSections l_ x_ y_ z_ = some r) :
  Calls Try.prog 7 #[v0, v1, v2, v3] k0.w (Ret k0 (IsV r)) := by
 unfold law09_SolidSections at hr
 refine Ret.ofC ?_
 refine enterK Try.func7 rfl Try.ntmps7 (show 4 ≤ 213 by decide) fun a k hk0 hs hd ha => ?_
 obtain ⟨e0, e1, e2, e3, _⟩ := ha
 replace i0 : (IsV l_) (a.get 0) k := by rw [e0, hk0]; exact i0
 replace i1 : (IsV x_) (a.get 1) k := by rw [e1, hk0]; exact i1
 replace i2 : (IsV y_) (a.get 2) k := by rw [e2, hk0]; exact i2
 replace i3 : (IsV z_) (a.get 3) k := by rw [e3, hk0]; exact i3
 have hQ : Gb.LetsOut (bodyPost Try.prog Try.f7 (RetC noF k0 (IsV r))) := letsOutC
 have hg : Chg noF k0 k := by rw [hk0]; exact Chg.refl _ k0
 refine stepL 1 (⟨some (IsV false), []⟩ :: []) rfl ⟨hg, hs, hd⟩ (by kernel_rfl) ⟨ob1 rfl fun _ _ h n => ok_assign rfl (isV_bool.2 rfl), trivial⟩ [⟨_, _⟩, ⟨_, _⟩, ⟨_, _⟩, ⟨_, _⟩] (fun b q p => ⟨p.ke 0 rfl i0, p.ke 1 rfl i1, p.ke 2 rfl i2, p.ke 3 rfl i3, trivial⟩) ?_
 rintro a k ⟨⟨hg, hs, hd⟩, i0, i1, i2, i3, _⟩
 refine wp_seq ?_
 obtain ⟨x2253_0, hx2253_0, hr⟩ := bind_some hr
 refine cut (fun a' k' => Bs noF k0 213 a' k' ∧ (IsV l_) (a'.get 0) k' ∧ (IsV x_) (a'.get 1) k' ∧ (IsV y_) (a'.get 2) k' ∧ (IsV z_) (a'.get 3) k' ∧ (IsV x2253_0) (a'.get 9) k' ∧ True) ?_ hQ ?_
 ·intro Q2366 hQQ2366 hp2367
  refine gS 2 (_ :: _ :: []) hs (by kernel_rfl) ⟨o1 [] rfl fun _ _ h n => ok_call rfl Try.call8 (law09_small_ok hx2253_0), cp 0 rfl rfl, trivial⟩ hQQ2366 fun b q p => ?_
  exact tail_done (k := q) (hp2367 _ _ ⟨Bs.post ⟨hg, hs, hd⟩ p, p.ke 0 rfl i0, p.ke 1 rfl i1, p.ke 2 rfl i2, p.ke 3 rfl i3, p.ou 1 9 rfl, trivial⟩)
 rintro a k ⟨⟨hg, hs, hd⟩, i0, i1, i2, i3, i9, _⟩
 refine wp_seq ?_
 refine stepL 3 (_ :: _ :: _ :: []) rfl ⟨hg, hs, hd⟩ (by kernel_rfl) ⟨mu rfl i0, o1 [(22, some 0)] rfl fun _ _ h n => ok_len rfl rfl Try.underlying22 (IsV.rd n.1), o1 [(23, some 1)] rfl fun _ _ h n => ok_gtr rfl n.1 (cI rfl), trivial⟩ [⟨_, _⟩, ⟨_, _⟩, ⟨_, _⟩, ⟨_, _⟩, ⟨_, _⟩, ⟨_, _⟩] (fun b q p => ⟨p.ke 0 rfl i0, p.ke 1 rfl i1, p.ke 2 rfl i2, p.ke 3 rfl i3, p.ke 9 rfl i9, p.ou 2 24 rfl, trivial⟩) ?_
 rintro a k ⟨⟨hg, hs, hd⟩, i0, i1, i2, i3, i9, i24, _⟩
 refine wp_cond_split (isBool i24) (fun hc2363 => ?_) (fun hc2363 => ?_)
 ·rw [if_pos hc2363] at hr
  refine stepL 2 (_ :: _ :: []) rfl ⟨hg, hs, hd⟩ (by kernel_rfl) ⟨mu rfl i9, cp 0 rfl rfl, trivial⟩ [⟨_, _⟩] (fun b q p => ⟨p.ou 1 8 rfl, trivial⟩) ?_
  rintro a k ⟨⟨hg, hs, hd⟩, i8, _⟩
  refine wp_ret ?_
  obtain rfl := Option.some.inj hr
  exact retC1 rfl hd hg i8
 rw [if_neg (by rw [hc2363]; decide)] at hr
 refine wp_skip ?_
 refine wp_seq ?_
 obtain ⟨x2258_1, hx2258_1, hr⟩ := bind_some hr
 refine cut (fun a' k' => Bs noF k0 213 a' k' ∧ (IsV l_) (a'.get 0) k' ∧ (IsV x_) (a'.get 1) k' ∧ (IsV y_) (a'.get 2) k' ∧ (IsV z_) (a'.get 3) k' ∧ (IsV x2253_0) (a'.get 9) k' ∧ (IsV x2258_1.1) (a'.get 10) k' ∧ (IsV x2258_1.2) (a'.get 11) k' ∧ True) ?_ hQ ?_
 ·intro Q2361 hQQ2361 hp2362
  refine gS 7 (_ :: _ :: _ :: _ :: _ :: _ :: _ :: []) hs (by kernel_rfl) ⟨mu rfl i0, o1 [(27, some 0)] rfl fun _ _ h n => ok_call rfl Try.call9 (solid_Of_ok n.1 hx2258_1), cm 1 rfl rfl, o1 [(26, some 2)] rfl fun _ _ h n => ok_ext2_0 rfl n.1, o1 [(26, some 2)] rfl fun _ _ h n => ok_ext2_1 rfl n.1, cp 3 rfl rfl, cp 4 rfl rfl, trivial⟩ hQQ2361 fun b q p => ?_
  exact tail_done (k := q) (hp2362 _ _ ⟨Bs.post ⟨hg, hs, hd⟩ p, p.ke 0 rfl i0, p.ke 1 rfl i1, p.ke 2 rfl i2, p.ke 3 rfl i3, p.ke 9 rfl i9, p.ou 5 10 rfl, p.ou 6 11 rfl, trivial⟩)
 rintro a k ⟨⟨hg, hs, hd⟩, i0, i1, i2, i3, i9, i10, i11, _⟩
 refine wp_seq ?_
 refine stepL 2 (_ :: ⟨some (IsV (x2258_1.2 != 0)), [(31, some 0)]⟩ :: []) rfl ⟨hg, hs, hd⟩ (by kernel_rfl) ⟨mu rfl i11, ob1 rfl fun _ _ h n => ok_neI rfl n.1 (cI rfl), trivial⟩ [⟨_, _⟩, ⟨_, _⟩, ⟨_, _⟩, ⟨_, _⟩, ⟨_, _⟩, ⟨_, _⟩, ⟨_, _⟩, ⟨_, _⟩] (fun b q p => ⟨p.ke 0 rfl i0, p.ke 1 rfl i1, p.ke 2 rfl i2, p.ke 3 rfl i3, p.ke 9 rfl i9, p.ke 10 rfl i10, p.ke 11 rfl i11, p.ou 1 32 rfl, trivial⟩) ?_
 rintro a k ⟨⟨hg, hs, hd⟩, i0, i1, i2, i3, i9, i10, i11, i32, _⟩
 refine wp_cond_split (isBool i32) (fun hc2358 => ?_) (fun hc2358 => ?_)
 ·rw [if_pos hc2358] at hr
  refine stepL 11 (_ :: _ :: _ :: _ :: _ :: _ :: _ :: _ :: _ :: _ :: _ :: []) rfl ⟨hg, hs, hd⟩ (by kernel_rfl) ⟨mu rfl i9, cm 0 rfl rfl, mT rfl rfl i11, gT [(35, some 2)] rfl rfl fun hp _ _ h n => ok_eqI rfl (Gd.get n.1 hp) (cI rfl), o1 [(34, some 1), (36, some 3)] rfl fun _ _ h n => ok_pickAnd rfl n.1 (Gd.get n.2.1) (cB rfl), cm 4 rfl rfl, mT rfl rfl i10, gT [(39, some 6)] rfl rfl fun hp _ _ h n => ok_len rfl rfl Try.underlying24 (IsV.rd (Gd.get n.1 hp)), gT [(40, some 7)] rfl rfl fun hp _ _ h n => ok_eqI rfl (Gd.get n.1 hp) (cI rfl), o1 [(38, some 5), (41, some 8)] rfl fun _ _ h n => ok_pickAnd rfl n.1 (Gd.get n.2.1) (cB rfl), cp 9 rfl rfl, trivial⟩ [⟨_, _⟩] (fun b q p => ⟨p.ou 10 8 rfl, trivial⟩) ?_
  rintro a k ⟨⟨hg, hs, hd⟩, i8, _⟩
  refine wp_ret ?_
  obtain rfl := Option.some.inj hr
  exact retC1 rfl hd hg i8
 rw [if_neg (by rw [hc2358]; decide)] at hr
 refine wp_skip ?_
 refine cutS (fun a' k' => Bs noF k0 213 a' k' ∧ (IsV l_) (a'.get 0) k' ∧ (IsV x_) (a'.get 1) k' ∧ (IsV y_) (a'.get 2) k' ∧ (IsV z_) (a'.get 3) k' ∧ (IsV x2253_0) (a'.get 9) k' ∧ (IsV x2258_1.1) (a'.get 10) k' ∧ IsOwn 0 30 ([] : List Rect) (a'.get 12) k' ∧ Lo k0 (obF (a'.get 12)) ∧ True) ?_ ?_
 ·intro Q2356 hQQ2356 hp2357
  refine gS 1 (⟨some IsE0, []⟩ :: []) hs (by kernel_rfl) ⟨ob1 rfl fun b q h n => ok_assign rfl isE0_nil, trivial⟩ hQQ2356 fun b q p => ?_
  have hgq := hg.then p.grow
  have hsb := p.size.trans hs
  have hdb := p.defers.trans hd
  have j0 := p.ke 0 rfl i0
  have j1 := p.ke 1 rfl i1
  have j2 := p.ke 2 rfl i2
  have j3 := p.ke 3 rfl i3
  have j9 := p.ke 9 rfl i9
  have j10 := p.ke 10 rfl i10
  have j12 : IsE0 (b.get 12) q := p.ou 0 12 rfl
  have y12 : Lo k0 (obF (b.get 12)) := j12.lo
  replace j12 : IsOwn 0 30 ([] : List Rect) (b.get 12) q := j12.own0
  exact tail_done (k := q) (hp2357 _ _ ⟨⟨hgq, hsb, hdb⟩, j0, j1, j2, j3, j9, j10, j12, y12, trivial⟩)
 rintro a k ⟨⟨hg, hs, hd⟩, i0, i1, i2, i3, i9, i10, i12, n12, _⟩
 refine cutS (fun a' k' => Bs noF k0 213 a' k' ∧ (IsV l_) (a'.get 0) k' ∧ (IsV x_) (a'.get 1) k' ∧ (IsV y_) (a'.get 2) k' ∧ (IsV z_) (a'.get 3) k' ∧ (IsV x2253_0) (a'.get 9) k' ∧ (IsV x2258_1.1) (a'.get 10) k' ∧ IsOwn 0 30 ([] : List Rect) (a'.get 12) k' ∧ Lo k0 (obF (a'.get 12)) ∧ (IsI 0) (a'.get 13) k' ∧ True) ?_ ?_
 ·intro Q2354 hQQ2354 hp2355
  refine gS 1 (⟨some (IsI 0), []⟩ :: []) hs (by kernel_rfl) ⟨aI rfl rfl, trivial⟩ hQQ2354 fun b q p => ?_
  exact tail_done (k := q) (hp2355 _ _ ⟨Bs.post ⟨hg, hs, hd⟩ p, p.ke 0 rfl i0, p.ke 1 rfl i1, p.ke 2 rfl i2, p.ke 3 rfl i3, p.ke 9 rfl i9, p.ke 10 rfl i10, p.ke 12 rfl i12, (by rw [p.old 12 rfl]; exact n12), p.ou 0 13 rfl, trivial⟩)
 rintro a k ⟨⟨hg, hs, hd⟩, i0, i1, i2, i3, i9, i10, i12, n12, i13, _⟩
 refine wp_seq ?_
 refine cutS (fun a' k' => Bs noF k0 213 a' k' ∧ (IsV l_) (a'.get 0) k' ∧ (IsV x_) (a'.get 1) k' ∧ (IsV y_) (a'.get 2) k' ∧ (IsV z_) (a'.get 3) k' ∧ (IsV x2253_0) (a'.get 9) k' ∧ (IsV x2258_1.1) (a'.get 10) k' ∧ IsOwn 0 30 ([] : List Rect) (a'.get 12) k' ∧ Lo k0 (obF (a'.get 12)) ∧ (IsI 0) (a'.get 13) k' ∧ (IsI 0) (a'.get 14) k' ∧ True) ?_ ?_
 ·intro Q2352 hQQ2352 hp2353
  refine gS 1 (⟨some (IsI 0), []⟩ :: []) hs (by kernel_rfl) ⟨aI rfl rfl, trivial⟩ hQQ2352 fun b q p => ?_
  exact tail_done (k := q) (hp2353 _ _ ⟨Bs.post ⟨hg, hs, hd⟩ p, p.ke 0 rfl i0, p.ke 1 rfl i1, p.ke 2 rfl i2, p.ke 3 rfl i3, p.ke 9 rfl i9, p.ke 10 rfl i10, p.ke 12 rfl i12, (by rw [p.old 12 rfl]; exact n12), p.ke 13 rfl i13, p.ou 0 14 rfl, trivial⟩)
 rintro a k ⟨⟨hg, hs, hd⟩, i0, i1, i2, i3, i9, i10, i12, n12, i13, i14, _⟩
 refine wp_block ?_
 obtain ⟨f2301, hf2301, hr⟩ := bind_some hr
 refine cutFe f2301 (fun s' a' k' => Bs noF k0 213 a' k' ∧ (IsV l_) (a'.get 0) k' ∧ (IsV x_) (a'.get 1) k' ∧ (IsV y_) (a'.get 2) k' ∧ (IsV z_) (a'.get 3) k' ∧ (IsV x2253_0) (a'.get 9) k' ∧ (IsV x2258_1.1) (a'.get 10) k' ∧ IsOwn 0 30 s'.1 (a'.get 12) k' ∧ Lo k0 (obF (a'.get 12)) ∧ (IsV s'.2.1) (a'.get 13) k' ∧ (IsV s'.2.2) (a'.get 14) k' ∧ True) (fun i' s' a' k' => (i' = 0 ∧ Bs noF k0 213 a' k' ∧ (IsV x_) (a'.get 1) k' ∧ (IsV y_) (a'.get 2) k' ∧ (IsV z_) (a'.get 3) k' ∧ (IsV x2253_0) (a'.get 9) k' ∧ (IsV x2258_1.1) (a'.get 10) k' ∧ (IsV s'.1) (a'.get 12) k' ∧ (IsV s'.2.1) (a'.get 13) k' ∧ True)) (fun r' a' k' => bodyPost Try.prog Try.f7 (RetC noF k0 (IsV r')) .ret a' k'.w) ?_ hQ ?_ ?_ ?_
 ·intro Q2351 hQQ2351 hgo hex hret
  refine sim_loop ?_ _ _ _ _ _ hf2301 ⟨⟨hg, hs, hd⟩, i0, i1, i2, i3, i9, i10, i12, n12, i13, i14, trivial⟩ Q2351 hQQ2351 hgo hex hret
  clear hr hf2301 hgo hex hret hQQ2351 hQ hg hs hd i0 i1 i10 i12 i13 i14 i2 i3 i9 n12
  intro s2266 fl_ a k hr hS Q hQ hgo2267 hex2268 hret2269
  obtain ⟨⟨hg, hs, hd⟩, i0, i1, i2, i3, i9, i10, i12, n12, i13, i14, _⟩ := hS
  unfold law09_SolidSections_L0 at hr
  refine wp_seq ?_
  refine cutS (fun a' k' => Bs noF k0 213 a' k' ∧ (IsV l_) (a'.get 0) k' ∧ (IsV x_) (a'.get 1) k' ∧ (IsV y_) (a'.get 2) k' ∧ (IsV z_) (a'.get 3) k' ∧ (IsV x2253_0) (a'.get 9) k' ∧ (IsV x2258_1.1) (a'.get 10) k' ∧ IsOwn 0 30 s2266.1 (a'.get 12) k' ∧ Lo k0 (obF (a'.get 12)) ∧ (IsV s2266.2.1) (a'.get 13) k' ∧ (IsV s2266.2.2) (a'.get 14) k' ∧ (IsV (decide (s2266.2.2 < (l_.length : Int)))) (a'.get 46) k' ∧ True) ?_ ?_
  ·intro Q2299 hQQ2299 hp2300
   refine gS 4 (_ :: _ :: _ :: _ :: []) hs (by kernel_rfl) ⟨mu rfl i14, mu rfl i0, o1 [(44, some 1)] rfl fun _ _ h n => ok_len rfl rfl Try.underlying22 (IsV.rd n.1), o1 [(43, some 0), (45, some 2)] rfl fun _ _ h n => ok_lss rfl n.1 n.2.1, trivial⟩ hQQ2299 fun b q p => ?_
   exact tail_done (k := q) (hp2300 _ _ ⟨Bs.post ⟨hg, hs, hd⟩ p, p.ke 0 rfl i0, p.ke 1 rfl i1, p.ke 2 rfl i2, p.ke 3 rfl i3, p.ke 9 rfl i9, p.ke 10 rfl i10, p.ke 12 rfl i12, (by rw [p.old 12 rfl]; exact n12), p.ke 13 rfl i13, p.ke 14 rfl i14, p.ou 3 46 rfl, trivial⟩)
  rintro a k ⟨⟨hg, hs, hd⟩, i0, i1, i2, i3, i9, i10, i12, n12, i13, i14, i46, _⟩
  refine wp_cond_split (isBool i46) (fun hc2298 => ?_) (fun hc2298 => ?_)
  ·rw [if_pos hc2298] at hr
   refine wp_skip ?_
   refine wp_seq ?_
   refine wp_block ?_
   refine wp_seq ?_
   obtain ⟨x2271_2, hx2271_2, hr⟩ := bind_some hr
   refine cut (fun a' k' => Bs noF k0 213 a' k' ∧ (IsV l_) (a'.get 0) k' ∧ (IsV x_) (a'.get 1) k' ∧ (IsV y_) (a'.get 2) k' ∧ (IsV z_) (a'.get 3) k' ∧ (IsV x2253_0) (a'.get 9) k' ∧ (IsV x2258_1.1) (a'.get 10) k' ∧ IsOwn 0 30 s2266.1 (a'.get 12) k' ∧ Lo k0 (obF (a'.get 12)) ∧ (IsV s2266.2.1) (a'.get 13) k' ∧ (IsV s2266.2.2) (a'.get 14) k' ∧ (IsRef x2271_2) (a'.get 15) k' ∧ True) ?_ hQ ?_
   ·intro Q2295 hQQ2295 hp2296
    refine gS 5 (_ :: _ :: _ :: _ :: ⟨some (IsBox k.w.heap.size (⟨(⟨0, 0, 0, 0⟩ : Rect), 0, 0⟩ : Box)), []⟩ :: []) hs (by kernel_rfl) ⟨mu rfl i0, mu rfl i14, o1 [(49, some 0), (50, some 1)] rfl fun _ _ h n => ok_indexAddr rfl Try.underlying22 ty32 (IsV.rd n.1) n.2.1 hx2271_2, o1 [(51, some 2)] rfl fun _ _ h n => ok_load rfl ty32 n.1, ob1 rfl fun _ _ h n => ok_alloc _ h.size rfl z32, trivial⟩ hQQ2295 fun b q p => ?_
    have hgq := hg.then p.grow
    have hsb := p.size.trans hs
    have hdb := p.defers.trans hd
    have j0 := p.ke 0 rfl i0
    have j1 := p.ke 1 rfl i1
    have j2 := p.ke 2 rfl i2
    have j3 := p.ke 3 rfl i3
    have j9 := p.ke 9 rfl i9
    have j10 := p.ke 10 rfl i10
    have j12 := p.ke 12 rfl i12
    have y12 : Lo k0 (obF (b.get 12)) := by rw [p.old 12 rfl]; exact n12
    have j13 := p.ke 13 rfl i13
    have j14 := p.ke 14 rfl i14
    obtain ⟨b15, j15, x15, z15⟩ : (IsBox k.w.heap.size (⟨(⟨0, 0, 0, 0⟩ : Rect), 0, 0⟩ : Box)) (b.get 15) q := p.ou 4 15 rfl
    replace x15 : Lo k (Eq b15) := Lo.eq x15
    have y15 : Lo k0 (Eq b15) := x15.chg hg
    have j52 : (IsV x2271_2) (b.get 52) q := p.ou 3 52 rfl
    have w12_15 : Apart (obF (b.get 12)) (Eq b15) := Apart.new (by rw [p.old 12 rfl]; exact i12.ltF) x15
    have hns := z15.nshF
    refine tail_storeB (i := 5) rfl rfl rfl rfl szf32 (Upd.self (α := Box)) j15 z15 j52 fun q2 hch hz => ?_
    replace hgq := hgq.step hch y15.wr
    have hle := hch.le hns
    replace j0 := Pers.pers hle j0
    replace j1 := Pers.pers hle j1
    replace j2 := Pers.pers hle j2
    replace j3 := Pers.pers hle j3
    replace j9 := Pers.pers hle j9
    replace j10 := Pers.pers hle j10
    replace j12 := j12.keep hch w12_15 hns
    replace j13 := Pers.pers hle j13
    replace j14 := Pers.pers hle j14
    replace j52 := Pers.pers hle j52
    replace z15 := hz
    clear hns hle hch
    obtain ⟨q, hqq⟩ : ∃ q, q = q2 := ⟨q2, rfl⟩
    subst hqq
    obtain ⟨q2, hsh, jn⟩ := z15.give
    replace j0 := Pers.pers hsh.le j0
    replace j1 := Pers.pers hsh.le j1
    replace j2 := Pers.pers hsh.le j2
    replace j3 := Pers.pers hsh.le j3
    replace j9 := Pers.pers hsh.le j9
    replace j10 := Pers.pers hsh.le j10
    replace j12 := j12.handed hsh w12_15
    replace j13 := Pers.pers hsh.le j13
    replace j14 := Pers.pers hsh.le j14
    rw [← j15] at jn
    replace j15 := jn
    replace hgq := hgq.hand hsh y15.wr
    rw [← hsh.w]
    clear hsh
    obtain ⟨q, hqq⟩ : ∃ q, q = q2 := ⟨q2, rfl⟩
    subst hqq
    exact tail_done (k := q) (hp2296 _ _ ⟨⟨hgq, hsb, hdb⟩, j0, j1, j2, j3, j9, j10, j12, y12, j13, j14, j15, trivial⟩)
   rintro a k ⟨⟨hg, hs, hd⟩, i0, i1, i2, i3, i9, i10, i12, n12, i13, i14, i15, _⟩
   refine wp_seq ?_
   refine cutS (fun a' k' => Bs noF k0 213 a' k' ∧ (IsV l_) (a'.get 0) k' ∧ (IsV x_) (a'.get 1) k' ∧ (IsV y_) (a'.get 2) k' ∧ (IsV z_) (a'.get 3) k' ∧ (IsV x2253_0) (a'.get 9) k' ∧ (IsV x2258_1.1) (a'.get 10) k' ∧ IsOwn 0 30 s2266.1 (a'.get 12) k' ∧ Lo k0 (obF (a'.get 12)) ∧ (IsV s2266.2.1) (a'.get 13) k' ∧ (IsV s2266.2.2) (a'.get 14) k' ∧ (IsRef x2271_2) (a'.get 15) k' ∧ (IsV ((decide (x2271_2.Z0 ≤ z_)) && (decide (z_ < x2271_2.Z1)))) (a'.get 62) k' ∧ True) ?_ ?_
   ·intro Q2293 hQQ2293 hp2294
    refine gS 10 (_ :: _ :: _ :: _ :: _ :: _ :: _ :: _ :: _ :: _ :: []) hs (by kernel_rfl) ⟨o1 [(15, none)] rfl fun _ _ h n => ok_fieldAddr rfl fo32_1 (at_Box_1 _) ((up i15 h n.1)).ptr, o1 [(53, some 0)] rfl fun _ _ h n => ok_load rfl ty3 n.1, mu rfl i3, o1 [(54, some 1), (55, some 2)] rfl fun _ _ h n => ok_leq rfl n.1 n.2.1, cm 3 rfl rfl, mT rfl rfl i3, gT [(15, none)] rfl rfl fun hp _ _ h n => ok_fieldAddr rfl fo32_2 (at_Box_2 _) ((up i15 h n.1)).ptr, gT [(59, some 6)] rfl rfl fun hp _ _ h n => ok_load rfl ty3 (Gd.get n.1 hp), gT [(58, some 5), (60, some 7)] rfl rfl fun hp _ _ h n => ok_lss rfl (Gd.get n.1 hp) (Gd.get n.2.1 hp), o1 [(57, some 4), (61, some 8)] rfl fun _ _ h n => ok_pickAnd rfl n.1 (Gd.get n.2.1) (cB rfl), trivial⟩ hQQ2293 fun b q p => ?_
    exact tail_done (k := q) (hp2294 _ _ ⟨Bs.post ⟨hg, hs, hd⟩ p, p.ke 0 rfl i0, p.ke 1 rfl i1, p.ke 2 rfl i2, p.ke 3 rfl i3, p.ke 9 rfl i9, p.ke 10 rfl i10, p.ke 12 rfl i12, (by rw [p.old 12 rfl]; exact n12), p.ke 13 rfl i13, p.ke 14 rfl i14, p.ke 15 rfl i15, p.ou 9 62 rfl, trivial⟩)
   rintro a k ⟨⟨hg, hs, hd⟩, i0, i1, i2, i3, i9, i10, i12, n12, i13, i14, i15, i62, _⟩
   obtain ⟨s2273, hs2273, hr⟩ := bind_some hr
   refine cut (fun a' k' => Bs noF k0 213 a' k' ∧ (IsV l_) (a'.get 0) k' ∧ (IsV x_) (a'.get 1) k' ∧ (IsV y_) (a'.get 2) k' ∧ (IsV z_) (a'.get 3) k' ∧ (IsV x2253_0) (a'.get 9) k' ∧ (IsV x2258_1.1) (a'.get 10) k' ∧ IsOwn 0 30 s2273 (a'.get 12) k' ∧ Lo k0 (obF (a'.get 12)) ∧ (IsV s2266.2.1) (a'.get 13) k' ∧ (IsV s2266.2.2) (a'.get 14) k' ∧ (IsRef x2271_2) (a'.get 15) k' ∧ True) ?_ hQ ?_
   ·intro Q2292 hQQ2292 hp2274
    replace hr := hs2273
    clear hQ
    have hQ := hQQ2292
    refine wp_cond_split (isBool i62) (fun hc2278 => ?_) (fun hc2278 => ?_)
    ·rw [if_pos hc2278] at hr
     obtain ⟨x2275_4, hx2275_4, hr⟩ := bind_some hr
     refine cut (fun a' k' => Bs noF k0 213 a' k' ∧ (IsV l_) (a'.get 0) k' ∧ (IsV x_) (a'.get 1) k' ∧ (IsV y_) (a'.get 2) k' ∧ (IsV z_) (a'.get 3) k' ∧ (IsV x2253_0) (a'.get 9) k' ∧ (IsV x2258_1.1) (a'.get 10) k' ∧ IsOwn 0 30 x2275_4 (a'.get 12) k' ∧ Lo k0 (obF (a'.get 12)) ∧ (IsV s2266.2.1) (a'.get 13) k' ∧ (IsV s2266.2.2) (a'.get 14) k' ∧ (IsRef x2271_2) (a'.get 15) k' ∧ True) ?_ hQ ?_
     ·intro Q2276 hQQ2276 hp2277
      refine gS 4 (⟨some (OwnAt (a.get 12) 0 30 s2266.1), [(12, none)]⟩ :: _ :: _ :: ⟨some (IsV ([x2271_2.Base])), [(65, some 2)]⟩ :: []) hs (by kernel_rfl) ⟨ob1 rfl fun _ _ h n => ok_moveOA (.inl rfl) (ownAt n.1 (up i12 h n.1)), o1 [(15, none)] rfl fun _ _ h n => ok_fieldAddr rfl fo32_0 (at_Box_0 _) ((up i15 h n.1)).ptr, o1 [(64, some 1)] rfl fun _ _ h n => ok_load rfl ty30 n.1, ob1 rfl fun _ _ h n => ok_buildSlice rfl Try.underlying44 eo30 rfl (by decide) (by decide) ⟨rfl, n.1, trivial⟩, trivial⟩ hQQ2276 fun b q p => ?_
      have hgq := hg.then p.grow
      have hsb := p.size.trans hs
      have hdb := p.defers.trans hd
      have j0 := p.ke 0 rfl i0
      have j1 := p.ke 1 rfl i1
      have j2 := p.ke 2 rfl i2
      have j3 := p.ke 3 rfl i3
      have j9 := p.ke 9 rfl i9
      have j10 := p.ke 10 rfl i10
      have j13 := p.ke 13 rfl i13
      have j14 := p.ke 14 rfl i14
      have j15 := p.ke 15 rfl i15
      have e63 : b.get 63 = a.get 12 := (p.ou 0 63 rfl).1
      have j63 : IsOwn 0 30 s2266.1 (b.get 63) q := (p.ou 0 63 rfl).2
      have y63 : Lo k0 (obF (b.get 63)) := by rw [e63]; exact n12
      have j66 : (IsV ([x2271_2.Base])) (b.get 66) q := p.ou 3 66 rfl
      have hns := j63.nshF
      refine tail_appendS (i := 4) (d := 67) rfl rfl rfl rfl (by rw [hsb]; decide) (e := 30) Try.underlying44 eo30 j63 (IsV.rd j66) hx2275_4 fun b2 q2 hsz hdf hoth hch hown hob => ?_
      have hle := hch.le hns
      have yn : Lo k0 (obF (b2.get 67)) := y63.app hgq hob
      replace j0 := Pers.pers hle j0
      replace j1 := Pers.pers hle j1
      replace j2 := Pers.pers hle j2
      replace j3 := Pers.pers hle j3
      replace j9 := Pers.pers hle j9
      replace j10 := Pers.pers hle j10
      replace j13 := Pers.pers hle j13
      replace j14 := Pers.pers hle j14
      replace j15 := Pers.pers hle j15
      replace j66 := Pers.pers hle j66
      replace hgq := hgq.step hch y63.wr
      rw [← hoth 0 (by decide)] at j0
      rw [← hoth 1 (by decide)] at j1
      rw [← hoth 2 (by decide)] at j2
      rw [← hoth 3 (by decide)] at j3
      rw [← hoth 9 (by decide)] at j9
      rw [← hoth 10 (by decide)] at j10
      rw [← hoth 13 (by decide)] at j13
      rw [← hoth 14 (by decide)] at j14
      rw [← hoth 15 (by decide)] at j15
      rw [← hoth 66 (by decide)] at j66
      have j67 := hown
      have y67 := yn
      replace hsb := hsz.trans hsb
      replace hdb := hdf.trans hdb
      clear hle hch hown hob hns yn hsz hdf hoth
      obtain ⟨b, hbb⟩ : ∃ b, b = b2 := ⟨b2, rfl⟩
      subst hbb
      obtain ⟨q, hqq⟩ : ∃ q, q = q2 := ⟨q2, rfl⟩
      subst hqq
      refine tail_assign (i := 5) (d := 12) rfl rfl (.inl rfl) rfl (by rw [hsb]; decide) fun b2 hsz hdf hnew hoth => ?_
      have jn : (IsOwn 0 30 x2275_4) (b2.get 12) q := by rw [hnew]; exact j67
      have yn : Lo k0 (obF (b2.get 12)) := by rw [hnew]; exact y67
      rw [← hoth 0 (by decide)] at j0
      rw [← hoth 1 (by decide)] at j1
      rw [← hoth 2 (by decide)] at j2
      rw [← hoth 3 (by decide)] at j3
      rw [← hoth 9 (by decide)] at j9
      rw [← hoth 10 (by decide)] at j10
      rw [← hoth 13 (by decide)] at j13
      rw [← hoth 14 (by decide)] at j14
      rw [← hoth 15 (by decide)] at j15
      rw [← hoth 66 (by decide)] at j66
      have j12 := jn
      have y12 := yn
      replace hsb := hsz.trans hsb
      replace hdb := hdf.trans hdb
      clear hsz hdf hoth
      obtain ⟨b, hbb⟩ : ∃ b, b = b2 := ⟨b2, rfl⟩
      subst hbb
      exact tail_done (k := q) (hp2277 _ _ ⟨⟨hgq, hsb, hdb⟩, j0, j1, j2, j3, j9, j10, j12, y12, j13, j14, j15, trivial⟩)
     rintro a k ⟨⟨hg, hs, hd⟩, i0, i1, i2, i3, i9, i10, i12, n12, i13, i14, i15, _⟩
     obtain rfl := Option.some.inj hr
     exact hp2274 _ _ ⟨⟨hg, hs, hd⟩, i0, i1, i2, i3, i9, i10, i12, n12, i13, i14, i15, trivial⟩
    rw [if_neg (by rw [hc2278]; decide)] at hr
    refine wp_skip ?_
    obtain rfl := Option.some.inj hr
    exact hp2274 _ _ ⟨⟨hg, hs, hd⟩, i0, i1, i2, i3, i9, i10, i12, n12, i13, i14, i15, trivial⟩
   clear hs2273
   rintro a k ⟨⟨hg, hs, hd⟩, i0, i1, i2, i3, i9, i10, i12, n12, i13, i14, i15, _⟩
   refine cutS (fun a' k' => Bs noF k0 213 a' k' ∧ (IsV l_) (a'.get 0) k' ∧ (IsV x_) (a'.get 1) k' ∧ (IsV y_) (a'.get 2) k' ∧ (IsV z_) (a'.get 3) k' ∧ (IsV x2253_0) (a'.get 9) k' ∧ (IsV x2258_1.1) (a'.get 10) k' ∧ IsOwn 0 30 s2273 (a'.get 12) k' ∧ Lo k0 (obF (a'.get 12)) ∧ (IsV s2266.2.1) (a'.get 13) k' ∧ (IsV s2266.2.2) (a'.get 14) k' ∧ (IsRef x2271_2) (a'.get 15) k' ∧ (IsV ((((decide (x2271_2.Base.X0 ≤ x_)) && (decide (x_ < x2271_2.Base.X1))) && (decide (x2271_2.Base.Y0 ≤ y_))) && (decide (y_ < x2271_2.Base.Y1)))) (a'.get 93) k' ∧ True) ?_ ?_
   ·intro Q2290 hQQ2290 hp2291
    refine gS 26 (_ :: _ :: _ :: _ :: _ :: _ :: _ :: _ :: _ :: _ :: _ :: _ :: _ :: _ :: _ :: _ :: _ :: _ :: _ :: _ :: _ :: _ :: _ :: _ :: _ :: _ :: []) hs (by kernel_rfl) ⟨o1 [(15, none)] rfl fun _ _ h n => ok_fieldAddr rfl fo32_0 (at_Box_0 _) ((up i15 h n.1)).ptr, o1 [(68, some 0)] rfl fun _ _ h n => ok_fieldAddr rfl fo30_0 (at_Rect_0 _) n.1, o1 [(69, some 1)] rfl fun _ _ h n => ok_load rfl ty3 n.1, mu rfl i1, o1 [(70, some 2), (71, some 3)] rfl fun _ _ h n => ok_leq rfl n.1 n.2.1, cm 4 rfl rfl, mT rfl rfl i1, gT [(15, none)] rfl rfl fun hp _ _ h n => ok_fieldAddr rfl fo32_0 (at_Box_0 _) ((up i15 h n.1)).ptr, gT [(75, some 7)] rfl rfl fun hp _ _ h n => ok_fieldAddr rfl fo30_2 (at_Rect_2 _) (Gd.get n.1 hp), gT [(76, some 8)] rfl rfl fun hp _ _ h n => ok_load rfl ty3 (Gd.get n.1 hp), gT [(74, some 6), (77, some 9)] rfl rfl fun hp _ _ h n => ok_lss rfl (Gd.get n.1 hp) (Gd.get n.2.1 hp), o1 [(73, some 5), (78, some 10)] rfl fun _ _ h n => ok_pickAnd rfl n.1 (Gd.get n.2.1) (cB rfl), cm 11 rfl rfl, gT [(15, none)] rfl rfl fun hp _ _ h n => ok_fieldAddr rfl fo32_0 (at_Box_0 _) ((up i15 h n.1)).ptr, gT [(81, some 13)] rfl rfl fun hp _ _ h n => ok_fieldAddr rfl fo30_1 (at_Rect_1 _) (Gd.get n.1 hp), gT [(82, some 14)] rfl rfl fun hp _ _ h n => ok_load rfl ty3 (Gd.get n.1 hp), mT rfl rfl i2, gT [(83, some 15), (84, some 16)] rfl rfl fun hp _ _ h n => ok_leq rfl (Gd.get n.1 hp) (Gd.get n.2.1 hp), o1 [(80, some 12), (85, some 17)] rfl fun _ _ h n => ok_pickAnd rfl n.1 (Gd.get n.2.1) (cB rfl), cm 18 rfl rfl, mT rfl rfl i2, gT [(15, none)] rfl rfl fun hp _ _ h n => ok_fieldAddr rfl fo32_0 (at_Box_0 _) ((up i15 h n.1)).ptr, gT [(89, some 21)] rfl rfl fun hp _ _ h n => ok_fieldAddr rfl fo30_3 (at_Rect_3 _) (Gd.get n.1 hp), gT [(90, some 22)] rfl rfl fun hp _ _ h n => ok_load rfl ty3 (Gd.get n.1 hp), gT [(88, some 20), (91, some 23)] rfl rfl fun hp _ _ h n => ok_lss rfl (Gd.get n.1 hp) (Gd.get n.2.1 hp), o1 [(87, some 19), (92, some 24)] rfl fun _ _ h n => ok_pickAnd rfl n.1 (Gd.get n.2.1) (cB rfl), trivial⟩ hQQ2290 fun b q p => ?_
    exact tail_done (k := q) (hp2291 _ _ ⟨Bs.post ⟨hg, hs, hd⟩ p, p.ke 0 rfl i0, p.ke 1 rfl i1, p.ke 2 rfl i2, p.ke 3 rfl i3, p.ke 9 rfl i9, p.ke 10 rfl i10, p.ke 12 rfl i12, (by rw [p.old 12 rfl]; exact n12), p.ke 13 rfl i13, p.ke 14 rfl i14, p.ke 15 rfl i15, p.ou 25 93 rfl, trivial⟩)
   rintro a k ⟨⟨hg, hs, hd⟩, i0, i1, i2, i3, i9, i10, i12, n12, i13, i14, i15, i93, _⟩
   obtain ⟨s2280, hs2280, hr⟩ := bind_some hr
   refine cut (fun a' k' => Bs noF k0 213 a' k' ∧ (IsV l_) (a'.get 0) k' ∧ (IsV x_) (a'.get 1) k' ∧ (IsV y_) (a'.get 2) k' ∧ (IsV z_) (a'.get 3) k' ∧ (IsV x2253_0) (a'.get 9) k' ∧ (IsV x2258_1.1) (a'.get 10) k' ∧ IsOwn 0 30 s2273 (a'.get 12) k' ∧ Lo k0 (obF (a'.get 12)) ∧ (IsV s2280) (a'.get 13) k' ∧ (IsV s2266.2.2) (a'.get 14) k' ∧ True) ?_ hQ ?_
   ·intro Q2289 hQQ2289 hp2281
    replace hr := hs2280
    clear hQ
    have hQ := hQQ2289
    refine wp_cond_split (isBool i93) (fun hc2285 => ?_) (fun hc2285 => ?_)
    ·rw [if_pos hc2285] at hr
     refine cut (fun a' k' => Bs noF k0 213 a' k' ∧ (IsV l_) (a'.get 0) k' ∧ (IsV x_) (a'.get 1) k' ∧ (IsV y_) (a'.get 2) k' ∧ (IsV z_) (a'.get 3) k' ∧ (IsV x2253_0) (a'.get 9) k' ∧ (IsV x2258_1.1) (a'.get 10) k' ∧ IsOwn 0 30 s2273 (a'.get 12) k' ∧ Lo k0 (obF (a'.get 12)) ∧ (IsI (max s2266.2.1 x2271_2.Z1)) (a'.get 13) k' ∧ (IsV s2266.2.2) (a'.get 14) k' ∧ True) ?_ hQ ?_
     ·intro Q2283 hQQ2283 hp2284
      refine gS 5 (_ :: _ :: _ :: _ :: _ :: []) hs (by kernel_rfl) ⟨mu rfl i13, o1 [(15, none)] rfl fun _ _ h n => ok_fieldAddr rfl fo32_2 (at_Box_2 _) ((up i15 h n.1)).ptr, o1 [(95, some 1)] rfl fun _ _ h n => ok_load rfl ty3 n.1, o1 [(94, some 0), (96, some 2)] rfl fun _ _ h n => ok_max2 rfl n.1 n.2.1, cp 3 rfl rfl, trivial⟩ hQQ2283 fun b q p => ?_
      exact tail_done (k := q) (hp2284 _ _ ⟨Bs.post ⟨hg, hs, hd⟩ p, p.ke 0 rfl i0, p.ke 1 rfl i1, p.ke 2 rfl i2, p.ke 3 rfl i3, p.ke 9 rfl i9, p.ke 10 rfl i10, p.ke 12 rfl i12, (by rw [p.old 12 rfl]; exact n12), p.ou 4 13 rfl, p.ke 14 rfl i14, trivial⟩)
     rintro a k ⟨⟨hg, hs, hd⟩, i0, i1, i2, i3, i9, i10, i12, n12, i13, i14, _⟩
     obtain rfl := Option.some.inj hr
     exact hp2281 _ _ ⟨⟨hg, hs, hd⟩, i0, i1, i2, i3, i9, i10, i12, n12, i13, i14, trivial⟩
    rw [if_neg (by rw [hc2285]; decide)] at hr
    refine wp_skip ?_
    obtain rfl := Option.some.inj hr
    exact hp2281 _ _ ⟨⟨hg, hs, hd⟩, i0, i1, i2, i3, i9, i10, i12, n12, i13, i14, trivial⟩
   clear hs2280
   rintro a k ⟨⟨hg, hs, hd⟩, i0, i1, i2, i3, i9, i10, i12, n12, i13, i14, _⟩
   obtain ⟨x2286_1, hx2286_1, hr⟩ := bind_some hr
   refine cut (fun a' k' => Bs noF k0 213 a' k' ∧ (IsV l_) (a'.get 0) k' ∧ (IsV x_) (a'.get 1) k' ∧ (IsV y_) (a'.get 2) k' ∧ (IsV z_) (a'.get 3) k' ∧ (IsV x2253_0) (a'.get 9) k' ∧ (IsV x2258_1.1) (a'.get 10) k' ∧ IsOwn 0 30 s2273 (a'.get 12) k' ∧ Lo k0 (obF (a'.get 12)) ∧ (IsV s2280) (a'.get 13) k' ∧ (IsV x2286_1) (a'.get 14) k' ∧ True) ?_ hQ ?_
   ·intro Q2287 hQQ2287 hp2288
    refine gS 3 (_ :: _ :: _ :: []) hs (by kernel_rfl) ⟨mu rfl i14, o1 [(47, some 0)] rfl fun _ _ h n => ok_add rfl n.1 (cI rfl) hx2286_1, cp 1 rfl rfl, trivial⟩ hQQ2287 fun b q p => ?_
    exact tail_done (k := q) (hp2288 _ _ ⟨Bs.post ⟨hg, hs, hd⟩ p, p.ke 0 rfl i0, p.ke 1 rfl i1, p.ke 2 rfl i2, p.ke 3 rfl i3, p.ke 9 rfl i9, p.ke 10 rfl i10, p.ke 12 rfl i12, (by rw [p.old 12 rfl]; exact n12), p.ke 13 rfl i13, p.ou 2 14 rfl, trivial⟩)
   rintro a k ⟨⟨hg, hs, hd⟩, i0, i1, i2, i3, i9, i10, i12, n12, i13, i14, _⟩
   exact hgo2267 _ _ _ (Option.some.inj hr).symm ⟨⟨hg, hs, hd⟩, i0, i1, i2, i3, i9, i10, i12, n12, i13, i14, trivial⟩
  rw [if_neg (by rw [hc2298]; decide)] at hr
  refine wp_exit ?_
  obtain ⟨kk, sh2297, ii12⟩ := i12.give
  replace i1 := Pers.pers sh2297.le i1
  replace i2 := Pers.pers sh2297.le i2
  replace i3 := Pers.pers sh2297.le i3
  replace i9 := Pers.pers sh2297.le i9
  replace i10 := Pers.pers sh2297.le i10
  replace i13 := Pers.pers sh2297.le i13
  replace i12 := ii12
  replace hg := hg.hand sh2297 n12.wr
  rw [← sh2297.w]
  clear sh2297
  obtain ⟨k, hkk⟩ : ∃ k, k = kk := ⟨kk, rfl⟩
  subst hkk
  exact hex2268 _ _ _ _ (Option.some.inj hr).symm ⟨rfl, ⟨hg, hs, hd⟩, i1, i2, i3, i9, i10, i12, i13, trivial⟩
 ·rintro r2350 a k rfl hR
  dsimp only at hr
  obtain rfl := Option.some.inj hr
  exact hR
 ·rintro _ _ _ rfl _
  simp at hr
 clear hf2301
 rintro _ s2302 a k rfl ⟨rfl, ⟨hg, hs, hd⟩, i1, i2, i3, i9, i10, i12, i13, _⟩
 dsimp only at hr
 refine wp_seq ?_
 obtain ⟨x2303_1, hx2303_1, hr⟩ := bind_some hr
 refine cut (fun a' k' => Bs noF k0 213 a' k' ∧ (IsV x_) (a'.get 1) k' ∧ (IsV y_) (a'.get 2) k' ∧ (IsV z_) (a'.get 3) k' ∧ (IsV x2253_0) (a'.get 9) k' ∧ (IsV x2258_1.1) (a'.get 10) k' ∧ (IsV s2302.2.1) (a'.get 13) k' ∧ (IsV x2303_1.1) (a'.get 16) k' ∧ (IsV x2303_1.2) (a'.get 17) k' ∧ True) ?_ hQ ?_
 ·intro Q2348 hQQ2348 hp2349
  refine gS 7 (_ :: _ :: _ :: _ :: _ :: _ :: _ :: []) hs (by kernel_rfl) ⟨mu rfl i12, o1 [(99, some 0)] rfl fun _ _ h n => ok_call rfl Try.call24 (region_Of_ok n.1 hx2303_1), cm 1 rfl rfl, o1 [(98, some 2)] rfl fun _ _ h n => ok_ext2_0 rfl n.1, o1 [(98, some 2)] rfl fun _ _ h n => ok_ext2_1 rfl n.1, cp 3 rfl rfl, cp 4 rfl rfl, trivial⟩ hQQ2348 fun b q p => ?_
  exact tail_done (k := q) (hp2349 _ _ ⟨Bs.post ⟨hg, hs, hd⟩ p, p.ke 1 rfl i1, p.ke 2 rfl i2, p.ke 3 rfl i3, p.ke 9 rfl i9, p.ke 10 rfl i10, p.ke 13 rfl i13, p.ou 5 16 rfl, p.ou 6 17 rfl, trivial⟩)
 rintro a k ⟨⟨hg, hs, hd⟩, i1, i2, i3, i9, i10, i13, i16, i17, _⟩
 refine wp_seq ?_
 refine wp_seq ?_
 obtain ⟨x2304_9, hx2304_9, hr⟩ := bind_some hr
 obtain ⟨x2304_5, hx2304_5, hx2304_9⟩ := ite_bindF hx2304_9
 obtain ⟨x2304_7, hx2304_7, hx2304_9⟩ := ite_bindF hx2304_9
 obtain ⟨x2304_17, hx2304_17, hr⟩ := bind_some hr
 obtain ⟨x2304_14, hx2304_14, hx2304_17⟩ := ite_bindF hx2304_17
 obtain ⟨x2304_29, hx2304_29, hr⟩ := bind_some hr
 obtain ⟨x2304_23, hx2304_23, hx2304_29⟩ := ite_bindF hx2304_29
 obtain ⟨x2304_27, hx2304_27, hx2304_29⟩ := ite_bindF hx2304_29
 refine cut (fun a' k' => Bs noF k0 213 a' k' ∧ (IsV x2253_0) (a'.get 9) k' ∧ (IsV x2258_1.1) (a'.get 10) k' ∧ (IsV x2304_29) (a'.get 132) k' ∧ True) ?_ hQ ?_
 ·intro Q2346 hQQ2346 hp2347
  refine gS 30 (_ :: ⟨some (IsV (x2303_1.2 != 0)), [(103, some 0)]⟩ :: _ :: _ :: _ :: _ :: _ :: _ :: _ :: _ :: _ :: _ :: _ :: _ :: _ :: _ :: ⟨some (Gd (x2304_9 = false) (IsV (x2304_14 != s2302.2.1))), [(117, some 14), (118, some 15)]⟩ :: _ :: _ :: _ :: _ :: _ :: _ :: _ :: _ :: _ :: _ :: _ :: ⟨some (Gd (x2304_17 = false) (IsV (x2304_23 != x2304_27))), [(126, some 23), (130, some 27)]⟩ :: _ :: []) hs (by kernel_rfl) ⟨mu rfl i17, ob1 rfl fun _ _ h n => ok_neI rfl n.1 (cI rfl), cm 1 rfl rfl, mF rfl rfl i10, mF rfl rfl i3, gF [(106, some 3), (107, some 4)] rfl rfl fun hp _ _ h n => ok_call rfl Try.call23 (solid_Section_ok (Gd.get n.1 hp) (Gd.get n.2.1 hp) (hx2304_5 hp)), mF rfl rfl i16, gF [(108, some 5), (109, some 6)] rfl rfl fun hp _ _ h n => ok_call rfl Try.call25 (law09_rects_ok (Gd.get n.1 hp) (Gd.get n.2.1 hp) (hx2304_7 hp)), gF [(110, some 7)] rfl rfl fun hp _ _ h n => ok_not rfl (Gd.get n.1 hp), o1 [(105, some 2), (111, some 8)] rfl fun _ _ h n => ok_pickM rfl n.1 hx2304_9 (cB rfl) (Gd.get n.2.1), cm 9 rfl rfl, mF rfl rfl i10, mF rfl rfl i1, mF rfl rfl i2, gF [(114, some 11), (115, some 12), (116, some 13)] rfl rfl fun hp _ _ h n => ok_call rfl Try.call22 (solid_Top_ok (Gd.get n.1 hp) (Gd.get n.2.1 hp) (Gd.get n.2.2.1 hp) (hx2304_14 hp)), mF rfl rfl i13, gdF rfl rfl fun hp _ _ h n => ok_neI rfl (Gd.get n.1 hp) (Gd.get n.2.1 hp), o1 [(113, some 10), (119, some 16)] rfl fun _ _ h n => ok_pickM rfl n.1 hx2304_17 (cB rfl) (Gd.get n.2.1), cm 17 rfl rfl, mF rfl rfl i10, mF rfl rfl i1, mF rfl rfl i2, mF rfl rfl i3, gF [(122, some 19), (123, some 20), (124, some 21), (125, some 22)] rfl rfl fun hp _ _ h n => ok_call rfl Try.call19 (solid_Has_ok (Gd.get n.1 hp) (Gd.get n.2.1 hp) (Gd.get n.2.2.1 hp) (Gd.get n.2.2.2.1 hp) (hx2304_23 hp)), mF rfl rfl i16, mF rfl rfl i1, mF rfl rfl i2, gF [(127, some 24), (128, some 25), (129, some 26)] rfl rfl fun hp _ _ h n => ok_call rfl Try.call26 (region_Has_ok (Gd.get n.1 hp) (Gd.get n.2.1 hp) (Gd.get n.2.2.1 hp) (hx2304_27 hp)), gdF rfl rfl fun hp _ _ h n => ok_neB rfl Try.underlying4 (Gd.get n.1 hp) (Gd.get n.2.1 hp), o1 [(121, some 18), (131, some 28)] rfl fun _ _ h n => ok_pickM rfl n.1 hx2304_29 (cB rfl) (Gd.get n.2.1), trivial⟩ hQQ2346 fun b q p => ?_
  exact tail_done (k := q) (hp2347 _ _ ⟨Bs.post ⟨hg, hs, hd⟩ p, p.ke 9 rfl i9, p.ke 10 rfl i10, p.ou 29 132 rfl, trivial⟩)
 rintro a k ⟨⟨hg, hs, hd⟩, i9, i10, i132, _⟩
 refine wp_cond_split (isBool i132) (fun hc2345 => ?_) (fun hc2345 => ?_)
 ·rw [if_pos hc2345] at hr
  refine stepL 1 (⟨some (IsV false), []⟩ :: []) rfl ⟨hg, hs, hd⟩ (by kernel_rfl) ⟨ob1 rfl fun _ _ h n => ok_assign rfl (isV_bool.2 rfl), trivial⟩ [⟨_, _⟩] (fun b q p => ⟨p.ou 0 8 rfl, trivial⟩) ?_
  rintro a k ⟨⟨hg, hs, hd⟩, i8, _⟩
  refine wp_ret ?_
  obtain rfl := Option.some.inj hr
  exact retC1 rfl hd hg i8
 rw [if_neg (by rw [hc2345]; decide)] at hr
 refine wp_skip ?_
 refine stepL 1 (⟨some (IsI 0), []⟩ :: []) rfl ⟨hg, hs, hd⟩ (by kernel_rfl) ⟨aI rfl rfl, trivial⟩ [⟨_, _⟩, ⟨_, _⟩, ⟨_, _⟩] (fun b q p => ⟨p.ke 9 rfl i9, p.ke 10 rfl i10, p.ou 0 18 rfl, trivial⟩) ?_
 rintro a k ⟨⟨hg, hs, hd⟩, i9, i10, i18, _⟩
 refine wp_seq ?_
 refine stepL 1 (⟨some (IsI 0), []⟩ :: []) rfl ⟨hg, hs, hd⟩ (by kernel_rfl) ⟨aI rfl rfl, trivial⟩ [⟨_, _⟩, ⟨_, _⟩, ⟨_, _⟩, ⟨_, _⟩] (fun b q p => ⟨p.ke 9 rfl i9, p.ke 10 rfl i10, p.ke 18 rfl i18, p.ou 0 19 rfl, trivial⟩) ?_
 rintro a k ⟨⟨hg, hs, hd⟩, i9, i10, i18, i19, _⟩
 refine wp_block ?_
 obtain ⟨f2334, hf2334, hr⟩ := bind_some hr
 refine cutFe f2334 (fun s' a' k' => Bs noF k0 213 a' k' ∧ (IsV x2253_0) (a'.get 9) k' ∧ (IsV x2258_1.1) (a'.get 10) k' ∧ (IsV s'.1) (a'.get 18) k' ∧ (IsV s'.2) (a'.get 19) k' ∧ True) (fun i' s' a' k' => (i' = 2 ∧ Bs noF k0 213 a' k' ∧ (IsV x2253_0) (a'.get 9) k' ∧ (IsV x2258_1.1) (a'.get 10) k' ∧ (IsV s'.1) (a'.get 18) k' ∧ True)) (fun r' a' k' => bodyPost Try.prog Try.f7 (RetC noF k0 (IsV r')) .ret a' k'.w) ?_ hQ ?_ ?_ ?_
 ·intro Q2340 hQQ2340 hgo hex hret
  refine sim_loop ?_ _ _ _ _ _ hf2334 ⟨⟨hg, hs, hd⟩, i9, i10, i18, i19, trivial⟩ Q2340 hQQ2340 hgo hex hret
  clear hr hf2334 hgo hex hret hQQ2340 hQ hg hs hd i10 i18 i19 i9
  intro s2310 fl_ a k hr hS Q hQ hgo2311 hex2312 hret2313
  obtain ⟨⟨hg, hs, hd⟩, i9, i10, i18, i19, _⟩ := hS
  unfold law09_SolidSections_L1 at hr
  refine wp_seq ?_
  refine stepL 4 (_ :: _ :: _ :: _ :: []) rfl ⟨hg, hs, hd⟩ (by kernel_rfl) ⟨mu rfl i19, mu rfl i10, o1 [(134, some 1)] rfl fun _ _ h n => ok_len rfl rfl Try.underlying24 (IsV.rd n.1), o1 [(133, some 0), (135, some 2)] rfl fun _ _ h n => ok_lss rfl n.1 n.2.1, trivial⟩ [⟨_, _⟩, ⟨_, _⟩, ⟨_, _⟩, ⟨_, _⟩, ⟨_, _⟩] (fun b q p => ⟨p.ke 9 rfl i9, p.ke 10 rfl i10, p.ke 18 rfl i18, p.ke 19 rfl i19, p.ou 3 136 rfl, trivial⟩) ?_
  rintro a k ⟨⟨hg, hs, hd⟩, i9, i10, i18, i19, i136, _⟩
  refine wp_cond_split (isBool i136) (fun hc2331 => ?_) (fun hc2331 => ?_)
  ·rw [if_pos hc2331] at hr
   refine wp_skip ?_
   refine wp_seq ?_
   refine wp_block ?_
   refine wp_seq ?_
   obtain ⟨x2315_3, hx2315_3, hr⟩ := bind_some hr
   obtain ⟨x2315_6, hx2315_6, hr⟩ := bind_some hr
   refine cut (fun a' k' => Bs noF k0 213 a' k' ∧ (IsV x2253_0) (a'.get 9) k' ∧ (IsV x2258_1.1) (a'.get 10) k' ∧ (IsV s2310.1) (a'.get 18) k' ∧ (IsV s2310.2) (a'.get 19) k' ∧ (IsV x2315_6) (a'.get 20) k' ∧ True) ?_ hQ ?_
   ·intro Q2329 hQQ2329 hp2330
    refine gS 8 (_ :: _ :: _ :: _ :: _ :: _ :: _ :: _ :: []) hs (by kernel_rfl) ⟨mu rfl i10, mu rfl i10, mu rfl i19, o1 [(140, some 1), (141, some 2)] rfl fun _ _ h n => ok_indexAddr rfl Try.underlying24 ty47 (IsV.rd n.1) n.2.1 hx2315_3, o1 [(142, some 3)] rfl fun _ _ h n => ok_fieldAddr rfl fo47_0 (at_Slab_0 _) n.1, o1 [(143, some 4)] rfl fun _ _ h n => ok_load rfl ty3 n.1, o1 [(139, some 0), (144, some 5)] rfl fun _ _ h n => ok_call rfl Try.call23 (solid_Section_ok n.1 n.2.1 hx2315_6), cp 6 rfl rfl, trivial⟩ hQQ2329 fun b q p => ?_
    exact tail_done (k := q) (hp2330 _ _ ⟨Bs.post ⟨hg, hs, hd⟩ p, p.ke 9 rfl i9, p.ke 10 rfl i10, p.ke 18 rfl i18, p.ke 19 rfl i19, p.ou 7 20 rfl, trivial⟩)
   rintro a k ⟨⟨hg, hs, hd⟩, i9, i10, i18, i19, i20, _⟩
   refine wp_seq ?_
   refine wp_seq ?_
   obtain ⟨x2316_3, hx2316_3, hr⟩ := bind_some hr
   obtain ⟨x2316_6, hx2316_6, hr⟩ := bind_some hr
   obtain ⟨x2316_20, hx2316_20, hr⟩ := bind_some hr
   obtain ⟨x2316_12, hx2316_12, hx2316_20⟩ := ite_bindF hx2316_20
   obtain ⟨x2316_15, hx2316_15, hx2316_20⟩ := ite_bindF hx2316_20
   obtain ⟨x2316_16, hx2316_16, hx2316_20⟩ := ite_bindF hx2316_20
   obtain ⟨x2316_18, hx2316_18, hx2316_20⟩ := ite_bindF hx2316_20
   obtain ⟨x2316_31, hx2316_31, hr⟩ := bind_some hr
   obtain ⟨x2316_25, hx2316_25, hx2316_31⟩ := ite_bindF hx2316_31
   obtain ⟨x2316_28, hx2316_28, hx2316_31⟩ := ite_bindF hx2316_31
   obtain ⟨x2316_30, hx2316_30, hx2316_31⟩ := ite_bindF hx2316_31
   obtain ⟨x2316_43, hx2316_43, hr⟩ := bind_some hr
   obtain ⟨x2316_36, hx2316_36, hx2316_43⟩ := ite_bindF hx2316_43
   obtain ⟨x2316_39, hx2316_39, hx2316_43⟩ := ite_bindF hx2316_43
   obtain ⟨x2316_40, hx2316_40, hx2316_43⟩ := ite_bindF hx2316_43
   obtain ⟨x2316_42, hx2316_42, hx2316_43⟩ := ite_bindF hx2316_43
   refine cut (fun a' k' => Bs noF k0 213 a' k' ∧ (IsV x2253_0) (a'.get 9) k' ∧ (IsV x2258_1.1) (a'.get 10) k' ∧ (IsV s2310.1) (a'.get 18) k' ∧ (IsV s2310.2) (a'.get 19) k' ∧ (IsV x2315_6) (a'.get 20) k' ∧ (IsV x2316_43) (a'.get 189) k' ∧ True) ?_ hQ ?_
   ·intro Q2327 hQQ2327 hp2328
    refine gS 44 (_ :: _ :: _ :: _ :: _ :: _ :: _ :: _ :: _ :: _ :: _ :: _ :: _ :: _ :: _ :: _ :: _ :: _ :: _ :: _ :: _ :: _ :: _ :: _ :: _ :: _ :: _ :: _ :: _ :: _ :: _ :: _ :: _ :: _ :: _ :: _ :: _ :: _ :: _ :: _ :: _ :: _ :: _ :: _ :: []) hs (by kernel_rfl) ⟨mu rfl i20, mu rfl i10, mu rfl i19, o1 [(147, some 1), (148, some 2)] rfl fun _ _ h n => ok_indexAddr rfl Try.underlying24 ty47 (IsV.rd n.1) n.2.1 hx2316_3, o1 [(149, some 3)] rfl fun _ _ h n => ok_fieldAddr rfl fo47_2 (at_Slab_2 _) n.1, o1 [(150, some 4)] rfl fun _ _ h n => ok_load rfl ty44 n.1, o1 [(146, some 0), (151, some 5)] rfl fun _ _ h n => ok_call rfl Try.call25 (law09_rects_ok n.1 n.2.1 hx2316_6), o1 [(152, some 6)] rfl fun _ _ h n => ok_not rfl n.1, cm 7 rfl rfl, mF rfl rfl i10, mF rfl rfl i10, mF rfl rfl i19, gF [(156, some 10), (157, some 11)] rfl rfl fun hp _ _ h n => ok_indexAddr rfl Try.underlying24 ty47 (IsV.rd (Gd.get n.1 hp)) (Gd.get n.2.1 hp) (hx2316_12 hp), gF [(158, some 12)] rfl rfl fun hp _ _ h n => ok_fieldAddr rfl fo47_1 (at_Slab_1 _) (Gd.get n.1 hp), gF [(159, some 13)] rfl rfl fun hp _ _ h n => ok_load rfl ty3 (Gd.get n.1 hp), gF [(160, some 14)] rfl rfl fun hp _ _ h n => ok_sub rfl (Gd.get n.1 hp) (cI rfl) (hx2316_15 hp), gF [(155, some 9), (161, some 15)] rfl rfl fun hp _ _ h n => ok_call rfl Try.call23 (solid_Section_ok (Gd.get n.1 hp) (Gd.get n.2.1 hp) (hx2316_16 hp)), mF rfl rfl i20, gF [(162, some 16), (163, some 17)] rfl rfl fun hp _ _ h n => ok_call rfl Try.call25 (law09_rects_ok (Gd.get n.1 hp) (Gd.get n.2.1 hp) (hx2316_18 hp)), gF [(164, some 18)] rfl rfl fun hp _ _ h n => ok_not rfl (Gd.get n.1 hp), o1 [(154, some 8), (165, some 19)] rfl fun _ _ h n => ok_pickM rfl n.1 hx2316_20 (cB rfl) (Gd.get n.2.1), cm 20 rfl rfl, mF rfl rfl i10, mF rfl rfl i10, mF rfl rfl i19, gF [(169, some 23), (170, some 24)] rfl rfl fun hp _ _ h n => ok_indexAddr rfl Try.underlying24 ty47 (IsV.rd (Gd.get n.1 hp)) (Gd.get n.2.1 hp) (hx2316_25 hp), gF [(171, some 25)] rfl rfl fun hp _ _ h n => ok_fieldAddr rfl fo47_1 (at_Slab_1 _) (Gd.get n.1 hp), gF [(172, some 26)] rfl rfl fun hp _ _ h n => ok_load rfl ty3 (Gd.get n.1 hp), gF [(168, some 22), (173, some 27)] rfl rfl fun hp _ _ h n => ok_call rfl Try.call23 (solid_Section_ok (Gd.get n.1 hp) (Gd.get n.2.1 hp) (hx2316_28 hp)), mF rfl rfl i20, gF [(174, some 28), (175, some 29)] rfl rfl fun hp _ _ h n => ok_call rfl Try.call25 (law09_rects_ok (Gd.get n.1 hp) (Gd.get n.2.1 hp) (hx2316_30 hp)), o1 [(167, some 21), (176, some 30)] rfl fun _ _ h n => ok_pickM rfl n.1 hx2316_31 (cB rfl) (Gd.get n.2.1), cm 31 rfl rfl, mF rfl rfl i10, mF rfl rfl i10, mF rfl rfl i19, gF [(180, some 34), (181, some 35)] rfl rfl fun hp _ _ h n => ok_indexAddr rfl Try.underlying24 ty47 (IsV.rd (Gd.get n.1 hp)) (Gd.get n.2.1 hp) (hx2316_36 hp), gF [(182, some 36)] rfl rfl fun hp _ _ h n => ok_fieldAddr rfl fo47_0 (at_Slab_0 _) (Gd.get n.1 hp), gF [(183, some 37)] rfl rfl fun hp _ _ h n => ok_load rfl ty3 (Gd.get n.1 hp), gF [(184, some 38)] rfl rfl fun hp _ _ h n => ok_sub rfl (Gd.get n.1 hp) (cI rfl) (hx2316_39 hp), gF [(179, some 33), (185, some 39)] rfl rfl fun hp _ _ h n => ok_call rfl Try.call23 (solid_Section_ok (Gd.get n.1 hp) (Gd.get n.2.1 hp) (hx2316_40 hp)), mF rfl rfl i20, gF [(186, some 40), (187, some 41)] rfl rfl fun hp _ _ h n => ok_call rfl Try.call25 (law09_rects_ok (Gd.get n.1 hp) (Gd.get n.2.1 hp) (hx2316_42 hp)), o1 [(178, some 32), (188, some 42)] rfl fun _ _ h n => ok_pickM rfl n.1 hx2316_43 (cB rfl) (Gd.get n.2.1), trivial⟩ hQQ2327 fun b q p => ?_
    exact tail_done (k := q) (hp2328 _ _ ⟨Bs.post ⟨hg, hs, hd⟩ p, p.ke 9 rfl i9, p.ke 10 rfl i10, p.ke 18 rfl i18, p.ke 19 rfl i19, p.ke 20 rfl i20, p.ou 43 189 rfl, trivial⟩)
   rintro a k ⟨⟨hg, hs, hd⟩, i9, i10, i18, i19, i20, i189, _⟩
   refine wp_cond_split (isBool i189) (fun hc2326 => ?_) (fun hc2326 => ?_)
   ·rw [if_pos hc2326] at hr
    refine stepL 1 (⟨some (IsV false), []⟩ :: []) rfl ⟨hg, hs, hd⟩ (by kernel_rfl) ⟨ob1 rfl fun _ _ h n => ok_assign rfl (isV_bool.2 rfl), trivial⟩ [⟨_, _⟩] (fun b q p => ⟨p.ou 0 8 rfl, trivial⟩) ?_
    rintro a k ⟨⟨hg, hs, hd⟩, i8, _⟩
    refine wp_ret ?_
    exact hret2313 _ _ _ (Option.some.inj hr).symm (retC1 rfl hd hg i8)
   rw [if_neg (by rw [hc2326]; decide)] at hr
   refine wp_skip ?_
   obtain ⟨x2320_3, hx2320_3, hr⟩ := bind_some hr
   obtain ⟨x2320_8, hx2320_8, hr⟩ := bind_some hr
   obtain ⟨x2320_11, hx2320_11, hr⟩ := bind_some hr
   obtain ⟨x2320_13, hx2320_13, hr⟩ := bind_some hr
   obtain ⟨x2320_14, hx2320_14, hr⟩ := bind_some hr
   obtain ⟨x2320_15, hx2320_15, hr⟩ := bind_some hr
   refine cut (fun a' k' => Bs noF k0 213 a' k' ∧ (IsV x2253_0) (a'.get 9) k' ∧ (IsV x2258_1.1) (a'.get 10) k' ∧ (IsV x2320_15) (a'.get 18) k' ∧ (IsV s2310.2) (a'.get 19) k' ∧ True) ?_ hQ ?_
   ·intro Q2324 hQQ2324 hp2325
    refine region (a0 := a) (k0 := k) (n := 213) (m := 17) (⟨some (IsV s2310.1), [(18, none)]⟩ :: ⟨some (IsV x2258_1.1), [(10, none)]⟩ :: ⟨some (IsV s2310.2), [(19, none)]⟩ :: ⟨some (IsPtr x2320_3), [(191, some 1), (192, some 2)]⟩ :: ⟨some (IsPtr x2320_3.Z1), [(193, some 3)]⟩ :: ⟨some (IsV x2320_3.Z1), [(194, some 4)]⟩ :: ⟨some (IsV x2258_1.1), [(10, none)]⟩ :: ⟨some (IsV s2310.2), [(19, none)]⟩ :: ⟨some (IsPtr x2320_8), [(196, some 6), (197, some 7)]⟩ :: ⟨some (IsPtr x2320_8.Z0), [(198, some 8)]⟩ :: ⟨some (IsV x2320_8.Z0), [(199, some 9)]⟩ :: ⟨some (IsV x2320_11), [(195, some 5), (200, some 10)]⟩ :: ⟨some (IsV x2315_6), [(20, none)]⟩ :: ⟨some (IsV x2320_13), [(202, some 12)]⟩ :: ⟨some (IsV x2320_14), [(201, some 11), (203, some 13)]⟩ :: ⟨some (IsV x2320_15), [(190, some 0), (204, some 14)]⟩ :: ⟨some (IsV x2320_15), [(205, some 15)]⟩ :: []) hmix hs (by kernel_rfl) ⟨ob1 rfl fun b q hk hn => ok_move rfl (up i18 hk hn.1), ob1 rfl fun b q hk hn => ok_move rfl (up i10 hk hn.1), ob1 rfl fun b q hk hn => ok_move rfl (up i19 hk hn.1), ob1 rfl fun b q hk hn => ok_indexAddr rfl Try.underlying24 ty47 (IsV.rd hn.1) hn.2.1 hx2320_3, ob1 rfl fun b q hk hn => ok_fieldAddr rfl fo47_1 (at_Slab_1 _) hn.1, ob1 rfl fun b q hk hn => ok_load rfl ty3 hn.1, ob1 rfl fun b q hk hn => ok_move rfl (up i10 hk hn.1), ob1 rfl fun b q hk hn => ok_move rfl (up i19 hk hn.1), ob1 rfl fun b q hk hn => ok_indexAddr rfl Try.underlying24 ty47 (IsV.rd hn.1) hn.2.1 hx2320_8, ob1 rfl fun b q hk hn => ok_fieldAddr rfl fo47_0 (at_Slab_0 _) hn.1, ob1 rfl fun b q hk hn => ok_load rfl ty3 hn.1, ob1 rfl fun b q hk hn => ok_sub rfl hn.1 hn.2.1 hx2320_11, ob1 rfl fun b q hk hn => ok_move rfl (up i20 hk hn.1), ob1 rfl fun b q hk hn => ok_call rfl Try.call27 (region_Area_ok hn.1 hx2320_13), ob1 rfl fun b q hk hn => ok_mul rfl hn.1 hn.2.1 hx2320_14, ob1 rfl fun b q hk hn => ok_add rfl hn.1 hn.2.1 hx2320_15, ob1 rfl fun b q hk hn => ok_assign rfl hn.1, trivial⟩ hQQ2324 fun b q p => ?_
    exact tail_done (k := q) (hp2325 _ _ ⟨Bs.post ⟨hg, hs, hd⟩ p, p.ke 9 rfl i9, p.ke 10 rfl i10, p.ou 16 18 rfl, p.ke 19 rfl i19, trivial⟩)
   rintro a k ⟨⟨hg, hs, hd⟩, i9, i10, i18, i19, _⟩
   obtain ⟨x2321_1, hx2321_1, hr⟩ := bind_some hr
   refine cut (fun a' k' => Bs noF k0 213 a' k' ∧ (IsV x2253_0) (a'.get 9) k' ∧ (IsV x2258_1.1) (a'.get 10) k' ∧ (IsV x2320_15) (a'.get 18) k' ∧ (IsV x2321_1) (a'.get 19) k' ∧ True) ?_ hQ ?_
   ·intro Q2322 hQQ2322 hp2323
    refine gS 3 (_ :: _ :: _ :: []) hs (by kernel_rfl) ⟨mu rfl i19, o1 [(137, some 0)] rfl fun _ _ h n => ok_add rfl n.1 (cI rfl) hx2321_1, cp 1 rfl rfl, trivial⟩ hQQ2322 fun b q p => ?_
    exact tail_done (k := q) (hp2323 _ _ ⟨Bs.post ⟨hg, hs, hd⟩ p, p.ke 9 rfl i9, p.ke 10 rfl i10, p.ke 18 rfl i18, p.ou 2 19 rfl, trivial⟩)
   rintro a k ⟨⟨hg, hs, hd⟩, i9, i10, i18, i19, _⟩
   exact hgo2311 _ _ _ (Option.some.inj hr).symm ⟨⟨hg, hs, hd⟩, i9, i10, i18, i19, trivial⟩
  rw [if_neg (by rw [hc2331]; decide)] at hr
  refine wp_exit ?_
  exact hex2312 _ _ _ _ (Option.some.inj hr).symm ⟨rfl, ⟨hg, hs, hd⟩, i9, i10, i18, trivial⟩
 ·rintro r2339 a k rfl hR
  dsimp only at hr
  obtain rfl := Option.some.inj hr
  exact hR
 ·rintro _ _ _ rfl _
  simp at hr
 clear hf2334
 rintro _ s2335 a k rfl ⟨rfl, ⟨hg, hs, hd⟩, i9, i10, i18, _⟩
 dsimp only at hr
 refine wp_seq ?_
 obtain ⟨x2336_6, hx2336_6, hr⟩ := bind_some hr
 obtain ⟨x2336_3, hx2336_3, hx2336_6⟩ := ite_bind hx2336_6
 refine cut (fun a' k' => Bs noF k0 213 a' k' ∧ (IsV x2336_6) (a'.get 8) k' ∧ True) ?_ hQ ?_
 ·intro Q2337 hQQ2337 hp2338
  refine gS 8 (_ :: _ :: _ :: _ :: _ :: _ :: _ :: _ :: []) hs (by kernel_rfl) ⟨mu rfl i9, cm 0 rfl rfl, mT rfl rfl i10, gT [(208, some 2)] rfl rfl fun hp _ _ h n => ok_call rfl Try.call12 (solid_Volume_ok (Gd.get n.1 hp) (hx2336_3 hp)), mT rfl rfl i18, gT [(209, some 3), (210, some 4)] rfl rfl fun hp _ _ h n => ok_eqI rfl (Gd.get n.1 hp) (Gd.get n.2.1 hp), o1 [(207, some 1), (211, some 5)] rfl fun _ _ h n => ok_pickM rfl n.1 hx2336_6 (Gd.get n.2.1) (cB rfl), cp 6 rfl rfl, trivial⟩ hQQ2337 fun b q p => ?_
  exact tail_done (k := q) (hp2338 _ _ ⟨Bs.post ⟨hg, hs, hd⟩ p, p.ou 7 8 rfl, trivial⟩)
 rintro a k ⟨⟨hg, hs, hd⟩, i8, _⟩
 refine wp_ret ?_
 obtain rfl := Option.some.inj hr
 exact retC1 rfl hd hg i8
end Go.Proofs.Ytmniloampanhfaa
