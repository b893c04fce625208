/- What the functions compute that the law reaches, part 6 -/
import Derived.Test.YtbpecfmimgjakaaT5
namespace Go.Proofs.Ytbpecfmimgjakaa
open Go.Gb
set_option linter.unusedVariables false
set_option linter.unusedSimpArgs false
set_option maxRecDepth 100000
def law11_SightRays (s_ : (List Slab)) (p_ : Point3) (d_ : Point3) (k_ : Int) : Option (Bool) :=
 (law11_small).bind fun x1899_0 =>
 (law11_few s_).bind fun x1900_1 =>
 (if (!x1900_1) then
  some true
 else
  (ref09_Right s_).bind fun x1900_5 =>
  some (!x1900_5)).bind fun x1900_7 =>
 (if ((((((((x1900_7 || (decide (k_ < 1))) || (decide (40 < k_))) || (decide (d_.X < (-1000)))) || (decide (1000 < d_.X))) || (decide (d_.Y < (-1000)))) || (decide (1000 < d_.Y))) || (decide (d_.Z < (-1000)))) || (decide (1000 < d_.Z))) then
  some true
 else
  (ref11_Valid p_).bind fun x1900_48 =>
  some (!x1900_48)).bind fun x1900_50 =>
 if x1900_50 then
  some x1899_0
 else
  (sight_Ray s_ p_ d_).bind fun x1904_3 =>
  (mulI k_ d_.X).bind fun x1905_5 =>
  (mulI k_ d_.Y).bind fun x1905_9 =>
  (mulI k_ d_.Z).bind fun x1905_13 =>
  (law11_at x1905_5 x1905_9 x1905_13).bind fun x1905_14 =>
  (sight_Ray s_ p_ x1905_14).bind fun x1905_15 =>
  if (x1905_15 != x1904_3) then
   some false
  else
   (mulI k_ d_.X).bind fun x1909_5 =>
   (addI p_.X x1909_5).bind fun x1909_6 =>
   (mulI k_ d_.Y).bind fun x1909_12 =>
   (addI p_.Y x1909_12).bind fun x1909_13 =>
   (mulI k_ d_.Z).bind fun x1909_19 =>
   (addI p_.Z x1909_19).bind fun x1909_20 =>
   (law11_at x1909_6 x1909_13 x1909_20).bind fun x1909_21 =>
   (ref11_Valid x1909_21).bind fun x1910_1 =>
   if ((!x1910_1) || (((d_.X == 0) && (d_.Y == 0)) && (d_.Z == 0))) then
    some x1899_0
   else
    (if x1899_0 then
     (if x1904_3 then
      some true
     else
      (sight_Blocked s_ p_ x1909_21).bind fun x1914_7 =>
      (if (!x1914_7) then
       (solid_Has s_ x1909_21.X x1909_21.Y x1909_21.Z).bind fun x1914_17 =>
       some (!x1914_17)
      else
       some false).bind fun x1914_19 =>
      some x1914_19).bind fun x1914_20 =>
     some x1914_20
    else
     some false).bind fun x1914_21 =>
    some x1914_21
theorem law11_SightRays_ok {k0 : K} {v0 v1 v2 v3 : Value} {s_ : (List Slab)} {p_ : Point3} {d_ : Point3} {k_ : Int} {r : Bool} (i0 : (IsV s_) v0 k0) (i1 : (IsV p_) v1 k0) (i2 : (IsV d_) v2 k0) (i3 : (IsV k_) v3 k0) (hr : law11_SightRays s_ p_ d_ k_ = some r) :
  Calls Try.prog 6 #[v0, v1, v2, v3] k0.w (Ret k0 (IsV r)) := by
 unfold law11_SightRays at hr
 refine Ret.ofC ?_
 refine enterK Try.func6 rfl Try.ntmps6 (show 4 ≤ 150 by decide) fun a k hk0 hs hd ha => ?_
 obtain ⟨e0, e1, e2, e3, _⟩ := ha
 replace i0 : (IsV s_) (a.get 0) k := by rw [e0, hk0]; exact i0
 replace i1 : (IsV p_) (a.get 1) k := by rw [e1, hk0]; exact i1
 replace i2 : (IsV d_) (a.get 2) k := by rw [e2, hk0]; exact i2
 replace i3 : (IsV k_) (a.get 3) k := by rw [e3, hk0]; exact i3
 have hQ : Gb.LetsOut (bodyPost Try.prog Try.f6 (RetC noF k0 (IsV r))) := letsOutC
 have hg : Chg noF k0 k := by rw [hk0]; exact Chg.refl _ k0
 refine stepL 3 (⟨some (IsRef p_), [(1, none)]⟩ :: ⟨some (IsRef d_), [(2, none)]⟩ :: ⟨some (IsV false), []⟩ :: []) rfl ⟨hg, hs, hd⟩ (by kernel_rfl) ⟨ob1 rfl fun _ _ h n => ok_boxR rfl (up i1 h n.1), ob1 rfl fun _ _ h n => ok_boxR rfl (up i2 h n.1), ob1 rfl fun _ _ h n => ok_assign rfl (isV_bool.2 rfl), trivial⟩ [⟨_, _⟩, ⟨_, _⟩, ⟨_, _⟩, ⟨_, _⟩] (fun b q p => ⟨p.ke 0 rfl i0, p.ke 3 rfl i3, p.ou 0 5 rfl, p.ou 1 6 rfl, trivial⟩) ?_
 rintro a k ⟨⟨hg, hs, hd⟩, i0, i3, i5, i6, _⟩
 refine wp_seq ?_
 obtain ⟨x1899_0, hx1899_0, hr⟩ := bind_some hr
 refine cut (fun a' k' => Bs noF k0 150 a' k' ∧ (IsV s_) (a'.get 0) k' ∧ (IsV k_) (a'.get 3) k' ∧ (IsRef p_) (a'.get 5) k' ∧ (IsRef d_) (a'.get 6) k' ∧ (IsV x1899_0) (a'.get 9) k' ∧ True) ?_ hQ ?_
 ·intro Q1930 hQQ1930 hp1931
  refine gS 2 (_ :: _ :: []) hs (by kernel_rfl) ⟨o1 [] rfl fun _ _ h n => ok_call rfl Try.call9 (law11_small_ok hx1899_0), cp 0 rfl rfl, trivial⟩ hQQ1930 fun b q p => ?_
  exact tail_done (k := q) (hp1931 _ _ ⟨Bs.post ⟨hg, hs, hd⟩ p, p.ke 0 rfl i0, p.ke 3 rfl i3, p.ke 5 rfl i5, p.ke 6 rfl i6, p.ou 1 9 rfl, trivial⟩)
 rintro a k ⟨⟨hg, hs, hd⟩, i0, i3, i5, i6, i9, _⟩
 refine wp_seq ?_
 refine wp_seq ?_
 obtain ⟨x1900_1, hx1900_1, hr⟩ := bind_some hr
 obtain ⟨x1900_7, hx1900_7, hr⟩ := bind_some hr
 obtain ⟨x1900_5, hx1900_5, hx1900_7⟩ := ite_bindF hx1900_7
 obtain ⟨x1900_50, hx1900_50, hr⟩ := bind_some hr
 obtain ⟨x1900_48, hx1900_48, hx1900_50⟩ := ite_bindF hx1900_50
 refine cut (fun a' k' => Bs noF k0 150 a' k' ∧ (IsV s_) (a'.get 0) k' ∧ (IsV k_) (a'.get 3) k' ∧ (IsRef p_) (a'.get 5) k' ∧ (IsRef d_) (a'.get 6) k' ∧ (IsV x1899_0) (a'.get 9) k' ∧ (IsV x1900_50) (a'.get 63) k' ∧ True) ?_ hQ ?_
 ·intro Q1928 hQQ1928 hp1929
  refine gS 51 (_ :: _ :: _ :: _ :: _ :: _ :: _ :: _ :: _ :: _ :: _ :: _ :: _ :: _ :: _ :: _ :: _ :: _ :: _ :: _ :: _ :: _ :: _ :: _ :: _ :: _ :: _ :: _ :: _ :: _ :: _ :: _ :: _ :: _ :: _ :: _ :: _ :: _ :: _ :: _ :: _ :: _ :: _ :: _ :: _ :: _ :: _ :: _ :: _ :: _ :: _ :: []) hs (by kernel_rfl) ⟨mu rfl i0, o1 [(13, some 0)] rfl fun _ _ h n => ok_call rfl Try.call10 (law11_few_ok n.1 hx1900_1), o1 [(14, some 1)] rfl fun _ _ h n => ok_not rfl n.1, cm 2 rfl rfl, mF rfl rfl i0, gF [(17, some 4)] rfl rfl fun hp _ _ h n => ok_call rfl Try.call15 (ref09_Right_ok (Gd.get n.1 hp) (hx1900_5 hp)), gF [(18, some 5)] rfl rfl fun hp _ _ h n => ok_not rfl (Gd.get n.1 hp), o1 [(16, some 3), (19, some 6)] rfl fun _ _ h n => ok_pickM rfl n.1 hx1900_7 (cB rfl) (Gd.get n.2.1), cm 7 rfl rfl, mF rfl rfl i3, gF [(22, some 9)] rfl rfl fun hp _ _ h n => ok_lss rfl (Gd.get n.1 hp) (cI rfl), o1 [(21, some 8), (23, some 10)] rfl fun _ _ h n => ok_pickOr rfl n.1 (cB rfl) (Gd.get n.2.1), cm 11 rfl rfl, mF rfl rfl i3, gF [(26, some 13)] rfl rfl fun hp _ _ h n => ok_gtr rfl (Gd.get n.1 hp) (cI rfl), o1 [(25, some 12), (27, some 14)] rfl fun _ _ h n => ok_pickOr rfl n.1 (cB rfl) (Gd.get n.2.1), cm 15 rfl rfl, gF [(6, none)] rfl rfl fun hp _ _ h n => ok_fieldAddr rfl fo24_0 (at_Point3_0 _) ((up i6 h n.1)).ptr, gF [(30, some 17)] rfl rfl fun hp _ _ h n => ok_load rfl ty3 (Gd.get n.1 hp), gF [(31, some 18)] rfl rfl fun hp _ _ h n => ok_lss rfl (Gd.get n.1 hp) (cI rfl), o1 [(29, some 16), (32, some 19)] rfl fun _ _ h n => ok_pickOr rfl n.1 (cB rfl) (Gd.get n.2.1), cm 20 rfl rfl, gF [(6, none)] rfl rfl fun hp _ _ h n => ok_fieldAddr rfl fo24_0 (at_Point3_0 _) ((up i6 h n.1)).ptr, gF [(35, some 22)] rfl rfl fun hp _ _ h n => ok_load rfl ty3 (Gd.get n.1 hp), gF [(36, some 23)] rfl rfl fun hp _ _ h n => ok_gtr rfl (Gd.get n.1 hp) (cI rfl), o1 [(34, some 21), (37, some 24)] rfl fun _ _ h n => ok_pickOr rfl n.1 (cB rfl) (Gd.get n.2.1), cm 25 rfl rfl, gF [(6, none)] rfl rfl fun hp _ _ h n => ok_fieldAddr rfl fo24_1 (at_Point3_1 _) ((up i6 h n.1)).ptr, gF [(40, some 27)] rfl rfl fun hp _ _ h n => ok_load rfl ty3 (Gd.get n.1 hp), gF [(41, some 28)] rfl rfl fun hp _ _ h n => ok_lss rfl (Gd.get n.1 hp) (cI rfl), o1 [(39, some 26), (42, some 29)] rfl fun _ _ h n => ok_pickOr rfl n.1 (cB rfl) (Gd.get n.2.1), cm 30 rfl rfl, gF [(6, none)] rfl rfl fun hp _ _ h n => ok_fieldAddr rfl fo24_1 (at_Point3_1 _) ((up i6 h n.1)).ptr, gF [(45, some 32)] rfl rfl fun hp _ _ h n => ok_load rfl ty3 (Gd.get n.1 hp), gF [(46, some 33)] rfl rfl fun hp _ _ h n => ok_gtr rfl (Gd.get n.1 hp) (cI rfl), o1 [(44, some 31), (47, some 34)] rfl fun _ _ h n => ok_pickOr rfl n.1 (cB rfl) (Gd.get n.2.1), cm 35 rfl rfl, gF [(6, none)] rfl rfl fun hp _ _ h n => ok_fieldAddr rfl fo24_2 (at_Point3_2 _) ((up i6 h n.1)).ptr, gF [(50, some 37)] rfl rfl fun hp _ _ h n => ok_load rfl ty3 (Gd.get n.1 hp), gF [(51, some 38)] rfl rfl fun hp _ _ h n => ok_lss rfl (Gd.get n.1 hp) (cI rfl), o1 [(49, some 36), (52, some 39)] rfl fun _ _ h n => ok_pickOr rfl n.1 (cB rfl) (Gd.get n.2.1), cm 40 rfl rfl, gF [(6, none)] rfl rfl fun hp _ _ h n => ok_fieldAddr rfl fo24_2 (at_Point3_2 _) ((up i6 h n.1)).ptr, gF [(55, some 42)] rfl rfl fun hp _ _ h n => ok_load rfl ty3 (Gd.get n.1 hp), gF [(56, some 43)] rfl rfl fun hp _ _ h n => ok_gtr rfl (Gd.get n.1 hp) (cI rfl), o1 [(54, some 41), (57, some 44)] rfl fun _ _ h n => ok_pickOr rfl n.1 (cB rfl) (Gd.get n.2.1), cm 45 rfl rfl, gF [(5, none)] rfl rfl fun hp _ _ h n => ok_load rfl ty24 ((up i5 h n.1)).ptr, gF [(60, some 47)] rfl rfl fun hp _ _ h n => ok_call rfl Try.call20 (ref11_Valid_ok (Gd.get n.1 hp) (hx1900_48 hp)), gF [(61, some 48)] rfl rfl fun hp _ _ h n => ok_not rfl (Gd.get n.1 hp), o1 [(59, some 46), (62, some 49)] rfl fun _ _ h n => ok_pickM rfl n.1 hx1900_50 (cB rfl) (Gd.get n.2.1), trivial⟩ hQQ1928 fun b q p => ?_
  exact tail_done (k := q) (hp1929 _ _ ⟨Bs.post ⟨hg, hs, hd⟩ p, p.ke 0 rfl i0, p.ke 3 rfl i3, p.ke 5 rfl i5, p.ke 6 rfl i6, p.ke 9 rfl i9, p.ou 50 63 rfl, trivial⟩)
 rintro a k ⟨⟨hg, hs, hd⟩, i0, i3, i5, i6, i9, i63, _⟩
 refine wp_cond_split (isBool i63) (fun hc1927 => ?_) (fun hc1927 => ?_)
 ·rw [if_pos hc1927] at hr
  refine stepL 2 (_ :: _ :: []) rfl ⟨hg, hs, hd⟩ (by kernel_rfl) ⟨mu rfl i9, cp 0 rfl rfl, trivial⟩ [⟨_, _⟩] (fun b q p => ⟨p.ou 1 8 rfl, trivial⟩) ?_
  rintro a k ⟨⟨hg, hs, hd⟩, i8, _⟩
  refine wp_ret ?_
  obtain rfl := Option.some.inj hr
  exact retC1 rfl hd hg i8
 rw [if_neg (by rw [hc1927]; decide)] at hr
 refine wp_skip ?_
 refine wp_seq ?_
 obtain ⟨x1904_3, hx1904_3, hr⟩ := bind_some hr
 refine cut (fun a' k' => Bs noF k0 150 a' k' ∧ (IsV s_) (a'.get 0) k' ∧ (IsV k_) (a'.get 3) k' ∧ (IsRef p_) (a'.get 5) k' ∧ (IsRef d_) (a'.get 6) k' ∧ (IsV x1899_0) (a'.get 9) k' ∧ (IsV x1904_3) (a'.get 10) k' ∧ True) ?_ hQ ?_
 ·intro Q1925 hQQ1925 hp1926
  refine gS 5 (_ :: _ :: _ :: _ :: _ :: []) hs (by kernel_rfl) ⟨mu rfl i0, o1 [(5, none)] rfl fun _ _ h n => ok_load rfl ty24 ((up i5 h n.1)).ptr, o1 [(6, none)] rfl fun _ _ h n => ok_load rfl ty24 ((up i6 h n.1)).ptr, o1 [(65, some 0), (66, some 1), (67, some 2)] rfl fun _ _ h n => ok_call rfl Try.call13 (sight_Ray_ok n.1 n.2.1 n.2.2.1 hx1904_3), cp 3 rfl rfl, trivial⟩ hQQ1925 fun b q p => ?_
  exact tail_done (k := q) (hp1926 _ _ ⟨Bs.post ⟨hg, hs, hd⟩ p, p.ke 0 rfl i0, p.ke 3 rfl i3, p.ke 5 rfl i5, p.ke 6 rfl i6, p.ke 9 rfl i9, p.ou 4 10 rfl, trivial⟩)
 rintro a k ⟨⟨hg, hs, hd⟩, i0, i3, i5, i6, i9, i10, _⟩
 refine wp_seq ?_
 refine wp_seq ?_
 obtain ⟨x1905_5, hx1905_5, hr⟩ := bind_some hr
 obtain ⟨x1905_9, hx1905_9, hr⟩ := bind_some hr
 obtain ⟨x1905_13, hx1905_13, hr⟩ := bind_some hr
 obtain ⟨x1905_14, hx1905_14, hr⟩ := bind_some hr
 obtain ⟨x1905_15, hx1905_15, hr⟩ := bind_some hr
 refine cut (fun a' k' => Bs noF k0 150 a' k' ∧ (IsV s_) (a'.get 0) k' ∧ (IsV k_) (a'.get 3) k' ∧ (IsRef p_) (a'.get 5) k' ∧ (IsRef d_) (a'.get 6) k' ∧ (IsV x1899_0) (a'.get 9) k' ∧ (IsV x1904_3) (a'.get 10) k' ∧ (IsV (x1905_15 != x1904_3)) (a'.get 86) k' ∧ True) ?_ hQ ?_
 ·intro Q1923 hQQ1923 hp1924
  refine region (a0 := a) (k0 := k) (n := 150) (m := 18) (⟨some (IsV s_), [(0, none)]⟩ :: ⟨some (IsV p_), [(5, none)]⟩ :: ⟨some (IsV k_), [(3, none)]⟩ :: ⟨some (IsPtr d_.X), [(6, none)]⟩ :: ⟨some (IsV d_.X), [(72, some 3)]⟩ :: ⟨some (IsV x1905_5), [(71, some 2), (73, some 4)]⟩ :: ⟨some (IsV k_), [(3, none)]⟩ :: ⟨some (IsPtr d_.Y), [(6, none)]⟩ :: ⟨some (IsV d_.Y), [(76, some 7)]⟩ :: ⟨some (IsV x1905_9), [(75, some 6), (77, some 8)]⟩ :: ⟨some (IsV k_), [(3, none)]⟩ :: ⟨some (IsPtr d_.Z), [(6, none)]⟩ :: ⟨some (IsV d_.Z), [(80, some 11)]⟩ :: ⟨some (IsV x1905_13), [(79, some 10), (81, some 12)]⟩ :: ⟨some (IsV x1905_14), [(74, some 5), (78, some 9), (82, some 13)]⟩ :: ⟨some (IsV x1905_15), [(69, some 0), (70, some 1), (83, some 14)]⟩ :: ⟨some (IsV x1904_3), [(10, none)]⟩ :: ⟨some (IsV (x1905_15 != x1904_3)), [(84, some 15), (85, some 16)]⟩ :: []) hmix hs (by kernel_rfl) ⟨ob1 rfl fun b q hk hn => ok_move rfl (up i0 hk hn.1), ob1 rfl fun b q hk hn => ok_load rfl ty24 ((up i5 hk hn.1)).ptr, ob1 rfl fun b q hk hn => ok_move rfl (up i3 hk hn.1), ob1 rfl fun b q hk hn => ok_fieldAddr rfl fo24_0 (at_Point3_0 _) ((up i6 hk hn.1)).ptr, ob1 rfl fun b q hk hn => ok_load rfl ty3 hn.1, ob1 rfl fun b q hk hn => ok_mul rfl hn.1 hn.2.1 hx1905_5, ob1 rfl fun b q hk hn => ok_move rfl (up i3 hk hn.1), ob1 rfl fun b q hk hn => ok_fieldAddr rfl fo24_1 (at_Point3_1 _) ((up i6 hk hn.1)).ptr, ob1 rfl fun b q hk hn => ok_load rfl ty3 hn.1, ob1 rfl fun b q hk hn => ok_mul rfl hn.1 hn.2.1 hx1905_9, ob1 rfl fun b q hk hn => ok_move rfl (up i3 hk hn.1), ob1 rfl fun b q hk hn => ok_fieldAddr rfl fo24_2 (at_Point3_2 _) ((up i6 hk hn.1)).ptr, ob1 rfl fun b q hk hn => ok_load rfl ty3 hn.1, ob1 rfl fun b q hk hn => ok_mul rfl hn.1 hn.2.1 hx1905_13, ob1 rfl fun b q hk hn => ok_call rfl Try.call16 (law11_at_ok hn.1 hn.2.1 hn.2.2.1 hx1905_14), ob1 rfl fun b q hk hn => ok_call rfl Try.call13 (sight_Ray_ok hn.1 hn.2.1 hn.2.2.1 hx1905_15), ob1 rfl fun b q hk hn => ok_move rfl (up i10 hk hn.1), ob1 rfl fun b q hk hn => ok_neB rfl Try.underlying4 hn.1 hn.2.1, trivial⟩ hQQ1923 fun b q p => ?_
  exact tail_done (k := q) (hp1924 _ _ ⟨Bs.post ⟨hg, hs, hd⟩ p, p.ke 0 rfl i0, p.ke 3 rfl i3, p.ke 5 rfl i5, p.ke 6 rfl i6, p.ke 9 rfl i9, p.ke 10 rfl i10, p.ou 17 86 rfl, trivial⟩)
 rintro a k ⟨⟨hg, hs, hd⟩, i0, i3, i5, i6, i9, i10, i86, _⟩
 refine wp_cond_split (isBool i86) (fun hc1922 => ?_) (fun hc1922 => ?_)
 ·rw [if_pos hc1922] at hr
  refine stepL 1 (⟨some (IsV false), []⟩ :: []) rfl ⟨hg, hs, hd⟩ (by kernel_rfl) ⟨ob1 rfl fun _ _ h n => ok_assign rfl (isV_bool.2 rfl), trivial⟩ [⟨_, _⟩] (fun b q p => ⟨p.ou 0 8 rfl, trivial⟩) ?_
  rintro a k ⟨⟨hg, hs, hd⟩, i8, _⟩
  refine wp_ret ?_
  obtain rfl := Option.some.inj hr
  exact retC1 rfl hd hg i8
 rw [if_neg (by rw [hc1922]; decide)] at hr
 refine wp_skip ?_
 refine wp_seq ?_
 obtain ⟨x1909_5, hx1909_5, hr⟩ := bind_some hr
 obtain ⟨x1909_6, hx1909_6, hr⟩ := bind_some hr
 obtain ⟨x1909_12, hx1909_12, hr⟩ := bind_some hr
 obtain ⟨x1909_13, hx1909_13, hr⟩ := bind_some hr
 obtain ⟨x1909_19, hx1909_19, hr⟩ := bind_some hr
 obtain ⟨x1909_20, hx1909_20, hr⟩ := bind_some hr
 obtain ⟨x1909_21, hx1909_21, hr⟩ := bind_some hr
 refine cut (fun a' k' => Bs noF k0 150 a' k' ∧ (IsV s_) (a'.get 0) k' ∧ (IsRef p_) (a'.get 5) k' ∧ (IsRef d_) (a'.get 6) k' ∧ (IsV x1899_0) (a'.get 9) k' ∧ (IsV x1904_3) (a'.get 10) k' ∧ (IsRef x1909_21) (a'.get 11) k' ∧ True) ?_ hQ ?_
 ·intro Q1920 hQQ1920 hp1921
  refine gS 23 (_ :: _ :: _ :: _ :: _ :: _ :: _ :: _ :: _ :: _ :: _ :: _ :: _ :: _ :: _ :: _ :: _ :: _ :: _ :: _ :: _ :: _ :: ⟨some (IsBox k.w.heap.size (⟨0, 0, 0⟩ : Point3)), []⟩ :: []) hs (by kernel_rfl) ⟨o1 [(5, none)] rfl fun _ _ h n => ok_fieldAddr rfl fo24_0 (at_Point3_0 _) ((up i5 h n.1)).ptr, o1 [(87, some 0)] rfl fun _ _ h n => ok_load rfl ty3 n.1, mu rfl i3, o1 [(6, none)] rfl fun _ _ h n => ok_fieldAddr rfl fo24_0 (at_Point3_0 _) ((up i6 h n.1)).ptr, o1 [(90, some 3)] rfl fun _ _ h n => ok_load rfl ty3 n.1, o1 [(89, some 2), (91, some 4)] rfl fun _ _ h n => ok_mul rfl n.1 n.2.1 hx1909_5, o1 [(88, some 1), (92, some 5)] rfl fun _ _ h n => ok_add rfl n.1 n.2.1 hx1909_6, o1 [(5, none)] rfl fun _ _ h n => ok_fieldAddr rfl fo24_1 (at_Point3_1 _) ((up i5 h n.1)).ptr, o1 [(94, some 7)] rfl fun _ _ h n => ok_load rfl ty3 n.1, mu rfl i3, o1 [(6, none)] rfl fun _ _ h n => ok_fieldAddr rfl fo24_1 (at_Point3_1 _) ((up i6 h n.1)).ptr, o1 [(97, some 10)] rfl fun _ _ h n => ok_load rfl ty3 n.1, o1 [(96, some 9), (98, some 11)] rfl fun _ _ h n => ok_mul rfl n.1 n.2.1 hx1909_12, o1 [(95, some 8), (99, some 12)] rfl fun _ _ h n => ok_add rfl n.1 n.2.1 hx1909_13, o1 [(5, none)] rfl fun _ _ h n => ok_fieldAddr rfl fo24_2 (at_Point3_2 _) ((up i5 h n.1)).ptr, o1 [(101, some 14)] rfl fun _ _ h n => ok_load rfl ty3 n.1, mu rfl i3, o1 [(6, none)] rfl fun _ _ h n => ok_fieldAddr rfl fo24_2 (at_Point3_2 _) ((up i6 h n.1)).ptr, o1 [(104, some 17)] rfl fun _ _ h n => ok_load rfl ty3 n.1, o1 [(103, some 16), (105, some 18)] rfl fun _ _ h n => ok_mul rfl n.1 n.2.1 hx1909_19, o1 [(102, some 15), (106, some 19)] rfl fun _ _ h n => ok_add rfl n.1 n.2.1 hx1909_20, o1 [(93, some 6), (100, some 13), (107, some 20)] rfl fun _ _ h n => ok_call rfl Try.call16 (law11_at_ok n.1 n.2.1 n.2.2.1 hx1909_21), ob1 rfl fun _ _ h n => ok_alloc _ h.size rfl z24, trivial⟩ hQQ1920 fun b q p => ?_
  have hgq := hg.then p.grow
  have hsb := p.size.trans hs
  have hdb := p.defers.trans hd
  have j0 := p.ke 0 rfl i0
  have j5 := p.ke 5 rfl i5
  have j6 := p.ke 6 rfl i6
  have j9 := p.ke 9 rfl i9
  have j10 := p.ke 10 rfl i10
  obtain ⟨b11, j11, x11, z11⟩ : (IsBox k.w.heap.size (⟨0, 0, 0⟩ : Point3)) (b.get 11) q := p.ou 22 11 rfl
  replace x11 : Lo k (Eq b11) := Lo.eq x11
  have y11 : Lo k0 (Eq b11) := x11.chg hg
  have j108 : (IsV x1909_21) (b.get 108) q := p.ou 21 108 rfl
  have hns := z11.nshF
  refine tail_storeB (i := 23) rfl rfl rfl rfl szf24 (Upd.self (α := Point3)) j11 z11 j108 fun q2 hch hz => ?_
  replace hgq := hgq.step hch y11.wr
  have hle := hch.le hns
  replace j0 := Pers.pers hle j0
  replace j5 := Pers.pers hle j5
  replace j6 := Pers.pers hle j6
  replace j9 := Pers.pers hle j9
  replace j10 := Pers.pers hle j10
  replace j108 := Pers.pers hle j108
  replace z11 := hz
  clear hns hle hch
  obtain ⟨q, hqq⟩ : ∃ q, q = q2 := ⟨q2, rfl⟩
  subst hqq
  obtain ⟨q2, hsh, jn⟩ := z11.give
  replace j0 := Pers.pers hsh.le j0
  replace j5 := Pers.pers hsh.le j5
  replace j6 := Pers.pers hsh.le j6
  replace j9 := Pers.pers hsh.le j9
  replace j10 := Pers.pers hsh.le j10
  rw [← j11] at jn
  replace j11 := jn
  replace hgq := hgq.hand hsh y11.wr
  rw [← hsh.w]
  clear hsh
  obtain ⟨q, hqq⟩ : ∃ q, q = q2 := ⟨q2, rfl⟩
  subst hqq
  exact tail_done (k := q) (hp1921 _ _ ⟨⟨hgq, hsb, hdb⟩, j0, j5, j6, j9, j10, j11, trivial⟩)
 rintro a k ⟨⟨hg, hs, hd⟩, i0, i5, i6, i9, i10, i11, _⟩
 refine wp_seq ?_
 refine wp_seq ?_
 obtain ⟨x1910_1, hx1910_1, hr⟩ := bind_some hr
 refine cut (fun a' k' => Bs noF k0 150 a' k' ∧ (IsV s_) (a'.get 0) k' ∧ (IsRef p_) (a'.get 5) k' ∧ (IsV x1899_0) (a'.get 9) k' ∧ (IsV x1904_3) (a'.get 10) k' ∧ (IsRef x1909_21) (a'.get 11) k' ∧ (IsV ((!x1910_1) || (((d_.X == 0) && (d_.Y == 0)) && (d_.Z == 0)))) (a'.get 126) k' ∧ True) ?_ hQ ?_
 ·intro Q1918 hQQ1918 hp1919
  refine gS 18 (_ :: _ :: _ :: _ :: _ :: _ :: _ :: ⟨some (Gd ((!x1910_1) = false) (IsV (d_.X == 0))), [(115, some 6)]⟩ :: ⟨some (Gd (((!x1910_1) = false) ∧ (d_.X == 0) = true) (IsPtr d_.Y)), [(6, none)]⟩ :: ⟨some (Gd (((!x1910_1) = false) ∧ (d_.X == 0) = true) (IsV d_.Y)), [(117, some 8)]⟩ :: ⟨some (Gd (((!x1910_1) = false) ∧ (d_.X == 0) = true) (IsV (d_.Y == 0))), [(118, some 9)]⟩ :: _ :: ⟨some (Gd ((!x1910_1) = false) (IsV ((d_.X == 0) && (d_.Y == 0)))), [(120, some 11)]⟩ :: ⟨some (Gd (((!x1910_1) = false) ∧ ((d_.X == 0) && (d_.Y == 0)) = true) (IsPtr d_.Z)), [(6, none)]⟩ :: ⟨some (Gd (((!x1910_1) = false) ∧ ((d_.X == 0) && (d_.Y == 0)) = true) (IsV d_.Z)), [(122, some 13)]⟩ :: ⟨some (Gd (((!x1910_1) = false) ∧ ((d_.X == 0) && (d_.Y == 0)) = true) (IsV (d_.Z == 0))), [(123, some 14)]⟩ :: _ :: _ :: []) hs (by kernel_rfl) ⟨o1 [(11, none)] rfl fun _ _ h n => ok_load rfl ty24 ((up i11 h n.1)).ptr, o1 [(109, some 0)] rfl fun _ _ h n => ok_call rfl Try.call20 (ref11_Valid_ok n.1 hx1910_1), o1 [(110, some 1)] rfl fun _ _ h n => ok_not rfl n.1, cm 2 rfl rfl, gF [(6, none)] rfl rfl fun hp _ _ h n => ok_fieldAddr rfl fo24_0 (at_Point3_0 _) ((up i6 h n.1)).ptr, gF [(113, some 4)] rfl rfl fun hp _ _ h n => ok_load rfl ty3 (Gd.get n.1 hp), gF [(114, some 5)] rfl rfl fun hp _ _ h n => ok_eqI rfl (Gd.get n.1 hp) (cI rfl), gdF rfl rfl fun hp _ _ h n => ok_move rfl (Gd.get n.1 hp), gdTT rfl rfl fun hp b q h n => ok_fieldAddr rfl fo24_1 (at_Point3_1 _) ((up i6 h n.1)).ptr, gdTT rfl rfl fun hp b q h n => ok_load rfl ty3 (Gd.get n.1 hp), gdTT rfl rfl fun hp b q h n => ok_eqI rfl (Gd.get n.1 hp) (cI rfl), gF [(116, some 7), (119, some 10)] rfl rfl fun hp _ _ h n => ok_pickAnd rfl (Gd.get n.1 hp) (fun hm => (Gd.get n.2.1 ⟨hp, hm⟩)) (cB rfl), gdF rfl rfl fun hp _ _ h n => ok_move rfl (Gd.get n.1 hp), gdTT rfl rfl fun hp b q h n => ok_fieldAddr rfl fo24_2 (at_Point3_2 _) ((up i6 h n.1)).ptr, gdTT rfl rfl fun hp b q h n => ok_load rfl ty3 (Gd.get n.1 hp), gdTT rfl rfl fun hp b q h n => ok_eqI rfl (Gd.get n.1 hp) (cI rfl), gF [(121, some 12), (124, some 15)] rfl rfl fun hp _ _ h n => ok_pickAnd rfl (Gd.get n.1 hp) (fun hm => (Gd.get n.2.1 ⟨hp, hm⟩)) (cB rfl), o1 [(112, some 3), (125, some 16)] rfl fun _ _ h n => ok_pickOr rfl n.1 (cB rfl) (Gd.get n.2.1), trivial⟩ hQQ1918 fun b q p => ?_
  exact tail_done (k := q) (hp1919 _ _ ⟨Bs.post ⟨hg, hs, hd⟩ p, p.ke 0 rfl i0, p.ke 5 rfl i5, p.ke 9 rfl i9, p.ke 10 rfl i10, p.ke 11 rfl i11, p.ou 17 126 rfl, trivial⟩)
 rintro a k ⟨⟨hg, hs, hd⟩, i0, i5, i9, i10, i11, i126, _⟩
 refine wp_cond_split (isBool i126) (fun hc1917 => ?_) (fun hc1917 => ?_)
 ·rw [if_pos hc1917] at hr
  refine stepL 2 (_ :: _ :: []) rfl ⟨hg, hs, hd⟩ (by kernel_rfl) ⟨mu rfl i9, cp 0 rfl rfl, trivial⟩ [⟨_, _⟩] (fun b q p => ⟨p.ou 1 8 rfl, trivial⟩) ?_
  rintro a k ⟨⟨hg, hs, hd⟩, i8, _⟩
  refine wp_ret ?_
  obtain rfl := Option.some.inj hr
  exact retC1 rfl hd hg i8
 rw [if_neg (by rw [hc1917]; decide)] at hr
 refine wp_skip ?_
 refine wp_seq ?_
 obtain ⟨x1914_21, hx1914_21, hr⟩ := bind_some hr
 obtain ⟨x1914_20, hx1914_20, hx1914_21⟩ := ite_bind hx1914_21
 obtain ⟨x1914_7, hx1914_7, hx1914_20⟩ := ite_bindFP hx1914_20
 obtain ⟨x1914_19, hx1914_19, hx1914_20⟩ := ite_bindFP hx1914_20
 obtain ⟨x1914_17, hx1914_17, hx1914_19⟩ := ite_bindP hx1914_19
 refine cut (fun a' k' => Bs noF k0 150 a' k' ∧ (IsV x1914_21) (a'.get 8) k' ∧ True) ?_ hQ ?_
 ·intro Q1915 hQQ1915 hp1916
  refine gS 23 (_ :: _ :: _ :: ⟨some (Gd (x1899_0 = true) (IsV x1904_3)), [(130, some 2)]⟩ :: ⟨some (Gd ((x1899_0 = true) ∧ x1904_3 = false) (IsV s_)), [(0, none)]⟩ :: ⟨some (Gd ((x1899_0 = true) ∧ x1904_3 = false) (IsV p_)), [(5, none)]⟩ :: ⟨some (Gd ((x1899_0 = true) ∧ x1904_3 = false) (IsV x1909_21)), [(11, none)]⟩ :: ⟨some (Gd ((x1899_0 = true) ∧ x1904_3 = false) (IsV x1914_7)), [(132, some 4), (133, some 5), (134, some 6)]⟩ :: ⟨some (Gd ((x1899_0 = true) ∧ x1904_3 = false) (IsV (!x1914_7))), [(135, some 7)]⟩ :: ⟨some (Gd ((x1899_0 = true) ∧ x1904_3 = false) (IsV (!x1914_7))), [(136, some 8)]⟩ :: ⟨some (Gd (((x1899_0 = true) ∧ x1904_3 = false) ∧ (!x1914_7) = true) (IsV s_)), [(0, none)]⟩ :: ⟨some (Gd (((x1899_0 = true) ∧ x1904_3 = false) ∧ (!x1914_7) = true) (IsPtr x1909_21.X)), [(11, none)]⟩ :: ⟨some (Gd (((x1899_0 = true) ∧ x1904_3 = false) ∧ (!x1914_7) = true) (IsV x1909_21.X)), [(139, some 11)]⟩ :: ⟨some (Gd (((x1899_0 = true) ∧ x1904_3 = false) ∧ (!x1914_7) = true) (IsPtr x1909_21.Y)), [(11, none)]⟩ :: ⟨some (Gd (((x1899_0 = true) ∧ x1904_3 = false) ∧ (!x1914_7) = true) (IsV x1909_21.Y)), [(141, some 13)]⟩ :: ⟨some (Gd (((x1899_0 = true) ∧ x1904_3 = false) ∧ (!x1914_7) = true) (IsPtr x1909_21.Z)), [(11, none)]⟩ :: ⟨some (Gd (((x1899_0 = true) ∧ x1904_3 = false) ∧ (!x1914_7) = true) (IsV x1909_21.Z)), [(143, some 15)]⟩ :: ⟨some (Gd (((x1899_0 = true) ∧ x1904_3 = false) ∧ (!x1914_7) = true) (IsV x1914_17)), [(138, some 10), (140, some 12), (142, some 14), (144, some 16)]⟩ :: ⟨some (Gd (((x1899_0 = true) ∧ x1904_3 = false) ∧ (!x1914_7) = true) (IsV (!x1914_17))), [(145, some 17)]⟩ :: ⟨some (Gd ((x1899_0 = true) ∧ x1904_3 = false) (IsV x1914_19)), [(137, some 9), (146, some 18)]⟩ :: _ :: _ :: _ :: []) hs (by kernel_rfl) ⟨mu rfl i9, cm 0 rfl rfl, mT rfl rfl i10, gdT rfl rfl fun hp _ _ h n => ok_move rfl (Gd.get n.1 hp), gdTF rfl rfl fun hp b q h n => ok_move rfl (up i0 h n.1), gdTF rfl rfl fun hp b q h n => ok_load rfl ty24 ((up i5 h n.1)).ptr, gdTF rfl rfl fun hp b q h n => ok_load rfl ty24 ((up i11 h n.1)).ptr, gdTF rfl rfl fun hp b q h n => ok_call rfl Try.call11 (sight_Blocked_ok (Gd.get n.1 hp) (Gd.get n.2.1 hp) (Gd.get n.2.2.1 hp) (hx1914_7 hp)), gdTF rfl rfl fun hp b q h n => ok_not rfl (Gd.get n.1 hp), gdTF rfl rfl fun hp b q h n => ok_move rfl (Gd.get n.1 hp), gdTT rfl rfl fun hp b q h n => ok_move rfl (up i0 h n.1), gdTT rfl rfl fun hp b q h n => ok_fieldAddr rfl fo24_0 (at_Point3_0 _) ((up i11 h n.1)).ptr, gdTT rfl rfl fun hp b q h n => ok_load rfl ty3 (Gd.get n.1 hp), gdTT rfl rfl fun hp b q h n => ok_fieldAddr rfl fo24_1 (at_Point3_1 _) ((up i11 h n.1)).ptr, gdTT rfl rfl fun hp b q h n => ok_load rfl ty3 (Gd.get n.1 hp), gdTT rfl rfl fun hp b q h n => ok_fieldAddr rfl fo24_2 (at_Point3_2 _) ((up i11 h n.1)).ptr, gdTT rfl rfl fun hp b q h n => ok_load rfl ty3 (Gd.get n.1 hp), gdTT rfl rfl fun hp b q h n => ok_call rfl Try.call21 (solid_Has_ok (Gd.get n.1 hp) (Gd.get n.2.1 hp) (Gd.get n.2.2.1 hp) (Gd.get n.2.2.2.1 hp) (hx1914_17 hp)), gdTT rfl rfl fun hp b q h n => ok_not rfl (Gd.get n.1 hp), gdTF rfl rfl fun hp b q h n => ok_pickM rfl (Gd.get n.1 hp) (hx1914_19 hp) (fun hm => (Gd.get n.2.1 ⟨hp, hm⟩)) (cB rfl), gT [(131, some 3), (147, some 19)] rfl rfl fun hp _ _ h n => ok_pickM rfl (Gd.get n.1 hp) (hx1914_20 hp) (cB rfl) (fun hm => (Gd.get n.2.1 ⟨hp, hm⟩)), o1 [(129, some 1), (148, some 20)] rfl fun _ _ h n => ok_pickM rfl n.1 hx1914_21 (Gd.get n.2.1) (cB rfl), cp 21 rfl rfl, trivial⟩ hQQ1915 fun b q p => ?_
  exact tail_done (k := q) (hp1916 _ _ ⟨Bs.post ⟨hg, hs, hd⟩ p, p.ou 22 8 rfl, trivial⟩)
 rintro a k ⟨⟨hg, hs, hd⟩, i8, _⟩
 refine wp_ret ?_
 obtain rfl := Option.some.inj hr
 exact retC1 rfl hd hg i8
end Go.Proofs.Ytbpecfmimgjakaa
