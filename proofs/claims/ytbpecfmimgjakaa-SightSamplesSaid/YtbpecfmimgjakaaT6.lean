/- What the functions compute that the law reaches, part 6 -/
import Derived.Test.YtbpecfmimgjakaaT5
namespace Go.Proofs.Ytbpecfmimgjakaa
open Go.Gb
set_option linter.unusedVariables false
set_option linter.unusedSimpArgs false
set_option maxRecDepth 100000
def law11_SightSamples_L1 (x1842_1 : (List Box)) (x1850_10 : Int) (x1851_10 : Int) (x1852_10 : Int) (s1854 : Bool × Int) : Option (Flow (Bool × Int) (Bool)) :=
 if (decide (s1854.2 < (x1842_1.length : Int))) then
  (getI x1842_1 s1854.2).bind fun x1859_2 =>
  (addI s1854.2 1).bind fun x1861_1 =>
  some (.go ((s1854.1 || ((((((decide (x1859_2.Base.X0 ≤ x1850_10)) && (decide (x1850_10 < x1859_2.Base.X1))) && (decide (x1859_2.Base.Y0 ≤ x1851_10))) && (decide (x1851_10 < x1859_2.Base.Y1))) && (decide (x1859_2.Z0 ≤ x1852_10))) && (decide (x1852_10 < x1859_2.Z1)))), x1861_1))
 else
  some (.ex 2 (s1854.1, s1854.2))
def law11_SightSamples_L0 (s_ : (List Slab)) (p_ : Point3) (x1840_15 : Point3) (x1841_11 : Int) (x1842_1 : (List Box)) (s1845 : Bool × Int) : Option (Flow (Bool × Int) (Bool)) :=
 if ((decide (s1845.2 < x1841_11)) && (!s1845.1)) then
  (mulI p_.X x1841_11).bind fun x1850_3 =>
  (mulI x1840_15.X s1845.2).bind fun x1850_7 =>
  (addI x1850_3 x1850_7).bind fun x1850_8 =>
  (law11_down x1850_8 x1841_11).bind fun x1850_10 =>
  (mulI p_.Y x1841_11).bind fun x1851_3 =>
  (mulI x1840_15.Y s1845.2).bind fun x1851_7 =>
  (addI x1851_3 x1851_7).bind fun x1851_8 =>
  (law11_down x1851_8 x1841_11).bind fun x1851_10 =>
  (mulI p_.Z x1841_11).bind fun x1852_3 =>
  (mulI x1840_15.Z s1845.2).bind fun x1852_7 =>
  (addI x1852_3 x1852_7).bind fun x1852_8 =>
  (law11_down x1852_8 x1841_11).bind fun x1852_10 =>
  (iterL (law11_SightSamples_L1 x1842_1 x1850_10 x1851_10 x1852_10) (s_.length + x1842_1.length + 1) (s1845.1, 0)).bind fun f1871 => match f1871 with
   | .go _ => none
   | .ex _ s1872 =>
    (addI s1845.2 1).bind fun x1873_1 =>
    some (.go (s1872.1, x1873_1))
   | .ret r1876 => some (.ret r1876)
 else
  some (.ex 0 (s1845.1, s1845.2))
def law11_SightSamples (s_ : (List Slab)) (p_ : Point3) (q_ : Point3) : Option (Bool) :=
 (law11_small).bind fun x1835_0 =>
 (law11_few s_).bind fun x1836_1 =>
 (if (!x1836_1) then
  some true
 else
  (ref09_Right s_).bind fun x1836_5 =>
  some (!x1836_5)).bind fun x1836_7 =>
 if ((((((((((((x1836_7 || (decide (p_.X < 0))) || (decide (6 < p_.X))) || (decide (p_.Y < 0))) || (decide (6 < p_.Y))) || (decide (p_.Z < 0))) || (decide (6 < p_.Z))) || (decide (q_.X < 0))) || (decide (6 < q_.X))) || (decide (q_.Y < 0))) || (decide (6 < q_.Y))) || (decide (q_.Z < 0))) || (decide (6 < q_.Z))) then
  some x1835_0
 else
  (subI q_.X p_.X).bind fun x1840_4 =>
  (subI q_.Y p_.Y).bind fun x1840_9 =>
  (subI q_.Z p_.Z).bind fun x1840_14 =>
  (law11_at x1840_4 x1840_9 x1840_14).bind fun x1840_15 =>
  (law11_parts x1840_15.X).bind fun x1841_2 =>
  (mulI 2 x1841_2).bind fun x1841_3 =>
  (law11_parts x1840_15.Y).bind fun x1841_6 =>
  (mulI x1841_3 x1841_6).bind fun x1841_7 =>
  (law11_parts x1840_15.Z).bind fun x1841_10 =>
  (mulI x1841_7 x1841_10).bind fun x1841_11 =>
  (ref09_Boxes s_).bind fun x1842_1 =>
  (iterL (law11_SightSamples_L0 s_ p_ x1840_15 x1841_11 x1842_1) (x1841_11.toNat + 1) (false, 1)).bind fun f1889 => match f1889 with
   | .go _ => none
   | .ex _ s1890 =>
    (if x1835_0 then
     (sight_Blocked s_ p_ q_).bind fun x1891_5 =>
     some (x1891_5 == s1890.1)
    else
     some false).bind fun x1891_8 =>
    some x1891_8
   | .ret r1894 => some r1894
theorem law11_SightSamples_ok {k0 : K} {v0 v1 v2 : Value} {s_ : (List Slab)} {p_ : Point3} {q_ : Point3} {r : Bool} (i0 : (IsV s_) v0 k0) (i1 : (IsV p_) v1 k0) (i2 : (IsV q_) v2 k0) (hr : law11_SightSamples s_ p_ q_ = some r) :
  Calls Try.prog 4 #[v0, v1, v2] k0.w (Ret k0 (IsV r)) := by
 unfold law11_SightSamples at hr
 refine Ret.ofC ?_
 refine enterK Try.func4 rfl Try.ntmps4 (show 3 ≤ 220 by decide) fun a k hk0 hs hd ha => ?_
 obtain ⟨e0, e1, e2, _⟩ := ha
 replace i0 : (IsV s_) (a.get 0) k := by rw [e0, hk0]; exact i0
 replace i1 : (IsV p_) (a.get 1) k := by rw [e1, hk0]; exact i1
 replace i2 : (IsV q_) (a.get 2) k := by rw [e2, hk0]; exact i2
 have hQ : Gb.LetsOut (bodyPost Try.prog Try.f4 (RetC noF k0 (IsV r))) := letsOutC
 have hg : Chg noF k0 k := by rw [hk0]; exact Chg.refl _ k0
 refine stepL 3 (⟨some (IsRef p_), [(1, none)]⟩ :: ⟨some (IsRef q_), [(2, none)]⟩ :: ⟨some (IsV false), []⟩ :: []) rfl ⟨hg, hs, hd⟩ (by kernel_rfl) ⟨ob1 rfl fun _ _ h n => ok_boxR rfl (up i1 h n.1), ob1 rfl fun _ _ h n => ok_boxR rfl (up i2 h n.1), ob1 rfl fun _ _ h n => ok_assign rfl (isV_bool.2 rfl), trivial⟩ [⟨_, _⟩, ⟨_, _⟩, ⟨_, _⟩] (fun b q p => ⟨p.ke 0 rfl i0, p.ou 0 4 rfl, p.ou 1 5 rfl, trivial⟩) ?_
 rintro a k ⟨⟨hg, hs, hd⟩, i0, i4, i5, _⟩
 refine wp_seq ?_
 obtain ⟨x1835_0, hx1835_0, hr⟩ := bind_some hr
 refine cut (fun a' k' => Bs noF k0 220 a' k' ∧ (IsV s_) (a'.get 0) k' ∧ (IsRef p_) (a'.get 4) k' ∧ (IsRef q_) (a'.get 5) k' ∧ (IsV x1835_0) (a'.get 7) k' ∧ True) ?_ hQ ?_
 ·intro Q1909 hQQ1909 hp1910
  refine gS 2 (_ :: _ :: []) hs (by kernel_rfl) ⟨o1 [] rfl fun _ _ h n => ok_call rfl Try.call9 (law11_small_ok hx1835_0), cp 0 rfl rfl, trivial⟩ hQQ1909 fun b q p => ?_
  exact tail_done (k := q) (hp1910 _ _ ⟨Bs.post ⟨hg, hs, hd⟩ p, p.ke 0 rfl i0, p.ke 4 rfl i4, p.ke 5 rfl i5, p.ou 1 7 rfl, trivial⟩)
 rintro a k ⟨⟨hg, hs, hd⟩, i0, i4, i5, i7, _⟩
 refine wp_seq ?_
 refine wp_seq ?_
 obtain ⟨x1836_1, hx1836_1, hr⟩ := bind_some hr
 obtain ⟨x1836_7, hx1836_7, hr⟩ := bind_some hr
 obtain ⟨x1836_5, hx1836_5, hx1836_7⟩ := ite_bindF hx1836_7
 refine cut (fun a' k' => Bs noF k0 220 a' k' ∧ (IsV s_) (a'.get 0) k' ∧ (IsRef p_) (a'.get 4) k' ∧ (IsRef q_) (a'.get 5) k' ∧ (IsV x1835_0) (a'.get 7) k' ∧ (IsV ((((((((((((x1836_7 || (decide (p_.X < 0))) || (decide (6 < p_.X))) || (decide (p_.Y < 0))) || (decide (6 < p_.Y))) || (decide (p_.Z < 0))) || (decide (6 < p_.Z))) || (decide (q_.X < 0))) || (decide (6 < q_.X))) || (decide (q_.Y < 0))) || (decide (6 < q_.Y))) || (decide (q_.Z < 0))) || (decide (6 < q_.Z)))) (a'.get 86) k' ∧ True) ?_ hQ ?_
 ·intro Q1907 hQQ1907 hp1908
  refine gS 68 (_ :: _ :: _ :: _ :: _ :: _ :: _ :: _ :: _ :: _ :: _ :: _ :: _ :: _ :: _ :: _ :: _ :: _ :: _ :: _ :: _ :: _ :: _ :: _ :: _ :: _ :: _ :: _ :: _ :: _ :: _ :: _ :: _ :: _ :: _ :: _ :: _ :: _ :: _ :: _ :: _ :: _ :: _ :: _ :: _ :: _ :: _ :: _ :: _ :: _ :: _ :: _ :: _ :: _ :: _ :: _ :: _ :: _ :: _ :: _ :: _ :: _ :: _ :: _ :: _ :: _ :: _ :: _ :: []) hs (by kernel_rfl) ⟨mu rfl i0, o1 [(19, some 0)] rfl fun _ _ h n => ok_call rfl Try.call10 (law11_few_ok n.1 hx1836_1), o1 [(20, some 1)] rfl fun _ _ h n => ok_not rfl n.1, cm 2 rfl rfl, mF rfl rfl i0, gF [(23, some 4)] rfl rfl fun hp _ _ h n => ok_call rfl Try.call15 (ref09_Right_ok (Gd.get n.1 hp) (hx1836_5 hp)), gF [(24, some 5)] rfl rfl fun hp _ _ h n => ok_not rfl (Gd.get n.1 hp), o1 [(22, some 3), (25, some 6)] rfl fun _ _ h n => ok_pickM rfl n.1 hx1836_7 (cB rfl) (Gd.get n.2.1), cm 7 rfl rfl, gF [(4, none)] rfl rfl fun hp _ _ h n => ok_fieldAddr rfl fo24_0 (at_Point3_0 _) ((up i4 h n.1)).ptr, gF [(28, some 9)] rfl rfl fun hp _ _ h n => ok_load rfl ty3 (Gd.get n.1 hp), gF [(29, some 10)] rfl rfl fun hp _ _ h n => ok_lss rfl (Gd.get n.1 hp) (cI rfl), o1 [(27, some 8), (30, some 11)] rfl fun _ _ h n => ok_pickOr rfl n.1 (cB rfl) (Gd.get n.2.1), cm 12 rfl rfl, gF [(4, none)] rfl rfl fun hp _ _ h n => ok_fieldAddr rfl fo24_0 (at_Point3_0 _) ((up i4 h n.1)).ptr, gF [(33, some 14)] rfl rfl fun hp _ _ h n => ok_load rfl ty3 (Gd.get n.1 hp), gF [(34, some 15)] rfl rfl fun hp _ _ h n => ok_gtr rfl (Gd.get n.1 hp) (cI rfl), o1 [(32, some 13), (35, some 16)] rfl fun _ _ h n => ok_pickOr rfl n.1 (cB rfl) (Gd.get n.2.1), cm 17 rfl rfl, gF [(4, none)] rfl rfl fun hp _ _ h n => ok_fieldAddr rfl fo24_1 (at_Point3_1 _) ((up i4 h n.1)).ptr, gF [(38, some 19)] rfl rfl fun hp _ _ h n => ok_load rfl ty3 (Gd.get n.1 hp), gF [(39, some 20)] rfl rfl fun hp _ _ h n => ok_lss rfl (Gd.get n.1 hp) (cI rfl), o1 [(37, some 18), (40, some 21)] rfl fun _ _ h n => ok_pickOr rfl n.1 (cB rfl) (Gd.get n.2.1), cm 22 rfl rfl, gF [(4, none)] rfl rfl fun hp _ _ h n => ok_fieldAddr rfl fo24_1 (at_Point3_1 _) ((up i4 h n.1)).ptr, gF [(43, some 24)] rfl rfl fun hp _ _ h n => ok_load rfl ty3 (Gd.get n.1 hp), gF [(44, some 25)] rfl rfl fun hp _ _ h n => ok_gtr rfl (Gd.get n.1 hp) (cI rfl), o1 [(42, some 23), (45, some 26)] rfl fun _ _ h n => ok_pickOr rfl n.1 (cB rfl) (Gd.get n.2.1), cm 27 rfl rfl, gF [(4, none)] rfl rfl fun hp _ _ h n => ok_fieldAddr rfl fo24_2 (at_Point3_2 _) ((up i4 h n.1)).ptr, gF [(48, some 29)] rfl rfl fun hp _ _ h n => ok_load rfl ty3 (Gd.get n.1 hp), gF [(49, some 30)] rfl rfl fun hp _ _ h n => ok_lss rfl (Gd.get n.1 hp) (cI rfl), o1 [(47, some 28), (50, some 31)] rfl fun _ _ h n => ok_pickOr rfl n.1 (cB rfl) (Gd.get n.2.1), cm 32 rfl rfl, gF [(4, none)] rfl rfl fun hp _ _ h n => ok_fieldAddr rfl fo24_2 (at_Point3_2 _) ((up i4 h n.1)).ptr, gF [(53, some 34)] rfl rfl fun hp _ _ h n => ok_load rfl ty3 (Gd.get n.1 hp), gF [(54, some 35)] rfl rfl fun hp _ _ h n => ok_gtr rfl (Gd.get n.1 hp) (cI rfl), o1 [(52, some 33), (55, some 36)] rfl fun _ _ h n => ok_pickOr rfl n.1 (cB rfl) (Gd.get n.2.1), cm 37 rfl rfl, gF [(5, none)] rfl rfl fun hp _ _ h n => ok_fieldAddr rfl fo24_0 (at_Point3_0 _) ((up i5 h n.1)).ptr, gF [(58, some 39)] rfl rfl fun hp _ _ h n => ok_load rfl ty3 (Gd.get n.1 hp), gF [(59, some 40)] rfl rfl fun hp _ _ h n => ok_lss rfl (Gd.get n.1 hp) (cI rfl), o1 [(57, some 38), (60, some 41)] rfl fun _ _ h n => ok_pickOr rfl n.1 (cB rfl) (Gd.get n.2.1), cm 42 rfl rfl, gF [(5, none)] rfl rfl fun hp _ _ h n => ok_fieldAddr rfl fo24_0 (at_Point3_0 _) ((up i5 h n.1)).ptr, gF [(63, some 44)] rfl rfl fun hp _ _ h n => ok_load rfl ty3 (Gd.get n.1 hp), gF [(64, some 45)] rfl rfl fun hp _ _ h n => ok_gtr rfl (Gd.get n.1 hp) (cI rfl), o1 [(62, some 43), (65, some 46)] rfl fun _ _ h n => ok_pickOr rfl n.1 (cB rfl) (Gd.get n.2.1), cm 47 rfl rfl, gF [(5, none)] rfl rfl fun hp _ _ h n => ok_fieldAddr rfl fo24_1 (at_Point3_1 _) ((up i5 h n.1)).ptr, gF [(68, some 49)] rfl rfl fun hp _ _ h n => ok_load rfl ty3 (Gd.get n.1 hp), gF [(69, some 50)] rfl rfl fun hp _ _ h n => ok_lss rfl (Gd.get n.1 hp) (cI rfl), o1 [(67, some 48), (70, some 51)] rfl fun _ _ h n => ok_pickOr rfl n.1 (cB rfl) (Gd.get n.2.1), cm 52 rfl rfl, gF [(5, none)] rfl rfl fun hp _ _ h n => ok_fieldAddr rfl fo24_1 (at_Point3_1 _) ((up i5 h n.1)).ptr, gF [(73, some 54)] rfl rfl fun hp _ _ h n => ok_load rfl ty3 (Gd.get n.1 hp), gF [(74, some 55)] rfl rfl fun hp _ _ h n => ok_gtr rfl (Gd.get n.1 hp) (cI rfl), o1 [(72, some 53), (75, some 56)] rfl fun _ _ h n => ok_pickOr rfl n.1 (cB rfl) (Gd.get n.2.1), cm 57 rfl rfl, gF [(5, none)] rfl rfl fun hp _ _ h n => ok_fieldAddr rfl fo24_2 (at_Point3_2 _) ((up i5 h n.1)).ptr, gF [(78, some 59)] rfl rfl fun hp _ _ h n => ok_load rfl ty3 (Gd.get n.1 hp), gF [(79, some 60)] rfl rfl fun hp _ _ h n => ok_lss rfl (Gd.get n.1 hp) (cI rfl), o1 [(77, some 58), (80, some 61)] rfl fun _ _ h n => ok_pickOr rfl n.1 (cB rfl) (Gd.get n.2.1), cm 62 rfl rfl, gF [(5, none)] rfl rfl fun hp _ _ h n => ok_fieldAddr rfl fo24_2 (at_Point3_2 _) ((up i5 h n.1)).ptr, gF [(83, some 64)] rfl rfl fun hp _ _ h n => ok_load rfl ty3 (Gd.get n.1 hp), gF [(84, some 65)] rfl rfl fun hp _ _ h n => ok_gtr rfl (Gd.get n.1 hp) (cI rfl), o1 [(82, some 63), (85, some 66)] rfl fun _ _ h n => ok_pickOr rfl n.1 (cB rfl) (Gd.get n.2.1), trivial⟩ hQQ1907 fun b q p => ?_
  exact tail_done (k := q) (hp1908 _ _ ⟨Bs.post ⟨hg, hs, hd⟩ p, p.ke 0 rfl i0, p.ke 4 rfl i4, p.ke 5 rfl i5, p.ke 7 rfl i7, p.ou 67 86 rfl, trivial⟩)
 rintro a k ⟨⟨hg, hs, hd⟩, i0, i4, i5, i7, i86, _⟩
 refine wp_cond_split (isBool i86) (fun hc1906 => ?_) (fun hc1906 => ?_)
 ·rw [if_pos hc1906] at hr
  refine stepL 2 (_ :: _ :: []) rfl ⟨hg, hs, hd⟩ (by kernel_rfl) ⟨mu rfl i7, cp 0 rfl rfl, trivial⟩ [⟨_, _⟩] (fun b q p => ⟨p.ou 1 6 rfl, trivial⟩) ?_
  rintro a k ⟨⟨hg, hs, hd⟩, i6, _⟩
  refine wp_ret ?_
  obtain rfl := Option.some.inj hr
  exact retC1 rfl hd hg i6
 rw [if_neg (by rw [hc1906]; decide)] at hr
 refine wp_skip ?_
 refine wp_seq ?_
 obtain ⟨x1840_4, hx1840_4, hr⟩ := bind_some hr
 obtain ⟨x1840_9, hx1840_9, hr⟩ := bind_some hr
 obtain ⟨x1840_14, hx1840_14, hr⟩ := bind_some hr
 obtain ⟨x1840_15, hx1840_15, hr⟩ := bind_some hr
 refine cut (fun a' k' => Bs noF k0 220 a' k' ∧ (IsV s_) (a'.get 0) k' ∧ (IsRef p_) (a'.get 4) k' ∧ (IsRef q_) (a'.get 5) k' ∧ (IsV x1835_0) (a'.get 7) k' ∧ (IsRef x1840_15) (a'.get 8) k' ∧ True) ?_ hQ ?_
 ·intro Q1904 hQQ1904 hp1905
  refine gS 17 (_ :: _ :: _ :: _ :: _ :: _ :: _ :: _ :: _ :: _ :: _ :: _ :: _ :: _ :: _ :: _ :: ⟨some (IsBox k.w.heap.size (⟨0, 0, 0⟩ : Point3)), []⟩ :: []) hs (by kernel_rfl) ⟨o1 [(5, none)] rfl fun _ _ h n => ok_fieldAddr rfl fo24_0 (at_Point3_0 _) ((up i5 h n.1)).ptr, o1 [(88, some 0)] rfl fun _ _ h n => ok_load rfl ty3 n.1, o1 [(4, none)] rfl fun _ _ h n => ok_fieldAddr rfl fo24_0 (at_Point3_0 _) ((up i4 h n.1)).ptr, o1 [(90, some 2)] rfl fun _ _ h n => ok_load rfl ty3 n.1, o1 [(89, some 1), (91, some 3)] rfl fun _ _ h n => ok_sub rfl n.1 n.2.1 hx1840_4, o1 [(5, none)] rfl fun _ _ h n => ok_fieldAddr rfl fo24_1 (at_Point3_1 _) ((up i5 h n.1)).ptr, o1 [(93, some 5)] rfl fun _ _ h n => ok_load rfl ty3 n.1, o1 [(4, none)] rfl fun _ _ h n => ok_fieldAddr rfl fo24_1 (at_Point3_1 _) ((up i4 h n.1)).ptr, o1 [(95, some 7)] rfl fun _ _ h n => ok_load rfl ty3 n.1, o1 [(94, some 6), (96, some 8)] rfl fun _ _ h n => ok_sub rfl n.1 n.2.1 hx1840_9, o1 [(5, none)] rfl fun _ _ h n => ok_fieldAddr rfl fo24_2 (at_Point3_2 _) ((up i5 h n.1)).ptr, o1 [(98, some 10)] rfl fun _ _ h n => ok_load rfl ty3 n.1, o1 [(4, none)] rfl fun _ _ h n => ok_fieldAddr rfl fo24_2 (at_Point3_2 _) ((up i4 h n.1)).ptr, o1 [(100, some 12)] rfl fun _ _ h n => ok_load rfl ty3 n.1, o1 [(99, some 11), (101, some 13)] rfl fun _ _ h n => ok_sub rfl n.1 n.2.1 hx1840_14, o1 [(92, some 4), (97, some 9), (102, some 14)] rfl fun _ _ h n => ok_call rfl Try.call16 (law11_at_ok n.1 n.2.1 n.2.2.1 hx1840_15), ob1 rfl fun _ _ h n => ok_alloc _ h.size rfl z24, trivial⟩ hQQ1904 fun b q p => ?_
  have hgq := hg.then p.grow
  have hsb := p.size.trans hs
  have hdb := p.defers.trans hd
  have j0 := p.ke 0 rfl i0
  have j4 := p.ke 4 rfl i4
  have j5 := p.ke 5 rfl i5
  have j7 := p.ke 7 rfl i7
  obtain ⟨b8, j8, x8, z8⟩ : (IsBox k.w.heap.size (⟨0, 0, 0⟩ : Point3)) (b.get 8) q := p.ou 16 8 rfl
  replace x8 : Lo k (Eq b8) := Lo.eq x8
  have y8 : Lo k0 (Eq b8) := x8.chg hg
  have j103 : (IsV x1840_15) (b.get 103) q := p.ou 15 103 rfl
  have hns := z8.nshF
  refine tail_storeB (i := 17) rfl rfl rfl rfl szf24 (Upd.self (α := Point3)) j8 z8 j103 fun q2 hch hz => ?_
  replace hgq := hgq.step hch y8.wr
  have hle := hch.le hns
  replace j0 := Pers.pers hle j0
  replace j4 := Pers.pers hle j4
  replace j5 := Pers.pers hle j5
  replace j7 := Pers.pers hle j7
  replace j103 := Pers.pers hle j103
  replace z8 := hz
  clear hns hle hch
  obtain ⟨q, hqq⟩ : ∃ q, q = q2 := ⟨q2, rfl⟩
  subst hqq
  obtain ⟨q2, hsh, jn⟩ := z8.give
  replace j0 := Pers.pers hsh.le j0
  replace j4 := Pers.pers hsh.le j4
  replace j5 := Pers.pers hsh.le j5
  replace j7 := Pers.pers hsh.le j7
  rw [← j8] at jn
  replace j8 := jn
  replace hgq := hgq.hand hsh y8.wr
  rw [← hsh.w]
  clear hsh
  obtain ⟨q, hqq⟩ : ∃ q, q = q2 := ⟨q2, rfl⟩
  subst hqq
  exact tail_done (k := q) (hp1905 _ _ ⟨⟨hgq, hsb, hdb⟩, j0, j4, j5, j7, j8, trivial⟩)
 rintro a k ⟨⟨hg, hs, hd⟩, i0, i4, i5, i7, i8, _⟩
 refine wp_seq ?_
 obtain ⟨x1841_2, hx1841_2, hr⟩ := bind_some hr
 obtain ⟨x1841_3, hx1841_3, hr⟩ := bind_some hr
 obtain ⟨x1841_6, hx1841_6, hr⟩ := bind_some hr
 obtain ⟨x1841_7, hx1841_7, hr⟩ := bind_some hr
 obtain ⟨x1841_10, hx1841_10, hr⟩ := bind_some hr
 obtain ⟨x1841_11, hx1841_11, hr⟩ := bind_some hr
 refine cut (fun a' k' => Bs noF k0 220 a' k' ∧ (IsV s_) (a'.get 0) k' ∧ (IsRef p_) (a'.get 4) k' ∧ (IsRef q_) (a'.get 5) k' ∧ (IsV x1835_0) (a'.get 7) k' ∧ (IsRef x1840_15) (a'.get 8) k' ∧ (IsV x1841_11) (a'.get 9) k' ∧ True) ?_ hQ ?_
 ·intro Q1902 hQQ1902 hp1903
  refine region (a0 := a) (k0 := k) (n := 220) (m := 13) (⟨some (IsPtr x1840_15.X), [(8, none)]⟩ :: ⟨some (IsV x1840_15.X), [(104, some 0)]⟩ :: ⟨some (IsV x1841_2), [(105, some 1)]⟩ :: ⟨some (IsV x1841_3), [(106, some 2)]⟩ :: ⟨some (IsPtr x1840_15.Y), [(8, none)]⟩ :: ⟨some (IsV x1840_15.Y), [(108, some 4)]⟩ :: ⟨some (IsV x1841_6), [(109, some 5)]⟩ :: ⟨some (IsV x1841_7), [(107, some 3), (110, some 6)]⟩ :: ⟨some (IsPtr x1840_15.Z), [(8, none)]⟩ :: ⟨some (IsV x1840_15.Z), [(112, some 8)]⟩ :: ⟨some (IsV x1841_10), [(113, some 9)]⟩ :: ⟨some (IsV x1841_11), [(111, some 7), (114, some 10)]⟩ :: ⟨some (IsV x1841_11), [(115, some 11)]⟩ :: []) hmix hs (by kernel_rfl) ⟨ob1 rfl fun b q hk hn => ok_fieldAddr rfl fo24_0 (at_Point3_0 _) ((up i8 hk hn.1)).ptr, ob1 rfl fun b q hk hn => ok_load rfl ty3 hn.1, ob1 rfl fun b q hk hn => ok_call rfl Try.call17 (law11_parts_ok hn.1 hx1841_2), ob1 rfl fun b q hk hn => ok_mul rfl (isV_int.2 rfl) hn.1 hx1841_3, ob1 rfl fun b q hk hn => ok_fieldAddr rfl fo24_1 (at_Point3_1 _) ((up i8 hk hn.1)).ptr, ob1 rfl fun b q hk hn => ok_load rfl ty3 hn.1, ob1 rfl fun b q hk hn => ok_call rfl Try.call17 (law11_parts_ok hn.1 hx1841_6), ob1 rfl fun b q hk hn => ok_mul rfl hn.1 hn.2.1 hx1841_7, ob1 rfl fun b q hk hn => ok_fieldAddr rfl fo24_2 (at_Point3_2 _) ((up i8 hk hn.1)).ptr, ob1 rfl fun b q hk hn => ok_load rfl ty3 hn.1, ob1 rfl fun b q hk hn => ok_call rfl Try.call17 (law11_parts_ok hn.1 hx1841_10), ob1 rfl fun b q hk hn => ok_mul rfl hn.1 hn.2.1 hx1841_11, ob1 rfl fun b q hk hn => ok_assign rfl hn.1, trivial⟩ hQQ1902 fun b q p => ?_
  exact tail_done (k := q) (hp1903 _ _ ⟨Bs.post ⟨hg, hs, hd⟩ p, p.ke 0 rfl i0, p.ke 4 rfl i4, p.ke 5 rfl i5, p.ke 7 rfl i7, p.ke 8 rfl i8, p.ou 12 9 rfl, trivial⟩)
 rintro a k ⟨⟨hg, hs, hd⟩, i0, i4, i5, i7, i8, i9, _⟩
 refine wp_seq ?_
 obtain ⟨x1842_1, hx1842_1, hr⟩ := bind_some hr
 refine cut (fun a' k' => Bs noF k0 220 a' k' ∧ (IsV s_) (a'.get 0) k' ∧ (IsRef p_) (a'.get 4) k' ∧ (IsRef q_) (a'.get 5) k' ∧ (IsV x1835_0) (a'.get 7) k' ∧ (IsRef x1840_15) (a'.get 8) k' ∧ (IsV x1841_11) (a'.get 9) k' ∧ (IsV x1842_1) (a'.get 10) k' ∧ True) ?_ hQ ?_
 ·intro Q1900 hQQ1900 hp1901
  refine gS 3 (_ :: _ :: _ :: []) hs (by kernel_rfl) ⟨mu rfl i0, o1 [(116, some 0)] rfl fun _ _ h n => ok_call rfl Try.call18 (ref09_Boxes_ok n.1 hx1842_1), cp 1 rfl rfl, trivial⟩ hQQ1900 fun b q p => ?_
  exact tail_done (k := q) (hp1901 _ _ ⟨Bs.post ⟨hg, hs, hd⟩ p, p.ke 0 rfl i0, p.ke 4 rfl i4, p.ke 5 rfl i5, p.ke 7 rfl i7, p.ke 8 rfl i8, p.ke 9 rfl i9, p.ou 2 10 rfl, trivial⟩)
 rintro a k ⟨⟨hg, hs, hd⟩, i0, i4, i5, i7, i8, i9, i10, _⟩
 refine stepL 1 (⟨some (IsV false), []⟩ :: []) rfl ⟨hg, hs, hd⟩ (by kernel_rfl) ⟨ob1 rfl fun _ _ h n => ok_assign rfl (isV_bool.2 rfl), trivial⟩ [⟨_, _⟩, ⟨_, _⟩, ⟨_, _⟩, ⟨_, _⟩, ⟨_, _⟩, ⟨_, _⟩, ⟨_, _⟩, ⟨_, _⟩] (fun b q p => ⟨p.ke 0 rfl i0, p.ke 4 rfl i4, p.ke 5 rfl i5, p.ke 7 rfl i7, p.ke 8 rfl i8, p.ke 9 rfl i9, p.ke 10 rfl i10, p.ou 0 11 rfl, trivial⟩) ?_
 rintro a k ⟨⟨hg, hs, hd⟩, i0, i4, i5, i7, i8, i9, i10, i11, _⟩
 refine wp_seq ?_
 refine stepL 1 (⟨some (IsI 1), []⟩ :: []) rfl ⟨hg, hs, hd⟩ (by kernel_rfl) ⟨aI rfl rfl, trivial⟩ [⟨_, _⟩, ⟨_, _⟩, ⟨_, _⟩, ⟨_, _⟩, ⟨_, _⟩, ⟨_, _⟩, ⟨_, _⟩, ⟨_, _⟩, ⟨_, _⟩] (fun b q p => ⟨p.ke 0 rfl i0, p.ke 4 rfl i4, p.ke 5 rfl i5, p.ke 7 rfl i7, p.ke 8 rfl i8, p.ke 9 rfl i9, p.ke 10 rfl i10, p.ke 11 rfl i11, p.ou 0 12 rfl, trivial⟩) ?_
 rintro a k ⟨⟨hg, hs, hd⟩, i0, i4, i5, i7, i8, i9, i10, i11, i12, _⟩
 refine wp_block ?_
 obtain ⟨f1889, hf1889, hr⟩ := bind_some hr
 refine cutFe f1889 (fun s' a' k' => Bs noF k0 220 a' k' ∧ (IsV s_) (a'.get 0) k' ∧ (IsRef p_) (a'.get 4) k' ∧ (IsRef q_) (a'.get 5) k' ∧ (IsV x1835_0) (a'.get 7) k' ∧ (IsRef x1840_15) (a'.get 8) k' ∧ (IsV x1841_11) (a'.get 9) k' ∧ (IsV x1842_1) (a'.get 10) k' ∧ (IsV s'.1) (a'.get 11) k' ∧ (IsV s'.2) (a'.get 12) k' ∧ True) (fun i' s' a' k' => (i' = 0 ∧ Bs noF k0 220 a' k' ∧ (IsV s_) (a'.get 0) k' ∧ (IsRef p_) (a'.get 4) k' ∧ (IsRef q_) (a'.get 5) k' ∧ (IsV x1835_0) (a'.get 7) k' ∧ (IsV s'.1) (a'.get 11) k' ∧ True)) (fun r' a' k' => bodyPost Try.prog Try.f4 (RetC noF k0 (IsV r')) .ret a' k'.w) ?_ hQ ?_ ?_ ?_
 ·intro Q1895 hQQ1895 hgo hex hret
  refine sim_loop ?_ _ _ _ _ _ hf1889 ⟨⟨hg, hs, hd⟩, i0, i4, i5, i7, i8, i9, i10, i11, i12, trivial⟩ Q1895 hQQ1895 hgo hex hret
  clear hr hf1889 hgo hex hret hQQ1895 hQ hg hs hd i0 i10 i11 i12 i4 i5 i7 i8 i9
  intro s1845 fl_ a k hr hS Q hQ hgo1846 hex1847 hret1848
  obtain ⟨⟨hg, hs, hd⟩, i0, i4, i5, i7, i8, i9, i10, i11, i12, _⟩ := hS
  unfold law11_SightSamples_L0 at hr
  refine wp_seq ?_
  refine stepL 7 (_ :: _ :: _ :: _ :: _ :: _ :: _ :: []) rfl ⟨hg, hs, hd⟩ (by kernel_rfl) ⟨mu rfl i12, mu rfl i9, o1 [(118, some 0), (119, some 1)] rfl fun _ _ h n => ok_lss rfl n.1 n.2.1, cm 2 rfl rfl, mT rfl rfl i11, gT [(122, some 4)] rfl rfl fun hp _ _ h n => ok_not rfl (Gd.get n.1 hp), o1 [(121, some 3), (123, some 5)] rfl fun _ _ h n => ok_pickAnd rfl n.1 (Gd.get n.2.1) (cB rfl), trivial⟩ [⟨_, _⟩, ⟨_, _⟩, ⟨_, _⟩, ⟨_, _⟩, ⟨_, _⟩, ⟨_, _⟩, ⟨_, _⟩, ⟨_, _⟩, ⟨_, _⟩, ⟨_, _⟩] (fun b q p => ⟨p.ke 0 rfl i0, p.ke 4 rfl i4, p.ke 5 rfl i5, p.ke 7 rfl i7, p.ke 8 rfl i8, p.ke 9 rfl i9, p.ke 10 rfl i10, p.ke 11 rfl i11, p.ke 12 rfl i12, p.ou 6 124 rfl, trivial⟩) ?_
  rintro a k ⟨⟨hg, hs, hd⟩, i0, i4, i5, i7, i8, i9, i10, i11, i12, i124, _⟩
  refine wp_cond_split (isBool i124) (fun hc1886 => ?_) (fun hc1886 => ?_)
  ·rw [if_pos hc1886] at hr
   refine wp_skip ?_
   refine wp_seq ?_
   refine wp_block ?_
   refine wp_seq ?_
   obtain ⟨x1850_3, hx1850_3, hr⟩ := bind_some hr
   obtain ⟨x1850_7, hx1850_7, hr⟩ := bind_some hr
   obtain ⟨x1850_8, hx1850_8, hr⟩ := bind_some hr
   obtain ⟨x1850_10, hx1850_10, hr⟩ := bind_some hr
   refine cut (fun a' k' => Bs noF k0 220 a' k' ∧ (IsV s_) (a'.get 0) k' ∧ (IsRef p_) (a'.get 4) k' ∧ (IsRef q_) (a'.get 5) k' ∧ (IsV x1835_0) (a'.get 7) k' ∧ (IsRef x1840_15) (a'.get 8) k' ∧ (IsV x1841_11) (a'.get 9) k' ∧ (IsV x1842_1) (a'.get 10) k' ∧ (IsV s1845.1) (a'.get 11) k' ∧ (IsV s1845.2) (a'.get 12) k' ∧ (IsV x1850_10) (a'.get 13) k' ∧ True) ?_ hQ ?_
   ·intro Q1884 hQQ1884 hp1885
    refine gS 12 (_ :: _ :: _ :: _ :: _ :: _ :: _ :: _ :: _ :: _ :: _ :: _ :: []) hs (by kernel_rfl) ⟨o1 [(4, none)] rfl fun _ _ h n => ok_fieldAddr rfl fo24_0 (at_Point3_0 _) ((up i4 h n.1)).ptr, o1 [(127, some 0)] rfl fun _ _ h n => ok_load rfl ty3 n.1, mu rfl i9, o1 [(128, some 1), (129, some 2)] rfl fun _ _ h n => ok_mul rfl n.1 n.2.1 hx1850_3, o1 [(8, none)] rfl fun _ _ h n => ok_fieldAddr rfl fo24_0 (at_Point3_0 _) ((up i8 h n.1)).ptr, o1 [(131, some 4)] rfl fun _ _ h n => ok_load rfl ty3 n.1, mu rfl i12, o1 [(132, some 5), (133, some 6)] rfl fun _ _ h n => ok_mul rfl n.1 n.2.1 hx1850_7, o1 [(130, some 3), (134, some 7)] rfl fun _ _ h n => ok_add rfl n.1 n.2.1 hx1850_8, mu rfl i9, o1 [(135, some 8), (136, some 9)] rfl fun _ _ h n => ok_call rfl Try.call19 (law11_down_ok n.1 n.2.1 hx1850_10), cp 10 rfl rfl, trivial⟩ hQQ1884 fun b q p => ?_
    exact tail_done (k := q) (hp1885 _ _ ⟨Bs.post ⟨hg, hs, hd⟩ p, p.ke 0 rfl i0, p.ke 4 rfl i4, p.ke 5 rfl i5, p.ke 7 rfl i7, p.ke 8 rfl i8, p.ke 9 rfl i9, p.ke 10 rfl i10, p.ke 11 rfl i11, p.ke 12 rfl i12, p.ou 11 13 rfl, trivial⟩)
   rintro a k ⟨⟨hg, hs, hd⟩, i0, i4, i5, i7, i8, i9, i10, i11, i12, i13, _⟩
   refine wp_seq ?_
   obtain ⟨x1851_3, hx1851_3, hr⟩ := bind_some hr
   obtain ⟨x1851_7, hx1851_7, hr⟩ := bind_some hr
   obtain ⟨x1851_8, hx1851_8, hr⟩ := bind_some hr
   obtain ⟨x1851_10, hx1851_10, hr⟩ := bind_some hr
   refine cut (fun a' k' => Bs noF k0 220 a' k' ∧ (IsV s_) (a'.get 0) k' ∧ (IsRef p_) (a'.get 4) k' ∧ (IsRef q_) (a'.get 5) k' ∧ (IsV x1835_0) (a'.get 7) k' ∧ (IsRef x1840_15) (a'.get 8) k' ∧ (IsV x1841_11) (a'.get 9) k' ∧ (IsV x1842_1) (a'.get 10) k' ∧ (IsV s1845.1) (a'.get 11) k' ∧ (IsV s1845.2) (a'.get 12) k' ∧ (IsV x1850_10) (a'.get 13) k' ∧ (IsV x1851_10) (a'.get 14) k' ∧ True) ?_ hQ ?_
   ·intro Q1882 hQQ1882 hp1883
    refine gS 12 (_ :: _ :: _ :: _ :: _ :: _ :: _ :: _ :: _ :: _ :: _ :: _ :: []) hs (by kernel_rfl) ⟨o1 [(4, none)] rfl fun _ _ h n => ok_fieldAddr rfl fo24_1 (at_Point3_1 _) ((up i4 h n.1)).ptr, o1 [(138, some 0)] rfl fun _ _ h n => ok_load rfl ty3 n.1, mu rfl i9, o1 [(139, some 1), (140, some 2)] rfl fun _ _ h n => ok_mul rfl n.1 n.2.1 hx1851_3, o1 [(8, none)] rfl fun _ _ h n => ok_fieldAddr rfl fo24_1 (at_Point3_1 _) ((up i8 h n.1)).ptr, o1 [(142, some 4)] rfl fun _ _ h n => ok_load rfl ty3 n.1, mu rfl i12, o1 [(143, some 5), (144, some 6)] rfl fun _ _ h n => ok_mul rfl n.1 n.2.1 hx1851_7, o1 [(141, some 3), (145, some 7)] rfl fun _ _ h n => ok_add rfl n.1 n.2.1 hx1851_8, mu rfl i9, o1 [(146, some 8), (147, some 9)] rfl fun _ _ h n => ok_call rfl Try.call19 (law11_down_ok n.1 n.2.1 hx1851_10), cp 10 rfl rfl, trivial⟩ hQQ1882 fun b q p => ?_
    exact tail_done (k := q) (hp1883 _ _ ⟨Bs.post ⟨hg, hs, hd⟩ p, p.ke 0 rfl i0, p.ke 4 rfl i4, p.ke 5 rfl i5, p.ke 7 rfl i7, p.ke 8 rfl i8, p.ke 9 rfl i9, p.ke 10 rfl i10, p.ke 11 rfl i11, p.ke 12 rfl i12, p.ke 13 rfl i13, p.ou 11 14 rfl, trivial⟩)
   rintro a k ⟨⟨hg, hs, hd⟩, i0, i4, i5, i7, i8, i9, i10, i11, i12, i13, i14, _⟩
   refine wp_seq ?_
   obtain ⟨x1852_3, hx1852_3, hr⟩ := bind_some hr
   obtain ⟨x1852_7, hx1852_7, hr⟩ := bind_some hr
   obtain ⟨x1852_8, hx1852_8, hr⟩ := bind_some hr
   obtain ⟨x1852_10, hx1852_10, hr⟩ := bind_some hr
   refine cut (fun a' k' => Bs noF k0 220 a' k' ∧ (IsV s_) (a'.get 0) k' ∧ (IsRef p_) (a'.get 4) k' ∧ (IsRef q_) (a'.get 5) k' ∧ (IsV x1835_0) (a'.get 7) k' ∧ (IsRef x1840_15) (a'.get 8) k' ∧ (IsV x1841_11) (a'.get 9) k' ∧ (IsV x1842_1) (a'.get 10) k' ∧ (IsV s1845.1) (a'.get 11) k' ∧ (IsV s1845.2) (a'.get 12) k' ∧ (IsV x1850_10) (a'.get 13) k' ∧ (IsV x1851_10) (a'.get 14) k' ∧ (IsV x1852_10) (a'.get 15) k' ∧ True) ?_ hQ ?_
   ·intro Q1880 hQQ1880 hp1881
    refine gS 12 (_ :: _ :: _ :: _ :: _ :: _ :: _ :: _ :: _ :: _ :: _ :: _ :: []) hs (by kernel_rfl) ⟨o1 [(4, none)] rfl fun _ _ h n => ok_fieldAddr rfl fo24_2 (at_Point3_2 _) ((up i4 h n.1)).ptr, o1 [(149, some 0)] rfl fun _ _ h n => ok_load rfl ty3 n.1, mu rfl i9, o1 [(150, some 1), (151, some 2)] rfl fun _ _ h n => ok_mul rfl n.1 n.2.1 hx1852_3, o1 [(8, none)] rfl fun _ _ h n => ok_fieldAddr rfl fo24_2 (at_Point3_2 _) ((up i8 h n.1)).ptr, o1 [(153, some 4)] rfl fun _ _ h n => ok_load rfl ty3 n.1, mu rfl i12, o1 [(154, some 5), (155, some 6)] rfl fun _ _ h n => ok_mul rfl n.1 n.2.1 hx1852_7, o1 [(152, some 3), (156, some 7)] rfl fun _ _ h n => ok_add rfl n.1 n.2.1 hx1852_8, mu rfl i9, o1 [(157, some 8), (158, some 9)] rfl fun _ _ h n => ok_call rfl Try.call19 (law11_down_ok n.1 n.2.1 hx1852_10), cp 10 rfl rfl, trivial⟩ hQQ1880 fun b q p => ?_
    exact tail_done (k := q) (hp1881 _ _ ⟨Bs.post ⟨hg, hs, hd⟩ p, p.ke 0 rfl i0, p.ke 4 rfl i4, p.ke 5 rfl i5, p.ke 7 rfl i7, p.ke 8 rfl i8, p.ke 9 rfl i9, p.ke 10 rfl i10, p.ke 11 rfl i11, p.ke 12 rfl i12, p.ke 13 rfl i13, p.ke 14 rfl i14, p.ou 11 15 rfl, trivial⟩)
   rintro a k ⟨⟨hg, hs, hd⟩, i0, i4, i5, i7, i8, i9, i10, i11, i12, i13, i14, i15, _⟩
   refine stepL 1 (⟨some (IsI 0), []⟩ :: []) rfl ⟨hg, hs, hd⟩ (by kernel_rfl) ⟨aI rfl rfl, trivial⟩ [⟨_, _⟩, ⟨_, _⟩, ⟨_, _⟩, ⟨_, _⟩, ⟨_, _⟩, ⟨_, _⟩, ⟨_, _⟩, ⟨_, _⟩, ⟨_, _⟩, ⟨_, _⟩, ⟨_, _⟩, ⟨_, _⟩, ⟨_, _⟩] (fun b q p => ⟨p.ke 0 rfl i0, p.ke 4 rfl i4, p.ke 5 rfl i5, p.ke 7 rfl i7, p.ke 8 rfl i8, p.ke 9 rfl i9, p.ke 10 rfl i10, p.ke 11 rfl i11, p.ke 12 rfl i12, p.ke 13 rfl i13, p.ke 14 rfl i14, p.ke 15 rfl i15, p.ou 0 16 rfl, trivial⟩) ?_
   rintro a k ⟨⟨hg, hs, hd⟩, i0, i4, i5, i7, i8, i9, i10, i11, i12, i13, i14, i15, i16, _⟩
   refine wp_block ?_
   obtain ⟨f1871, hf1871, hr⟩ := bind_some hr
   refine cutFe f1871 (fun s' a' k' => Bs noF k0 220 a' k' ∧ (IsV s_) (a'.get 0) k' ∧ (IsRef p_) (a'.get 4) k' ∧ (IsRef q_) (a'.get 5) k' ∧ (IsV x1835_0) (a'.get 7) k' ∧ (IsRef x1840_15) (a'.get 8) k' ∧ (IsV x1841_11) (a'.get 9) k' ∧ (IsV x1842_1) (a'.get 10) k' ∧ (IsV s'.1) (a'.get 11) k' ∧ (IsV s1845.2) (a'.get 12) k' ∧ (IsV x1850_10) (a'.get 13) k' ∧ (IsV x1851_10) (a'.get 14) k' ∧ (IsV x1852_10) (a'.get 15) k' ∧ (IsV s'.2) (a'.get 16) k' ∧ True) (fun i' s' a' k' => (i' = 2 ∧ Bs noF k0 220 a' k' ∧ (IsV s_) (a'.get 0) k' ∧ (IsRef p_) (a'.get 4) k' ∧ (IsRef q_) (a'.get 5) k' ∧ (IsV x1835_0) (a'.get 7) k' ∧ (IsRef x1840_15) (a'.get 8) k' ∧ (IsV x1841_11) (a'.get 9) k' ∧ (IsV x1842_1) (a'.get 10) k' ∧ (IsV s'.1) (a'.get 11) k' ∧ (IsV s1845.2) (a'.get 12) k' ∧ True)) (fun r' a' k' => bodyPost Try.prog Try.f4 (RetC noF k0 (IsV r')) .ret a' k'.w) ?_ hQ ?_ ?_ ?_
   ·intro Q1877 hQQ1877 hgo hex hret
    refine sim_loop ?_ _ _ _ _ _ hf1871 ⟨⟨hg, hs, hd⟩, i0, i4, i5, i7, i8, i9, i10, i11, i12, i13, i14, i15, i16, trivial⟩ Q1877 hQQ1877 hgo hex hret
    clear hr hf1871 hgo hex hret hQQ1877 hQ hg hs hd i0 i10 i11 i12 i13 i14 i15 i16 i4 i5 i7 i8 i9
    intro s1854 fl_ a k hr hS Q hQ hgo1855 hex1856 hret1857
    obtain ⟨⟨hg, hs, hd⟩, i0, i4, i5, i7, i8, i9, i10, i11, i12, i13, i14, i15, i16, _⟩ := hS
    unfold law11_SightSamples_L1 at hr
    refine wp_seq ?_
    refine stepL 4 (_ :: _ :: _ :: _ :: []) rfl ⟨hg, hs, hd⟩ (by kernel_rfl) ⟨mu rfl i16, mu rfl i10, o1 [(161, some 1)] rfl fun _ _ h n => ok_len rfl rfl Try.underlying31 (IsV.rd n.1), o1 [(160, some 0), (162, some 2)] rfl fun _ _ h n => ok_lss rfl n.1 n.2.1, trivial⟩ [⟨_, _⟩, ⟨_, _⟩, ⟨_, _⟩, ⟨_, _⟩, ⟨_, _⟩, ⟨_, _⟩, ⟨_, _⟩, ⟨_, _⟩, ⟨_, _⟩, ⟨_, _⟩, ⟨_, _⟩, ⟨_, _⟩, ⟨_, _⟩, ⟨_, _⟩] (fun b q p => ⟨p.ke 0 rfl i0, p.ke 4 rfl i4, p.ke 5 rfl i5, p.ke 7 rfl i7, p.ke 8 rfl i8, p.ke 9 rfl i9, p.ke 10 rfl i10, p.ke 11 rfl i11, p.ke 12 rfl i12, p.ke 13 rfl i13, p.ke 14 rfl i14, p.ke 15 rfl i15, p.ke 16 rfl i16, p.ou 3 163 rfl, trivial⟩) ?_
    rintro a k ⟨⟨hg, hs, hd⟩, i0, i4, i5, i7, i8, i9, i10, i11, i12, i13, i14, i15, i16, i163, _⟩
    refine wp_cond_split (isBool i163) (fun hc1868 => ?_) (fun hc1868 => ?_)
    ·rw [if_pos hc1868] at hr
     refine wp_skip ?_
     refine wp_seq ?_
     refine wp_block ?_
     refine wp_seq ?_
     obtain ⟨x1859_2, hx1859_2, hr⟩ := bind_some hr
     refine cut (fun a' k' => Bs noF k0 220 a' k' ∧ (IsV s_) (a'.get 0) k' ∧ (IsRef p_) (a'.get 4) k' ∧ (IsRef q_) (a'.get 5) k' ∧ (IsV x1835_0) (a'.get 7) k' ∧ (IsRef x1840_15) (a'.get 8) k' ∧ (IsV x1841_11) (a'.get 9) k' ∧ (IsV x1842_1) (a'.get 10) k' ∧ (IsV s1854.1) (a'.get 11) k' ∧ (IsV s1845.2) (a'.get 12) k' ∧ (IsV x1850_10) (a'.get 13) k' ∧ (IsV x1851_10) (a'.get 14) k' ∧ (IsV x1852_10) (a'.get 15) k' ∧ (IsV s1854.2) (a'.get 16) k' ∧ (IsRef x1859_2) (a'.get 17) k' ∧ True) ?_ hQ ?_
     ·intro Q1866 hQQ1866 hp1867
      refine gS 5 (_ :: _ :: _ :: _ :: ⟨some (IsBox k.w.heap.size (⟨(⟨0, 0, 0, 0⟩ : Rect), 0, 0⟩ : Box)), []⟩ :: []) hs (by kernel_rfl) ⟨mu rfl i10, mu rfl i16, o1 [(166, some 0), (167, some 1)] rfl fun _ _ h n => ok_indexAddr rfl Try.underlying31 ty37 (IsV.rd n.1) n.2.1 hx1859_2, o1 [(168, some 2)] rfl fun _ _ h n => ok_load rfl ty37 n.1, ob1 rfl fun _ _ h n => ok_alloc _ h.size rfl z37, trivial⟩ hQQ1866 fun b q p => ?_
      have hgq := hg.then p.grow
      have hsb := p.size.trans hs
      have hdb := p.defers.trans hd
      have j0 := p.ke 0 rfl i0
      have j4 := p.ke 4 rfl i4
      have j5 := p.ke 5 rfl i5
      have j7 := p.ke 7 rfl i7
      have j8 := p.ke 8 rfl i8
      have j9 := p.ke 9 rfl i9
      have j10 := p.ke 10 rfl i10
      have j11 := p.ke 11 rfl i11
      have j12 := p.ke 12 rfl i12
      have j13 := p.ke 13 rfl i13
      have j14 := p.ke 14 rfl i14
      have j15 := p.ke 15 rfl i15
      have j16 := p.ke 16 rfl i16
      obtain ⟨b17, j17, x17, z17⟩ : (IsBox k.w.heap.size (⟨(⟨0, 0, 0, 0⟩ : Rect), 0, 0⟩ : Box)) (b.get 17) q := p.ou 4 17 rfl
      replace x17 : Lo k (Eq b17) := Lo.eq x17
      have y17 : Lo k0 (Eq b17) := x17.chg hg
      have j169 : (IsV x1859_2) (b.get 169) q := p.ou 3 169 rfl
      have hns := z17.nshF
      refine tail_storeB (i := 5) rfl rfl rfl rfl szf37 (Upd.self (α := Box)) j17 z17 j169 fun q2 hch hz => ?_
      replace hgq := hgq.step hch y17.wr
      have hle := hch.le hns
      replace j0 := Pers.pers hle j0
      replace j4 := Pers.pers hle j4
      replace j5 := Pers.pers hle j5
      replace j7 := Pers.pers hle j7
      replace j8 := Pers.pers hle j8
      replace j9 := Pers.pers hle j9
      replace j10 := Pers.pers hle j10
      replace j11 := Pers.pers hle j11
      replace j12 := Pers.pers hle j12
      replace j13 := Pers.pers hle j13
      replace j14 := Pers.pers hle j14
      replace j15 := Pers.pers hle j15
      replace j16 := Pers.pers hle j16
      replace j169 := Pers.pers hle j169
      replace z17 := hz
      clear hns hle hch
      obtain ⟨q, hqq⟩ : ∃ q, q = q2 := ⟨q2, rfl⟩
      subst hqq
      obtain ⟨q2, hsh, jn⟩ := z17.give
      replace j0 := Pers.pers hsh.le j0
      replace j4 := Pers.pers hsh.le j4
      replace j5 := Pers.pers hsh.le j5
      replace j7 := Pers.pers hsh.le j7
      replace j8 := Pers.pers hsh.le j8
      replace j9 := Pers.pers hsh.le j9
      replace j10 := Pers.pers hsh.le j10
      replace j11 := Pers.pers hsh.le j11
      replace j12 := Pers.pers hsh.le j12
      replace j13 := Pers.pers hsh.le j13
      replace j14 := Pers.pers hsh.le j14
      replace j15 := Pers.pers hsh.le j15
      replace j16 := Pers.pers hsh.le j16
      rw [← j17] at jn
      replace j17 := jn
      replace hgq := hgq.hand hsh y17.wr
      rw [← hsh.w]
      clear hsh
      obtain ⟨q, hqq⟩ : ∃ q, q = q2 := ⟨q2, rfl⟩
      subst hqq
      exact tail_done (k := q) (hp1867 _ _ ⟨⟨hgq, hsb, hdb⟩, j0, j4, j5, j7, j8, j9, j10, j11, j12, j13, j14, j15, j16, j17, trivial⟩)
     rintro a k ⟨⟨hg, hs, hd⟩, i0, i4, i5, i7, i8, i9, i10, i11, i12, i13, i14, i15, i16, i17, _⟩
     refine cut (fun a' k' => Bs noF k0 220 a' k' ∧ (IsV s_) (a'.get 0) k' ∧ (IsRef p_) (a'.get 4) k' ∧ (IsRef q_) (a'.get 5) k' ∧ (IsV x1835_0) (a'.get 7) k' ∧ (IsRef x1840_15) (a'.get 8) k' ∧ (IsV x1841_11) (a'.get 9) k' ∧ (IsV x1842_1) (a'.get 10) k' ∧ (IsV (s1854.1 || ((((((decide (x1859_2.Base.X0 ≤ x1850_10)) && (decide (x1850_10 < x1859_2.Base.X1))) && (decide (x1859_2.Base.Y0 ≤ x1851_10))) && (decide (x1851_10 < x1859_2.Base.Y1))) && (decide (x1859_2.Z0 ≤ x1852_10))) && (decide (x1852_10 < x1859_2.Z1))))) (a'.get 11) k' ∧ (IsV s1845.2) (a'.get 12) k' ∧ (IsV x1850_10) (a'.get 13) k' ∧ (IsV x1851_10) (a'.get 14) k' ∧ (IsV x1852_10) (a'.get 15) k' ∧ (IsV s1854.2) (a'.get 16) k' ∧ True) ?_ hQ ?_
     ·intro Q1864 hQQ1864 hp1865
      refine gS 42 (_ :: _ :: _ :: _ :: _ :: _ :: _ :: ⟨some (Gd (s1854.1 = false) (IsV (decide (x1859_2.Base.X0 ≤ x1850_10)))), [(176, some 6)]⟩ :: ⟨some (Gd ((s1854.1 = false) ∧ (decide (x1859_2.Base.X0 ≤ x1850_10)) = true) (IsV x1850_10)), [(13, none)]⟩ :: ⟨some (Gd ((s1854.1 = false) ∧ (decide (x1859_2.Base.X0 ≤ x1850_10)) = true) (IsPtr x1859_2.Base)), [(17, none)]⟩ :: ⟨some (Gd ((s1854.1 = false) ∧ (decide (x1859_2.Base.X0 ≤ x1850_10)) = true) (IsPtr x1859_2.Base.X1)), [(179, some 9)]⟩ :: ⟨some (Gd ((s1854.1 = false) ∧ (decide (x1859_2.Base.X0 ≤ x1850_10)) = true) (IsV x1859_2.Base.X1)), [(180, some 10)]⟩ :: ⟨some (Gd ((s1854.1 = false) ∧ (decide (x1859_2.Base.X0 ≤ x1850_10)) = true) (IsV (decide (x1850_10 < x1859_2.Base.X1)))), [(178, some 8), (181, some 11)]⟩ :: _ :: ⟨some (Gd (s1854.1 = false) (IsV ((decide (x1859_2.Base.X0 ≤ x1850_10)) && (decide (x1850_10 < x1859_2.Base.X1))))), [(183, some 13)]⟩ :: ⟨some (Gd ((s1854.1 = false) ∧ ((decide (x1859_2.Base.X0 ≤ x1850_10)) && (decide (x1850_10 < x1859_2.Base.X1))) = true) (IsPtr x1859_2.Base)), [(17, none)]⟩ :: ⟨some (Gd ((s1854.1 = false) ∧ ((decide (x1859_2.Base.X0 ≤ x1850_10)) && (decide (x1850_10 < x1859_2.Base.X1))) = true) (IsPtr x1859_2.Base.Y0)), [(185, some 15)]⟩ :: ⟨some (Gd ((s1854.1 = false) ∧ ((decide (x1859_2.Base.X0 ≤ x1850_10)) && (decide (x1850_10 < x1859_2.Base.X1))) = true) (IsV x1859_2.Base.Y0)), [(186, some 16)]⟩ :: ⟨some (Gd ((s1854.1 = false) ∧ ((decide (x1859_2.Base.X0 ≤ x1850_10)) && (decide (x1850_10 < x1859_2.Base.X1))) = true) (IsV x1851_10)), [(14, none)]⟩ :: ⟨some (Gd ((s1854.1 = false) ∧ ((decide (x1859_2.Base.X0 ≤ x1850_10)) && (decide (x1850_10 < x1859_2.Base.X1))) = true) (IsV (decide (x1859_2.Base.Y0 ≤ x1851_10)))), [(187, some 17), (188, some 18)]⟩ :: _ :: ⟨some (Gd (s1854.1 = false) (IsV (((decide (x1859_2.Base.X0 ≤ x1850_10)) && (decide (x1850_10 < x1859_2.Base.X1))) && (decide (x1859_2.Base.Y0 ≤ x1851_10))))), [(190, some 20)]⟩ :: ⟨some (Gd ((s1854.1 = false) ∧ (((decide (x1859_2.Base.X0 ≤ x1850_10)) && (decide (x1850_10 < x1859_2.Base.X1))) && (decide (x1859_2.Base.Y0 ≤ x1851_10))) = true) (IsV x1851_10)), [(14, none)]⟩ :: ⟨some (Gd ((s1854.1 = false) ∧ (((decide (x1859_2.Base.X0 ≤ x1850_10)) && (decide (x1850_10 < x1859_2.Base.X1))) && (decide (x1859_2.Base.Y0 ≤ x1851_10))) = true) (IsPtr x1859_2.Base)), [(17, none)]⟩ :: ⟨some (Gd ((s1854.1 = false) ∧ (((decide (x1859_2.Base.X0 ≤ x1850_10)) && (decide (x1850_10 < x1859_2.Base.X1))) && (decide (x1859_2.Base.Y0 ≤ x1851_10))) = true) (IsPtr x1859_2.Base.Y1)), [(193, some 23)]⟩ :: ⟨some (Gd ((s1854.1 = false) ∧ (((decide (x1859_2.Base.X0 ≤ x1850_10)) && (decide (x1850_10 < x1859_2.Base.X1))) && (decide (x1859_2.Base.Y0 ≤ x1851_10))) = true) (IsV x1859_2.Base.Y1)), [(194, some 24)]⟩ :: ⟨some (Gd ((s1854.1 = false) ∧ (((decide (x1859_2.Base.X0 ≤ x1850_10)) && (decide (x1850_10 < x1859_2.Base.X1))) && (decide (x1859_2.Base.Y0 ≤ x1851_10))) = true) (IsV (decide (x1851_10 < x1859_2.Base.Y1)))), [(192, some 22), (195, some 25)]⟩ :: _ :: ⟨some (Gd (s1854.1 = false) (IsV ((((decide (x1859_2.Base.X0 ≤ x1850_10)) && (decide (x1850_10 < x1859_2.Base.X1))) && (decide (x1859_2.Base.Y0 ≤ x1851_10))) && (decide (x1851_10 < x1859_2.Base.Y1))))), [(197, some 27)]⟩ :: ⟨some (Gd ((s1854.1 = false) ∧ ((((decide (x1859_2.Base.X0 ≤ x1850_10)) && (decide (x1850_10 < x1859_2.Base.X1))) && (decide (x1859_2.Base.Y0 ≤ x1851_10))) && (decide (x1851_10 < x1859_2.Base.Y1))) = true) (IsPtr x1859_2.Z0)), [(17, none)]⟩ :: ⟨some (Gd ((s1854.1 = false) ∧ ((((decide (x1859_2.Base.X0 ≤ x1850_10)) && (decide (x1850_10 < x1859_2.Base.X1))) && (decide (x1859_2.Base.Y0 ≤ x1851_10))) && (decide (x1851_10 < x1859_2.Base.Y1))) = true) (IsV x1859_2.Z0)), [(199, some 29)]⟩ :: ⟨some (Gd ((s1854.1 = false) ∧ ((((decide (x1859_2.Base.X0 ≤ x1850_10)) && (decide (x1850_10 < x1859_2.Base.X1))) && (decide (x1859_2.Base.Y0 ≤ x1851_10))) && (decide (x1851_10 < x1859_2.Base.Y1))) = true) (IsV x1852_10)), [(15, none)]⟩ :: ⟨some (Gd ((s1854.1 = false) ∧ ((((decide (x1859_2.Base.X0 ≤ x1850_10)) && (decide (x1850_10 < x1859_2.Base.X1))) && (decide (x1859_2.Base.Y0 ≤ x1851_10))) && (decide (x1851_10 < x1859_2.Base.Y1))) = true) (IsV (decide (x1859_2.Z0 ≤ x1852_10)))), [(200, some 30), (201, some 31)]⟩ :: _ :: ⟨some (Gd (s1854.1 = false) (IsV (((((decide (x1859_2.Base.X0 ≤ x1850_10)) && (decide (x1850_10 < x1859_2.Base.X1))) && (decide (x1859_2.Base.Y0 ≤ x1851_10))) && (decide (x1851_10 < x1859_2.Base.Y1))) && (decide (x1859_2.Z0 ≤ x1852_10))))), [(203, some 33)]⟩ :: ⟨some (Gd ((s1854.1 = false) ∧ (((((decide (x1859_2.Base.X0 ≤ x1850_10)) && (decide (x1850_10 < x1859_2.Base.X1))) && (decide (x1859_2.Base.Y0 ≤ x1851_10))) && (decide (x1851_10 < x1859_2.Base.Y1))) && (decide (x1859_2.Z0 ≤ x1852_10))) = true) (IsV x1852_10)), [(15, none)]⟩ :: ⟨some (Gd ((s1854.1 = false) ∧ (((((decide (x1859_2.Base.X0 ≤ x1850_10)) && (decide (x1850_10 < x1859_2.Base.X1))) && (decide (x1859_2.Base.Y0 ≤ x1851_10))) && (decide (x1851_10 < x1859_2.Base.Y1))) && (decide (x1859_2.Z0 ≤ x1852_10))) = true) (IsPtr x1859_2.Z1)), [(17, none)]⟩ :: ⟨some (Gd ((s1854.1 = false) ∧ (((((decide (x1859_2.Base.X0 ≤ x1850_10)) && (decide (x1850_10 < x1859_2.Base.X1))) && (decide (x1859_2.Base.Y0 ≤ x1851_10))) && (decide (x1851_10 < x1859_2.Base.Y1))) && (decide (x1859_2.Z0 ≤ x1852_10))) = true) (IsV x1859_2.Z1)), [(206, some 36)]⟩ :: ⟨some (Gd ((s1854.1 = false) ∧ (((((decide (x1859_2.Base.X0 ≤ x1850_10)) && (decide (x1850_10 < x1859_2.Base.X1))) && (decide (x1859_2.Base.Y0 ≤ x1851_10))) && (decide (x1851_10 < x1859_2.Base.Y1))) && (decide (x1859_2.Z0 ≤ x1852_10))) = true) (IsV (decide (x1852_10 < x1859_2.Z1)))), [(205, some 35), (207, some 37)]⟩ :: _ :: _ :: _ :: []) hs (by kernel_rfl) ⟨mu rfl i11, cm 0 rfl rfl, gF [(17, none)] rfl rfl fun hp _ _ h n => ok_fieldAddr rfl fo37_0 (at_Box_0 _) ((up i17 h n.1)).ptr, gF [(172, some 2)] rfl rfl fun hp _ _ h n => ok_fieldAddr rfl fo35_0 (at_Rect_0 _) (Gd.get n.1 hp), gF [(173, some 3)] rfl rfl fun hp _ _ h n => ok_load rfl ty3 (Gd.get n.1 hp), mF rfl rfl i13, gF [(174, some 4), (175, some 5)] rfl rfl fun hp _ _ h n => ok_leq rfl (Gd.get n.1 hp) (Gd.get n.2.1 hp), gdF rfl rfl fun hp _ _ h n => ok_move rfl (Gd.get n.1 hp), gdTT rfl rfl fun hp b q h n => ok_move rfl (up i13 h n.1), gdTT rfl rfl fun hp b q h n => ok_fieldAddr rfl fo37_0 (at_Box_0 _) ((up i17 h n.1)).ptr, gdTT rfl rfl fun hp b q h n => ok_fieldAddr rfl fo35_2 (at_Rect_2 _) (Gd.get n.1 hp), gdTT rfl rfl fun hp b q h n => ok_load rfl ty3 (Gd.get n.1 hp), gdTT rfl rfl fun hp b q h n => ok_lss rfl (Gd.get n.1 hp) (Gd.get n.2.1 hp), gF [(177, some 7), (182, some 12)] rfl rfl fun hp _ _ h n => ok_pickAnd rfl (Gd.get n.1 hp) (fun hm => (Gd.get n.2.1 ⟨hp, hm⟩)) (cB rfl), gdF rfl rfl fun hp _ _ h n => ok_move rfl (Gd.get n.1 hp), gdTT rfl rfl fun hp b q h n => ok_fieldAddr rfl fo37_0 (at_Box_0 _) ((up i17 h n.1)).ptr, gdTT rfl rfl fun hp b q h n => ok_fieldAddr rfl fo35_1 (at_Rect_1 _) (Gd.get n.1 hp), gdTT rfl rfl fun hp b q h n => ok_load rfl ty3 (Gd.get n.1 hp), gdTT rfl rfl fun hp b q h n => ok_move rfl (up i14 h n.1), gdTT rfl rfl fun hp b q h n => ok_leq rfl (Gd.get n.1 hp) (Gd.get n.2.1 hp), gF [(184, some 14), (189, some 19)] rfl rfl fun hp _ _ h n => ok_pickAnd rfl (Gd.get n.1 hp) (fun hm => (Gd.get n.2.1 ⟨hp, hm⟩)) (cB rfl), gdF rfl rfl fun hp _ _ h n => ok_move rfl (Gd.get n.1 hp), gdTT rfl rfl fun hp b q h n => ok_move rfl (up i14 h n.1), gdTT rfl rfl fun hp b q h n => ok_fieldAddr rfl fo37_0 (at_Box_0 _) ((up i17 h n.1)).ptr, gdTT rfl rfl fun hp b q h n => ok_fieldAddr rfl fo35_3 (at_Rect_3 _) (Gd.get n.1 hp), gdTT rfl rfl fun hp b q h n => ok_load rfl ty3 (Gd.get n.1 hp), gdTT rfl rfl fun hp b q h n => ok_lss rfl (Gd.get n.1 hp) (Gd.get n.2.1 hp), gF [(191, some 21), (196, some 26)] rfl rfl fun hp _ _ h n => ok_pickAnd rfl (Gd.get n.1 hp) (fun hm => (Gd.get n.2.1 ⟨hp, hm⟩)) (cB rfl), gdF rfl rfl fun hp _ _ h n => ok_move rfl (Gd.get n.1 hp), gdTT rfl rfl fun hp b q h n => ok_fieldAddr rfl fo37_1 (at_Box_1 _) ((up i17 h n.1)).ptr, gdTT rfl rfl fun hp b q h n => ok_load rfl ty3 (Gd.get n.1 hp), gdTT rfl rfl fun hp b q h n => ok_move rfl (up i15 h n.1), gdTT rfl rfl fun hp b q h n => ok_leq rfl (Gd.get n.1 hp) (Gd.get n.2.1 hp), gF [(198, some 28), (202, some 32)] rfl rfl fun hp _ _ h n => ok_pickAnd rfl (Gd.get n.1 hp) (fun hm => (Gd.get n.2.1 ⟨hp, hm⟩)) (cB rfl), gdF rfl rfl fun hp _ _ h n => ok_move rfl (Gd.get n.1 hp), gdTT rfl rfl fun hp b q h n => ok_move rfl (up i15 h n.1), gdTT rfl rfl fun hp b q h n => ok_fieldAddr rfl fo37_2 (at_Box_2 _) ((up i17 h n.1)).ptr, gdTT rfl rfl fun hp b q h n => ok_load rfl ty3 (Gd.get n.1 hp), gdTT rfl rfl fun hp b q h n => ok_lss rfl (Gd.get n.1 hp) (Gd.get n.2.1 hp), gF [(204, some 34), (208, some 38)] rfl rfl fun hp _ _ h n => ok_pickAnd rfl (Gd.get n.1 hp) (fun hm => (Gd.get n.2.1 ⟨hp, hm⟩)) (cB rfl), o1 [(171, some 1), (209, some 39)] rfl fun _ _ h n => ok_pickOr rfl n.1 (cB rfl) (Gd.get n.2.1), cp 40 rfl rfl, trivial⟩ hQQ1864 fun b q p => ?_
      exact tail_done (k := q) (hp1865 _ _ ⟨Bs.post ⟨hg, hs, hd⟩ p, p.ke 0 rfl i0, p.ke 4 rfl i4, p.ke 5 rfl i5, p.ke 7 rfl i7, p.ke 8 rfl i8, p.ke 9 rfl i9, p.ke 10 rfl i10, p.ou 41 11 rfl, p.ke 12 rfl i12, p.ke 13 rfl i13, p.ke 14 rfl i14, p.ke 15 rfl i15, p.ke 16 rfl i16, trivial⟩)
     rintro a k ⟨⟨hg, hs, hd⟩, i0, i4, i5, i7, i8, i9, i10, i11, i12, i13, i14, i15, i16, _⟩
     obtain ⟨x1861_1, hx1861_1, hr⟩ := bind_some hr
     refine cut (fun a' k' => Bs noF k0 220 a' k' ∧ (IsV s_) (a'.get 0) k' ∧ (IsRef p_) (a'.get 4) k' ∧ (IsRef q_) (a'.get 5) k' ∧ (IsV x1835_0) (a'.get 7) k' ∧ (IsRef x1840_15) (a'.get 8) k' ∧ (IsV x1841_11) (a'.get 9) k' ∧ (IsV x1842_1) (a'.get 10) k' ∧ (IsV (s1854.1 || ((((((decide (x1859_2.Base.X0 ≤ x1850_10)) && (decide (x1850_10 < x1859_2.Base.X1))) && (decide (x1859_2.Base.Y0 ≤ x1851_10))) && (decide (x1851_10 < x1859_2.Base.Y1))) && (decide (x1859_2.Z0 ≤ x1852_10))) && (decide (x1852_10 < x1859_2.Z1))))) (a'.get 11) k' ∧ (IsV s1845.2) (a'.get 12) k' ∧ (IsV x1850_10) (a'.get 13) k' ∧ (IsV x1851_10) (a'.get 14) k' ∧ (IsV x1852_10) (a'.get 15) k' ∧ (IsV x1861_1) (a'.get 16) k' ∧ True) ?_ hQ ?_
     ·intro Q1862 hQQ1862 hp1863
      refine gS 3 (_ :: _ :: _ :: []) hs (by kernel_rfl) ⟨mu rfl i16, o1 [(164, some 0)] rfl fun _ _ h n => ok_add rfl n.1 (cI rfl) hx1861_1, cp 1 rfl rfl, trivial⟩ hQQ1862 fun b q p => ?_
      exact tail_done (k := q) (hp1863 _ _ ⟨Bs.post ⟨hg, hs, hd⟩ p, p.ke 0 rfl i0, p.ke 4 rfl i4, p.ke 5 rfl i5, p.ke 7 rfl i7, p.ke 8 rfl i8, p.ke 9 rfl i9, p.ke 10 rfl i10, p.ke 11 rfl i11, p.ke 12 rfl i12, p.ke 13 rfl i13, p.ke 14 rfl i14, p.ke 15 rfl i15, p.ou 2 16 rfl, trivial⟩)
     rintro a k ⟨⟨hg, hs, hd⟩, i0, i4, i5, i7, i8, i9, i10, i11, i12, i13, i14, i15, i16, _⟩
     exact hgo1855 _ _ _ (Option.some.inj hr).symm ⟨⟨hg, hs, hd⟩, i0, i4, i5, i7, i8, i9, i10, i11, i12, i13, i14, i15, i16, trivial⟩
    rw [if_neg (by rw [hc1868]; decide)] at hr
    refine wp_exit ?_
    exact hex1856 _ _ _ _ (Option.some.inj hr).symm ⟨rfl, ⟨hg, hs, hd⟩, i0, i4, i5, i7, i8, i9, i10, i11, i12, trivial⟩
   ·rintro r1876 a k rfl hR
    dsimp only at hr
    exact hret1848 _ _ _ (Option.some.inj hr).symm hR
   ·rintro _ _ _ rfl _
    simp at hr
   clear hf1871
   rintro _ s1872 a k rfl ⟨rfl, ⟨hg, hs, hd⟩, i0, i4, i5, i7, i8, i9, i10, i11, i12, _⟩
   dsimp only at hr
   obtain ⟨x1873_1, hx1873_1, hr⟩ := bind_some hr
   refine cut (fun a' k' => Bs noF k0 220 a' k' ∧ (IsV s_) (a'.get 0) k' ∧ (IsRef p_) (a'.get 4) k' ∧ (IsRef q_) (a'.get 5) k' ∧ (IsV x1835_0) (a'.get 7) k' ∧ (IsRef x1840_15) (a'.get 8) k' ∧ (IsV x1841_11) (a'.get 9) k' ∧ (IsV x1842_1) (a'.get 10) k' ∧ (IsV s1872.1) (a'.get 11) k' ∧ (IsV x1873_1) (a'.get 12) k' ∧ True) ?_ hQ ?_
   ·intro Q1874 hQQ1874 hp1875
    refine gS 3 (_ :: _ :: _ :: []) hs (by kernel_rfl) ⟨mu rfl i12, o1 [(125, some 0)] rfl fun _ _ h n => ok_add rfl n.1 (cI rfl) hx1873_1, cp 1 rfl rfl, trivial⟩ hQQ1874 fun b q p => ?_
    exact tail_done (k := q) (hp1875 _ _ ⟨Bs.post ⟨hg, hs, hd⟩ p, p.ke 0 rfl i0, p.ke 4 rfl i4, p.ke 5 rfl i5, p.ke 7 rfl i7, p.ke 8 rfl i8, p.ke 9 rfl i9, p.ke 10 rfl i10, p.ke 11 rfl i11, p.ou 2 12 rfl, trivial⟩)
   rintro a k ⟨⟨hg, hs, hd⟩, i0, i4, i5, i7, i8, i9, i10, i11, i12, _⟩
   exact hgo1846 _ _ _ (Option.some.inj hr).symm ⟨⟨hg, hs, hd⟩, i0, i4, i5, i7, i8, i9, i10, i11, i12, trivial⟩
  rw [if_neg (by rw [hc1886]; decide)] at hr
  refine wp_exit ?_
  exact hex1847 _ _ _ _ (Option.some.inj hr).symm ⟨rfl, ⟨hg, hs, hd⟩, i0, i4, i5, i7, i11, trivial⟩
 ·rintro r1894 a k rfl hR
  dsimp only at hr
  obtain rfl := Option.some.inj hr
  exact hR
 ·rintro _ _ _ rfl _
  simp at hr
 clear hf1889
 rintro _ s1890 a k rfl ⟨rfl, ⟨hg, hs, hd⟩, i0, i4, i5, i7, i11, _⟩
 dsimp only at hr
 refine wp_seq ?_
 obtain ⟨x1891_8, hx1891_8, hr⟩ := bind_some hr
 obtain ⟨x1891_5, hx1891_5, hx1891_8⟩ := ite_bind hx1891_8
 refine cut (fun a' k' => Bs noF k0 220 a' k' ∧ (IsV x1891_8) (a'.get 6) k' ∧ True) ?_ hQ ?_
 ·intro Q1892 hQQ1892 hp1893
  refine gS 10 (_ :: _ :: _ :: _ :: _ :: _ :: _ :: _ :: _ :: _ :: []) hs (by kernel_rfl) ⟨mu rfl i7, cm 0 rfl rfl, mT rfl rfl i0, gT [(4, none)] rfl rfl fun hp _ _ h n => ok_load rfl ty24 ((up i4 h n.1)).ptr, gT [(5, none)] rfl rfl fun hp _ _ h n => ok_load rfl ty24 ((up i5 h n.1)).ptr, gT [(213, some 2), (214, some 3), (215, some 4)] rfl rfl fun hp _ _ h n => ok_call rfl Try.call11 (sight_Blocked_ok (Gd.get n.1 hp) (Gd.get n.2.1 hp) (Gd.get n.2.2.1 hp) (hx1891_5 hp)), mT rfl rfl i11, gT [(216, some 5), (217, some 6)] rfl rfl fun hp _ _ h n => ok_eqB rfl Try.underlying4 (Gd.get n.1 hp) (Gd.get n.2.1 hp), o1 [(212, some 1), (218, some 7)] rfl fun _ _ h n => ok_pickM rfl n.1 hx1891_8 (Gd.get n.2.1) (cB rfl), cp 8 rfl rfl, trivial⟩ hQQ1892 fun b q p => ?_
  exact tail_done (k := q) (hp1893 _ _ ⟨Bs.post ⟨hg, hs, hd⟩ p, p.ou 9 6 rfl, trivial⟩)
 rintro a k ⟨⟨hg, hs, hd⟩, i6, _⟩
 refine wp_ret ?_
 obtain rfl := Option.some.inj hr
 exact retC1 rfl hd hg i6
end Go.Proofs.Ytbpecfmimgjakaa
