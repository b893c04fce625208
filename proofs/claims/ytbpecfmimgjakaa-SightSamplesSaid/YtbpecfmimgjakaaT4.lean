/- What the functions compute that the law reaches, part 4 -/
import Derived.Test.YtbpecfmimgjakaaT3
namespace Go.Proofs.Ytbpecfmimgjakaa
open Go.Gb
set_option linter.unusedVariables false
set_option linter.unusedSimpArgs false
set_option maxRecDepth 100000
def region_column_L0 (l_ : (List Rect)) (x_ : Int) (s903 : (List RegionSpan) × Int) : Option (Flow ((List RegionSpan) × Int) ((List RegionSpan))) :=
 if (decide (s903.2 < (l_.length : Int))) then
  (getI l_ s903.2).bind fun x908_0 =>
  (if ((decide (x908_0.X0 ≤ x_)) && (decide (x_ < x908_0.X1))) then
   (appI s903.1 ([(⟨x908_0.Y0, x908_0.Y1⟩ : RegionSpan)])).bind fun x912_7 =>
   some x912_7
  else
   some s903.1).bind fun s910 =>
  (addI s903.2 1).bind fun x916_0 =>
  some (.go (s910, x916_0))
 else
  some (.ex 0 (s903.1, s903.2))
def region_column_L1 (x929_1 : (List RegionSpan)) (s933 : (List RegionSpan) × Int) : Option (Flow ((List RegionSpan) × Int) ((List RegionSpan))) :=
 if (decide (s933.2 < (x929_1.length : Int))) then
  (getI x929_1 s933.2).bind fun x938_0 =>
  (if (decide (0 < (s933.1.length : Int))) then
   (subI (s933.1.length : Int) 1).bind fun x940_7 =>
   (getI s933.1 x940_7).bind fun x940_8 =>
   some (decide (x938_0.from_ ≤ x940_8.to_))
  else
   some false).bind fun x940_12 =>
  (if x940_12 then
   (subI (s933.1.length : Int) 1).bind fun x943_2 =>
   (subI (s933.1.length : Int) 1).bind fun x943_5 =>
   (getI s933.1 x943_5).bind fun x943_6 =>
   (getI s933.1 x943_2).bind fun x943_12 =>
   (some (s933.1.set (x943_2).toNat ({ x943_12 with to_ := (max x943_6.to_ x938_0.to_) }))).bind fun x943_14 =>
   some x943_14
  else
   (appI s933.1 ([x938_0])).bind fun x946_3 =>
   some x946_3).bind fun s941 =>
  (addI s933.2 1).bind fun x950_0 =>
  some (.go (s941, x950_0))
 else
  some (.ex 2 (s933.1, s933.2))
def region_column (l_ : (List Rect)) (x_ : Int) : Option ((List RegionSpan)) :=
 (iterL (region_column_L0 l_ x_) (l_.length + 1) (([] : List RegionSpan), 0)).bind fun f927 => match f927 with
  | .go _ => none
  | .ex _ s928 =>
   (sortSpans s928.1).bind fun x929_1 =>
   (iterL (region_column_L1 x929_1) (x929_1.length + 1) (([] : List RegionSpan), 0)).bind fun f964 => match f964 with
    | .go _ => none
    | .ex _ s965 =>
     some s965.1
    | .ret r969 => some r969
  | .ret r977 => some r977
theorem region_column_ok {k0 : K} {v0 v1 : Value} {l_ : (List Rect)} {x_ : Int} {r : (List RegionSpan)} (i0 : (IsV l_) v0 k0) (i1 : (IsV x_) v1 k0) (hr : region_column l_ x_ = some r) :
  Calls Try.prog 83 #[v0, v1] k0.w (Ret k0 (IsV r)) := by
 unfold region_column at hr
 refine Ret.ofC ?_
 refine enterK Try.func83 rfl Try.ntmps83 (show 2 ≤ 80 by decide) fun a k hk0 hs hd ha => ?_
 obtain ⟨e0, e1, _⟩ := ha
 replace i0 : (IsV l_) (a.get 0) k := by rw [e0, hk0]; exact i0
 replace i1 : (IsV x_) (a.get 1) k := by rw [e1, hk0]; exact i1
 have hQ : Gb.LetsOut (bodyPost Try.prog Try.f83 (RetC noF k0 (IsV r))) := letsOutC
 have hg : Chg noF k0 k := by rw [hk0]; exact Chg.refl _ k0
 refine stepL 1 (⟨some IsE0, []⟩ :: []) rfl ⟨hg, hs, hd⟩ (by kernel_rfl) ⟨ob1 rfl fun b q h n => ok_assign rfl isE0_nil, trivial⟩ [⟨_, _⟩, ⟨_, _⟩] (fun b q p => ⟨p.ke 0 rfl i0, p.ke 1 rfl i1, trivial⟩) ?_
 rintro a k ⟨⟨hg, hs, hd⟩, i0, i1, _⟩
 refine cutS (fun a' k' => Bs noF k0 80 a' k' ∧ (IsV l_) (a'.get 0) k' ∧ (IsV x_) (a'.get 1) k' ∧ IsOwn 0 109 ([] : List RegionSpan) (a'.get 5) k' ∧ Lo k0 (obF (a'.get 5)) ∧ True) ?_ ?_
 ·intro Q981 hQQ981 hp982
  refine gS 1 (⟨some IsE0, []⟩ :: []) hs (by kernel_rfl) ⟨ob1 rfl fun b q h n => ok_assign rfl isE0_nil, trivial⟩ hQQ981 fun b q p => ?_
  have hgq := hg.then p.grow
  have hsb := p.size.trans hs
  have hdb := p.defers.trans hd
  have j0 := p.ke 0 rfl i0
  have j1 := p.ke 1 rfl i1
  have j5 : IsE0 (b.get 5) q := p.ou 0 5 rfl
  have y5 : Lo k0 (obF (b.get 5)) := j5.lo
  replace j5 : IsOwn 0 109 ([] : List RegionSpan) (b.get 5) q := j5.own0
  exact tail_done (k := q) (hp982 _ _ ⟨⟨hgq, hsb, hdb⟩, j0, j1, j5, y5, trivial⟩)
 rintro a k ⟨⟨hg, hs, hd⟩, i0, i1, i5, n5, _⟩
 refine wp_seq ?_
 refine cutS (fun a' k' => Bs noF k0 80 a' k' ∧ (IsV x_) (a'.get 1) k' ∧ IsOwn 0 109 ([] : List RegionSpan) (a'.get 5) k' ∧ Lo k0 (obF (a'.get 5)) ∧ (IsV l_) (a'.get 12) k' ∧ (IsL l_) (a'.get 13) k' ∧ (IsI 0) (a'.get 14) k' ∧ True) ?_ ?_
 ·intro Q979 hQQ979 hp980
  refine gS 3 (_ :: _ :: ⟨some (IsI 0), []⟩ :: []) hs (by kernel_rfl) ⟨mu rfl i0, o1 [(12, some 0)] rfl fun _ _ h n => ok_len rfl rfl Try.underlying49 (IsV.rd n.1), ob1 rfl fun _ _ h n => ok_move rfl (cI rfl), trivial⟩ hQQ979 fun b q p => ?_
  exact tail_done (k := q) (hp980 _ _ ⟨Bs.post ⟨hg, hs, hd⟩ p, p.ke 1 rfl i1, p.ke 5 rfl i5, (by rw [p.old 5 rfl]; exact n5), p.ou 0 12 rfl, p.ou 1 13 rfl, p.ou 2 14 rfl, trivial⟩)
 rintro a k ⟨⟨hg, hs, hd⟩, i1, i5, n5, i12, i13, i14, _⟩
 refine wp_block ?_
 obtain ⟨f927, hf927, hr⟩ := bind_some hr
 refine cutFe f927 (fun s' a' k' => Bs noF k0 80 a' k' ∧ (IsV x_) (a'.get 1) k' ∧ IsOwn 0 109 s'.1 (a'.get 5) k' ∧ Lo k0 (obF (a'.get 5)) ∧ (IsV l_) (a'.get 12) k' ∧ (IsL l_) (a'.get 13) k' ∧ (IsV s'.2) (a'.get 14) k' ∧ True) (fun i' s' a' k' => (i' = 0 ∧ Bs noF k0 80 a' k' ∧ IsOwn 0 109 s'.1 (a'.get 5) k' ∧ Lo k0 (obF (a'.get 5)) ∧ True)) (fun r' a' k' => bodyPost Try.prog Try.f83 (RetC noF k0 (IsV r')) .ret a' k'.w) ?_ hQ ?_ ?_ ?_
 ·intro Q978 hQQ978 hgo hex hret
  refine sim_loop ?_ _ _ _ _ _ hf927 ⟨⟨hg, hs, hd⟩, i1, i5, n5, i12, i13, i14, trivial⟩ Q978 hQQ978 hgo hex hret
  clear hr hf927 hgo hex hret hQQ978 hQ hg hs hd i1 i12 i13 i14 i5 n5
  intro s903 fl_ a k hr hS Q hQ hgo904 hex905 hret906
  obtain ⟨⟨hg, hs, hd⟩, i1, i5, n5, i12, i13, i14, _⟩ := hS
  unfold region_column_L0 at hr
  refine cutS (fun a' k' => Bs noF k0 80 a' k' ∧ (IsV x_) (a'.get 1) k' ∧ IsOwn 0 109 s903.1 (a'.get 5) k' ∧ Lo k0 (obF (a'.get 5)) ∧ (IsV l_) (a'.get 12) k' ∧ (IsL l_) (a'.get 13) k' ∧ (IsV s903.2) (a'.get 14) k' ∧ (IsV (decide (s903.2 < (l_.length : Int)))) (a'.get 15) k' ∧ True) ?_ ?_
  ·intro Q925 hQQ925 hp926
   refine gS 1 (_ :: []) hs (by kernel_rfl) ⟨o1 [(14, none), (13, none)] rfl fun _ _ h n => ok_lss rfl (up i14 h n.1) (up i13 h n.2.1), trivial⟩ hQQ925 fun b q p => ?_
   exact tail_done (k := q) (hp926 _ _ ⟨Bs.post ⟨hg, hs, hd⟩ p, p.ke 1 rfl i1, p.ke 5 rfl i5, (by rw [p.old 5 rfl]; exact n5), p.ke 12 rfl i12, p.ke 13 rfl i13, p.ke 14 rfl i14, p.ou 0 15 rfl, trivial⟩)
  rintro a k ⟨⟨hg, hs, hd⟩, i1, i5, n5, i12, i13, i14, i15, _⟩
  refine wp_seq ?_
  refine wp_cond_split (isBool i15) (fun hc924 => ?_) (fun hc924 => ?_)
  ·rw [if_pos hc924] at hr
   refine wp_skip ?_
   refine wp_seq ?_
   refine wp_block ?_
   refine wp_seq ?_
   obtain ⟨x908_0, hx908_0, hr⟩ := bind_some hr
   refine cut (fun a' k' => Bs noF k0 80 a' k' ∧ (IsV x_) (a'.get 1) k' ∧ IsOwn 0 109 s903.1 (a'.get 5) k' ∧ Lo k0 (obF (a'.get 5)) ∧ (IsRef x908_0) (a'.get 7) k' ∧ (IsV l_) (a'.get 12) k' ∧ (IsL l_) (a'.get 13) k' ∧ (IsV s903.2) (a'.get 14) k' ∧ True) ?_ hQ ?_
   ·intro Q922 hQQ922 hp923
    refine gS 3 (_ :: _ :: ⟨some (IsBox k.w.heap.size (⟨0, 0, 0, 0⟩ : Rect)), []⟩ :: []) hs (by kernel_rfl) ⟨o1 [(12, none), (14, none)] rfl fun _ _ h n => ok_indexAddr rfl Try.underlying49 ty35 (IsV.rd (up i12 h n.1)) (up i14 h n.2.1) hx908_0, o1 [(16, some 0)] rfl fun _ _ h n => ok_load rfl ty35 n.1, ob1 rfl fun _ _ h n => ok_alloc _ h.size rfl z35, trivial⟩ hQQ922 fun b q p => ?_
    have hgq := hg.then p.grow
    have hsb := p.size.trans hs
    have hdb := p.defers.trans hd
    have j1 := p.ke 1 rfl i1
    have j5 := p.ke 5 rfl i5
    have y5 : Lo k0 (obF (b.get 5)) := by rw [p.old 5 rfl]; exact n5
    obtain ⟨b7, j7, x7, z7⟩ : (IsBox k.w.heap.size (⟨0, 0, 0, 0⟩ : Rect)) (b.get 7) q := p.ou 2 7 rfl
    replace x7 : Lo k (Eq b7) := Lo.eq x7
    have y7 : Lo k0 (Eq b7) := x7.chg hg
    have j12 := p.ke 12 rfl i12
    have j13 := p.ke 13 rfl i13
    have j14 := p.ke 14 rfl i14
    have j17 : (IsV x908_0) (b.get 17) q := p.ou 1 17 rfl
    have w5_7 : Apart (obF (b.get 5)) (Eq b7) := Apart.new (by rw [p.old 5 rfl]; exact i5.ltF) x7
    have hns := z7.nshF
    refine tail_storeB (i := 3) rfl rfl rfl rfl szf35 (Upd.self (α := Rect)) j7 z7 j17 fun q2 hch hz => ?_
    replace hgq := hgq.step hch y7.wr
    have hle := hch.le hns
    replace j1 := Pers.pers hle j1
    replace j5 := j5.keep hch w5_7 hns
    replace j12 := Pers.pers hle j12
    replace j13 := Pers.pers hle j13
    replace j14 := Pers.pers hle j14
    replace j17 := Pers.pers hle j17
    replace z7 := hz
    clear hns hle hch
    obtain ⟨q, hqq⟩ : ∃ q, q = q2 := ⟨q2, rfl⟩
    subst hqq
    obtain ⟨q2, hsh, jn⟩ := z7.give
    replace j1 := Pers.pers hsh.le j1
    replace j5 := j5.handed hsh w5_7
    replace j12 := Pers.pers hsh.le j12
    replace j13 := Pers.pers hsh.le j13
    replace j14 := Pers.pers hsh.le j14
    rw [← j7] at jn
    replace j7 := jn
    replace hgq := hgq.hand hsh y7.wr
    rw [← hsh.w]
    clear hsh
    obtain ⟨q, hqq⟩ : ∃ q, q = q2 := ⟨q2, rfl⟩
    subst hqq
    exact tail_done (k := q) (hp923 _ _ ⟨⟨hgq, hsb, hdb⟩, j1, j5, y5, j7, j12, j13, j14, trivial⟩)
   rintro a k ⟨⟨hg, hs, hd⟩, i1, i5, n5, i7, i12, i13, i14, _⟩
   refine cutS (fun a' k' => Bs noF k0 80 a' k' ∧ (IsV x_) (a'.get 1) k' ∧ IsOwn 0 109 s903.1 (a'.get 5) k' ∧ Lo k0 (obF (a'.get 5)) ∧ (IsRef x908_0) (a'.get 7) k' ∧ (IsV l_) (a'.get 12) k' ∧ (IsL l_) (a'.get 13) k' ∧ (IsV s903.2) (a'.get 14) k' ∧ (IsV ((decide (x908_0.X0 ≤ x_)) && (decide (x_ < x908_0.X1)))) (a'.get 27) k' ∧ True) ?_ ?_
   ·intro Q920 hQQ920 hp921
    refine gS 10 (_ :: _ :: _ :: _ :: _ :: _ :: _ :: _ :: _ :: _ :: []) hs (by kernel_rfl) ⟨o1 [(7, none)] rfl fun _ _ h n => ok_fieldAddr rfl fo35_0 (at_Rect_0 _) ((up i7 h n.1)).ptr, o1 [(18, some 0)] rfl fun _ _ h n => ok_load rfl ty3 n.1, mu rfl i1, o1 [(19, some 1), (20, some 2)] rfl fun _ _ h n => ok_leq rfl n.1 n.2.1, cm 3 rfl rfl, mT rfl rfl i1, gT [(7, none)] rfl rfl fun hp _ _ h n => ok_fieldAddr rfl fo35_2 (at_Rect_2 _) ((up i7 h n.1)).ptr, gT [(24, some 6)] rfl rfl fun hp _ _ h n => ok_load rfl ty3 (Gd.get n.1 hp), gT [(23, some 5), (25, some 7)] rfl rfl fun hp _ _ h n => ok_lss rfl (Gd.get n.1 hp) (Gd.get n.2.1 hp), o1 [(22, some 4), (26, some 8)] rfl fun _ _ h n => ok_pickAnd rfl n.1 (Gd.get n.2.1) (cB rfl), trivial⟩ hQQ920 fun b q p => ?_
    exact tail_done (k := q) (hp921 _ _ ⟨Bs.post ⟨hg, hs, hd⟩ p, p.ke 1 rfl i1, p.ke 5 rfl i5, (by rw [p.old 5 rfl]; exact n5), p.ke 7 rfl i7, p.ke 12 rfl i12, p.ke 13 rfl i13, p.ke 14 rfl i14, p.ou 9 27 rfl, trivial⟩)
   rintro a k ⟨⟨hg, hs, hd⟩, i1, i5, n5, i7, i12, i13, i14, i27, _⟩
   obtain ⟨s910, hs910, hr⟩ := bind_some hr
   refine cut (fun a' k' => Bs noF k0 80 a' k' ∧ (IsV x_) (a'.get 1) k' ∧ IsOwn 0 109 s910 (a'.get 5) k' ∧ Lo k0 (obF (a'.get 5)) ∧ (IsV l_) (a'.get 12) k' ∧ (IsL l_) (a'.get 13) k' ∧ (IsV s903.2) (a'.get 14) k' ∧ True) ?_ hQ ?_
   ·intro Q919 hQQ919 hp911
    replace hr := hs910
    clear hQ
    have hQ := hQQ919
    refine wp_cond_split (isBool i27) (fun hc915 => ?_) (fun hc915 => ?_)
    ·rw [if_pos hc915] at hr
     obtain ⟨x912_7, hx912_7, hr⟩ := bind_some hr
     refine cut (fun a' k' => Bs noF k0 80 a' k' ∧ (IsV x_) (a'.get 1) k' ∧ IsOwn 0 109 x912_7 (a'.get 5) k' ∧ Lo k0 (obF (a'.get 5)) ∧ (IsV l_) (a'.get 12) k' ∧ (IsL l_) (a'.get 13) k' ∧ (IsV s903.2) (a'.get 14) k' ∧ True) ?_ hQ ?_
     ·intro Q913 hQQ913 hp914
      refine gS 7 (⟨some (OwnAt (a.get 5) 0 109 s903.1), [(5, none)]⟩ :: _ :: _ :: _ :: _ :: ⟨some (IsV (⟨x908_0.Y0, x908_0.Y1⟩ : RegionSpan)), [(30, some 2), (32, some 4)]⟩ :: ⟨some (IsV (α := (List RegionSpan)) ([(⟨x908_0.Y0, x908_0.Y1⟩ : RegionSpan)])), [(33, some 5)]⟩ :: []) hs (by kernel_rfl) ⟨ob1 rfl fun _ _ h n => ok_moveOA (.inl rfl) (ownAt n.1 (up i5 h n.1)), o1 [(7, none)] rfl fun _ _ h n => ok_fieldAddr rfl fo35_1 (at_Rect_1 _) ((up i7 h n.1)).ptr, o1 [(29, some 1)] rfl fun _ _ h n => ok_load rfl ty3 n.1, o1 [(7, none)] rfl fun _ _ h n => ok_fieldAddr rfl fo35_3 (at_Rect_3 _) ((up i7 h n.1)).ptr, o1 [(31, some 3)] rfl fun _ _ h n => ok_load rfl ty3 n.1, ob1 rfl fun _ _ h n => ok_build rfl (bld109_0_1 n.1 n.2.1), ob1 rfl fun _ _ h n => ok_buildSlice rfl Try.underlying107 eo109 rfl (by decide) (by decide) ⟨rfl, n.1, trivial⟩, trivial⟩ hQQ913 fun b q p => ?_
      have hgq := hg.then p.grow
      have hsb := p.size.trans hs
      have hdb := p.defers.trans hd
      have j1 := p.ke 1 rfl i1
      have j12 := p.ke 12 rfl i12
      have j13 := p.ke 13 rfl i13
      have j14 := p.ke 14 rfl i14
      have e28 : b.get 28 = a.get 5 := (p.ou 0 28 rfl).1
      have j28 : IsOwn 0 109 s903.1 (b.get 28) q := (p.ou 0 28 rfl).2
      have y28 : Lo k0 (obF (b.get 28)) := by rw [e28]; exact n5
      have j34 : (IsV (α := (List RegionSpan)) ([(⟨x908_0.Y0, x908_0.Y1⟩ : RegionSpan)])) (b.get 34) q := p.ou 6 34 rfl
      have hns := j28.nshF
      refine tail_appendS (i := 7) (d := 35) rfl rfl rfl rfl (by rw [hsb]; decide) (e := 109) Try.underlying107 eo109 j28 (IsV.rd j34) hx912_7 fun b2 q2 hsz hdf hoth hch hown hob => ?_
      have hle := hch.le hns
      have yn : Lo k0 (obF (b2.get 35)) := y28.app hgq hob
      replace j1 := Pers.pers hle j1
      replace j12 := Pers.pers hle j12
      replace j13 := Pers.pers hle j13
      replace j14 := Pers.pers hle j14
      replace j34 := Pers.pers hle j34
      replace hgq := hgq.step hch y28.wr
      rw [← hoth 1 (by decide)] at j1
      rw [← hoth 12 (by decide)] at j12
      rw [← hoth 13 (by decide)] at j13
      rw [← hoth 14 (by decide)] at j14
      rw [← hoth 34 (by decide)] at j34
      have j35 := hown
      have y35 := yn
      replace hsb := hsz.trans hsb
      replace hdb := hdf.trans hdb
      clear hle hch hown hob hns yn hsz hdf hoth
      obtain ⟨b, hbb⟩ : ∃ b, b = b2 := ⟨b2, rfl⟩
      subst hbb
      obtain ⟨q, hqq⟩ : ∃ q, q = q2 := ⟨q2, rfl⟩
      subst hqq
      refine tail_assign (i := 8) (d := 5) rfl rfl (.inl rfl) rfl (by rw [hsb]; decide) fun b2 hsz hdf hnew hoth => ?_
      have jn : (IsOwn 0 109 x912_7) (b2.get 5) q := by rw [hnew]; exact j35
      have yn : Lo k0 (obF (b2.get 5)) := by rw [hnew]; exact y35
      rw [← hoth 1 (by decide)] at j1
      rw [← hoth 12 (by decide)] at j12
      rw [← hoth 13 (by decide)] at j13
      rw [← hoth 14 (by decide)] at j14
      rw [← hoth 34 (by decide)] at j34
      have j5 := jn
      have y5 := yn
      replace hsb := hsz.trans hsb
      replace hdb := hdf.trans hdb
      clear hsz hdf hoth
      obtain ⟨b, hbb⟩ : ∃ b, b = b2 := ⟨b2, rfl⟩
      subst hbb
      exact tail_done (k := q) (hp914 _ _ ⟨⟨hgq, hsb, hdb⟩, j1, j5, y5, j12, j13, j14, trivial⟩)
     rintro a k ⟨⟨hg, hs, hd⟩, i1, i5, n5, i12, i13, i14, _⟩
     obtain rfl := Option.some.inj hr
     exact hp911 _ _ ⟨⟨hg, hs, hd⟩, i1, i5, n5, i12, i13, i14, trivial⟩
    rw [if_neg (by rw [hc915]; decide)] at hr
    refine wp_skip ?_
    obtain rfl := Option.some.inj hr
    exact hp911 _ _ ⟨⟨hg, hs, hd⟩, i1, i5, n5, i12, i13, i14, trivial⟩
   clear hs910
   rintro a k ⟨⟨hg, hs, hd⟩, i1, i5, n5, i12, i13, i14, _⟩
   obtain ⟨x916_0, hx916_0, hr⟩ := bind_some hr
   refine cut (fun a' k' => Bs noF k0 80 a' k' ∧ (IsV x_) (a'.get 1) k' ∧ IsOwn 0 109 s910 (a'.get 5) k' ∧ Lo k0 (obF (a'.get 5)) ∧ (IsV l_) (a'.get 12) k' ∧ (IsL l_) (a'.get 13) k' ∧ (IsV x916_0) (a'.get 14) k' ∧ True) ?_ hQ ?_
   ·intro Q917 hQQ917 hp918
    refine gS 2 (_ :: _ :: []) hs (by kernel_rfl) ⟨o1 [(14, none)] rfl fun _ _ h n => ok_add rfl (up i14 h n.1) (cI rfl) hx916_0, cm 0 rfl rfl, trivial⟩ hQQ917 fun b q p => ?_
    exact tail_done (k := q) (hp918 _ _ ⟨Bs.post ⟨hg, hs, hd⟩ p, p.ke 1 rfl i1, p.ke 5 rfl i5, (by rw [p.old 5 rfl]; exact n5), p.ke 12 rfl i12, p.ke 13 rfl i13, p.ou 1 14 rfl, trivial⟩)
   rintro a k ⟨⟨hg, hs, hd⟩, i1, i5, n5, i12, i13, i14, _⟩
   exact hgo904 _ _ _ (Option.some.inj hr).symm ⟨⟨hg, hs, hd⟩, i1, i5, n5, i12, i13, i14, trivial⟩
  rw [if_neg (by rw [hc924]; decide)] at hr
  refine wp_exit ?_
  exact hex905 _ _ _ _ (Option.some.inj hr).symm ⟨rfl, ⟨hg, hs, hd⟩, i5, n5, trivial⟩
 ·rintro r977 a k rfl hR
  dsimp only at hr
  obtain rfl := Option.some.inj hr
  exact hR
 ·rintro _ _ _ rfl _
  simp at hr
 clear hf927
 rintro _ s928 a k rfl ⟨rfl, ⟨hg, hs, hd⟩, i5, n5, _⟩
 dsimp only at hr
 refine wp_seq ?_
 obtain ⟨x929_1, hx929_1, hr⟩ := bind_some hr
 refine cut (fun a' k' => Bs noF k0 80 a' k' ∧ IsOwn 0 109 x929_1 (a'.get 5) k' ∧ Lo k0 (obF (a'.get 5)) ∧ True) ?_ hQ ?_
 ·intro Q975 hQQ975 hp976
  refine gS 1 (⟨some (OwnAt (a.get 5) 0 109 s928.1), [(5, none)]⟩ :: []) hs (by kernel_rfl) ⟨ob1 rfl fun _ _ h n => ok_moveOA (.inl rfl) (ownAt n.1 (up i5 h n.1)), trivial⟩ hQQ975 fun b q p => ?_
  have hgq := hg.then p.grow
  have hsb := p.size.trans hs
  have hdb := p.defers.trans hd
  have j5 := p.ke 5 rfl i5
  have y5 : Lo k0 (obF (b.get 5)) := by rw [p.old 5 rfl]; exact n5
  have e37 : b.get 37 = a.get 5 := (p.ou 0 37 rfl).1
  have j37 : IsOwn 0 109 s928.1 (b.get 37) q := (p.ou 0 37 rfl).2
  have y37 : Lo k0 (obF (b.get 37)) := by rw [e37]; exact n5
  have hns := j37.nshF
  have eS : b.get 5 = b.get 37 := (p.old 5 rfl).trans e37.symm
  refine tail_call (F := obF (b.get 37)) (i := 1) (d := 38) rfl rfl rfl rfl (by rw [hsb]; decide) Try.call100 hQQ975 (sortSpans_ok j37 hx929_1) fun b2 q2 hsz hdf hoth hch hres => ?_
  have hle := hch.le hns
  replace hgq := hgq.step hch y37.wr
  replace j5 : IsOwn 0 109 x929_1 (b.get 5) q2 := by rw [eS]; exact hres
  clear hres eS
  rw [← hoth 5 (by decide)] at j5
  rw [← hoth 5 (by decide)] at y5
  replace hsb := hsz.trans hsb
  replace hdb := hdf.trans hdb
  clear hle hch hns hsz hdf hoth
  obtain ⟨b, hbb⟩ : ∃ b, b = b2 := ⟨b2, rfl⟩
  subst hbb
  obtain ⟨q, hqq⟩ : ∃ q, q = q2 := ⟨q2, rfl⟩
  subst hqq
  exact tail_done (k := q) (hp976 _ _ ⟨⟨hgq, hsb, hdb⟩, j5, y5, trivial⟩)
 rintro a k ⟨⟨hg, hs, hd⟩, i5, n5, _⟩
 refine wp_seq ?_
 obtain ⟨kk, sh930, ii5⟩ := i5.give
 replace i5 := ii5
 replace hg := hg.hand sh930 n5.wr
 rw [← sh930.w]
 clear sh930
 obtain ⟨k, hkk⟩ : ∃ k, k = kk := ⟨kk, rfl⟩
 subst hkk
 refine cut (fun a' k' => Bs noF k0 80 a' k' ∧ (IsV x929_1) (a'.get 5) k' ∧ IsOwn 0 109 ([] : List RegionSpan) (a'.get 8) k' ∧ Lo k0 (obF (a'.get 8)) ∧ True) ?_ hQ ?_
 ·intro Q973 hQQ973 hp974
  refine gS 1 (⟨some IsE0, []⟩ :: []) hs (by kernel_rfl) ⟨ob1 rfl fun b q h n => ok_assign rfl isE0_nil, trivial⟩ hQQ973 fun b q p => ?_
  have hgq := hg.then p.grow
  have hsb := p.size.trans hs
  have hdb := p.defers.trans hd
  have j5 := p.ke 5 rfl i5
  have j8 : IsE0 (b.get 8) q := p.ou 0 8 rfl
  have y8 : Lo k0 (obF (b.get 8)) := j8.lo
  replace j8 : IsOwn 0 109 ([] : List RegionSpan) (b.get 8) q := j8.own0
  exact tail_done (k := q) (hp974 _ _ ⟨⟨hgq, hsb, hdb⟩, j5, j8, y8, trivial⟩)
 rintro a k ⟨⟨hg, hs, hd⟩, i5, i8, n8, _⟩
 refine wp_seq ?_
 refine cutS (fun a' k' => Bs noF k0 80 a' k' ∧ IsOwn 0 109 ([] : List RegionSpan) (a'.get 8) k' ∧ Lo k0 (obF (a'.get 8)) ∧ (IsV x929_1) (a'.get 39) k' ∧ (IsL x929_1) (a'.get 40) k' ∧ (IsI 0) (a'.get 41) k' ∧ True) ?_ ?_
 ·intro Q971 hQQ971 hp972
  refine gS 3 (_ :: _ :: ⟨some (IsI 0), []⟩ :: []) hs (by kernel_rfl) ⟨mu rfl i5, o1 [(39, some 0)] rfl fun _ _ h n => ok_len rfl rfl Try.underlying107 (IsV.rd n.1), ob1 rfl fun _ _ h n => ok_move rfl (cI rfl), trivial⟩ hQQ971 fun b q p => ?_
  exact tail_done (k := q) (hp972 _ _ ⟨Bs.post ⟨hg, hs, hd⟩ p, p.ke 8 rfl i8, (by rw [p.old 8 rfl]; exact n8), p.ou 0 39 rfl, p.ou 1 40 rfl, p.ou 2 41 rfl, trivial⟩)
 rintro a k ⟨⟨hg, hs, hd⟩, i8, n8, i39, i40, i41, _⟩
 refine wp_block ?_
 obtain ⟨f964, hf964, hr⟩ := bind_some hr
 refine cutFe f964 (fun s' a' k' => Bs noF k0 80 a' k' ∧ IsOwn 0 109 s'.1 (a'.get 8) k' ∧ Lo k0 (obF (a'.get 8)) ∧ (IsV x929_1) (a'.get 39) k' ∧ (IsL x929_1) (a'.get 40) k' ∧ (IsV s'.2) (a'.get 41) k' ∧ True) (fun i' s' a' k' => (i' = 2 ∧ Bs noF k0 80 a' k' ∧ (IsV s'.1) (a'.get 8) k' ∧ True)) (fun r' a' k' => bodyPost Try.prog Try.f83 (RetC noF k0 (IsV r')) .ret a' k'.w) ?_ hQ ?_ ?_ ?_
 ·intro Q970 hQQ970 hgo hex hret
  refine sim_loop ?_ _ _ _ _ _ hf964 ⟨⟨hg, hs, hd⟩, i8, n8, i39, i40, i41, trivial⟩ Q970 hQQ970 hgo hex hret
  clear hr hf964 hgo hex hret hQQ970 hQ hg hs hd i39 i40 i41 i8 n8
  intro s933 fl_ a k hr hS Q hQ hgo934 hex935 hret936
  obtain ⟨⟨hg, hs, hd⟩, i8, n8, i39, i40, i41, _⟩ := hS
  unfold region_column_L1 at hr
  refine cutS (fun a' k' => Bs noF k0 80 a' k' ∧ IsOwn 0 109 s933.1 (a'.get 8) k' ∧ Lo k0 (obF (a'.get 8)) ∧ (IsV x929_1) (a'.get 39) k' ∧ (IsL x929_1) (a'.get 40) k' ∧ (IsV s933.2) (a'.get 41) k' ∧ (IsV (decide (s933.2 < (x929_1.length : Int)))) (a'.get 42) k' ∧ True) ?_ ?_
  ·intro Q962 hQQ962 hp963
   refine gS 1 (_ :: []) hs (by kernel_rfl) ⟨o1 [(41, none), (40, none)] rfl fun _ _ h n => ok_lss rfl (up i41 h n.1) (up i40 h n.2.1), trivial⟩ hQQ962 fun b q p => ?_
   exact tail_done (k := q) (hp963 _ _ ⟨Bs.post ⟨hg, hs, hd⟩ p, p.ke 8 rfl i8, (by rw [p.old 8 rfl]; exact n8), p.ke 39 rfl i39, p.ke 40 rfl i40, p.ke 41 rfl i41, p.ou 0 42 rfl, trivial⟩)
  rintro a k ⟨⟨hg, hs, hd⟩, i8, n8, i39, i40, i41, i42, _⟩
  refine wp_seq ?_
  refine wp_cond_split (isBool i42) (fun hc961 => ?_) (fun hc961 => ?_)
  ·rw [if_pos hc961] at hr
   refine wp_skip ?_
   refine wp_seq ?_
   refine wp_block ?_
   refine wp_seq ?_
   obtain ⟨x938_0, hx938_0, hr⟩ := bind_some hr
   refine cut (fun a' k' => Bs noF k0 80 a' k' ∧ IsOwn 0 109 s933.1 (a'.get 8) k' ∧ Lo k0 (obF (a'.get 8)) ∧ (IsRef x938_0) (a'.get 10) k' ∧ (IsV x929_1) (a'.get 39) k' ∧ (IsL x929_1) (a'.get 40) k' ∧ (IsV s933.2) (a'.get 41) k' ∧ True) ?_ hQ ?_
   ·intro Q958 hQQ958 hp959
    refine gS 3 (_ :: _ :: ⟨some (IsBox k.w.heap.size (⟨0, 0⟩ : RegionSpan)), []⟩ :: []) hs (by kernel_rfl) ⟨o1 [(39, none), (41, none)] rfl fun _ _ h n => ok_indexAddr rfl Try.underlying107 ty109 (IsV.rd (up i39 h n.1)) (up i41 h n.2.1) hx938_0, o1 [(43, some 0)] rfl fun _ _ h n => ok_load rfl ty109 n.1, ob1 rfl fun _ _ h n => ok_alloc _ h.size rfl z109, trivial⟩ hQQ958 fun b q p => ?_
    have hgq := hg.then p.grow
    have hsb := p.size.trans hs
    have hdb := p.defers.trans hd
    have j8 := p.ke 8 rfl i8
    have y8 : Lo k0 (obF (b.get 8)) := by rw [p.old 8 rfl]; exact n8
    obtain ⟨b10, j10, x10, z10⟩ : (IsBox k.w.heap.size (⟨0, 0⟩ : RegionSpan)) (b.get 10) q := p.ou 2 10 rfl
    replace x10 : Lo k (Eq b10) := Lo.eq x10
    have y10 : Lo k0 (Eq b10) := x10.chg hg
    have j39 := p.ke 39 rfl i39
    have j40 := p.ke 40 rfl i40
    have j41 := p.ke 41 rfl i41
    have j44 : (IsV x938_0) (b.get 44) q := p.ou 1 44 rfl
    have w8_10 : Apart (obF (b.get 8)) (Eq b10) := Apart.new (by rw [p.old 8 rfl]; exact i8.ltF) x10
    have hns := z10.nshF
    refine tail_storeB (i := 3) rfl rfl rfl rfl szf109 (Upd.self (α := RegionSpan)) j10 z10 j44 fun q2 hch hz => ?_
    replace hgq := hgq.step hch y10.wr
    have hle := hch.le hns
    replace j8 := j8.keep hch w8_10 hns
    replace j39 := Pers.pers hle j39
    replace j40 := Pers.pers hle j40
    replace j41 := Pers.pers hle j41
    replace j44 := Pers.pers hle j44
    replace z10 := hz
    clear hns hle hch
    obtain ⟨q, hqq⟩ : ∃ q, q = q2 := ⟨q2, rfl⟩
    subst hqq
    obtain ⟨q2, hsh, jn⟩ := z10.give
    replace j8 := j8.handed hsh w8_10
    replace j39 := Pers.pers hsh.le j39
    replace j40 := Pers.pers hsh.le j40
    replace j41 := Pers.pers hsh.le j41
    rw [← j10] at jn
    replace j10 := jn
    replace hgq := hgq.hand hsh y10.wr
    rw [← hsh.w]
    clear hsh
    obtain ⟨q, hqq⟩ : ∃ q, q = q2 := ⟨q2, rfl⟩
    subst hqq
    exact tail_done (k := q) (hp959 _ _ ⟨⟨hgq, hsb, hdb⟩, j8, y8, j10, j39, j40, j41, trivial⟩)
   rintro a k ⟨⟨hg, hs, hd⟩, i8, n8, i10, i39, i40, i41, _⟩
   refine cutS (fun a' k' => Bs noF k0 80 a' k' ∧ IsOwn 0 109 s933.1 (a'.get 8) k' ∧ Lo k0 (obF (a'.get 8)) ∧ (IsRef x938_0) (a'.get 10) k' ∧ (IsI (s933.1.length : Int)) (a'.get 11) k' ∧ (IsV x929_1) (a'.get 39) k' ∧ (IsL x929_1) (a'.get 40) k' ∧ (IsV s933.2) (a'.get 41) k' ∧ True) ?_ ?_
   ·intro Q956 hQQ956 hp957
    refine gS 3 (⟨some (OwnAt (a.get 8) 0 109 s933.1), [(8, none)]⟩ :: _ :: _ :: []) hs (by kernel_rfl) ⟨ob1 rfl fun _ _ h n => ok_moveOA (.inl rfl) (ownAt n.1 (up i8 h n.1)), o1 [(45, some 0)] rfl fun _ _ h n => ok_len rfl rfl Try.underlying107 (IsOwn.rd (n.1).2), cp 1 rfl rfl, trivial⟩ hQQ956 fun b q p => ?_
    exact tail_done (k := q) (hp957 _ _ ⟨Bs.post ⟨hg, hs, hd⟩ p, p.ke 8 rfl i8, (by rw [p.old 8 rfl]; exact n8), p.ke 10 rfl i10, p.ou 2 11 rfl, p.ke 39 rfl i39, p.ke 40 rfl i40, p.ke 41 rfl i41, trivial⟩)
   rintro a k ⟨⟨hg, hs, hd⟩, i8, n8, i10, i11, i39, i40, i41, _⟩
   refine wp_seq ?_
   obtain ⟨x940_12, hx940_12, hr⟩ := bind_some hr
   obtain ⟨x940_7, hx940_7, hx940_12⟩ := ite_bind hx940_12
   obtain ⟨x940_8, hx940_8, hx940_12⟩ := ite_bind hx940_12
   refine cut (fun a' k' => Bs noF k0 80 a' k' ∧ IsOwn 0 109 s933.1 (a'.get 8) k' ∧ Lo k0 (obF (a'.get 8)) ∧ (IsRef x938_0) (a'.get 10) k' ∧ (IsI (s933.1.length : Int)) (a'.get 11) k' ∧ (IsV x929_1) (a'.get 39) k' ∧ (IsL x929_1) (a'.get 40) k' ∧ (IsV s933.2) (a'.get 41) k' ∧ (IsV x940_12) (a'.get 59) k' ∧ True) ?_ hQ ?_
   ·intro Q954 hQQ954 hp955
    refine region (a0 := a) (k0 := k) (n := 80) (m := 13) (⟨some (IsI (s933.1.length : Int)), [(11, none)]⟩ :: ⟨some (IsV (decide (0 < (s933.1.length : Int)))), [(47, some 0)]⟩ :: ⟨some (IsV (decide (0 < (s933.1.length : Int)))), [(48, some 1)]⟩ :: ⟨some (Gd ((decide (0 < (s933.1.length : Int))) = true) (IsPtr x938_0.from_)), [(10, none)]⟩ :: ⟨some (Gd ((decide (0 < (s933.1.length : Int))) = true) (IsV x938_0.from_)), [(50, some 3)]⟩ :: ⟨some (Gd ((decide (0 < (s933.1.length : Int))) = true) (OwnAt (a.get 8) 0 109 s933.1)), [(8, none)]⟩ :: ⟨some (Gd ((decide (0 < (s933.1.length : Int))) = true) (IsI (s933.1.length : Int))), [(11, none)]⟩ :: ⟨some (Gd ((decide (0 < (s933.1.length : Int))) = true) (IsV x940_7)), [(53, some 6)]⟩ :: ⟨some (Gd ((decide (0 < (s933.1.length : Int))) = true) (IsPtr x940_8)), [(52, some 5), (54, some 7)]⟩ :: ⟨some (Gd ((decide (0 < (s933.1.length : Int))) = true) (IsPtr x940_8.to_)), [(55, some 8)]⟩ :: ⟨some (Gd ((decide (0 < (s933.1.length : Int))) = true) (IsV x940_8.to_)), [(56, some 9)]⟩ :: ⟨some (Gd ((decide (0 < (s933.1.length : Int))) = true) (IsV (decide (x938_0.from_ ≤ x940_8.to_)))), [(51, some 4), (57, some 10)]⟩ :: ⟨some (IsV x940_12), [(49, some 2), (58, some 11)]⟩ :: []) hmix hs (by kernel_rfl) ⟨ob1 rfl fun b q hk hn => ok_move rfl (up i11 hk hn.1), ob1 rfl fun b q hk hn => ok_gtr rfl hn.1 (isV_int.2 rfl), ob1 rfl fun b q hk hn => ok_move rfl hn.1, gdT rfl rfl fun hp b q hk hn => ok_fieldAddr rfl fo109_0 (at_RegionSpan_0 _) ((up i10 hk hn.1)).ptr, gdT rfl rfl fun hp b q hk hn => ok_load rfl ty3 (Gd.get hn.1 hp), gdT rfl rfl fun hp b q hk hn => ok_moveOA (.inl rfl) (ownAt hn.1 (up i8 hk hn.1)), gdT rfl rfl fun hp b q hk hn => ok_move rfl (up i11 hk hn.1), gdT rfl rfl fun hp b q hk hn => ok_sub rfl (Gd.get hn.1 hp) (isV_int.2 rfl) (hx940_7 hp), gdT rfl rfl fun hp b q hk hn => ok_indexAddr rfl Try.underlying107 ty109 (IsOwn.rd ((Gd.get hn.1 hp)).2) (Gd.get hn.2.1 hp) (hx940_8 hp), gdT rfl rfl fun hp b q hk hn => ok_fieldAddr rfl fo109_1 (at_RegionSpan_1 _) (Gd.get hn.1 hp), gdT rfl rfl fun hp b q hk hn => ok_load rfl ty3 (Gd.get hn.1 hp), gdT rfl rfl fun hp b q hk hn => ok_leq rfl (Gd.get hn.1 hp) (Gd.get hn.2.1 hp), ob1 rfl fun b q hk hn => ok_pickM rfl hn.1 hx940_12 (fun hm => (Gd.get hn.2.1 hm)) (fun _ => (isV_bool.2 rfl)), trivial⟩ hQQ954 fun b q p => ?_
    exact tail_done (k := q) (hp955 _ _ ⟨Bs.post ⟨hg, hs, hd⟩ p, p.ke 8 rfl i8, (by rw [p.old 8 rfl]; exact n8), p.ke 10 rfl i10, p.ke 11 rfl i11, p.ke 39 rfl i39, p.ke 40 rfl i40, p.ke 41 rfl i41, p.ou 12 59 rfl, trivial⟩)
   rintro a k ⟨⟨hg, hs, hd⟩, i8, n8, i10, i11, i39, i40, i41, i59, _⟩
   obtain ⟨s941, hs941, hr⟩ := bind_some hr
   refine cut (fun a' k' => Bs noF k0 80 a' k' ∧ IsOwn 0 109 s941 (a'.get 8) k' ∧ Lo k0 (obF (a'.get 8)) ∧ (IsV x929_1) (a'.get 39) k' ∧ (IsL x929_1) (a'.get 40) k' ∧ (IsV s933.2) (a'.get 41) k' ∧ True) ?_ hQ ?_
   ·intro Q953 hQQ953 hp942
    replace hr := hs941
    clear hQ
    have hQ := hQQ953
    refine wp_cond_split (isBool i59) (fun hc949 => ?_) (fun hc949 => ?_)
    ·rw [if_pos hc949] at hr
     obtain ⟨x943_2, hx943_2, hr⟩ := bind_some hr
     obtain ⟨x943_5, hx943_5, hr⟩ := bind_some hr
     obtain ⟨x943_6, hx943_6, hr⟩ := bind_some hr
     obtain ⟨x943_12, hx943_12, hr⟩ := bind_some hr
     obtain ⟨x943_14, hx943_14, hr⟩ := bind_some hr
     refine cut (fun a' k' => Bs noF k0 80 a' k' ∧ IsOwn 0 109 x943_14 (a'.get 8) k' ∧ Lo k0 (obF (a'.get 8)) ∧ (IsV x929_1) (a'.get 39) k' ∧ (IsL x929_1) (a'.get 40) k' ∧ (IsV s933.2) (a'.get 41) k' ∧ True) ?_ hQ ?_
     ·intro Q944 hQQ944 hp945
      refine region (a0 := a) (k0 := k) (n := 80) (m := 14) (⟨some (OwnAt (a.get 8) 0 109 s933.1), [(8, none)]⟩ :: ⟨some (IsI (s933.1.length : Int)), [(11, none)]⟩ :: ⟨some (IsV x943_2), [(61, some 1)]⟩ :: ⟨some (OwnAt (a.get 8) 0 109 s933.1), [(8, none)]⟩ :: ⟨some (IsI (s933.1.length : Int)), [(11, none)]⟩ :: ⟨some (IsV x943_5), [(64, some 4)]⟩ :: ⟨some (IsPtr x943_6), [(63, some 3), (65, some 5)]⟩ :: ⟨some (IsPtr x943_6.to_), [(66, some 6)]⟩ :: ⟨some (IsV x943_6.to_), [(67, some 7)]⟩ :: ⟨some (IsPtr x938_0.to_), [(10, none)]⟩ :: ⟨some (IsV x938_0.to_), [(69, some 9)]⟩ :: ⟨some (IsI (max x943_6.to_ x938_0.to_)), [(68, some 8), (70, some 10)]⟩ :: ⟨some (IsAdrO (a.get 8) ((x943_2).toNat * Enc.sz RegionSpan)), [(60, some 0), (62, some 2)]⟩ :: ⟨some (IsAdrO (a.get 8) ((x943_2).toNat * Enc.sz RegionSpan + 1)), [(72, some 12)]⟩ :: []) hmix hs (by kernel_rfl) ⟨ob1 rfl fun b q hk hn => ok_moveOA (.inl rfl) (ownAt hn.1 (up i8 hk hn.1)), ob1 rfl fun b q hk hn => ok_move rfl (up i11 hk hn.1), ob1 rfl fun b q hk hn => ok_sub rfl hn.1 (isV_int.2 rfl) hx943_2, ob1 rfl fun b q hk hn => ok_moveOA (.inl rfl) (ownAt hn.1 (up i8 hk hn.1)), ob1 rfl fun b q hk hn => ok_move rfl (up i11 hk hn.1), ob1 rfl fun b q hk hn => ok_sub rfl hn.1 (isV_int.2 rfl) hx943_5, ob1 rfl fun b q hk hn => ok_indexAddr rfl Try.underlying107 ty109 (IsOwn.rd (hn.1).2) hn.2.1 hx943_6, ob1 rfl fun b q hk hn => ok_fieldAddr rfl fo109_1 (at_RegionSpan_1 _) hn.1, ob1 rfl fun b q hk hn => ok_load rfl ty3 hn.1, ob1 rfl fun b q hk hn => ok_fieldAddr rfl fo109_1 (at_RegionSpan_1 _) ((up i10 hk hn.1)).ptr, ob1 rfl fun b q hk hn => ok_load rfl ty3 hn.1, ob1 rfl fun b q hk hn => ok_max2 rfl hn.1 hn.2.1, ob1 rfl fun b q hk hn => ok_indexO rfl Try.underlying107 ty109 hn.1 hn.2.1 hx943_12, ob1 rfl fun b q hk hn => ok_fieldAdrO rfl fo109_1 hn.1, trivial⟩ hQQ944 fun b q p => ?_
      have hgq := hg.then p.grow
      have hsb := p.size.trans hs
      have hdb := p.defers.trans hd
      have j8 := p.ke 8 rfl i8
      have y8 : Lo k0 (obF (b.get 8)) := by rw [p.old 8 rfl]; exact n8
      have j39 := p.ke 39 rfl i39
      have j40 := p.ke 40 rfl i40
      have j41 := p.ke 41 rfl i41
      have j71 : (IsI (max x943_6.to_ x938_0.to_)) (b.get 71) q := p.ou 11 71 rfl
      have j73 : IsAdrO (a.get 8) ((x943_2).toNat * Enc.sz RegionSpan + 1) (b.get 73) q := p.ou 13 73 rfl
      have eo : b.get 8 = a.get 8 := p.old 8 rfl
      have hns := j8.nshF
      refine tail_storeS (i := 14) (u := b.get 8) (m := (x943_2).toNat) (off := 0 + 1) rfl rfl rfl rfl szf3 upd_F109_1 (by rw [eo]; exact j73) j8 (getI_spec hx943_12).2.1 j71 fun q2 hch hz => ?_
      replace hgq := hgq.step hch y8.wr
      have hle := hch.le hns
      replace j39 := Pers.pers hle j39
      replace j40 := Pers.pers hle j40
      replace j41 := Pers.pers hle j41
      replace j71 := Pers.pers hle j71
      replace j73 := Pers.pers hle j73
      replace j8 := hz
      rw [Option.some.inj hx943_14] at j8
      clear hns hle hch eo hz
      obtain ⟨q, hqq⟩ : ∃ q, q = q2 := ⟨q2, rfl⟩
      subst hqq
      exact tail_done (k := q) (hp945 _ _ ⟨⟨hgq, hsb, hdb⟩, j8, y8, j39, j40, j41, trivial⟩)
     rintro a k ⟨⟨hg, hs, hd⟩, i8, n8, i39, i40, i41, _⟩
     obtain rfl := Option.some.inj hr
     exact hp942 _ _ ⟨⟨hg, hs, hd⟩, i8, n8, i39, i40, i41, trivial⟩
    rw [if_neg (by rw [hc949]; decide)] at hr
    obtain ⟨x946_3, hx946_3, hr⟩ := bind_some hr
    refine cut (fun a' k' => Bs noF k0 80 a' k' ∧ IsOwn 0 109 x946_3 (a'.get 8) k' ∧ Lo k0 (obF (a'.get 8)) ∧ (IsV x929_1) (a'.get 39) k' ∧ (IsL x929_1) (a'.get 40) k' ∧ (IsV s933.2) (a'.get 41) k' ∧ True) ?_ hQ ?_
    ·intro Q947 hQQ947 hp948
     refine gS 3 (⟨some (OwnAt (a.get 8) 0 109 s933.1), [(8, none)]⟩ :: _ :: ⟨some (IsV (α := (List RegionSpan)) ([x938_0])), [(75, some 1)]⟩ :: []) hs (by kernel_rfl) ⟨ob1 rfl fun _ _ h n => ok_moveOA (.inl rfl) (ownAt n.1 (up i8 h n.1)), o1 [(10, none)] rfl fun _ _ h n => ok_load rfl ty109 ((up i10 h n.1)).ptr, ob1 rfl fun _ _ h n => ok_buildSlice rfl Try.underlying107 eo109 rfl (by decide) (by decide) ⟨rfl, n.1, trivial⟩, trivial⟩ hQQ947 fun b q p => ?_
     have hgq := hg.then p.grow
     have hsb := p.size.trans hs
     have hdb := p.defers.trans hd
     have j39 := p.ke 39 rfl i39
     have j40 := p.ke 40 rfl i40
     have j41 := p.ke 41 rfl i41
     have e74 : b.get 74 = a.get 8 := (p.ou 0 74 rfl).1
     have j74 : IsOwn 0 109 s933.1 (b.get 74) q := (p.ou 0 74 rfl).2
     have y74 : Lo k0 (obF (b.get 74)) := by rw [e74]; exact n8
     have j76 : (IsV (α := (List RegionSpan)) ([x938_0])) (b.get 76) q := p.ou 2 76 rfl
     have hns := j74.nshF
     refine tail_appendS (i := 3) (d := 77) rfl rfl rfl rfl (by rw [hsb]; decide) (e := 109) Try.underlying107 eo109 j74 (IsV.rd j76) hx946_3 fun b2 q2 hsz hdf hoth hch hown hob => ?_
     have hle := hch.le hns
     have yn : Lo k0 (obF (b2.get 77)) := y74.app hgq hob
     replace j39 := Pers.pers hle j39
     replace j40 := Pers.pers hle j40
     replace j41 := Pers.pers hle j41
     replace j76 := Pers.pers hle j76
     replace hgq := hgq.step hch y74.wr
     rw [← hoth 39 (by decide)] at j39
     rw [← hoth 40 (by decide)] at j40
     rw [← hoth 41 (by decide)] at j41
     rw [← hoth 76 (by decide)] at j76
     have j77 := hown
     have y77 := yn
     replace hsb := hsz.trans hsb
     replace hdb := hdf.trans hdb
     clear hle hch hown hob hns yn hsz hdf hoth
     obtain ⟨b, hbb⟩ : ∃ b, b = b2 := ⟨b2, rfl⟩
     subst hbb
     obtain ⟨q, hqq⟩ : ∃ q, q = q2 := ⟨q2, rfl⟩
     subst hqq
     refine tail_assign (i := 4) (d := 8) rfl rfl (.inl rfl) rfl (by rw [hsb]; decide) fun b2 hsz hdf hnew hoth => ?_
     have jn : (IsOwn 0 109 x946_3) (b2.get 8) q := by rw [hnew]; exact j77
     have yn : Lo k0 (obF (b2.get 8)) := by rw [hnew]; exact y77
     rw [← hoth 39 (by decide)] at j39
     rw [← hoth 40 (by decide)] at j40
     rw [← hoth 41 (by decide)] at j41
     rw [← hoth 76 (by decide)] at j76
     have j8 := jn
     have y8 := yn
     replace hsb := hsz.trans hsb
     replace hdb := hdf.trans hdb
     clear hsz hdf hoth
     obtain ⟨b, hbb⟩ : ∃ b, b = b2 := ⟨b2, rfl⟩
     subst hbb
     exact tail_done (k := q) (hp948 _ _ ⟨⟨hgq, hsb, hdb⟩, j8, y8, j39, j40, j41, trivial⟩)
    rintro a k ⟨⟨hg, hs, hd⟩, i8, n8, i39, i40, i41, _⟩
    obtain rfl := Option.some.inj hr
    exact hp942 _ _ ⟨⟨hg, hs, hd⟩, i8, n8, i39, i40, i41, trivial⟩
   clear hs941
   rintro a k ⟨⟨hg, hs, hd⟩, i8, n8, i39, i40, i41, _⟩
   obtain ⟨x950_0, hx950_0, hr⟩ := bind_some hr
   refine cut (fun a' k' => Bs noF k0 80 a' k' ∧ IsOwn 0 109 s941 (a'.get 8) k' ∧ Lo k0 (obF (a'.get 8)) ∧ (IsV x929_1) (a'.get 39) k' ∧ (IsL x929_1) (a'.get 40) k' ∧ (IsV x950_0) (a'.get 41) k' ∧ True) ?_ hQ ?_
   ·intro Q951 hQQ951 hp952
    refine gS 2 (_ :: _ :: []) hs (by kernel_rfl) ⟨o1 [(41, none)] rfl fun _ _ h n => ok_add rfl (up i41 h n.1) (cI rfl) hx950_0, cm 0 rfl rfl, trivial⟩ hQQ951 fun b q p => ?_
    exact tail_done (k := q) (hp952 _ _ ⟨Bs.post ⟨hg, hs, hd⟩ p, p.ke 8 rfl i8, (by rw [p.old 8 rfl]; exact n8), p.ke 39 rfl i39, p.ke 40 rfl i40, p.ou 1 41 rfl, trivial⟩)
   rintro a k ⟨⟨hg, hs, hd⟩, i8, n8, i39, i40, i41, _⟩
   exact hgo934 _ _ _ (Option.some.inj hr).symm ⟨⟨hg, hs, hd⟩, i8, n8, i39, i40, i41, trivial⟩
  rw [if_neg (by rw [hc961]; decide)] at hr
  refine wp_exit ?_
  obtain ⟨kk, sh960, ii8⟩ := i8.give
  replace i8 := ii8
  replace hg := hg.hand sh960 n8.wr
  rw [← sh960.w]
  clear sh960
  obtain ⟨k, hkk⟩ : ∃ k, k = kk := ⟨kk, rfl⟩
  subst hkk
  exact hex935 _ _ _ _ (Option.some.inj hr).symm ⟨rfl, ⟨hg, hs, hd⟩, i8, trivial⟩
 ·rintro r969 a k rfl hR
  dsimp only at hr
  obtain rfl := Option.some.inj hr
  exact hR
 ·rintro _ _ _ rfl _
  simp at hr
 clear hf964
 rintro _ s965 a k rfl ⟨rfl, ⟨hg, hs, hd⟩, i8, _⟩
 dsimp only at hr
 refine stepL 2 (_ :: _ :: []) rfl ⟨hg, hs, hd⟩ (by kernel_rfl) ⟨mu rfl i8, cp 0 rfl rfl, trivial⟩ [⟨_, _⟩] (fun b q p => ⟨p.ou 1 4 rfl, trivial⟩) ?_
 rintro a k ⟨⟨hg, hs, hd⟩, i4, _⟩
 refine wp_ret ?_
 obtain rfl := Option.some.inj hr
 exact retC1 rfl hd hg i4
def region_strips_L0 (x986_1 : (List Rect)) (s989 : (List Int) × Int) : Option (Flow ((List Int) × Int) ((List RegionStrip))) :=
 if (decide (s989.2 < (x986_1.length : Int))) then
  (getI x986_1 s989.2).bind fun x994_0 =>
  (appI s989.1 ([x994_0.X0, x994_0.X1])).bind fun x995_6 =>
  (addI s989.2 1).bind fun x996_0 =>
  some (.go (x995_6, x996_0))
 else
  some (.ex 0 (s989.1, s989.2))
def region_strips_L1 (x986_1 : (List Rect)) (x1009_1 : (List Int)) (s1013 : (List RegionStrip) × Int) : Option (Flow ((List RegionStrip) × Int) ((List RegionStrip))) :=
 if (decide (s1013.2 < (x1009_1.length : Int))) then
  (subI s1013.2 1).bind fun x1018_3 =>
  (getI x1009_1 x1018_3).bind fun x1018_4 =>
  (getI x1009_1 s1013.2).bind fun x1018_8 =>
  (subI s1013.2 1).bind fun x1018_13 =>
  (getI x1009_1 x1018_13).bind fun x1018_14 =>
  (region_column x986_1 x1018_14).bind fun x1018_16 =>
  (appI s1013.1 ([(⟨x1018_4, x1018_8, x1018_16⟩ : RegionStrip)])).bind fun x1018_19 =>
  (addI s1013.2 1).bind fun x1019_1 =>
  some (.go (x1018_19, x1019_1))
 else
  some (.ex 2 (s1013.1, s1013.2))
def region_strips (lists_ : (List (List Rect))) : Option ((List RegionStrip)) :=
 (slices_Concat_Rect lists_).bind fun x986_1 =>
 (iterL (region_strips_L0 x986_1) (x986_1.length + 1) (([] : List Int), 0)).bind fun f1006 => match f1006 with
  | .go _ => none
  | .ex _ s1007 =>
   (sortInts s1007.1).bind fun x1008_1 =>
   (compactInts x1008_1).bind fun x1009_1 =>
   (iterL (region_strips_L1 x986_1 x1009_1) (x986_1.length + x1009_1.length + ([] : List RegionStrip).length + 1) (([] : List RegionStrip), 1)).bind fun f1027 => match f1027 with
    | .go _ => none
    | .ex _ s1028 =>
     some s1028.1
    | .ret r1032 => some r1032
  | .ret r1042 => some r1042
theorem region_strips_okO {k0 : K} {v0 : Value} {lists_ : (List (List Rect))} {r : (List RegionStrip)} (i0 : (IsV lists_) v0 k0) (hr : region_strips lists_ = some r) :
  Calls Try.prog 63 #[v0] k0.w (Ret k0 (IsOwn k0.w.heap.size 111 r)) := by
 unfold region_strips at hr
 refine Ret.ofC ?_
 refine enterK Try.func63 rfl Try.ntmps63 (show 1 ≤ 56 by decide) fun a k hk0 hs hd ha => ?_
 obtain ⟨e0, _⟩ := ha
 replace i0 : (IsV lists_) (a.get 0) k := by rw [e0, hk0]; exact i0
 have hQ : Gb.LetsOut (bodyPost Try.prog Try.f63 (RetC noF k0 (IsOwn k0.w.heap.size 111 r))) := letsOutC
 have hg : Chg noF k0 k := by rw [hk0]; exact Chg.refl _ k0
 refine stepL 1 (⟨some IsE0, []⟩ :: []) rfl ⟨hg, hs, hd⟩ (by kernel_rfl) ⟨ob1 rfl fun b q h n => ok_assign rfl isE0_nil, trivial⟩ [⟨_, _⟩] (fun b q p => ⟨p.ke 0 rfl i0, trivial⟩) ?_
 rintro a k ⟨⟨hg, hs, hd⟩, i0, _⟩
 refine wp_seq ?_
 obtain ⟨x986_1, hx986_1, hr⟩ := bind_some hr
 refine cut (fun a' k' => Bs noF k0 56 a' k' ∧ (IsV x986_1) (a'.get 3) k' ∧ True) ?_ hQ ?_
 ·intro Q1048 hQQ1048 hp1049
  refine gS 3 (_ :: _ :: _ :: []) hs (by kernel_rfl) ⟨mu rfl i0, o1 [(9, some 0)] rfl fun _ _ h n => ok_call rfl Try.call82 (slices_Concat_Rect_ok n.1 hx986_1), cp 1 rfl rfl, trivial⟩ hQQ1048 fun b q p => ?_
  exact tail_done (k := q) (hp1049 _ _ ⟨Bs.post ⟨hg, hs, hd⟩ p, p.ou 2 3 rfl, trivial⟩)
 rintro a k ⟨⟨hg, hs, hd⟩, i3, _⟩
 refine cutS (fun a' k' => Bs noF k0 56 a' k' ∧ (IsV x986_1) (a'.get 3) k' ∧ IsOwn 0 3 ([] : List Int) (a'.get 4) k' ∧ Lo k0 (obF (a'.get 4)) ∧ True) ?_ ?_
 ·intro Q1046 hQQ1046 hp1047
  refine gS 1 (⟨some IsE0, []⟩ :: []) hs (by kernel_rfl) ⟨ob1 rfl fun b q h n => ok_assign rfl isE0_nil, trivial⟩ hQQ1046 fun b q p => ?_
  have hgq := hg.then p.grow
  have hsb := p.size.trans hs
  have hdb := p.defers.trans hd
  have j3 := p.ke 3 rfl i3
  have j4 : IsE0 (b.get 4) q := p.ou 0 4 rfl
  have y4 : Lo k0 (obF (b.get 4)) := j4.lo
  replace j4 : IsOwn 0 3 ([] : List Int) (b.get 4) q := j4.own0
  exact tail_done (k := q) (hp1047 _ _ ⟨⟨hgq, hsb, hdb⟩, j3, j4, y4, trivial⟩)
 rintro a k ⟨⟨hg, hs, hd⟩, i3, i4, n4, _⟩
 refine wp_seq ?_
 refine cutS (fun a' k' => Bs noF k0 56 a' k' ∧ (IsV x986_1) (a'.get 3) k' ∧ IsOwn 0 3 ([] : List Int) (a'.get 4) k' ∧ Lo k0 (obF (a'.get 4)) ∧ (IsV x986_1) (a'.get 11) k' ∧ (IsL x986_1) (a'.get 12) k' ∧ (IsI 0) (a'.get 13) k' ∧ True) ?_ ?_
 ·intro Q1044 hQQ1044 hp1045
  refine gS 3 (_ :: _ :: ⟨some (IsI 0), []⟩ :: []) hs (by kernel_rfl) ⟨mu rfl i3, o1 [(11, some 0)] rfl fun _ _ h n => ok_len rfl rfl Try.underlying49 (IsV.rd n.1), ob1 rfl fun _ _ h n => ok_move rfl (cI rfl), trivial⟩ hQQ1044 fun b q p => ?_
  exact tail_done (k := q) (hp1045 _ _ ⟨Bs.post ⟨hg, hs, hd⟩ p, p.ke 3 rfl i3, p.ke 4 rfl i4, (by rw [p.old 4 rfl]; exact n4), p.ou 0 11 rfl, p.ou 1 12 rfl, p.ou 2 13 rfl, trivial⟩)
 rintro a k ⟨⟨hg, hs, hd⟩, i3, i4, n4, i11, i12, i13, _⟩
 refine wp_block ?_
 obtain ⟨f1006, hf1006, hr⟩ := bind_some hr
 refine cutFe f1006 (fun s' a' k' => Bs noF k0 56 a' k' ∧ (IsV x986_1) (a'.get 3) k' ∧ IsOwn 0 3 s'.1 (a'.get 4) k' ∧ Lo k0 (obF (a'.get 4)) ∧ (IsV x986_1) (a'.get 11) k' ∧ (IsL x986_1) (a'.get 12) k' ∧ (IsV s'.2) (a'.get 13) k' ∧ True) (fun i' s' a' k' => (i' = 0 ∧ Bs noF k0 56 a' k' ∧ (IsV x986_1) (a'.get 3) k' ∧ IsOwn 0 3 s'.1 (a'.get 4) k' ∧ Lo k0 (obF (a'.get 4)) ∧ True)) (fun r' a' k' => bodyPost Try.prog Try.f63 (RetC noF k0 (IsOwn k0.w.heap.size 111 r')) .ret a' k'.w) ?_ hQ ?_ ?_ ?_
 ·intro Q1043 hQQ1043 hgo hex hret
  refine sim_loop ?_ _ _ _ _ _ hf1006 ⟨⟨hg, hs, hd⟩, i3, i4, n4, i11, i12, i13, trivial⟩ Q1043 hQQ1043 hgo hex hret
  clear hr hf1006 hgo hex hret hQQ1043 hQ hg hs hd i11 i12 i13 i3 i4 n4
  intro s989 fl_ a k hr hS Q hQ hgo990 hex991 hret992
  obtain ⟨⟨hg, hs, hd⟩, i3, i4, n4, i11, i12, i13, _⟩ := hS
  unfold region_strips_L0 at hr
  refine cutS (fun a' k' => Bs noF k0 56 a' k' ∧ (IsV x986_1) (a'.get 3) k' ∧ IsOwn 0 3 s989.1 (a'.get 4) k' ∧ Lo k0 (obF (a'.get 4)) ∧ (IsV x986_1) (a'.get 11) k' ∧ (IsL x986_1) (a'.get 12) k' ∧ (IsV s989.2) (a'.get 13) k' ∧ (IsV (decide (s989.2 < (x986_1.length : Int)))) (a'.get 14) k' ∧ True) ?_ ?_
  ·intro Q1004 hQQ1004 hp1005
   refine gS 1 (_ :: []) hs (by kernel_rfl) ⟨o1 [(13, none), (12, none)] rfl fun _ _ h n => ok_lss rfl (up i13 h n.1) (up i12 h n.2.1), trivial⟩ hQQ1004 fun b q p => ?_
   exact tail_done (k := q) (hp1005 _ _ ⟨Bs.post ⟨hg, hs, hd⟩ p, p.ke 3 rfl i3, p.ke 4 rfl i4, (by rw [p.old 4 rfl]; exact n4), p.ke 11 rfl i11, p.ke 12 rfl i12, p.ke 13 rfl i13, p.ou 0 14 rfl, trivial⟩)
  rintro a k ⟨⟨hg, hs, hd⟩, i3, i4, n4, i11, i12, i13, i14, _⟩
  refine wp_seq ?_
  refine wp_cond_split (isBool i14) (fun hc1003 => ?_) (fun hc1003 => ?_)
  ·rw [if_pos hc1003] at hr
   refine wp_skip ?_
   refine wp_seq ?_
   refine wp_block ?_
   refine wp_seq ?_
   obtain ⟨x994_0, hx994_0, hr⟩ := bind_some hr
   refine cut (fun a' k' => Bs noF k0 56 a' k' ∧ (IsV x986_1) (a'.get 3) k' ∧ IsOwn 0 3 s989.1 (a'.get 4) k' ∧ Lo k0 (obF (a'.get 4)) ∧ (IsRef x994_0) (a'.get 6) k' ∧ (IsV x986_1) (a'.get 11) k' ∧ (IsL x986_1) (a'.get 12) k' ∧ (IsV s989.2) (a'.get 13) k' ∧ True) ?_ hQ ?_
   ·intro Q1001 hQQ1001 hp1002
    refine gS 3 (_ :: _ :: ⟨some (IsBox k.w.heap.size (⟨0, 0, 0, 0⟩ : Rect)), []⟩ :: []) hs (by kernel_rfl) ⟨o1 [(11, none), (13, none)] rfl fun _ _ h n => ok_indexAddr rfl Try.underlying49 ty35 (IsV.rd (up i11 h n.1)) (up i13 h n.2.1) hx994_0, o1 [(15, some 0)] rfl fun _ _ h n => ok_load rfl ty35 n.1, ob1 rfl fun _ _ h n => ok_alloc _ h.size rfl z35, trivial⟩ hQQ1001 fun b q p => ?_
    have hgq := hg.then p.grow
    have hsb := p.size.trans hs
    have hdb := p.defers.trans hd
    have j3 := p.ke 3 rfl i3
    have j4 := p.ke 4 rfl i4
    have y4 : Lo k0 (obF (b.get 4)) := by rw [p.old 4 rfl]; exact n4
    obtain ⟨b6, j6, x6, z6⟩ : (IsBox k.w.heap.size (⟨0, 0, 0, 0⟩ : Rect)) (b.get 6) q := p.ou 2 6 rfl
    replace x6 : Lo k (Eq b6) := Lo.eq x6
    have y6 : Lo k0 (Eq b6) := x6.chg hg
    have j11 := p.ke 11 rfl i11
    have j12 := p.ke 12 rfl i12
    have j13 := p.ke 13 rfl i13
    have j16 : (IsV x994_0) (b.get 16) q := p.ou 1 16 rfl
    have w4_6 : Apart (obF (b.get 4)) (Eq b6) := Apart.new (by rw [p.old 4 rfl]; exact i4.ltF) x6
    have hns := z6.nshF
    refine tail_storeB (i := 3) rfl rfl rfl rfl szf35 (Upd.self (α := Rect)) j6 z6 j16 fun q2 hch hz => ?_
    replace hgq := hgq.step hch y6.wr
    have hle := hch.le hns
    replace j3 := Pers.pers hle j3
    replace j4 := j4.keep hch w4_6 hns
    replace j11 := Pers.pers hle j11
    replace j12 := Pers.pers hle j12
    replace j13 := Pers.pers hle j13
    replace j16 := Pers.pers hle j16
    replace z6 := hz
    clear hns hle hch
    obtain ⟨q, hqq⟩ : ∃ q, q = q2 := ⟨q2, rfl⟩
    subst hqq
    obtain ⟨q2, hsh, jn⟩ := z6.give
    replace j3 := Pers.pers hsh.le j3
    replace j4 := j4.handed hsh w4_6
    replace j11 := Pers.pers hsh.le j11
    replace j12 := Pers.pers hsh.le j12
    replace j13 := Pers.pers hsh.le j13
    rw [← j6] at jn
    replace j6 := jn
    replace hgq := hgq.hand hsh y6.wr
    rw [← hsh.w]
    clear hsh
    obtain ⟨q, hqq⟩ : ∃ q, q = q2 := ⟨q2, rfl⟩
    subst hqq
    exact tail_done (k := q) (hp1002 _ _ ⟨⟨hgq, hsb, hdb⟩, j3, j4, y4, j6, j11, j12, j13, trivial⟩)
   rintro a k ⟨⟨hg, hs, hd⟩, i3, i4, n4, i6, i11, i12, i13, _⟩
   obtain ⟨x995_6, hx995_6, hr⟩ := bind_some hr
   refine cut (fun a' k' => Bs noF k0 56 a' k' ∧ (IsV x986_1) (a'.get 3) k' ∧ IsOwn 0 3 x995_6 (a'.get 4) k' ∧ Lo k0 (obF (a'.get 4)) ∧ (IsV x986_1) (a'.get 11) k' ∧ (IsL x986_1) (a'.get 12) k' ∧ (IsV s989.2) (a'.get 13) k' ∧ True) ?_ hQ ?_
   ·intro Q999 hQQ999 hp1000
    refine gS 6 (⟨some (OwnAt (a.get 4) 0 3 s989.1), [(4, none)]⟩ :: _ :: _ :: _ :: _ :: ⟨some (IsV (α := (List Int)) ([x994_0.X0, x994_0.X1])), [(19, some 2), (21, some 4)]⟩ :: []) hs (by kernel_rfl) ⟨ob1 rfl fun _ _ h n => ok_moveOA (.inl rfl) (ownAt n.1 (up i4 h n.1)), o1 [(6, none)] rfl fun _ _ h n => ok_fieldAddr rfl fo35_0 (at_Rect_0 _) ((up i6 h n.1)).ptr, o1 [(18, some 1)] rfl fun _ _ h n => ok_load rfl ty3 n.1, o1 [(6, none)] rfl fun _ _ h n => ok_fieldAddr rfl fo35_2 (at_Rect_2 _) ((up i6 h n.1)).ptr, o1 [(20, some 3)] rfl fun _ _ h n => ok_load rfl ty3 n.1, ob1 rfl fun _ _ h n => ok_buildSlice rfl Try.underlying63 eo3 rfl (by decide) (by decide) ⟨rfl, n.1, rfl, n.2.1, trivial⟩, trivial⟩ hQQ999 fun b q p => ?_
    have hgq := hg.then p.grow
    have hsb := p.size.trans hs
    have hdb := p.defers.trans hd
    have j3 := p.ke 3 rfl i3
    have j11 := p.ke 11 rfl i11
    have j12 := p.ke 12 rfl i12
    have j13 := p.ke 13 rfl i13
    have e17 : b.get 17 = a.get 4 := (p.ou 0 17 rfl).1
    have j17 : IsOwn 0 3 s989.1 (b.get 17) q := (p.ou 0 17 rfl).2
    have y17 : Lo k0 (obF (b.get 17)) := by rw [e17]; exact n4
    have j22 : (IsV (α := (List Int)) ([x994_0.X0, x994_0.X1])) (b.get 22) q := p.ou 5 22 rfl
    have hns := j17.nshF
    refine tail_appendS (i := 6) (d := 23) rfl rfl rfl rfl (by rw [hsb]; decide) (e := 3) Try.underlying63 eo3 j17 (IsV.rd j22) hx995_6 fun b2 q2 hsz hdf hoth hch hown hob => ?_
    have hle := hch.le hns
    have yn : Lo k0 (obF (b2.get 23)) := y17.app hgq hob
    replace j3 := Pers.pers hle j3
    replace j11 := Pers.pers hle j11
    replace j12 := Pers.pers hle j12
    replace j13 := Pers.pers hle j13
    replace j22 := Pers.pers hle j22
    replace hgq := hgq.step hch y17.wr
    rw [← hoth 3 (by decide)] at j3
    rw [← hoth 11 (by decide)] at j11
    rw [← hoth 12 (by decide)] at j12
    rw [← hoth 13 (by decide)] at j13
    rw [← hoth 22 (by decide)] at j22
    have j23 := hown
    have y23 := yn
    replace hsb := hsz.trans hsb
    replace hdb := hdf.trans hdb
    clear hle hch hown hob hns yn hsz hdf hoth
    obtain ⟨b, hbb⟩ : ∃ b, b = b2 := ⟨b2, rfl⟩
    subst hbb
    obtain ⟨q, hqq⟩ : ∃ q, q = q2 := ⟨q2, rfl⟩
    subst hqq
    refine tail_assign (i := 7) (d := 4) rfl rfl (.inl rfl) rfl (by rw [hsb]; decide) fun b2 hsz hdf hnew hoth => ?_
    have jn : (IsOwn 0 3 x995_6) (b2.get 4) q := by rw [hnew]; exact j23
    have yn : Lo k0 (obF (b2.get 4)) := by rw [hnew]; exact y23
    rw [← hoth 3 (by decide)] at j3
    rw [← hoth 11 (by decide)] at j11
    rw [← hoth 12 (by decide)] at j12
    rw [← hoth 13 (by decide)] at j13
    rw [← hoth 22 (by decide)] at j22
    have j4 := jn
    have y4 := yn
    replace hsb := hsz.trans hsb
    replace hdb := hdf.trans hdb
    clear hsz hdf hoth
    obtain ⟨b, hbb⟩ : ∃ b, b = b2 := ⟨b2, rfl⟩
    subst hbb
    exact tail_done (k := q) (hp1000 _ _ ⟨⟨hgq, hsb, hdb⟩, j3, j4, y4, j11, j12, j13, trivial⟩)
   rintro a k ⟨⟨hg, hs, hd⟩, i3, i4, n4, i11, i12, i13, _⟩
   obtain ⟨x996_0, hx996_0, hr⟩ := bind_some hr
   refine cut (fun a' k' => Bs noF k0 56 a' k' ∧ (IsV x986_1) (a'.get 3) k' ∧ IsOwn 0 3 x995_6 (a'.get 4) k' ∧ Lo k0 (obF (a'.get 4)) ∧ (IsV x986_1) (a'.get 11) k' ∧ (IsL x986_1) (a'.get 12) k' ∧ (IsV x996_0) (a'.get 13) k' ∧ True) ?_ hQ ?_
   ·intro Q997 hQQ997 hp998
    refine gS 2 (_ :: _ :: []) hs (by kernel_rfl) ⟨o1 [(13, none)] rfl fun _ _ h n => ok_add rfl (up i13 h n.1) (cI rfl) hx996_0, cm 0 rfl rfl, trivial⟩ hQQ997 fun b q p => ?_
    exact tail_done (k := q) (hp998 _ _ ⟨Bs.post ⟨hg, hs, hd⟩ p, p.ke 3 rfl i3, p.ke 4 rfl i4, (by rw [p.old 4 rfl]; exact n4), p.ke 11 rfl i11, p.ke 12 rfl i12, p.ou 1 13 rfl, trivial⟩)
   rintro a k ⟨⟨hg, hs, hd⟩, i3, i4, n4, i11, i12, i13, _⟩
   exact hgo990 _ _ _ (Option.some.inj hr).symm ⟨⟨hg, hs, hd⟩, i3, i4, n4, i11, i12, i13, trivial⟩
  rw [if_neg (by rw [hc1003]; decide)] at hr
  refine wp_exit ?_
  exact hex991 _ _ _ _ (Option.some.inj hr).symm ⟨rfl, ⟨hg, hs, hd⟩, i3, i4, n4, trivial⟩
 ·rintro r1042 a k rfl hR
  dsimp only at hr
  obtain rfl := Option.some.inj hr
  exact hR
 ·rintro _ _ _ rfl _
  simp at hr
 clear hf1006
 rintro _ s1007 a k rfl ⟨rfl, ⟨hg, hs, hd⟩, i3, i4, n4, _⟩
 dsimp only at hr
 refine wp_seq ?_
 obtain ⟨x1008_1, hx1008_1, hr⟩ := bind_some hr
 refine cut (fun a' k' => Bs noF k0 56 a' k' ∧ (IsV x986_1) (a'.get 3) k' ∧ IsOwn 0 3 x1008_1 (a'.get 4) k' ∧ Lo k0 (obF (a'.get 4)) ∧ True) ?_ hQ ?_
 ·intro Q1040 hQQ1040 hp1041
  refine gS 1 (⟨some (OwnAt (a.get 4) 0 3 s1007.1), [(4, none)]⟩ :: []) hs (by kernel_rfl) ⟨ob1 rfl fun _ _ h n => ok_moveOA (.inl rfl) (ownAt n.1 (up i4 h n.1)), trivial⟩ hQQ1040 fun b q p => ?_
  have hgq := hg.then p.grow
  have hsb := p.size.trans hs
  have hdb := p.defers.trans hd
  have j3 := p.ke 3 rfl i3
  have j4 := p.ke 4 rfl i4
  have y4 : Lo k0 (obF (b.get 4)) := by rw [p.old 4 rfl]; exact n4
  have e25 : b.get 25 = a.get 4 := (p.ou 0 25 rfl).1
  have j25 : IsOwn 0 3 s1007.1 (b.get 25) q := (p.ou 0 25 rfl).2
  have y25 : Lo k0 (obF (b.get 25)) := by rw [e25]; exact n4
  have hns := j25.nshF
  have eS : b.get 4 = b.get 25 := (p.old 4 rfl).trans e25.symm
  refine tail_call (F := obF (b.get 25)) (i := 1) (d := 26) rfl rfl rfl rfl (by rw [hsb]; decide) Try.call59 hQQ1040 (sortInts_ok j25 hx1008_1) fun b2 q2 hsz hdf hoth hch hres => ?_
  have hle := hch.le hns
  replace j3 := Pers.pers hle j3
  replace hgq := hgq.step hch y25.wr
  replace j4 : IsOwn 0 3 x1008_1 (b.get 4) q2 := by rw [eS]; exact hres
  clear hres eS
  rw [← hoth 3 (by decide)] at j3
  rw [← hoth 4 (by decide)] at j4
  rw [← hoth 4 (by decide)] at y4
  replace hsb := hsz.trans hsb
  replace hdb := hdf.trans hdb
  clear hle hch hns hsz hdf hoth
  obtain ⟨b, hbb⟩ : ∃ b, b = b2 := ⟨b2, rfl⟩
  subst hbb
  obtain ⟨q, hqq⟩ : ∃ q, q = q2 := ⟨q2, rfl⟩
  subst hqq
  exact tail_done (k := q) (hp1041 _ _ ⟨⟨hgq, hsb, hdb⟩, j3, j4, y4, trivial⟩)
 rintro a k ⟨⟨hg, hs, hd⟩, i3, i4, n4, _⟩
 refine wp_seq ?_
 obtain ⟨x1009_1, hx1009_1, hr⟩ := bind_some hr
 refine cut (fun a' k' => Bs noF k0 56 a' k' ∧ (IsV x986_1) (a'.get 3) k' ∧ IsOwn 0 3 x1009_1 (a'.get 4) k' ∧ Lo k0 (obF (a'.get 4)) ∧ True) ?_ hQ ?_
 ·intro Q1038 hQQ1038 hp1039
  refine gS 1 (⟨some (OwnAt (a.get 4) 0 3 x1008_1), [(4, none)]⟩ :: []) hs (by kernel_rfl) ⟨ob1 rfl fun _ _ h n => ok_moveOA (.inl rfl) (ownAt n.1 (up i4 h n.1)), trivial⟩ hQQ1038 fun b q p => ?_
  have hgq := hg.then p.grow
  have hsb := p.size.trans hs
  have hdb := p.defers.trans hd
  have j3 := p.ke 3 rfl i3
  have e27 : b.get 27 = a.get 4 := (p.ou 0 27 rfl).1
  have j27 : IsOwn 0 3 x1008_1 (b.get 27) q := (p.ou 0 27 rfl).2
  have y27 : Lo k0 (obF (b.get 27)) := by rw [e27]; exact n4
  have hns := j27.nshF
  refine tail_call (F := obF (b.get 27)) (i := 1) (d := 28) rfl rfl rfl rfl (by rw [hsb]; decide) Try.call60 hQQ1038 (compactInts_ok j27 hx1009_1) fun b2 q2 hsz hdf hoth hch hres => ?_
  have hle := hch.le hns
  obtain ⟨hown, hob⟩ := hres
  have yn : Lo k0 (obF (b2.get 28)) := y27.app hgq hob
  replace j3 := Pers.pers hle j3
  replace hgq := hgq.step hch y27.wr
  rw [← hoth 3 (by decide)] at j3
  have j28 := hown
  have y28 := yn
  have hres := True.intro
  clear hown hob yn
  replace hsb := hsz.trans hsb
  replace hdb := hdf.trans hdb
  clear hle hch hres hns hsz hdf hoth
  obtain ⟨b, hbb⟩ : ∃ b, b = b2 := ⟨b2, rfl⟩
  subst hbb
  obtain ⟨q, hqq⟩ : ∃ q, q = q2 := ⟨q2, rfl⟩
  subst hqq
  refine tail_assign (i := 2) (d := 4) rfl rfl (.inl rfl) rfl (by rw [hsb]; decide) fun b2 hsz hdf hnew hoth => ?_
  have jn : (IsOwn 0 3 x1009_1) (b2.get 4) q := by rw [hnew]; exact j28
  have yn : Lo k0 (obF (b2.get 4)) := by rw [hnew]; exact y28
  rw [← hoth 3 (by decide)] at j3
  have j4 := jn
  have y4 := yn
  replace hsb := hsz.trans hsb
  replace hdb := hdf.trans hdb
  clear hsz hdf hoth
  obtain ⟨b, hbb⟩ : ∃ b, b = b2 := ⟨b2, rfl⟩
  subst hbb
  exact tail_done (k := q) (hp1039 _ _ ⟨⟨hgq, hsb, hdb⟩, j3, j4, y4, trivial⟩)
 rintro a k ⟨⟨hg, hs, hd⟩, i3, i4, n4, _⟩
 refine wp_seq ?_
 obtain ⟨kk, sh1010, ii4⟩ := i4.give
 replace i3 := Pers.pers sh1010.le i3
 replace i4 := ii4
 replace hg := hg.hand sh1010 n4.wr
 rw [← sh1010.w]
 clear sh1010
 obtain ⟨k, hkk⟩ : ∃ k, k = kk := ⟨kk, rfl⟩
 subst hkk
 refine cut (fun a' k' => Bs noF k0 56 a' k' ∧ (IsV x986_1) (a'.get 3) k' ∧ (IsV x1009_1) (a'.get 4) k' ∧ IsOwn 0 111 ([] : List RegionStrip) (a'.get 7) k' ∧ Lo k0 (obF (a'.get 7)) ∧ True) ?_ hQ ?_
 ·intro Q1036 hQQ1036 hp1037
  refine gS 1 (⟨some IsE0, []⟩ :: []) hs (by kernel_rfl) ⟨ob1 rfl fun b q h n => ok_assign rfl isE0_nil, trivial⟩ hQQ1036 fun b q p => ?_
  have hgq := hg.then p.grow
  have hsb := p.size.trans hs
  have hdb := p.defers.trans hd
  have j3 := p.ke 3 rfl i3
  have j4 := p.ke 4 rfl i4
  have j7 : IsE0 (b.get 7) q := p.ou 0 7 rfl
  have y7 : Lo k0 (obF (b.get 7)) := j7.lo
  replace j7 : IsOwn 0 111 ([] : List RegionStrip) (b.get 7) q := j7.own0
  exact tail_done (k := q) (hp1037 _ _ ⟨⟨hgq, hsb, hdb⟩, j3, j4, j7, y7, trivial⟩)
 rintro a k ⟨⟨hg, hs, hd⟩, i3, i4, i7, n7, _⟩
 refine wp_seq ?_
 refine cutS (fun a' k' => Bs noF k0 56 a' k' ∧ (IsV x986_1) (a'.get 3) k' ∧ (IsV x1009_1) (a'.get 4) k' ∧ IsOwn 0 111 ([] : List RegionStrip) (a'.get 7) k' ∧ Lo k0 (obF (a'.get 7)) ∧ (IsI 1) (a'.get 8) k' ∧ True) ?_ ?_
 ·intro Q1034 hQQ1034 hp1035
  refine gS 1 (⟨some (IsI 1), []⟩ :: []) hs (by kernel_rfl) ⟨aI rfl rfl, trivial⟩ hQQ1034 fun b q p => ?_
  exact tail_done (k := q) (hp1035 _ _ ⟨Bs.post ⟨hg, hs, hd⟩ p, p.ke 3 rfl i3, p.ke 4 rfl i4, p.ke 7 rfl i7, (by rw [p.old 7 rfl]; exact n7), p.ou 0 8 rfl, trivial⟩)
 rintro a k ⟨⟨hg, hs, hd⟩, i3, i4, i7, n7, i8, _⟩
 refine wp_block ?_
 obtain ⟨f1027, hf1027, hr⟩ := bind_some hr
 refine cutFe f1027 (fun s' a' k' => Bs noF k0 56 a' k' ∧ (IsV x986_1) (a'.get 3) k' ∧ (IsV x1009_1) (a'.get 4) k' ∧ IsOwn 0 111 s'.1 (a'.get 7) k' ∧ Lo k0 (obF (a'.get 7)) ∧ (IsV s'.2) (a'.get 8) k' ∧ True) (fun i' s' a' k' => (i' = 2 ∧ Bs noF k0 56 a' k' ∧ IsOwn 0 111 s'.1 (a'.get 7) k' ∧ Lo k0 (obF (a'.get 7)) ∧ True)) (fun r' a' k' => bodyPost Try.prog Try.f63 (RetC noF k0 (IsOwn k0.w.heap.size 111 r')) .ret a' k'.w) ?_ hQ ?_ ?_ ?_
 ·intro Q1033 hQQ1033 hgo hex hret
  refine sim_loop ?_ _ _ _ _ _ hf1027 ⟨⟨hg, hs, hd⟩, i3, i4, i7, n7, i8, trivial⟩ Q1033 hQQ1033 hgo hex hret
  clear hr hf1027 hgo hex hret hQQ1033 hQ hg hs hd i3 i4 i7 i8 n7
  intro s1013 fl_ a k hr hS Q hQ hgo1014 hex1015 hret1016
  obtain ⟨⟨hg, hs, hd⟩, i3, i4, i7, n7, i8, _⟩ := hS
  unfold region_strips_L1 at hr
  refine wp_seq ?_
  refine cutS (fun a' k' => Bs noF k0 56 a' k' ∧ (IsV x986_1) (a'.get 3) k' ∧ (IsV x1009_1) (a'.get 4) k' ∧ IsOwn 0 111 s1013.1 (a'.get 7) k' ∧ Lo k0 (obF (a'.get 7)) ∧ (IsV s1013.2) (a'.get 8) k' ∧ (IsV (decide (s1013.2 < (x1009_1.length : Int)))) (a'.get 32) k' ∧ True) ?_ ?_
  ·intro Q1025 hQQ1025 hp1026
   refine gS 4 (_ :: _ :: _ :: _ :: []) hs (by kernel_rfl) ⟨mu rfl i8, mu rfl i4, o1 [(30, some 1)] rfl fun _ _ h n => ok_len rfl rfl Try.underlying63 (IsV.rd n.1), o1 [(29, some 0), (31, some 2)] rfl fun _ _ h n => ok_lss rfl n.1 n.2.1, trivial⟩ hQQ1025 fun b q p => ?_
   exact tail_done (k := q) (hp1026 _ _ ⟨Bs.post ⟨hg, hs, hd⟩ p, p.ke 3 rfl i3, p.ke 4 rfl i4, p.ke 7 rfl i7, (by rw [p.old 7 rfl]; exact n7), p.ke 8 rfl i8, p.ou 3 32 rfl, trivial⟩)
  rintro a k ⟨⟨hg, hs, hd⟩, i3, i4, i7, n7, i8, i32, _⟩
  refine wp_cond_split (isBool i32) (fun hc1024 => ?_) (fun hc1024 => ?_)
  ·rw [if_pos hc1024] at hr
   refine wp_skip ?_
   refine wp_seq ?_
   refine wp_block ?_
   obtain ⟨x1018_3, hx1018_3, hr⟩ := bind_some hr
   obtain ⟨x1018_4, hx1018_4, hr⟩ := bind_some hr
   obtain ⟨x1018_8, hx1018_8, hr⟩ := bind_some hr
   obtain ⟨x1018_13, hx1018_13, hr⟩ := bind_some hr
   obtain ⟨x1018_14, hx1018_14, hr⟩ := bind_some hr
   obtain ⟨x1018_16, hx1018_16, hr⟩ := bind_some hr
   obtain ⟨x1018_19, hx1018_19, hr⟩ := bind_some hr
   refine cut (fun a' k' => Bs noF k0 56 a' k' ∧ (IsV x986_1) (a'.get 3) k' ∧ (IsV x1009_1) (a'.get 4) k' ∧ IsOwn 0 111 x1018_19 (a'.get 7) k' ∧ Lo k0 (obF (a'.get 7)) ∧ (IsV s1013.2) (a'.get 8) k' ∧ True) ?_ hQ ?_
   ·intro Q1022 hQQ1022 hp1023
    refine region (a0 := a) (k0 := k) (n := 56) (m := 19) (⟨some (OwnAt (a.get 7) 0 111 s1013.1), [(7, none)]⟩ :: ⟨some (IsV x1009_1), [(4, none)]⟩ :: ⟨some (IsV s1013.2), [(8, none)]⟩ :: ⟨some (IsV x1018_3), [(37, some 2)]⟩ :: ⟨some (IsPtr x1018_4), [(36, some 1), (38, some 3)]⟩ :: ⟨some (IsV x1018_4), [(39, some 4)]⟩ :: ⟨some (IsV x1009_1), [(4, none)]⟩ :: ⟨some (IsV s1013.2), [(8, none)]⟩ :: ⟨some (IsPtr x1018_8), [(41, some 6), (42, some 7)]⟩ :: ⟨some (IsV x1018_8), [(43, some 8)]⟩ :: ⟨some (IsV x986_1), [(3, none)]⟩ :: ⟨some (IsV x1009_1), [(4, none)]⟩ :: ⟨some (IsV s1013.2), [(8, none)]⟩ :: ⟨some (IsV x1018_13), [(47, some 12)]⟩ :: ⟨some (IsPtr x1018_14), [(46, some 11), (48, some 13)]⟩ :: ⟨some (IsV x1018_14), [(49, some 14)]⟩ :: ⟨some (IsV x1018_16), [(45, some 10), (50, some 15)]⟩ :: ⟨some (IsV (⟨x1018_4, x1018_8, x1018_16⟩ : RegionStrip)), [(40, some 5), (44, some 9), (51, some 16)]⟩ :: ⟨some (IsV (α := (List RegionStrip)) ([(⟨x1018_4, x1018_8, x1018_16⟩ : RegionStrip)])), [(52, some 17)]⟩ :: []) hmix hs (by kernel_rfl) ⟨ob1 rfl fun b q hk hn => ok_moveOA (.inl rfl) (ownAt hn.1 (up i7 hk hn.1)), ob1 rfl fun b q hk hn => ok_move rfl (up i4 hk hn.1), ob1 rfl fun b q hk hn => ok_move rfl (up i8 hk hn.1), ob1 rfl fun b q hk hn => ok_sub rfl hn.1 (isV_int.2 rfl) hx1018_3, ob1 rfl fun b q hk hn => ok_indexAddr rfl Try.underlying63 ty3 (IsV.rd hn.1) hn.2.1 hx1018_4, ob1 rfl fun b q hk hn => ok_load rfl ty3 hn.1, ob1 rfl fun b q hk hn => ok_move rfl (up i4 hk hn.1), ob1 rfl fun b q hk hn => ok_move rfl (up i8 hk hn.1), ob1 rfl fun b q hk hn => ok_indexAddr rfl Try.underlying63 ty3 (IsV.rd hn.1) hn.2.1 hx1018_8, ob1 rfl fun b q hk hn => ok_load rfl ty3 hn.1, ob1 rfl fun b q hk hn => ok_move rfl (up i3 hk hn.1), ob1 rfl fun b q hk hn => ok_move rfl (up i4 hk hn.1), ob1 rfl fun b q hk hn => ok_move rfl (up i8 hk hn.1), ob1 rfl fun b q hk hn => ok_sub rfl hn.1 (isV_int.2 rfl) hx1018_13, ob1 rfl fun b q hk hn => ok_indexAddr rfl Try.underlying63 ty3 (IsV.rd hn.1) hn.2.1 hx1018_14, ob1 rfl fun b q hk hn => ok_load rfl ty3 hn.1, ob1 rfl fun b q hk hn => ok_call rfl Try.call83 (region_column_ok hn.1 hn.2.1 hx1018_16), ob1 rfl fun b q hk hn => ok_build rfl (bld111_0_1_2 hn.1 hn.2.1 hn.2.2.1), ob1 rfl fun b q hk hn => ok_buildSlice rfl Try.underlying88 eo111 rfl (by decide) (by decide) ⟨rfl, hn.1, trivial⟩, trivial⟩ hQQ1022 fun b q p => ?_
    have hgq := hg.then p.grow
    have hsb := p.size.trans hs
    have hdb := p.defers.trans hd
    have j3 := p.ke 3 rfl i3
    have j4 := p.ke 4 rfl i4
    have j8 := p.ke 8 rfl i8
    have e35 : b.get 35 = a.get 7 := (p.ou 0 35 rfl).1
    have j35 : IsOwn 0 111 s1013.1 (b.get 35) q := (p.ou 0 35 rfl).2
    have y35 : Lo k0 (obF (b.get 35)) := by rw [e35]; exact n7
    have j53 : (IsV (α := (List RegionStrip)) ([(⟨x1018_4, x1018_8, x1018_16⟩ : RegionStrip)])) (b.get 53) q := p.ou 18 53 rfl
    have hns := j35.nshF
    refine tail_appendS (i := 19) (d := 54) rfl rfl rfl rfl (by rw [hsb]; decide) (e := 111) Try.underlying88 eo111 j35 (IsV.rd j53) hx1018_19 fun b2 q2 hsz hdf hoth hch hown hob => ?_
    have hle := hch.le hns
    have yn : Lo k0 (obF (b2.get 54)) := y35.app hgq hob
    replace j3 := Pers.pers hle j3
    replace j4 := Pers.pers hle j4
    replace j8 := Pers.pers hle j8
    replace j53 := Pers.pers hle j53
    replace hgq := hgq.step hch y35.wr
    rw [← hoth 3 (by decide)] at j3
    rw [← hoth 4 (by decide)] at j4
    rw [← hoth 8 (by decide)] at j8
    rw [← hoth 53 (by decide)] at j53
    have j54 := hown
    have y54 := yn
    replace hsb := hsz.trans hsb
    replace hdb := hdf.trans hdb
    clear hle hch hown hob hns yn hsz hdf hoth
    obtain ⟨b, hbb⟩ : ∃ b, b = b2 := ⟨b2, rfl⟩
    subst hbb
    obtain ⟨q, hqq⟩ : ∃ q, q = q2 := ⟨q2, rfl⟩
    subst hqq
    refine tail_assign (i := 20) (d := 7) rfl rfl (.inl rfl) rfl (by rw [hsb]; decide) fun b2 hsz hdf hnew hoth => ?_
    have jn : (IsOwn 0 111 x1018_19) (b2.get 7) q := by rw [hnew]; exact j54
    have yn : Lo k0 (obF (b2.get 7)) := by rw [hnew]; exact y54
    rw [← hoth 3 (by decide)] at j3
    rw [← hoth 4 (by decide)] at j4
    rw [← hoth 8 (by decide)] at j8
    rw [← hoth 53 (by decide)] at j53
    have j7 := jn
    have y7 := yn
    replace hsb := hsz.trans hsb
    replace hdb := hdf.trans hdb
    clear hsz hdf hoth
    obtain ⟨b, hbb⟩ : ∃ b, b = b2 := ⟨b2, rfl⟩
    subst hbb
    exact tail_done (k := q) (hp1023 _ _ ⟨⟨hgq, hsb, hdb⟩, j3, j4, j7, y7, j8, trivial⟩)
   rintro a k ⟨⟨hg, hs, hd⟩, i3, i4, i7, n7, i8, _⟩
   obtain ⟨x1019_1, hx1019_1, hr⟩ := bind_some hr
   refine cut (fun a' k' => Bs noF k0 56 a' k' ∧ (IsV x986_1) (a'.get 3) k' ∧ (IsV x1009_1) (a'.get 4) k' ∧ IsOwn 0 111 x1018_19 (a'.get 7) k' ∧ Lo k0 (obF (a'.get 7)) ∧ (IsV x1019_1) (a'.get 8) k' ∧ True) ?_ hQ ?_
   ·intro Q1020 hQQ1020 hp1021
    refine gS 3 (_ :: _ :: _ :: []) hs (by kernel_rfl) ⟨mu rfl i8, o1 [(33, some 0)] rfl fun _ _ h n => ok_add rfl n.1 (cI rfl) hx1019_1, cp 1 rfl rfl, trivial⟩ hQQ1020 fun b q p => ?_
    exact tail_done (k := q) (hp1021 _ _ ⟨Bs.post ⟨hg, hs, hd⟩ p, p.ke 3 rfl i3, p.ke 4 rfl i4, p.ke 7 rfl i7, (by rw [p.old 7 rfl]; exact n7), p.ou 2 8 rfl, trivial⟩)
   rintro a k ⟨⟨hg, hs, hd⟩, i3, i4, i7, n7, i8, _⟩
   exact hgo1014 _ _ _ (Option.some.inj hr).symm ⟨⟨hg, hs, hd⟩, i3, i4, i7, n7, i8, trivial⟩
  rw [if_neg (by rw [hc1024]; decide)] at hr
  refine wp_exit ?_
  exact hex1015 _ _ _ _ (Option.some.inj hr).symm ⟨rfl, ⟨hg, hs, hd⟩, i7, n7, trivial⟩
 ·rintro r1032 a k rfl hR
  dsimp only at hr
  obtain rfl := Option.some.inj hr
  exact hR
 ·rintro _ _ _ rfl _
  simp at hr
 clear hf1027
 rintro _ s1028 a k rfl ⟨rfl, ⟨hg, hs, hd⟩, i7, n7, _⟩
 dsimp only at hr
 refine cutS (fun a' k' => Bs noF k0 56 a' k' ∧ IsOwn 0 111 s1028.1 (a'.get 2) k' ∧ Lo k0 (obF (a'.get 2)) ∧ True) ?_ ?_
 ·intro Q1030 hQQ1030 hp1031
  refine gS 2 (⟨some (OwnAt (a.get 7) 0 111 s1028.1), [(7, none)]⟩ :: ⟨some (OwnAt (a.get 7) 0 111 s1028.1), [(55, some 0)]⟩ :: []) hs (by kernel_rfl) ⟨ob1 rfl fun _ _ h n => ok_moveOA (.inl rfl) (ownAt n.1 (up i7 h n.1)), ob1 rfl fun _ _ h n => ok_moveOA (.inr rfl) n.1, trivial⟩ hQQ1030 fun b q p => ?_
  have hgq := hg.then p.grow
  have hsb := p.size.trans hs
  have hdb := p.defers.trans hd
  have e2 : b.get 2 = a.get 7 := (p.ou 1 2 rfl).1
  have j2 : IsOwn 0 111 s1028.1 (b.get 2) q := (p.ou 1 2 rfl).2
  have y2 : Lo k0 (obF (b.get 2)) := by rw [e2]; exact n7
  exact tail_done (k := q) (hp1031 _ _ ⟨⟨hgq, hsb, hdb⟩, j2, y2, trivial⟩)
 rintro a k ⟨⟨hg, hs, hd⟩, i2, n2, _⟩
 refine wp_ret ?_
 obtain rfl := Option.some.inj hr
 exact retC1 rfl hd hg (show ResOk _ _ _ (.tmp 2) _ from IsOwn.raise (k0 := k0) i2 n2)
theorem region_strips_ok {k0 : K} {v0 : Value} {lists_ : (List (List Rect))} {r : (List RegionStrip)} (i0 : (IsV lists_) v0 k0) (hr : region_strips lists_ = some r) :
  Calls Try.prog 63 #[v0] k0.w (Ret k0 (IsV r)) :=
 ret_give (region_strips_okO i0 hr)
def slices_Equal_span_L0 (s1_ : (List RegionSpan)) (s2_ : (List RegionSpan)) (s1058 : Int) : Option (Flow (Int) (Bool)) :=
 if (decide (s1058 < (s1_.length : Int))) then
  (getI s1_ s1058).bind fun x1064_2 =>
  (getI s2_ s1058).bind fun x1064_6 =>
  if (!decide (x1064_2 = x1064_6)) then
   some (.ret false)
  else
   (addI s1058 1).bind fun x1068_0 =>
   some (.go x1068_0)
 else
  some (.ex 0 s1058)
def slices_Equal_span (s1_ : (List RegionSpan)) (s2_ : (List RegionSpan)) : Option (Bool) :=
 if ((s1_.length : Int) != (s2_.length : Int)) then
  some false
 else
  (iterL (slices_Equal_span_L0 s1_ s2_) (s1_.length + 1) 0).bind fun f1079 => match f1079 with
   | .go _ => none
   | .ex _ _ =>
    some true
   | .ret r1084 => some r1084
theorem slices_Equal_span_ok {k0 : K} {v0 v1 : Value} {s1_ : (List RegionSpan)} {s2_ : (List RegionSpan)} {r : Bool} (i0 : (IsV s1_) v0 k0) (i1 : (IsV s2_) v1 k0) (hr : slices_Equal_span s1_ s2_ = some r) :
  Calls Try.prog 81 #[v0, v1] k0.w (Ret k0 (IsV r)) := by
 unfold slices_Equal_span at hr
 refine Ret.ofC ?_
 refine enterK Try.func81 rfl Try.ntmps81 (show 2 ≤ 26 by decide) fun a k hk0 hs hd ha => ?_
 obtain ⟨e0, e1, _⟩ := ha
 replace i0 : (IsV s1_) (a.get 0) k := by rw [e0, hk0]; exact i0
 replace i1 : (IsV s2_) (a.get 1) k := by rw [e1, hk0]; exact i1
 have hQ : Gb.LetsOut (bodyPost Try.prog Try.f81 (RetC noF k0 (IsV r))) := letsOutC
 have hg : Chg noF k0 k := by rw [hk0]; exact Chg.refl _ k0
 refine stepL 1 (⟨some (IsV false), []⟩ :: []) rfl ⟨hg, hs, hd⟩ (by kernel_rfl) ⟨ob1 rfl fun _ _ h n => ok_assign rfl (isV_bool.2 rfl), trivial⟩ [⟨_, _⟩, ⟨_, _⟩] (fun b q p => ⟨p.ke 0 rfl i0, p.ke 1 rfl i1, trivial⟩) ?_
 rintro a k ⟨⟨hg, hs, hd⟩, i0, i1, _⟩
 refine wp_seq ?_
 refine stepL 5 (_ :: _ :: _ :: _ :: ⟨some (IsV ((s1_.length : Int) != (s2_.length : Int))), [(7, some 1), (9, some 3)]⟩ :: []) rfl ⟨hg, hs, hd⟩ (by kernel_rfl) ⟨mu rfl i0, o1 [(6, some 0)] rfl fun _ _ h n => ok_len rfl rfl Try.underlying107 (IsV.rd n.1), mu rfl i1, o1 [(8, some 2)] rfl fun _ _ h n => ok_len rfl rfl Try.underlying107 (IsV.rd n.1), ob1 rfl fun _ _ h n => ok_neI rfl n.1 n.2.1, trivial⟩ [⟨_, _⟩, ⟨_, _⟩, ⟨_, _⟩] (fun b q p => ⟨p.ke 0 rfl i0, p.ke 1 rfl i1, p.ou 4 10 rfl, trivial⟩) ?_
 rintro a k ⟨⟨hg, hs, hd⟩, i0, i1, i10, _⟩
 refine wp_cond_split (isBool i10) (fun hc1088 => ?_) (fun hc1088 => ?_)
 ·rw [if_pos hc1088] at hr
  refine stepL 1 (⟨some (IsV false), []⟩ :: []) rfl ⟨hg, hs, hd⟩ (by kernel_rfl) ⟨ob1 rfl fun _ _ h n => ok_assign rfl (isV_bool.2 rfl), trivial⟩ [⟨_, _⟩] (fun b q p => ⟨p.ou 0 4 rfl, trivial⟩) ?_
  rintro a k ⟨⟨hg, hs, hd⟩, i4, _⟩
  refine wp_ret ?_
  obtain rfl := Option.some.inj hr
  exact retC1 rfl hd hg i4
 rw [if_neg (by rw [hc1088]; decide)] at hr
 refine wp_skip ?_
 refine wp_seq ?_
 refine stepL 3 (_ :: _ :: ⟨some (IsI 0), []⟩ :: []) rfl ⟨hg, hs, hd⟩ (by kernel_rfl) ⟨mu rfl i0, o1 [(11, some 0)] rfl fun _ _ h n => ok_len rfl rfl Try.underlying107 (IsV.rd n.1), ob1 rfl fun _ _ h n => ok_move rfl (cI rfl), trivial⟩ [⟨_, _⟩, ⟨_, _⟩, ⟨_, _⟩, ⟨_, _⟩] (fun b q p => ⟨p.ke 0 rfl i0, p.ke 1 rfl i1, p.ou 1 12 rfl, p.ou 2 13 rfl, trivial⟩) ?_
 rintro a k ⟨⟨hg, hs, hd⟩, i0, i1, i12, i13, _⟩
 refine wp_block ?_
 obtain ⟨f1079, hf1079, hr⟩ := bind_some hr
 refine cutFe f1079 (fun s' a' k' => Bs noF k0 26 a' k' ∧ (IsV s1_) (a'.get 0) k' ∧ (IsV s2_) (a'.get 1) k' ∧ (IsL s1_) (a'.get 12) k' ∧ (IsV s') (a'.get 13) k' ∧ True) (fun i' s' a' k' => (i' = 0 ∧ Bs noF k0 26 a' k' ∧ True)) (fun r' a' k' => bodyPost Try.prog Try.f81 (RetC noF k0 (IsV r')) .ret a' k'.w) ?_ hQ ?_ ?_ ?_
 ·intro Q1085 hQQ1085 hgo hex hret
  refine sim_loop ?_ _ _ _ _ _ hf1079 ⟨⟨hg, hs, hd⟩, i0, i1, i12, i13, trivial⟩ Q1085 hQQ1085 hgo hex hret
  clear hr hf1079 hgo hex hret hQQ1085 hQ hg hs hd i0 i1 i12 i13
  intro s1058 fl_ a k hr hS Q hQ hgo1059 hex1060 hret1061
  obtain ⟨⟨hg, hs, hd⟩, i0, i1, i12, i13, _⟩ := hS
  unfold slices_Equal_span_L0 at hr
  refine stepL 1 (_ :: []) rfl ⟨hg, hs, hd⟩ (by kernel_rfl) ⟨o1 [(13, none), (12, none)] rfl fun _ _ h n => ok_lss rfl (up i13 h n.1) (up i12 h n.2.1), trivial⟩ [⟨_, _⟩, ⟨_, _⟩, ⟨_, _⟩, ⟨_, _⟩, ⟨_, _⟩] (fun b q p => ⟨p.ke 0 rfl i0, p.ke 1 rfl i1, p.ke 12 rfl i12, p.ke 13 rfl i13, p.ou 0 14 rfl, trivial⟩) ?_
  rintro a k ⟨⟨hg, hs, hd⟩, i0, i1, i12, i13, i14, _⟩
  refine wp_seq ?_
  refine wp_cond_split (isBool i14) (fun hc1076 => ?_) (fun hc1076 => ?_)
  ·rw [if_pos hc1076] at hr
   refine wp_skip ?_
   refine wp_seq ?_
   refine wp_block ?_
   refine stepL 2 (_ :: _ :: []) rfl ⟨hg, hs, hd⟩ (by kernel_rfl) ⟨mu rfl i13, cp 0 rfl rfl, trivial⟩ [⟨_, _⟩, ⟨_, _⟩, ⟨_, _⟩, ⟨_, _⟩, ⟨_, _⟩] (fun b q p => ⟨p.ke 0 rfl i0, p.ke 1 rfl i1, p.ou 1 5 rfl, p.ke 12 rfl i12, p.ke 13 rfl i13, trivial⟩) ?_
   rintro a k ⟨⟨hg, hs, hd⟩, i0, i1, i5, i12, i13, _⟩
   refine wp_seq ?_
   obtain ⟨x1064_2, hx1064_2, hr⟩ := bind_some hr
   obtain ⟨x1064_6, hx1064_6, hr⟩ := bind_some hr
   refine cut (fun a' k' => Bs noF k0 26 a' k' ∧ (IsV s1_) (a'.get 0) k' ∧ (IsV s2_) (a'.get 1) k' ∧ (IsL s1_) (a'.get 12) k' ∧ (IsV s1058) (a'.get 13) k' ∧ (IsV (!decide (x1064_2 = x1064_6))) (a'.get 24) k' ∧ True) ?_ hQ ?_
   ·intro Q1072 hQQ1072 hp1073
    refine region (a0 := a) (k0 := k) (n := 26) (m := 9) (⟨some (IsV s1_), [(0, none)]⟩ :: ⟨some (IsV s1058), [(5, none)]⟩ :: ⟨some (IsPtr x1064_2), [(16, some 0), (17, some 1)]⟩ :: ⟨some (IsV x1064_2), [(18, some 2)]⟩ :: ⟨some (IsV s2_), [(1, none)]⟩ :: ⟨some (IsV s1058), [(5, none)]⟩ :: ⟨some (IsPtr x1064_6), [(20, some 4), (21, some 5)]⟩ :: ⟨some (IsV x1064_6), [(22, some 6)]⟩ :: ⟨some (IsV (!decide (x1064_2 = x1064_6))), [(19, some 3), (23, some 7)]⟩ :: []) hmix hs (by kernel_rfl) ⟨ob1 rfl fun b q hk hn => ok_move rfl (up i0 hk hn.1), ob1 rfl fun b q hk hn => ok_move rfl (up i5 hk hn.1), ob1 rfl fun b q hk hn => ok_indexAddr rfl Try.underlying107 ty109 (IsV.rd hn.1) hn.2.1 hx1064_2, ob1 rfl fun b q hk hn => ok_load rfl ty109 hn.1, ob1 rfl fun b q hk hn => ok_move rfl (up i1 hk hn.1), ob1 rfl fun b q hk hn => ok_move rfl (up i5 hk hn.1), ob1 rfl fun b q hk hn => ok_indexAddr rfl Try.underlying107 ty109 (IsV.rd hn.1) hn.2.1 hx1064_6, ob1 rfl fun b q hk hn => ok_load rfl ty109 hn.1, ob1 rfl fun b q hk hn => ok_neA rfl eq109 hn.1 hn.2.1, trivial⟩ hQQ1072 fun b q p => ?_
    exact tail_done (k := q) (hp1073 _ _ ⟨Bs.post ⟨hg, hs, hd⟩ p, p.ke 0 rfl i0, p.ke 1 rfl i1, p.ke 12 rfl i12, p.ke 13 rfl i13, p.ou 8 24 rfl, trivial⟩)
   rintro a k ⟨⟨hg, hs, hd⟩, i0, i1, i12, i13, i24, _⟩
   refine wp_cond_split (isBool i24) (fun hc1071 => ?_) (fun hc1071 => ?_)
   ·rw [if_pos hc1071] at hr
    refine stepL 1 (⟨some (IsV false), []⟩ :: []) rfl ⟨hg, hs, hd⟩ (by kernel_rfl) ⟨ob1 rfl fun _ _ h n => ok_assign rfl (isV_bool.2 rfl), trivial⟩ [⟨_, _⟩] (fun b q p => ⟨p.ou 0 4 rfl, trivial⟩) ?_
    rintro a k ⟨⟨hg, hs, hd⟩, i4, _⟩
    refine wp_ret ?_
    exact hret1061 _ _ _ (Option.some.inj hr).symm (retC1 rfl hd hg i4)
   rw [if_neg (by rw [hc1071]; decide)] at hr
   refine wp_skip ?_
   obtain ⟨x1068_0, hx1068_0, hr⟩ := bind_some hr
   refine cut (fun a' k' => Bs noF k0 26 a' k' ∧ (IsV s1_) (a'.get 0) k' ∧ (IsV s2_) (a'.get 1) k' ∧ (IsL s1_) (a'.get 12) k' ∧ (IsV x1068_0) (a'.get 13) k' ∧ True) ?_ hQ ?_
   ·intro Q1069 hQQ1069 hp1070
    refine gS 2 (_ :: _ :: []) hs (by kernel_rfl) ⟨o1 [(13, none)] rfl fun _ _ h n => ok_add rfl (up i13 h n.1) (cI rfl) hx1068_0, cm 0 rfl rfl, trivial⟩ hQQ1069 fun b q p => ?_
    exact tail_done (k := q) (hp1070 _ _ ⟨Bs.post ⟨hg, hs, hd⟩ p, p.ke 0 rfl i0, p.ke 1 rfl i1, p.ke 12 rfl i12, p.ou 1 13 rfl, trivial⟩)
   rintro a k ⟨⟨hg, hs, hd⟩, i0, i1, i12, i13, _⟩
   exact hgo1059 _ _ _ (Option.some.inj hr).symm ⟨⟨hg, hs, hd⟩, i0, i1, i12, i13, trivial⟩
  rw [if_neg (by rw [hc1076]; decide)] at hr
  refine wp_exit ?_
  exact hex1060 _ _ _ _ (Option.some.inj hr).symm ⟨rfl, ⟨hg, hs, hd⟩, trivial⟩
 ·rintro r1084 a k rfl hR
  dsimp only at hr
  obtain rfl := Option.some.inj hr
  exact hR
 ·rintro _ _ _ rfl _
  simp at hr
 clear hf1079
 rintro _ s1080 a k rfl ⟨rfl, ⟨hg, hs, hd⟩, _⟩
 dsimp only at hr
 refine stepL 1 (⟨some (IsV true), []⟩ :: []) rfl ⟨hg, hs, hd⟩ (by kernel_rfl) ⟨ob1 rfl fun _ _ h n => ok_assign rfl (isV_bool.2 rfl), trivial⟩ [⟨_, _⟩] (fun b q p => ⟨p.ou 0 4 rfl, trivial⟩) ?_
 rintro a k ⟨⟨hg, hs, hd⟩, i4, _⟩
 refine wp_ret ?_
 obtain rfl := Option.some.inj hr
 exact retC1 rfl hd hg i4
def region_write_L1 (l_ : (List RegionStrip)) (s1096 : (List Rect) × Int) (s1102 : Int) : Option (Flow (Int) ((List Rect))) :=
 (if (decide (s1102 < (l_.length : Int))) then
  (getI l_ s1102).bind fun x1106_7 =>
  (getI l_ s1096.2).bind fun x1106_12 =>
  (slices_Equal_span x1106_7.column x1106_12.column).bind fun x1106_15 =>
  some x1106_15
 else
  some false).bind fun x1106_16 =>
 if x1106_16 then
  (addI s1102 1).bind fun x1107_1 =>
  some (.go x1107_1)
 else
  some (.ex 2 s1102)
def region_write_L2 (l_ : (List RegionStrip)) (s1096 : (List Rect) × Int) (s1114 : Int) (x1115_2 : RegionStrip) (s1116 : (List Rect) × Int) : Option (Flow ((List Rect) × Int) ((List Rect))) :=
 if (decide (s1116.2 < (x1115_2.column.length : Int))) then
  (getI x1115_2.column s1116.2).bind fun x1121_0 =>
  (getI l_ s1096.2).bind fun x1122_3 =>
  (subI s1114 1).bind fun x1122_10 =>
  (getI l_ x1122_10).bind fun x1122_11 =>
  (appI s1116.1 ([(⟨x1122_3.x0, x1121_0.from_, x1122_11.x1, x1121_0.to_⟩ : Rect)])).bind fun x1122_18 =>
  (addI s1116.2 1).bind fun x1123_0 =>
  some (.go (x1122_18, x1123_0))
 else
  some (.ex 4 (s1116.1, s1116.2))
def region_write_L0 (l_ : (List RegionStrip)) (s1096 : (List Rect) × Int) : Option (Flow ((List Rect) × Int) ((List Rect))) :=
 if (decide (s1096.2 < (l_.length : Int))) then
  (addI s1096.2 1).bind fun x1101_1 =>
  (iterL (region_write_L1 l_ s1096) (l_.length + s1096.1.length + 1) x1101_1).bind fun f1113 => match f1113 with
   | .go _ => none
   | .ex _ s1114 =>
    (getI l_ s1096.2).bind fun x1115_2 =>
    (iterL (region_write_L2 l_ s1096 s1114 x1115_2) (x1115_2.column.length + 1) (s1096.1, 0)).bind fun f1133 => match f1133 with
     | .go _ => none
     | .ex _ s1134 =>
      some (.go (s1134.1, s1114))
     | .ret r1138 => some (.ret r1138)
   | .ret r1142 => some (.ret r1142)
 else
  some (.ex 0 (s1096.1, s1096.2))
def region_write (l_ : (List RegionStrip)) : Option ((List Rect)) :=
 (iterL (region_write_L0 l_) (l_.length + ([] : List Rect).length + 1) (([] : List Rect), 0)).bind fun f1150 => match f1150 with
  | .go _ => none
  | .ex _ s1151 =>
   some s1151.1
  | .ret r1155 => some r1155
theorem region_write_ok {k0 : K} {v0 : Value} {l_ : (List RegionStrip)} {r : (List Rect)} (i0 : (IsV l_) v0 k0) (hr : region_write l_ = some r) :
  Calls Try.prog 62 #[v0] k0.w (Ret k0 (IsV r)) := by
 unfold region_write at hr
 refine Ret.ofC ?_
 refine enterK Try.func62 rfl Try.ntmps62 (show 1 ≤ 65 by decide) fun a k hk0 hs hd ha => ?_
 obtain ⟨e0, _⟩ := ha
 replace i0 : (IsV l_) (a.get 0) k := by rw [e0, hk0]; exact i0
 have hQ : Gb.LetsOut (bodyPost Try.prog Try.f62 (RetC noF k0 (IsV r))) := letsOutC
 have hg : Chg noF k0 k := by rw [hk0]; exact Chg.refl _ k0
 refine stepL 1 (⟨some IsE0, []⟩ :: []) rfl ⟨hg, hs, hd⟩ (by kernel_rfl) ⟨ob1 rfl fun b q h n => ok_assign rfl isE0_nil, trivial⟩ [⟨_, _⟩] (fun b q p => ⟨p.ke 0 rfl i0, trivial⟩) ?_
 rintro a k ⟨⟨hg, hs, hd⟩, i0, _⟩
 refine cutS (fun a' k' => Bs noF k0 65 a' k' ∧ (IsV l_) (a'.get 0) k' ∧ IsOwn 0 35 ([] : List Rect) (a'.get 3) k' ∧ Lo k0 (obF (a'.get 3)) ∧ True) ?_ ?_
 ·intro Q1159 hQQ1159 hp1160
  refine gS 1 (⟨some IsE0, []⟩ :: []) hs (by kernel_rfl) ⟨ob1 rfl fun b q h n => ok_assign rfl isE0_nil, trivial⟩ hQQ1159 fun b q p => ?_
  have hgq := hg.then p.grow
  have hsb := p.size.trans hs
  have hdb := p.defers.trans hd
  have j0 := p.ke 0 rfl i0
  have j3 : IsE0 (b.get 3) q := p.ou 0 3 rfl
  have y3 : Lo k0 (obF (b.get 3)) := j3.lo
  replace j3 : IsOwn 0 35 ([] : List Rect) (b.get 3) q := j3.own0
  exact tail_done (k := q) (hp1160 _ _ ⟨⟨hgq, hsb, hdb⟩, j0, j3, y3, trivial⟩)
 rintro a k ⟨⟨hg, hs, hd⟩, i0, i3, n3, _⟩
 refine wp_seq ?_
 refine cutS (fun a' k' => Bs noF k0 65 a' k' ∧ (IsV l_) (a'.get 0) k' ∧ IsOwn 0 35 ([] : List Rect) (a'.get 3) k' ∧ Lo k0 (obF (a'.get 3)) ∧ (IsI 0) (a'.get 4) k' ∧ True) ?_ ?_
 ·intro Q1157 hQQ1157 hp1158
  refine gS 1 (⟨some (IsI 0), []⟩ :: []) hs (by kernel_rfl) ⟨aI rfl rfl, trivial⟩ hQQ1157 fun b q p => ?_
  exact tail_done (k := q) (hp1158 _ _ ⟨Bs.post ⟨hg, hs, hd⟩ p, p.ke 0 rfl i0, p.ke 3 rfl i3, (by rw [p.old 3 rfl]; exact n3), p.ou 0 4 rfl, trivial⟩)
 rintro a k ⟨⟨hg, hs, hd⟩, i0, i3, n3, i4, _⟩
 refine wp_block ?_
 obtain ⟨f1150, hf1150, hr⟩ := bind_some hr
 refine cutFe f1150 (fun s' a' k' => Bs noF k0 65 a' k' ∧ (IsV l_) (a'.get 0) k' ∧ IsOwn 0 35 s'.1 (a'.get 3) k' ∧ Lo k0 (obF (a'.get 3)) ∧ (IsV s'.2) (a'.get 4) k' ∧ True) (fun i' s' a' k' => (i' = 0 ∧ Bs noF k0 65 a' k' ∧ (IsV s'.1) (a'.get 3) k' ∧ True)) (fun r' a' k' => bodyPost Try.prog Try.f62 (RetC noF k0 (IsV r')) .ret a' k'.w) ?_ hQ ?_ ?_ ?_
 ·intro Q1156 hQQ1156 hgo hex hret
  refine sim_loop ?_ _ _ _ _ _ hf1150 ⟨⟨hg, hs, hd⟩, i0, i3, n3, i4, trivial⟩ Q1156 hQQ1156 hgo hex hret
  clear hr hf1150 hgo hex hret hQQ1156 hQ hg hs hd i0 i3 i4 n3
  intro s1096 fl_ a k hr hS Q hQ hgo1097 hex1098 hret1099
  obtain ⟨⟨hg, hs, hd⟩, i0, i3, n3, i4, _⟩ := hS
  unfold region_write_L0 at hr
  refine wp_seq ?_
  refine cutS (fun a' k' => Bs noF k0 65 a' k' ∧ (IsV l_) (a'.get 0) k' ∧ IsOwn 0 35 s1096.1 (a'.get 3) k' ∧ Lo k0 (obF (a'.get 3)) ∧ (IsV s1096.2) (a'.get 4) k' ∧ (IsV (decide (s1096.2 < (l_.length : Int)))) (a'.get 11) k' ∧ True) ?_ ?_
  ·intro Q1148 hQQ1148 hp1149
   refine gS 4 (_ :: _ :: _ :: _ :: []) hs (by kernel_rfl) ⟨mu rfl i4, mu rfl i0, o1 [(9, some 1)] rfl fun _ _ h n => ok_len rfl rfl Try.underlying88 (IsV.rd n.1), o1 [(8, some 0), (10, some 2)] rfl fun _ _ h n => ok_lss rfl n.1 n.2.1, trivial⟩ hQQ1148 fun b q p => ?_
   exact tail_done (k := q) (hp1149 _ _ ⟨Bs.post ⟨hg, hs, hd⟩ p, p.ke 0 rfl i0, p.ke 3 rfl i3, (by rw [p.old 3 rfl]; exact n3), p.ke 4 rfl i4, p.ou 3 11 rfl, trivial⟩)
  rintro a k ⟨⟨hg, hs, hd⟩, i0, i3, n3, i4, i11, _⟩
  refine wp_cond_split (isBool i11) (fun hc1147 => ?_) (fun hc1147 => ?_)
  ·rw [if_pos hc1147] at hr
   refine wp_skip ?_
   refine wp_block ?_
   refine wp_seq ?_
   obtain ⟨x1101_1, hx1101_1, hr⟩ := bind_some hr
   refine cut (fun a' k' => Bs noF k0 65 a' k' ∧ (IsV l_) (a'.get 0) k' ∧ IsOwn 0 35 s1096.1 (a'.get 3) k' ∧ Lo k0 (obF (a'.get 3)) ∧ (IsV s1096.2) (a'.get 4) k' ∧ (IsV x1101_1) (a'.get 5) k' ∧ True) ?_ hQ ?_
   ·intro Q1144 hQQ1144 hp1145
    refine gS 3 (_ :: _ :: _ :: []) hs (by kernel_rfl) ⟨mu rfl i4, o1 [(12, some 0)] rfl fun _ _ h n => ok_add rfl n.1 (cI rfl) hx1101_1, cp 1 rfl rfl, trivial⟩ hQQ1144 fun b q p => ?_
    exact tail_done (k := q) (hp1145 _ _ ⟨Bs.post ⟨hg, hs, hd⟩ p, p.ke 0 rfl i0, p.ke 3 rfl i3, (by rw [p.old 3 rfl]; exact n3), p.ke 4 rfl i4, p.ou 2 5 rfl, trivial⟩)
   rintro a k ⟨⟨hg, hs, hd⟩, i0, i3, n3, i4, i5, _⟩
   refine wp_seq ?_
   refine wp_block ?_
   obtain ⟨f1113, hf1113, hr⟩ := bind_some hr
   refine cutFe f1113 (fun s' a' k' => Bs noF k0 65 a' k' ∧ (IsV l_) (a'.get 0) k' ∧ IsOwn 0 35 s1096.1 (a'.get 3) k' ∧ Lo k0 (obF (a'.get 3)) ∧ (IsV s1096.2) (a'.get 4) k' ∧ (IsV s') (a'.get 5) k' ∧ True) (fun i' s' a' k' => (i' = 2 ∧ Bs noF k0 65 a' k' ∧ (IsV l_) (a'.get 0) k' ∧ IsOwn 0 35 s1096.1 (a'.get 3) k' ∧ Lo k0 (obF (a'.get 3)) ∧ (IsV s1096.2) (a'.get 4) k' ∧ (IsV s') (a'.get 5) k' ∧ True)) (fun r' a' k' => bodyPost Try.prog Try.f62 (RetC noF k0 (IsV r')) .ret a' k'.w) ?_ hQ ?_ ?_ ?_
   ·intro Q1143 hQQ1143 hgo hex hret
    refine sim_loop ?_ _ _ _ _ _ hf1113 ⟨⟨hg, hs, hd⟩, i0, i3, n3, i4, i5, trivial⟩ Q1143 hQQ1143 hgo hex hret
    clear hr hf1113 hgo hex hret hQQ1143 hQ hg hs hd i0 i3 i4 i5 n3
    intro s1102 fl_ a k hr hS Q hQ hgo1103 hex1104 hret1105
    obtain ⟨⟨hg, hs, hd⟩, i0, i3, n3, i4, i5, _⟩ := hS
    unfold region_write_L1 at hr
    refine wp_seq ?_
    refine wp_seq ?_
    obtain ⟨x1106_16, hx1106_16, hr⟩ := bind_some hr
    obtain ⟨x1106_7, hx1106_7, hx1106_16⟩ := ite_bind hx1106_16
    obtain ⟨x1106_12, hx1106_12, hx1106_16⟩ := ite_bind hx1106_16
    obtain ⟨x1106_15, hx1106_15, hx1106_16⟩ := ite_bind hx1106_16
    refine cut (fun a' k' => Bs noF k0 65 a' k' ∧ (IsV l_) (a'.get 0) k' ∧ IsOwn 0 35 s1096.1 (a'.get 3) k' ∧ Lo k0 (obF (a'.get 3)) ∧ (IsV s1096.2) (a'.get 4) k' ∧ (IsV s1102) (a'.get 5) k' ∧ (IsV x1106_16) (a'.get 30) k' ∧ True) ?_ hQ ?_
    ·intro Q1111 hQQ1111 hp1112
     refine region (a0 := a) (k0 := k) (n := 65) (m := 17) (⟨some (IsV s1102), [(5, none)]⟩ :: ⟨some (IsV l_), [(0, none)]⟩ :: ⟨some (IsL l_), [(15, some 1)]⟩ :: ⟨some (IsV (decide (s1102 < (l_.length : Int)))), [(14, some 0), (16, some 2)]⟩ :: ⟨some (IsV (decide (s1102 < (l_.length : Int)))), [(17, some 3)]⟩ :: ⟨some (Gd ((decide (s1102 < (l_.length : Int))) = true) (IsV l_)), [(0, none)]⟩ :: ⟨some (Gd ((decide (s1102 < (l_.length : Int))) = true) (IsV s1102)), [(5, none)]⟩ :: ⟨some (Gd ((decide (s1102 < (l_.length : Int))) = true) (IsPtr x1106_7)), [(19, some 5), (20, some 6)]⟩ :: ⟨some (Gd ((decide (s1102 < (l_.length : Int))) = true) (IsPtr x1106_7.column)), [(21, some 7)]⟩ :: ⟨some (Gd ((decide (s1102 < (l_.length : Int))) = true) (IsV x1106_7.column)), [(22, some 8)]⟩ :: ⟨some (Gd ((decide (s1102 < (l_.length : Int))) = true) (IsV l_)), [(0, none)]⟩ :: ⟨some (Gd ((decide (s1102 < (l_.length : Int))) = true) (IsV s1096.2)), [(4, none)]⟩ :: ⟨some (Gd ((decide (s1102 < (l_.length : Int))) = true) (IsPtr x1106_12)), [(24, some 10), (25, some 11)]⟩ :: ⟨some (Gd ((decide (s1102 < (l_.length : Int))) = true) (IsPtr x1106_12.column)), [(26, some 12)]⟩ :: ⟨some (Gd ((decide (s1102 < (l_.length : Int))) = true) (IsV x1106_12.column)), [(27, some 13)]⟩ :: ⟨some (Gd ((decide (s1102 < (l_.length : Int))) = true) (IsV x1106_15)), [(23, some 9), (28, some 14)]⟩ :: ⟨some (IsV x1106_16), [(18, some 4), (29, some 15)]⟩ :: []) hmix hs (by kernel_rfl) ⟨ob1 rfl fun b q hk hn => ok_move rfl (up i5 hk hn.1), ob1 rfl fun b q hk hn => ok_move rfl (up i0 hk hn.1), ob1 rfl fun b q hk hn => ok_len rfl rfl Try.underlying88 (IsV.rd hn.1), ob1 rfl fun b q hk hn => ok_lss rfl hn.1 hn.2.1, ob1 rfl fun b q hk hn => ok_move rfl hn.1, gdT rfl rfl fun hp b q hk hn => ok_move rfl (up i0 hk hn.1), gdT rfl rfl fun hp b q hk hn => ok_move rfl (up i5 hk hn.1), gdT rfl rfl fun hp b q hk hn => ok_indexAddr rfl Try.underlying88 ty111 (IsV.rd (Gd.get hn.1 hp)) (Gd.get hn.2.1 hp) (hx1106_7 hp), gdT rfl rfl fun hp b q hk hn => ok_fieldAddr rfl fo111_2 (at_RegionStrip_2 _) (Gd.get hn.1 hp), gdT rfl rfl fun hp b q hk hn => ok_load rfl ty107 (Gd.get hn.1 hp), gdT rfl rfl fun hp b q hk hn => ok_move rfl (up i0 hk hn.1), gdT rfl rfl fun hp b q hk hn => ok_move rfl (up i4 hk hn.1), gdT rfl rfl fun hp b q hk hn => ok_indexAddr rfl Try.underlying88 ty111 (IsV.rd (Gd.get hn.1 hp)) (Gd.get hn.2.1 hp) (hx1106_12 hp), gdT rfl rfl fun hp b q hk hn => ok_fieldAddr rfl fo111_2 (at_RegionStrip_2 _) (Gd.get hn.1 hp), gdT rfl rfl fun hp b q hk hn => ok_load rfl ty107 (Gd.get hn.1 hp), gdT rfl rfl fun hp b q hk hn => ok_call rfl Try.call81 (slices_Equal_span_ok (Gd.get hn.1 hp) (Gd.get hn.2.1 hp) (hx1106_15 hp)), ob1 rfl fun b q hk hn => ok_pickM rfl hn.1 hx1106_16 (fun hm => (Gd.get hn.2.1 hm)) (fun _ => (isV_bool.2 rfl)), trivial⟩ hQQ1111 fun b q p => ?_
     exact tail_done (k := q) (hp1112 _ _ ⟨Bs.post ⟨hg, hs, hd⟩ p, p.ke 0 rfl i0, p.ke 3 rfl i3, (by rw [p.old 3 rfl]; exact n3), p.ke 4 rfl i4, p.ke 5 rfl i5, p.ou 16 30 rfl, trivial⟩)
    rintro a k ⟨⟨hg, hs, hd⟩, i0, i3, n3, i4, i5, i30, _⟩
    refine wp_cond_split (isBool i30) (fun hc1110 => ?_) (fun hc1110 => ?_)
    ·rw [if_pos hc1110] at hr
     refine wp_skip ?_
     refine wp_block ?_
     obtain ⟨x1107_1, hx1107_1, hr⟩ := bind_some hr
     refine cut (fun a' k' => Bs noF k0 65 a' k' ∧ (IsV l_) (a'.get 0) k' ∧ IsOwn 0 35 s1096.1 (a'.get 3) k' ∧ Lo k0 (obF (a'.get 3)) ∧ (IsV s1096.2) (a'.get 4) k' ∧ (IsV x1107_1) (a'.get 5) k' ∧ True) ?_ hQ ?_
     ·intro Q1108 hQQ1108 hp1109
      refine gS 3 (_ :: _ :: _ :: []) hs (by kernel_rfl) ⟨mu rfl i5, o1 [(31, some 0)] rfl fun _ _ h n => ok_add rfl n.1 (cI rfl) hx1107_1, cp 1 rfl rfl, trivial⟩ hQQ1108 fun b q p => ?_
      exact tail_done (k := q) (hp1109 _ _ ⟨Bs.post ⟨hg, hs, hd⟩ p, p.ke 0 rfl i0, p.ke 3 rfl i3, (by rw [p.old 3 rfl]; exact n3), p.ke 4 rfl i4, p.ou 2 5 rfl, trivial⟩)
     rintro a k ⟨⟨hg, hs, hd⟩, i0, i3, n3, i4, i5, _⟩
     exact hgo1103 _ _ _ (Option.some.inj hr).symm ⟨⟨hg, hs, hd⟩, i0, i3, n3, i4, i5, trivial⟩
    rw [if_neg (by rw [hc1110]; decide)] at hr
    refine wp_exit ?_
    exact hex1104 _ _ _ _ (Option.some.inj hr).symm ⟨rfl, ⟨hg, hs, hd⟩, i0, i3, n3, i4, i5, trivial⟩
   ·rintro r1142 a k rfl hR
    dsimp only at hr
    exact hret1099 _ _ _ (Option.some.inj hr).symm hR
   ·rintro _ _ _ rfl _
    simp at hr
   clear hf1113
   rintro _ s1114 a k rfl ⟨rfl, ⟨hg, hs, hd⟩, i0, i3, n3, i4, i5, _⟩
   dsimp only at hr
   refine wp_seq ?_
   refine wp_seq ?_
   obtain ⟨x1115_2, hx1115_2, hr⟩ := bind_some hr
   refine cut (fun a' k' => Bs noF k0 65 a' k' ∧ (IsV l_) (a'.get 0) k' ∧ IsOwn 0 35 s1096.1 (a'.get 3) k' ∧ Lo k0 (obF (a'.get 3)) ∧ (IsV s1096.2) (a'.get 4) k' ∧ (IsV s1114) (a'.get 5) k' ∧ (IsV x1115_2.column) (a'.get 37) k' ∧ (IsI (x1115_2.column.length : Int)) (a'.get 38) k' ∧ (IsI 0) (a'.get 39) k' ∧ True) ?_ hQ ?_
   ·intro Q1140 hQQ1140 hp1141
    refine gS 7 (_ :: _ :: _ :: _ :: _ :: _ :: ⟨some (IsI 0), []⟩ :: []) hs (by kernel_rfl) ⟨mu rfl i0, mu rfl i4, o1 [(33, some 0), (34, some 1)] rfl fun _ _ h n => ok_indexAddr rfl Try.underlying88 ty111 (IsV.rd n.1) n.2.1 hx1115_2, o1 [(35, some 2)] rfl fun _ _ h n => ok_fieldAddr rfl fo111_2 (at_RegionStrip_2 _) n.1, o1 [(36, some 3)] rfl fun _ _ h n => ok_load rfl ty107 n.1, o1 [(37, some 4)] rfl fun _ _ h n => ok_len rfl rfl Try.underlying107 (IsV.rd n.1), ob1 rfl fun _ _ h n => ok_move rfl (cI rfl), trivial⟩ hQQ1140 fun b q p => ?_
    exact tail_done (k := q) (hp1141 _ _ ⟨Bs.post ⟨hg, hs, hd⟩ p, p.ke 0 rfl i0, p.ke 3 rfl i3, (by rw [p.old 3 rfl]; exact n3), p.ke 4 rfl i4, p.ke 5 rfl i5, p.ou 4 37 rfl, p.ou 5 38 rfl, p.ou 6 39 rfl, trivial⟩)
   rintro a k ⟨⟨hg, hs, hd⟩, i0, i3, n3, i4, i5, i37, i38, i39, _⟩
   refine wp_block ?_
   obtain ⟨f1133, hf1133, hr⟩ := bind_some hr
   refine cutFe f1133 (fun s' a' k' => Bs noF k0 65 a' k' ∧ (IsV l_) (a'.get 0) k' ∧ IsOwn 0 35 s'.1 (a'.get 3) k' ∧ Lo k0 (obF (a'.get 3)) ∧ (IsV s1096.2) (a'.get 4) k' ∧ (IsV s1114) (a'.get 5) k' ∧ (IsV x1115_2.column) (a'.get 37) k' ∧ (IsI (x1115_2.column.length : Int)) (a'.get 38) k' ∧ (IsV s'.2) (a'.get 39) k' ∧ True) (fun i' s' a' k' => (i' = 4 ∧ Bs noF k0 65 a' k' ∧ (IsV l_) (a'.get 0) k' ∧ IsOwn 0 35 s'.1 (a'.get 3) k' ∧ Lo k0 (obF (a'.get 3)) ∧ (IsV s1114) (a'.get 5) k' ∧ True)) (fun r' a' k' => bodyPost Try.prog Try.f62 (RetC noF k0 (IsV r')) .ret a' k'.w) ?_ hQ ?_ ?_ ?_
   ·intro Q1139 hQQ1139 hgo hex hret
    refine sim_loop ?_ _ _ _ _ _ hf1133 ⟨⟨hg, hs, hd⟩, i0, i3, n3, i4, i5, i37, i38, i39, trivial⟩ Q1139 hQQ1139 hgo hex hret
    clear hr hf1133 hgo hex hret hQQ1139 hQ hg hs hd i0 i3 i37 i38 i39 i4 i5 n3
    intro s1116 fl_ a k hr hS Q hQ hgo1117 hex1118 hret1119
    obtain ⟨⟨hg, hs, hd⟩, i0, i3, n3, i4, i5, i37, i38, i39, _⟩ := hS
    unfold region_write_L2 at hr
    refine cutS (fun a' k' => Bs noF k0 65 a' k' ∧ (IsV l_) (a'.get 0) k' ∧ IsOwn 0 35 s1116.1 (a'.get 3) k' ∧ Lo k0 (obF (a'.get 3)) ∧ (IsV s1096.2) (a'.get 4) k' ∧ (IsV s1114) (a'.get 5) k' ∧ (IsV x1115_2.column) (a'.get 37) k' ∧ (IsI (x1115_2.column.length : Int)) (a'.get 38) k' ∧ (IsV s1116.2) (a'.get 39) k' ∧ (IsV (decide (s1116.2 < (x1115_2.column.length : Int)))) (a'.get 40) k' ∧ True) ?_ ?_
    ·intro Q1131 hQQ1131 hp1132
     refine gS 1 (_ :: []) hs (by kernel_rfl) ⟨o1 [(39, none), (38, none)] rfl fun _ _ h n => ok_lss rfl (up i39 h n.1) (up i38 h n.2.1), trivial⟩ hQQ1131 fun b q p => ?_
     exact tail_done (k := q) (hp1132 _ _ ⟨Bs.post ⟨hg, hs, hd⟩ p, p.ke 0 rfl i0, p.ke 3 rfl i3, (by rw [p.old 3 rfl]; exact n3), p.ke 4 rfl i4, p.ke 5 rfl i5, p.ke 37 rfl i37, p.ke 38 rfl i38, p.ke 39 rfl i39, p.ou 0 40 rfl, trivial⟩)
    rintro a k ⟨⟨hg, hs, hd⟩, i0, i3, n3, i4, i5, i37, i38, i39, i40, _⟩
    refine wp_seq ?_
    refine wp_cond_split (isBool i40) (fun hc1130 => ?_) (fun hc1130 => ?_)
    ·rw [if_pos hc1130] at hr
     refine wp_skip ?_
     refine wp_seq ?_
     refine wp_block ?_
     refine wp_seq ?_
     obtain ⟨x1121_0, hx1121_0, hr⟩ := bind_some hr
     refine cut (fun a' k' => Bs noF k0 65 a' k' ∧ (IsV l_) (a'.get 0) k' ∧ IsOwn 0 35 s1116.1 (a'.get 3) k' ∧ Lo k0 (obF (a'.get 3)) ∧ (IsV s1096.2) (a'.get 4) k' ∧ (IsV s1114) (a'.get 5) k' ∧ (IsRef x1121_0) (a'.get 7) k' ∧ (IsV x1115_2.column) (a'.get 37) k' ∧ (IsI (x1115_2.column.length : Int)) (a'.get 38) k' ∧ (IsV s1116.2) (a'.get 39) k' ∧ True) ?_ hQ ?_
     ·intro Q1128 hQQ1128 hp1129
      refine gS 3 (_ :: _ :: ⟨some (IsBox k.w.heap.size (⟨0, 0⟩ : RegionSpan)), []⟩ :: []) hs (by kernel_rfl) ⟨o1 [(37, none), (39, none)] rfl fun _ _ h n => ok_indexAddr rfl Try.underlying107 ty109 (IsV.rd (up i37 h n.1)) (up i39 h n.2.1) hx1121_0, o1 [(41, some 0)] rfl fun _ _ h n => ok_load rfl ty109 n.1, ob1 rfl fun _ _ h n => ok_alloc _ h.size rfl z109, trivial⟩ hQQ1128 fun b q p => ?_
      have hgq := hg.then p.grow
      have hsb := p.size.trans hs
      have hdb := p.defers.trans hd
      have j0 := p.ke 0 rfl i0
      have j3 := p.ke 3 rfl i3
      have y3 : Lo k0 (obF (b.get 3)) := by rw [p.old 3 rfl]; exact n3
      have j4 := p.ke 4 rfl i4
      have j5 := p.ke 5 rfl i5
      obtain ⟨b7, j7, x7, z7⟩ : (IsBox k.w.heap.size (⟨0, 0⟩ : RegionSpan)) (b.get 7) q := p.ou 2 7 rfl
      replace x7 : Lo k (Eq b7) := Lo.eq x7
      have y7 : Lo k0 (Eq b7) := x7.chg hg
      have j37 := p.ke 37 rfl i37
      have j38 := p.ke 38 rfl i38
      have j39 := p.ke 39 rfl i39
      have j42 : (IsV x1121_0) (b.get 42) q := p.ou 1 42 rfl
      have w3_7 : Apart (obF (b.get 3)) (Eq b7) := Apart.new (by rw [p.old 3 rfl]; exact i3.ltF) x7
      have hns := z7.nshF
      refine tail_storeB (i := 3) rfl rfl rfl rfl szf109 (Upd.self (α := RegionSpan)) j7 z7 j42 fun q2 hch hz => ?_
      replace hgq := hgq.step hch y7.wr
      have hle := hch.le hns
      replace j0 := Pers.pers hle j0
      replace j3 := j3.keep hch w3_7 hns
      replace j4 := Pers.pers hle j4
      replace j5 := Pers.pers hle j5
      replace j37 := Pers.pers hle j37
      replace j38 := Pers.pers hle j38
      replace j39 := Pers.pers hle j39
      replace j42 := Pers.pers hle j42
      replace z7 := hz
      clear hns hle hch
      obtain ⟨q, hqq⟩ : ∃ q, q = q2 := ⟨q2, rfl⟩
      subst hqq
      obtain ⟨q2, hsh, jn⟩ := z7.give
      replace j0 := Pers.pers hsh.le j0
      replace j3 := j3.handed hsh w3_7
      replace j4 := Pers.pers hsh.le j4
      replace j5 := Pers.pers hsh.le j5
      replace j37 := Pers.pers hsh.le j37
      replace j38 := Pers.pers hsh.le j38
      replace j39 := Pers.pers hsh.le j39
      rw [← j7] at jn
      replace j7 := jn
      replace hgq := hgq.hand hsh y7.wr
      rw [← hsh.w]
      clear hsh
      obtain ⟨q, hqq⟩ : ∃ q, q = q2 := ⟨q2, rfl⟩
      subst hqq
      exact tail_done (k := q) (hp1129 _ _ ⟨⟨hgq, hsb, hdb⟩, j0, j3, y3, j4, j5, j7, j37, j38, j39, trivial⟩)
     rintro a k ⟨⟨hg, hs, hd⟩, i0, i3, n3, i4, i5, i7, i37, i38, i39, _⟩
     obtain ⟨x1122_3, hx1122_3, hr⟩ := bind_some hr
     obtain ⟨x1122_10, hx1122_10, hr⟩ := bind_some hr
     obtain ⟨x1122_11, hx1122_11, hr⟩ := bind_some hr
     obtain ⟨x1122_18, hx1122_18, hr⟩ := bind_some hr
     refine cut (fun a' k' => Bs noF k0 65 a' k' ∧ (IsV l_) (a'.get 0) k' ∧ IsOwn 0 35 x1122_18 (a'.get 3) k' ∧ Lo k0 (obF (a'.get 3)) ∧ (IsV s1096.2) (a'.get 4) k' ∧ (IsV s1114) (a'.get 5) k' ∧ (IsV x1115_2.column) (a'.get 37) k' ∧ (IsI (x1115_2.column.length : Int)) (a'.get 38) k' ∧ (IsV s1116.2) (a'.get 39) k' ∧ True) ?_ hQ ?_
     ·intro Q1126 hQQ1126 hp1127
      refine region (a0 := a) (k0 := k) (n := 65) (m := 18) (⟨some (OwnAt (a.get 3) 0 35 s1116.1), [(3, none)]⟩ :: ⟨some (IsV l_), [(0, none)]⟩ :: ⟨some (IsV s1096.2), [(4, none)]⟩ :: ⟨some (IsPtr x1122_3), [(44, some 1), (45, some 2)]⟩ :: ⟨some (IsPtr x1122_3.x0), [(46, some 3)]⟩ :: ⟨some (IsV x1122_3.x0), [(47, some 4)]⟩ :: ⟨some (IsPtr x1121_0.from_), [(7, none)]⟩ :: ⟨some (IsV x1121_0.from_), [(49, some 6)]⟩ :: ⟨some (IsV l_), [(0, none)]⟩ :: ⟨some (IsV s1114), [(5, none)]⟩ :: ⟨some (IsV x1122_10), [(52, some 9)]⟩ :: ⟨some (IsPtr x1122_11), [(51, some 8), (53, some 10)]⟩ :: ⟨some (IsPtr x1122_11.x1), [(54, some 11)]⟩ :: ⟨some (IsV x1122_11.x1), [(55, some 12)]⟩ :: ⟨some (IsPtr x1121_0.to_), [(7, none)]⟩ :: ⟨some (IsV x1121_0.to_), [(57, some 14)]⟩ :: ⟨some (IsV (⟨x1122_3.x0, x1121_0.from_, x1122_11.x1, x1121_0.to_⟩ : Rect)), [(48, some 5), (50, some 7), (56, some 13), (58, some 15)]⟩ :: ⟨some (IsV (α := (List Rect)) ([(⟨x1122_3.x0, x1121_0.from_, x1122_11.x1, x1121_0.to_⟩ : Rect)])), [(59, some 16)]⟩ :: []) hmix hs (by kernel_rfl) ⟨ob1 rfl fun b q hk hn => ok_moveOA (.inl rfl) (ownAt hn.1 (up i3 hk hn.1)), ob1 rfl fun b q hk hn => ok_move rfl (up i0 hk hn.1), ob1 rfl fun b q hk hn => ok_move rfl (up i4 hk hn.1), ob1 rfl fun b q hk hn => ok_indexAddr rfl Try.underlying88 ty111 (IsV.rd hn.1) hn.2.1 hx1122_3, ob1 rfl fun b q hk hn => ok_fieldAddr rfl fo111_0 (at_RegionStrip_0 _) hn.1, ob1 rfl fun b q hk hn => ok_load rfl ty3 hn.1, ob1 rfl fun b q hk hn => ok_fieldAddr rfl fo109_0 (at_RegionSpan_0 _) ((up i7 hk hn.1)).ptr, ob1 rfl fun b q hk hn => ok_load rfl ty3 hn.1, ob1 rfl fun b q hk hn => ok_move rfl (up i0 hk hn.1), ob1 rfl fun b q hk hn => ok_move rfl (up i5 hk hn.1), ob1 rfl fun b q hk hn => ok_sub rfl hn.1 (isV_int.2 rfl) hx1122_10, ob1 rfl fun b q hk hn => ok_indexAddr rfl Try.underlying88 ty111 (IsV.rd hn.1) hn.2.1 hx1122_11, ob1 rfl fun b q hk hn => ok_fieldAddr rfl fo111_1 (at_RegionStrip_1 _) hn.1, ob1 rfl fun b q hk hn => ok_load rfl ty3 hn.1, ob1 rfl fun b q hk hn => ok_fieldAddr rfl fo109_1 (at_RegionSpan_1 _) ((up i7 hk hn.1)).ptr, ob1 rfl fun b q hk hn => ok_load rfl ty3 hn.1, ob1 rfl fun b q hk hn => ok_build rfl (bld35_0_1_2_3 hn.1 hn.2.1 hn.2.2.1 hn.2.2.2.1), ob1 rfl fun b q hk hn => ok_buildSlice rfl Try.underlying49 eo35 rfl (by decide) (by decide) ⟨rfl, hn.1, trivial⟩, trivial⟩ hQQ1126 fun b q p => ?_
      have hgq := hg.then p.grow
      have hsb := p.size.trans hs
      have hdb := p.defers.trans hd
      have j0 := p.ke 0 rfl i0
      have j4 := p.ke 4 rfl i4
      have j5 := p.ke 5 rfl i5
      have j37 := p.ke 37 rfl i37
      have j38 := p.ke 38 rfl i38
      have j39 := p.ke 39 rfl i39
      have e43 : b.get 43 = a.get 3 := (p.ou 0 43 rfl).1
      have j43 : IsOwn 0 35 s1116.1 (b.get 43) q := (p.ou 0 43 rfl).2
      have y43 : Lo k0 (obF (b.get 43)) := by rw [e43]; exact n3
      have j60 : (IsV (α := (List Rect)) ([(⟨x1122_3.x0, x1121_0.from_, x1122_11.x1, x1121_0.to_⟩ : Rect)])) (b.get 60) q := p.ou 17 60 rfl
      have hns := j43.nshF
      refine tail_appendS (i := 18) (d := 61) rfl rfl rfl rfl (by rw [hsb]; decide) (e := 35) Try.underlying49 eo35 j43 (IsV.rd j60) hx1122_18 fun b2 q2 hsz hdf hoth hch hown hob => ?_
      have hle := hch.le hns
      have yn : Lo k0 (obF (b2.get 61)) := y43.app hgq hob
      replace j0 := Pers.pers hle j0
      replace j4 := Pers.pers hle j4
      replace j5 := Pers.pers hle j5
      replace j37 := Pers.pers hle j37
      replace j38 := Pers.pers hle j38
      replace j39 := Pers.pers hle j39
      replace j60 := Pers.pers hle j60
      replace hgq := hgq.step hch y43.wr
      rw [← hoth 0 (by decide)] at j0
      rw [← hoth 4 (by decide)] at j4
      rw [← hoth 5 (by decide)] at j5
      rw [← hoth 37 (by decide)] at j37
      rw [← hoth 38 (by decide)] at j38
      rw [← hoth 39 (by decide)] at j39
      rw [← hoth 60 (by decide)] at j60
      have j61 := hown
      have y61 := yn
      replace hsb := hsz.trans hsb
      replace hdb := hdf.trans hdb
      clear hle hch hown hob hns yn hsz hdf hoth
      obtain ⟨b, hbb⟩ : ∃ b, b = b2 := ⟨b2, rfl⟩
      subst hbb
      obtain ⟨q, hqq⟩ : ∃ q, q = q2 := ⟨q2, rfl⟩
      subst hqq
      refine tail_assign (i := 19) (d := 3) rfl rfl (.inl rfl) rfl (by rw [hsb]; decide) fun b2 hsz hdf hnew hoth => ?_
      have jn : (IsOwn 0 35 x1122_18) (b2.get 3) q := by rw [hnew]; exact j61
      have yn : Lo k0 (obF (b2.get 3)) := by rw [hnew]; exact y61
      rw [← hoth 0 (by decide)] at j0
      rw [← hoth 4 (by decide)] at j4
      rw [← hoth 5 (by decide)] at j5
      rw [← hoth 37 (by decide)] at j37
      rw [← hoth 38 (by decide)] at j38
      rw [← hoth 39 (by decide)] at j39
      rw [← hoth 60 (by decide)] at j60
      have j3 := jn
      have y3 := yn
      replace hsb := hsz.trans hsb
      replace hdb := hdf.trans hdb
      clear hsz hdf hoth
      obtain ⟨b, hbb⟩ : ∃ b, b = b2 := ⟨b2, rfl⟩
      subst hbb
      exact tail_done (k := q) (hp1127 _ _ ⟨⟨hgq, hsb, hdb⟩, j0, j3, y3, j4, j5, j37, j38, j39, trivial⟩)
     rintro a k ⟨⟨hg, hs, hd⟩, i0, i3, n3, i4, i5, i37, i38, i39, _⟩
     obtain ⟨x1123_0, hx1123_0, hr⟩ := bind_some hr
     refine cut (fun a' k' => Bs noF k0 65 a' k' ∧ (IsV l_) (a'.get 0) k' ∧ IsOwn 0 35 x1122_18 (a'.get 3) k' ∧ Lo k0 (obF (a'.get 3)) ∧ (IsV s1096.2) (a'.get 4) k' ∧ (IsV s1114) (a'.get 5) k' ∧ (IsV x1115_2.column) (a'.get 37) k' ∧ (IsI (x1115_2.column.length : Int)) (a'.get 38) k' ∧ (IsV x1123_0) (a'.get 39) k' ∧ True) ?_ hQ ?_
     ·intro Q1124 hQQ1124 hp1125
      refine gS 2 (_ :: _ :: []) hs (by kernel_rfl) ⟨o1 [(39, none)] rfl fun _ _ h n => ok_add rfl (up i39 h n.1) (cI rfl) hx1123_0, cm 0 rfl rfl, trivial⟩ hQQ1124 fun b q p => ?_
      exact tail_done (k := q) (hp1125 _ _ ⟨Bs.post ⟨hg, hs, hd⟩ p, p.ke 0 rfl i0, p.ke 3 rfl i3, (by rw [p.old 3 rfl]; exact n3), p.ke 4 rfl i4, p.ke 5 rfl i5, p.ke 37 rfl i37, p.ke 38 rfl i38, p.ou 1 39 rfl, trivial⟩)
     rintro a k ⟨⟨hg, hs, hd⟩, i0, i3, n3, i4, i5, i37, i38, i39, _⟩
     exact hgo1117 _ _ _ (Option.some.inj hr).symm ⟨⟨hg, hs, hd⟩, i0, i3, n3, i4, i5, i37, i38, i39, trivial⟩
    rw [if_neg (by rw [hc1130]; decide)] at hr
    refine wp_exit ?_
    exact hex1118 _ _ _ _ (Option.some.inj hr).symm ⟨rfl, ⟨hg, hs, hd⟩, i0, i3, n3, i5, trivial⟩
   ·rintro r1138 a k rfl hR
    dsimp only at hr
    exact hret1099 _ _ _ (Option.some.inj hr).symm hR
   ·rintro _ _ _ rfl _
    simp at hr
   clear hf1133
   rintro _ s1134 a k rfl ⟨rfl, ⟨hg, hs, hd⟩, i0, i3, n3, i5, _⟩
   dsimp only at hr
   refine cut (fun a' k' => Bs noF k0 65 a' k' ∧ (IsV l_) (a'.get 0) k' ∧ IsOwn 0 35 s1134.1 (a'.get 3) k' ∧ Lo k0 (obF (a'.get 3)) ∧ (IsV s1114) (a'.get 4) k' ∧ True) ?_ hQ ?_
   ·intro Q1136 hQQ1136 hp1137
    refine gS 2 (_ :: _ :: []) hs (by kernel_rfl) ⟨mu rfl i5, cp 0 rfl rfl, trivial⟩ hQQ1136 fun b q p => ?_
    exact tail_done (k := q) (hp1137 _ _ ⟨Bs.post ⟨hg, hs, hd⟩ p, p.ke 0 rfl i0, p.ke 3 rfl i3, (by rw [p.old 3 rfl]; exact n3), p.ou 1 4 rfl, trivial⟩)
   rintro a k ⟨⟨hg, hs, hd⟩, i0, i3, n3, i4, _⟩
   exact hgo1097 _ _ _ (Option.some.inj hr).symm ⟨⟨hg, hs, hd⟩, i0, i3, n3, i4, trivial⟩
  rw [if_neg (by rw [hc1147]; decide)] at hr
  refine wp_exit ?_
  obtain ⟨kk, sh1146, ii3⟩ := i3.give
  replace i3 := ii3
  replace hg := hg.hand sh1146 n3.wr
  rw [← sh1146.w]
  clear sh1146
  obtain ⟨k, hkk⟩ : ∃ k, k = kk := ⟨kk, rfl⟩
  subst hkk
  exact hex1098 _ _ _ _ (Option.some.inj hr).symm ⟨rfl, ⟨hg, hs, hd⟩, i3, trivial⟩
 ·rintro r1155 a k rfl hR
  dsimp only at hr
  obtain rfl := Option.some.inj hr
  exact hR
 ·rintro _ _ _ rfl _
  simp at hr
 clear hf1150
 rintro _ s1151 a k rfl ⟨rfl, ⟨hg, hs, hd⟩, i3, _⟩
 dsimp only at hr
 refine stepL 2 (_ :: _ :: []) rfl ⟨hg, hs, hd⟩ (by kernel_rfl) ⟨mu rfl i3, cp 0 rfl rfl, trivial⟩ [⟨_, _⟩] (fun b q p => ⟨p.ou 1 2 rfl, trivial⟩) ?_
 rintro a k ⟨⟨hg, hs, hd⟩, i2, _⟩
 refine wp_ret ?_
 obtain rfl := Option.some.inj hr
 exact retC1 rfl hd hg i2
def region_limited (l_ : (List Rect)) : Option ((List Rect) × Int) :=
 if (decide (200 < (l_.length : Int))) then
  some (([] : List Rect), 6)
 else
  some (l_, 0)
theorem region_limited_ok {k0 : K} {v0 : Value} {l_ : (List Rect)} {r : (List Rect) × Int} (i0 : (IsV l_) v0 k0) (hr : region_limited l_ = some r) :
  Calls Try.prog 61 #[v0] k0.w (Ret k0 (IsTup2 (IsV r.1) (IsV r.2))) := by
 unfold region_limited at hr
 refine Ret.ofC ?_
 refine enterK Try.func61 rfl Try.ntmps61 (show 1 ≤ 8 by decide) fun a k hk0 hs hd ha => ?_
 obtain ⟨e0, _⟩ := ha
 replace i0 : (IsV l_) (a.get 0) k := by rw [e0, hk0]; exact i0
 have hQ : Gb.LetsOut (bodyPost Try.prog Try.f61 (RetC noF k0 (IsTup2 (IsV r.1) (IsV r.2)))) := letsOutC
 have hg : Chg noF k0 k := by rw [hk0]; exact Chg.refl _ k0
 refine stepL 2 (⟨some IsE0, []⟩ :: ⟨some (IsI 0), []⟩ :: []) rfl ⟨hg, hs, hd⟩ (by kernel_rfl) ⟨ob1 rfl fun b q h n => ok_assign rfl isE0_nil, aI rfl rfl, trivial⟩ [⟨_, _⟩] (fun b q p => ⟨p.ke 0 rfl i0, trivial⟩) ?_
 rintro a k ⟨⟨hg, hs, hd⟩, i0, _⟩
 refine wp_seq ?_
 refine stepL 3 (_ :: _ :: _ :: []) rfl ⟨hg, hs, hd⟩ (by kernel_rfl) ⟨mu rfl i0, o1 [(4, some 0)] rfl fun _ _ h n => ok_len rfl rfl Try.underlying49 (IsV.rd n.1), o1 [(5, some 1)] rfl fun _ _ h n => ok_gtr rfl n.1 (cI rfl), trivial⟩ [⟨_, _⟩, ⟨_, _⟩] (fun b q p => ⟨p.ke 0 rfl i0, p.ou 2 6 rfl, trivial⟩) ?_
 rintro a k ⟨⟨hg, hs, hd⟩, i0, i6, _⟩
 refine wp_cond_split (isBool i6) (fun hc1171 => ?_) (fun hc1171 => ?_)
 ·rw [if_pos hc1171] at hr
  refine cutL noF k0 8 [⟨2, IsV ([] : List Rect)⟩, ⟨3, IsI 6⟩] ?_ ?_
  ·intro Q1166 hQQ1166 hp1167
   refine gS 2 (⟨some IsE0, []⟩ :: ⟨some (IsI 6), []⟩ :: []) hs (by kernel_rfl) ⟨ob1 rfl fun b q h n => ok_assign rfl isE0_nil, aI rfl rfl, trivial⟩ hQQ1166 fun b q p => ?_
   have hgq := hg.then p.grow
   have hsb := p.size.trans hs
   have hdb := p.defers.trans hd
   have j2 : IsE0 (b.get 2) q := p.ou 0 2 rfl
   have j3 : (IsI 6) (b.get 3) q := p.ou 1 3 rfl
   replace j2 : IsV ([] : List Rect) (b.get 2) q := j2.isV
   exact tail_done (k := q) (hp1167 _ _ ⟨⟨hgq, hsb, hdb⟩, j2, j3, trivial⟩)
  rintro a k ⟨⟨hg, hs, hd⟩, i2, i3, _⟩
  refine wp_ret ?_
  obtain rfl := Option.some.inj hr
  exact retC2 rfl hd hg i2 i3
 rw [if_neg (by rw [hc1171]; decide)] at hr
 refine wp_skip ?_
 refine stepL 3 (_ :: _ :: ⟨some (IsI 0), []⟩ :: []) rfl ⟨hg, hs, hd⟩ (by kernel_rfl) ⟨mu rfl i0, cp 0 rfl rfl, aI rfl rfl, trivial⟩ [⟨_, _⟩, ⟨_, _⟩] (fun b q p => ⟨p.ou 1 2 rfl, p.ou 2 3 rfl, trivial⟩) ?_
 rintro a k ⟨⟨hg, hs, hd⟩, i2, i3, _⟩
 refine wp_ret ?_
 obtain rfl := Option.some.inj hr
 exact retC2 rfl hd hg i2 i3
def region_Of_L0 (l_ : (List Rect)) (s1178 : Int) : Option (Flow (Int) ((List Rect) × Int)) :=
 if (decide (s1178 < (l_.length : Int))) then
  (getI l_ s1178).bind fun x1183_0 =>
  (rect_Right x1183_0).bind fun x1184_1 =>
  if (!x1184_1) then
   some (.ret (([] : List Rect), 1))
  else
   (addI s1178 1).bind fun x1188_0 =>
   some (.go x1188_0)
 else
  some (.ex 0 s1178)
def region_Of (l_ : (List Rect)) : Option ((List Rect) × Int) :=
 (iterL (region_Of_L0 l_) (l_.length + 1) 0).bind fun f1199 => match f1199 with
  | .go _ => none
  | .ex _ _ =>
   if (decide (400 < (l_.length : Int))) then
    some (([] : List Rect), 6)
   else
    (region_strips ([l_])).bind fun x1205_2 =>
    (region_write x1205_2).bind fun x1205_3 =>
    (region_limited x1205_3).bind fun x1205_4 =>
    some (x1205_4.1, x1205_4.2)
  | .ret r1211 => some r1211
theorem region_Of_ok {k0 : K} {v0 : Value} {l_ : (List Rect)} {r : (List Rect) × Int} (i0 : (IsV l_) v0 k0) (hr : region_Of l_ = some r) :
  Calls Try.prog 37 #[v0] k0.w (Ret k0 (IsTup2 (IsV r.1) (IsV r.2))) := by
 unfold region_Of at hr
 refine Ret.ofC ?_
 refine enterK Try.func37 rfl Try.ntmps37 (show 1 ≤ 26 by decide) fun a k hk0 hs hd ha => ?_
 obtain ⟨e0, _⟩ := ha
 replace i0 : (IsV l_) (a.get 0) k := by rw [e0, hk0]; exact i0
 have hQ : Gb.LetsOut (bodyPost Try.prog Try.f37 (RetC noF k0 (IsTup2 (IsV r.1) (IsV r.2)))) := letsOutC
 have hg : Chg noF k0 k := by rw [hk0]; exact Chg.refl _ k0
 refine stepL 2 (⟨some IsE0, []⟩ :: ⟨some (IsI 0), []⟩ :: []) rfl ⟨hg, hs, hd⟩ (by kernel_rfl) ⟨ob1 rfl fun b q h n => ok_assign rfl isE0_nil, aI rfl rfl, trivial⟩ [⟨_, _⟩] (fun b q p => ⟨p.ke 0 rfl i0, trivial⟩) ?_
 rintro a k ⟨⟨hg, hs, hd⟩, i0, _⟩
 refine wp_seq ?_
 refine stepL 3 (_ :: _ :: ⟨some (IsI 0), []⟩ :: []) rfl ⟨hg, hs, hd⟩ (by kernel_rfl) ⟨mu rfl i0, o1 [(6, some 0)] rfl fun _ _ h n => ok_len rfl rfl Try.underlying49 (IsV.rd n.1), ob1 rfl fun _ _ h n => ok_move rfl (cI rfl), trivial⟩ [⟨_, _⟩, ⟨_, _⟩, ⟨_, _⟩, ⟨_, _⟩] (fun b q p => ⟨p.ke 0 rfl i0, p.ou 0 6 rfl, p.ou 1 7 rfl, p.ou 2 8 rfl, trivial⟩) ?_
 rintro a k ⟨⟨hg, hs, hd⟩, i0, i6, i7, i8, _⟩
 refine wp_block ?_
 obtain ⟨f1199, hf1199, hr⟩ := bind_some hr
 refine cutFe f1199 (fun s' a' k' => Bs noF k0 26 a' k' ∧ (IsV l_) (a'.get 0) k' ∧ (IsV l_) (a'.get 6) k' ∧ (IsL l_) (a'.get 7) k' ∧ (IsV s') (a'.get 8) k' ∧ True) (fun i' s' a' k' => (i' = 0 ∧ Bs noF k0 26 a' k' ∧ (IsV l_) (a'.get 0) k' ∧ True)) (fun r' a' k' => bodyPost Try.prog Try.f37 (RetC noF k0 (IsTup2 (IsV r'.1) (IsV r'.2))) .ret a' k'.w) ?_ hQ ?_ ?_ ?_
 ·intro Q1212 hQQ1212 hgo hex hret
  refine sim_loop ?_ _ _ _ _ _ hf1199 ⟨⟨hg, hs, hd⟩, i0, i6, i7, i8, trivial⟩ Q1212 hQQ1212 hgo hex hret
  clear hr hf1199 hgo hex hret hQQ1212 hQ hg hs hd i0 i6 i7 i8
  intro s1178 fl_ a k hr hS Q hQ hgo1179 hex1180 hret1181
  obtain ⟨⟨hg, hs, hd⟩, i0, i6, i7, i8, _⟩ := hS
  unfold region_Of_L0 at hr
  refine stepL 1 (_ :: []) rfl ⟨hg, hs, hd⟩ (by kernel_rfl) ⟨o1 [(8, none), (7, none)] rfl fun _ _ h n => ok_lss rfl (up i8 h n.1) (up i7 h n.2.1), trivial⟩ [⟨_, _⟩, ⟨_, _⟩, ⟨_, _⟩, ⟨_, _⟩, ⟨_, _⟩] (fun b q p => ⟨p.ke 0 rfl i0, p.ke 6 rfl i6, p.ke 7 rfl i7, p.ke 8 rfl i8, p.ou 0 9 rfl, trivial⟩) ?_
  rintro a k ⟨⟨hg, hs, hd⟩, i0, i6, i7, i8, i9, _⟩
  refine wp_seq ?_
  refine wp_cond_split (isBool i9) (fun hc1196 => ?_) (fun hc1196 => ?_)
  ·rw [if_pos hc1196] at hr
   refine wp_skip ?_
   refine wp_seq ?_
   refine wp_block ?_
   refine wp_seq ?_
   obtain ⟨x1183_0, hx1183_0, hr⟩ := bind_some hr
   refine cut (fun a' k' => Bs noF k0 26 a' k' ∧ (IsV l_) (a'.get 0) k' ∧ (IsRef x1183_0) (a'.get 5) k' ∧ (IsV l_) (a'.get 6) k' ∧ (IsL l_) (a'.get 7) k' ∧ (IsV s1178) (a'.get 8) k' ∧ True) ?_ hQ ?_
   ·intro Q1194 hQQ1194 hp1195
    refine gS 3 (_ :: _ :: ⟨some (IsBox k.w.heap.size (⟨0, 0, 0, 0⟩ : Rect)), []⟩ :: []) hs (by kernel_rfl) ⟨o1 [(6, none), (8, none)] rfl fun _ _ h n => ok_indexAddr rfl Try.underlying49 ty35 (IsV.rd (up i6 h n.1)) (up i8 h n.2.1) hx1183_0, o1 [(10, some 0)] rfl fun _ _ h n => ok_load rfl ty35 n.1, ob1 rfl fun _ _ h n => ok_alloc _ h.size rfl z35, trivial⟩ hQQ1194 fun b q p => ?_
    have hgq := hg.then p.grow
    have hsb := p.size.trans hs
    have hdb := p.defers.trans hd
    have j0 := p.ke 0 rfl i0
    obtain ⟨b5, j5, x5, z5⟩ : (IsBox k.w.heap.size (⟨0, 0, 0, 0⟩ : Rect)) (b.get 5) q := p.ou 2 5 rfl
    replace x5 : Lo k (Eq b5) := Lo.eq x5
    have y5 : Lo k0 (Eq b5) := x5.chg hg
    have j6 := p.ke 6 rfl i6
    have j7 := p.ke 7 rfl i7
    have j8 := p.ke 8 rfl i8
    have j11 : (IsV x1183_0) (b.get 11) q := p.ou 1 11 rfl
    have hns := z5.nshF
    refine tail_storeB (i := 3) rfl rfl rfl rfl szf35 (Upd.self (α := Rect)) j5 z5 j11 fun q2 hch hz => ?_
    replace hgq := hgq.step hch y5.wr
    have hle := hch.le hns
    replace j0 := Pers.pers hle j0
    replace j6 := Pers.pers hle j6
    replace j7 := Pers.pers hle j7
    replace j8 := Pers.pers hle j8
    replace j11 := Pers.pers hle j11
    replace z5 := hz
    clear hns hle hch
    obtain ⟨q, hqq⟩ : ∃ q, q = q2 := ⟨q2, rfl⟩
    subst hqq
    obtain ⟨q2, hsh, jn⟩ := z5.give
    replace j0 := Pers.pers hsh.le j0
    replace j6 := Pers.pers hsh.le j6
    replace j7 := Pers.pers hsh.le j7
    replace j8 := Pers.pers hsh.le j8
    rw [← j5] at jn
    replace j5 := jn
    replace hgq := hgq.hand hsh y5.wr
    rw [← hsh.w]
    clear hsh
    obtain ⟨q, hqq⟩ : ∃ q, q = q2 := ⟨q2, rfl⟩
    subst hqq
    exact tail_done (k := q) (hp1195 _ _ ⟨⟨hgq, hsb, hdb⟩, j0, j5, j6, j7, j8, trivial⟩)
   rintro a k ⟨⟨hg, hs, hd⟩, i0, i5, i6, i7, i8, _⟩
   refine wp_seq ?_
   obtain ⟨x1184_1, hx1184_1, hr⟩ := bind_some hr
   refine cut (fun a' k' => Bs noF k0 26 a' k' ∧ (IsV l_) (a'.get 0) k' ∧ (IsV l_) (a'.get 6) k' ∧ (IsL l_) (a'.get 7) k' ∧ (IsV s1178) (a'.get 8) k' ∧ (IsV (!x1184_1)) (a'.get 14) k' ∧ True) ?_ hQ ?_
   ·intro Q1192 hQQ1192 hp1193
    refine gS 3 (_ :: _ :: _ :: []) hs (by kernel_rfl) ⟨o1 [(5, none)] rfl fun _ _ h n => ok_load rfl ty35 ((up i5 h n.1)).ptr, o1 [(12, some 0)] rfl fun _ _ h n => ok_call rfl Try.call35 (rect_Right_ok n.1 hx1184_1), o1 [(13, some 1)] rfl fun _ _ h n => ok_not rfl n.1, trivial⟩ hQQ1192 fun b q p => ?_
    exact tail_done (k := q) (hp1193 _ _ ⟨Bs.post ⟨hg, hs, hd⟩ p, p.ke 0 rfl i0, p.ke 6 rfl i6, p.ke 7 rfl i7, p.ke 8 rfl i8, p.ou 2 14 rfl, trivial⟩)
   rintro a k ⟨⟨hg, hs, hd⟩, i0, i6, i7, i8, i14, _⟩
   refine wp_cond_split (isBool i14) (fun hc1191 => ?_) (fun hc1191 => ?_)
   ·rw [if_pos hc1191] at hr
    refine cutL noF k0 26 [⟨2, IsV ([] : List Rect)⟩, ⟨3, IsI 1⟩] ?_ ?_
    ·intro Q1186 hQQ1186 hp1187
     refine gS 2 (⟨some IsE0, []⟩ :: ⟨some (IsI 1), []⟩ :: []) hs (by kernel_rfl) ⟨ob1 rfl fun b q h n => ok_assign rfl isE0_nil, aI rfl rfl, trivial⟩ hQQ1186 fun b q p => ?_
     have hgq := hg.then p.grow
     have hsb := p.size.trans hs
     have hdb := p.defers.trans hd
     have j2 : IsE0 (b.get 2) q := p.ou 0 2 rfl
     have j3 : (IsI 1) (b.get 3) q := p.ou 1 3 rfl
     replace j2 : IsV ([] : List Rect) (b.get 2) q := j2.isV
     exact tail_done (k := q) (hp1187 _ _ ⟨⟨hgq, hsb, hdb⟩, j2, j3, trivial⟩)
    rintro a k ⟨⟨hg, hs, hd⟩, i2, i3, _⟩
    refine wp_ret ?_
    exact hret1181 _ _ _ (Option.some.inj hr).symm (retC2 rfl hd hg i2 i3)
   rw [if_neg (by rw [hc1191]; decide)] at hr
   refine wp_skip ?_
   obtain ⟨x1188_0, hx1188_0, hr⟩ := bind_some hr
   refine cut (fun a' k' => Bs noF k0 26 a' k' ∧ (IsV l_) (a'.get 0) k' ∧ (IsV l_) (a'.get 6) k' ∧ (IsL l_) (a'.get 7) k' ∧ (IsV x1188_0) (a'.get 8) k' ∧ True) ?_ hQ ?_
   ·intro Q1189 hQQ1189 hp1190
    refine gS 2 (_ :: _ :: []) hs (by kernel_rfl) ⟨o1 [(8, none)] rfl fun _ _ h n => ok_add rfl (up i8 h n.1) (cI rfl) hx1188_0, cm 0 rfl rfl, trivial⟩ hQQ1189 fun b q p => ?_
    exact tail_done (k := q) (hp1190 _ _ ⟨Bs.post ⟨hg, hs, hd⟩ p, p.ke 0 rfl i0, p.ke 6 rfl i6, p.ke 7 rfl i7, p.ou 1 8 rfl, trivial⟩)
   rintro a k ⟨⟨hg, hs, hd⟩, i0, i6, i7, i8, _⟩
   exact hgo1179 _ _ _ (Option.some.inj hr).symm ⟨⟨hg, hs, hd⟩, i0, i6, i7, i8, trivial⟩
  rw [if_neg (by rw [hc1196]; decide)] at hr
  refine wp_exit ?_
  exact hex1180 _ _ _ _ (Option.some.inj hr).symm ⟨rfl, ⟨hg, hs, hd⟩, i0, trivial⟩
 ·rintro r1211 a k rfl hR
  dsimp only at hr
  obtain rfl := Option.some.inj hr
  exact hR
 ·rintro _ _ _ rfl _
  simp at hr
 clear hf1199
 rintro _ s1200 a k rfl ⟨rfl, ⟨hg, hs, hd⟩, i0, _⟩
 dsimp only at hr
 refine wp_seq ?_
 refine stepL 3 (_ :: _ :: _ :: []) rfl ⟨hg, hs, hd⟩ (by kernel_rfl) ⟨mu rfl i0, o1 [(16, some 0)] rfl fun _ _ h n => ok_len rfl rfl Try.underlying49 (IsV.rd n.1), o1 [(17, some 1)] rfl fun _ _ h n => ok_gtr rfl n.1 (cI rfl), trivial⟩ [⟨_, _⟩, ⟨_, _⟩] (fun b q p => ⟨p.ke 0 rfl i0, p.ou 2 18 rfl, trivial⟩) ?_
 rintro a k ⟨⟨hg, hs, hd⟩, i0, i18, _⟩
 refine wp_cond_split (isBool i18) (fun hc1208 => ?_) (fun hc1208 => ?_)
 ·rw [if_pos hc1208] at hr
  refine cutL noF k0 26 [⟨2, IsV ([] : List Rect)⟩, ⟨3, IsI 6⟩] ?_ ?_
  ·intro Q1203 hQQ1203 hp1204
   refine gS 2 (⟨some IsE0, []⟩ :: ⟨some (IsI 6), []⟩ :: []) hs (by kernel_rfl) ⟨ob1 rfl fun b q h n => ok_assign rfl isE0_nil, aI rfl rfl, trivial⟩ hQQ1203 fun b q p => ?_
   have hgq := hg.then p.grow
   have hsb := p.size.trans hs
   have hdb := p.defers.trans hd
   have j2 : IsE0 (b.get 2) q := p.ou 0 2 rfl
   have j3 : (IsI 6) (b.get 3) q := p.ou 1 3 rfl
   replace j2 : IsV ([] : List Rect) (b.get 2) q := j2.isV
   exact tail_done (k := q) (hp1204 _ _ ⟨⟨hgq, hsb, hdb⟩, j2, j3, trivial⟩)
  rintro a k ⟨⟨hg, hs, hd⟩, i2, i3, _⟩
  refine wp_ret ?_
  obtain rfl := Option.some.inj hr
  exact retC2 rfl hd hg i2 i3
 rw [if_neg (by rw [hc1208]; decide)] at hr
 refine wp_skip ?_
 refine wp_seq ?_
 obtain ⟨x1205_2, hx1205_2, hr⟩ := bind_some hr
 obtain ⟨x1205_3, hx1205_3, hr⟩ := bind_some hr
 obtain ⟨x1205_4, hx1205_4, hr⟩ := bind_some hr
 refine cut (fun a' k' => Bs noF k0 26 a' k' ∧ (IsV x1205_4.1) (a'.get 2) k' ∧ (IsV x1205_4.2) (a'.get 3) k' ∧ True) ?_ hQ ?_
 ·intro Q1206 hQQ1206 hp1207
  refine gS 9 (_ :: ⟨some (IsV (α := (List (List Rect))) ([l_])), [(19, some 0)]⟩ :: _ :: _ :: _ :: _ :: _ :: _ :: _ :: []) hs (by kernel_rfl) ⟨mu rfl i0, ob1 rfl fun _ _ h n => ok_buildSlice rfl Try.underlying112 eo49 rfl (by decide) (by decide) ⟨rfl, n.1, trivial⟩, o1 [(20, some 1)] rfl fun _ _ h n => ok_call rfl Try.call63 (region_strips_ok n.1 hx1205_2), o1 [(21, some 2)] rfl fun _ _ h n => ok_call rfl Try.call62 (region_write_ok n.1 hx1205_3), o1 [(22, some 3)] rfl fun _ _ h n => ok_call rfl Try.call61 (region_limited_ok n.1 hx1205_4), o1 [(23, some 4)] rfl fun _ _ h n => ok_ext2_0 rfl n.1, o1 [(23, some 4)] rfl fun _ _ h n => ok_ext2_1 rfl n.1, cp 5 rfl rfl, cp 6 rfl rfl, trivial⟩ hQQ1206 fun b q p => ?_
  exact tail_done (k := q) (hp1207 _ _ ⟨Bs.post ⟨hg, hs, hd⟩ p, p.ou 7 2 rfl, p.ou 8 3 rfl, trivial⟩)
 rintro a k ⟨⟨hg, hs, hd⟩, i2, i3, _⟩
 refine wp_ret ?_
 obtain rfl := Option.some.inj hr
 exact retC2 rfl hd hg i2 i3
def slices_Equal_Rect_L0 (s1_ : (List Rect)) (s2_ : (List Rect)) (s1223 : Int) : Option (Flow (Int) (Bool)) :=
 if (decide (s1223 < (s1_.length : Int))) then
  (getI s1_ s1223).bind fun x1229_2 =>
  (getI s2_ s1223).bind fun x1229_6 =>
  if (!decide (x1229_2 = x1229_6)) then
   some (.ret false)
  else
   (addI s1223 1).bind fun x1233_0 =>
   some (.go x1233_0)
 else
  some (.ex 0 s1223)
def slices_Equal_Rect (s1_ : (List Rect)) (s2_ : (List Rect)) : Option (Bool) :=
 if ((s1_.length : Int) != (s2_.length : Int)) then
  some false
 else
  (iterL (slices_Equal_Rect_L0 s1_ s2_) (s1_.length + 1) 0).bind fun f1244 => match f1244 with
   | .go _ => none
   | .ex _ _ =>
    some true
   | .ret r1249 => some r1249
theorem slices_Equal_Rect_ok {k0 : K} {v0 v1 : Value} {s1_ : (List Rect)} {s2_ : (List Rect)} {r : Bool} (i0 : (IsV s1_) v0 k0) (i1 : (IsV s2_) v1 k0) (hr : slices_Equal_Rect s1_ s2_ = some r) :
  Calls Try.prog 78 #[v0, v1] k0.w (Ret k0 (IsV r)) := by
 unfold slices_Equal_Rect at hr
 refine Ret.ofC ?_
 refine enterK Try.func78 rfl Try.ntmps78 (show 2 ≤ 26 by decide) fun a k hk0 hs hd ha => ?_
 obtain ⟨e0, e1, _⟩ := ha
 replace i0 : (IsV s1_) (a.get 0) k := by rw [e0, hk0]; exact i0
 replace i1 : (IsV s2_) (a.get 1) k := by rw [e1, hk0]; exact i1
 have hQ : Gb.LetsOut (bodyPost Try.prog Try.f78 (RetC noF k0 (IsV r))) := letsOutC
 have hg : Chg noF k0 k := by rw [hk0]; exact Chg.refl _ k0
 refine stepL 1 (⟨some (IsV false), []⟩ :: []) rfl ⟨hg, hs, hd⟩ (by kernel_rfl) ⟨ob1 rfl fun _ _ h n => ok_assign rfl (isV_bool.2 rfl), trivial⟩ [⟨_, _⟩, ⟨_, _⟩] (fun b q p => ⟨p.ke 0 rfl i0, p.ke 1 rfl i1, trivial⟩) ?_
 rintro a k ⟨⟨hg, hs, hd⟩, i0, i1, _⟩
 refine wp_seq ?_
 refine stepL 5 (_ :: _ :: _ :: _ :: ⟨some (IsV ((s1_.length : Int) != (s2_.length : Int))), [(7, some 1), (9, some 3)]⟩ :: []) rfl ⟨hg, hs, hd⟩ (by kernel_rfl) ⟨mu rfl i0, o1 [(6, some 0)] rfl fun _ _ h n => ok_len rfl rfl Try.underlying49 (IsV.rd n.1), mu rfl i1, o1 [(8, some 2)] rfl fun _ _ h n => ok_len rfl rfl Try.underlying49 (IsV.rd n.1), ob1 rfl fun _ _ h n => ok_neI rfl n.1 n.2.1, trivial⟩ [⟨_, _⟩, ⟨_, _⟩, ⟨_, _⟩] (fun b q p => ⟨p.ke 0 rfl i0, p.ke 1 rfl i1, p.ou 4 10 rfl, trivial⟩) ?_
 rintro a k ⟨⟨hg, hs, hd⟩, i0, i1, i10, _⟩
 refine wp_cond_split (isBool i10) (fun hc1253 => ?_) (fun hc1253 => ?_)
 ·rw [if_pos hc1253] at hr
  refine stepL 1 (⟨some (IsV false), []⟩ :: []) rfl ⟨hg, hs, hd⟩ (by kernel_rfl) ⟨ob1 rfl fun _ _ h n => ok_assign rfl (isV_bool.2 rfl), trivial⟩ [⟨_, _⟩] (fun b q p => ⟨p.ou 0 4 rfl, trivial⟩) ?_
  rintro a k ⟨⟨hg, hs, hd⟩, i4, _⟩
  refine wp_ret ?_
  obtain rfl := Option.some.inj hr
  exact retC1 rfl hd hg i4
 rw [if_neg (by rw [hc1253]; decide)] at hr
 refine wp_skip ?_
 refine wp_seq ?_
 refine stepL 3 (_ :: _ :: ⟨some (IsI 0), []⟩ :: []) rfl ⟨hg, hs, hd⟩ (by kernel_rfl) ⟨mu rfl i0, o1 [(11, some 0)] rfl fun _ _ h n => ok_len rfl rfl Try.underlying49 (IsV.rd n.1), ob1 rfl fun _ _ h n => ok_move rfl (cI rfl), trivial⟩ [⟨_, _⟩, ⟨_, _⟩, ⟨_, _⟩, ⟨_, _⟩] (fun b q p => ⟨p.ke 0 rfl i0, p.ke 1 rfl i1, p.ou 1 12 rfl, p.ou 2 13 rfl, trivial⟩) ?_
 rintro a k ⟨⟨hg, hs, hd⟩, i0, i1, i12, i13, _⟩
 refine wp_block ?_
 obtain ⟨f1244, hf1244, hr⟩ := bind_some hr
 refine cutFe f1244 (fun s' a' k' => Bs noF k0 26 a' k' ∧ (IsV s1_) (a'.get 0) k' ∧ (IsV s2_) (a'.get 1) k' ∧ (IsL s1_) (a'.get 12) k' ∧ (IsV s') (a'.get 13) k' ∧ True) (fun i' s' a' k' => (i' = 0 ∧ Bs noF k0 26 a' k' ∧ True)) (fun r' a' k' => bodyPost Try.prog Try.f78 (RetC noF k0 (IsV r')) .ret a' k'.w) ?_ hQ ?_ ?_ ?_
 ·intro Q1250 hQQ1250 hgo hex hret
  refine sim_loop ?_ _ _ _ _ _ hf1244 ⟨⟨hg, hs, hd⟩, i0, i1, i12, i13, trivial⟩ Q1250 hQQ1250 hgo hex hret
  clear hr hf1244 hgo hex hret hQQ1250 hQ hg hs hd i0 i1 i12 i13
  intro s1223 fl_ a k hr hS Q hQ hgo1224 hex1225 hret1226
  obtain ⟨⟨hg, hs, hd⟩, i0, i1, i12, i13, _⟩ := hS
  unfold slices_Equal_Rect_L0 at hr
  refine stepL 1 (_ :: []) rfl ⟨hg, hs, hd⟩ (by kernel_rfl) ⟨o1 [(13, none), (12, none)] rfl fun _ _ h n => ok_lss rfl (up i13 h n.1) (up i12 h n.2.1), trivial⟩ [⟨_, _⟩, ⟨_, _⟩, ⟨_, _⟩, ⟨_, _⟩, ⟨_, _⟩] (fun b q p => ⟨p.ke 0 rfl i0, p.ke 1 rfl i1, p.ke 12 rfl i12, p.ke 13 rfl i13, p.ou 0 14 rfl, trivial⟩) ?_
  rintro a k ⟨⟨hg, hs, hd⟩, i0, i1, i12, i13, i14, _⟩
  refine wp_seq ?_
  refine wp_cond_split (isBool i14) (fun hc1241 => ?_) (fun hc1241 => ?_)
  ·rw [if_pos hc1241] at hr
   refine wp_skip ?_
   refine wp_seq ?_
   refine wp_block ?_
   refine stepL 2 (_ :: _ :: []) rfl ⟨hg, hs, hd⟩ (by kernel_rfl) ⟨mu rfl i13, cp 0 rfl rfl, trivial⟩ [⟨_, _⟩, ⟨_, _⟩, ⟨_, _⟩, ⟨_, _⟩, ⟨_, _⟩] (fun b q p => ⟨p.ke 0 rfl i0, p.ke 1 rfl i1, p.ou 1 5 rfl, p.ke 12 rfl i12, p.ke 13 rfl i13, trivial⟩) ?_
   rintro a k ⟨⟨hg, hs, hd⟩, i0, i1, i5, i12, i13, _⟩
   refine wp_seq ?_
   obtain ⟨x1229_2, hx1229_2, hr⟩ := bind_some hr
   obtain ⟨x1229_6, hx1229_6, hr⟩ := bind_some hr
   refine cut (fun a' k' => Bs noF k0 26 a' k' ∧ (IsV s1_) (a'.get 0) k' ∧ (IsV s2_) (a'.get 1) k' ∧ (IsL s1_) (a'.get 12) k' ∧ (IsV s1223) (a'.get 13) k' ∧ (IsV (!decide (x1229_2 = x1229_6))) (a'.get 24) k' ∧ True) ?_ hQ ?_
   ·intro Q1237 hQQ1237 hp1238
    refine region (a0 := a) (k0 := k) (n := 26) (m := 9) (⟨some (IsV s1_), [(0, none)]⟩ :: ⟨some (IsV s1223), [(5, none)]⟩ :: ⟨some (IsPtr x1229_2), [(16, some 0), (17, some 1)]⟩ :: ⟨some (IsV x1229_2), [(18, some 2)]⟩ :: ⟨some (IsV s2_), [(1, none)]⟩ :: ⟨some (IsV s1223), [(5, none)]⟩ :: ⟨some (IsPtr x1229_6), [(20, some 4), (21, some 5)]⟩ :: ⟨some (IsV x1229_6), [(22, some 6)]⟩ :: ⟨some (IsV (!decide (x1229_2 = x1229_6))), [(19, some 3), (23, some 7)]⟩ :: []) hmix hs (by kernel_rfl) ⟨ob1 rfl fun b q hk hn => ok_move rfl (up i0 hk hn.1), ob1 rfl fun b q hk hn => ok_move rfl (up i5 hk hn.1), ob1 rfl fun b q hk hn => ok_indexAddr rfl Try.underlying49 ty35 (IsV.rd hn.1) hn.2.1 hx1229_2, ob1 rfl fun b q hk hn => ok_load rfl ty35 hn.1, ob1 rfl fun b q hk hn => ok_move rfl (up i1 hk hn.1), ob1 rfl fun b q hk hn => ok_move rfl (up i5 hk hn.1), ob1 rfl fun b q hk hn => ok_indexAddr rfl Try.underlying49 ty35 (IsV.rd hn.1) hn.2.1 hx1229_6, ob1 rfl fun b q hk hn => ok_load rfl ty35 hn.1, ob1 rfl fun b q hk hn => ok_neA rfl eq35 hn.1 hn.2.1, trivial⟩ hQQ1237 fun b q p => ?_
    exact tail_done (k := q) (hp1238 _ _ ⟨Bs.post ⟨hg, hs, hd⟩ p, p.ke 0 rfl i0, p.ke 1 rfl i1, p.ke 12 rfl i12, p.ke 13 rfl i13, p.ou 8 24 rfl, trivial⟩)
   rintro a k ⟨⟨hg, hs, hd⟩, i0, i1, i12, i13, i24, _⟩
   refine wp_cond_split (isBool i24) (fun hc1236 => ?_) (fun hc1236 => ?_)
   ·rw [if_pos hc1236] at hr
    refine stepL 1 (⟨some (IsV false), []⟩ :: []) rfl ⟨hg, hs, hd⟩ (by kernel_rfl) ⟨ob1 rfl fun _ _ h n => ok_assign rfl (isV_bool.2 rfl), trivial⟩ [⟨_, _⟩] (fun b q p => ⟨p.ou 0 4 rfl, trivial⟩) ?_
    rintro a k ⟨⟨hg, hs, hd⟩, i4, _⟩
    refine wp_ret ?_
    exact hret1226 _ _ _ (Option.some.inj hr).symm (retC1 rfl hd hg i4)
   rw [if_neg (by rw [hc1236]; decide)] at hr
   refine wp_skip ?_
   obtain ⟨x1233_0, hx1233_0, hr⟩ := bind_some hr
   refine cut (fun a' k' => Bs noF k0 26 a' k' ∧ (IsV s1_) (a'.get 0) k' ∧ (IsV s2_) (a'.get 1) k' ∧ (IsL s1_) (a'.get 12) k' ∧ (IsV x1233_0) (a'.get 13) k' ∧ True) ?_ hQ ?_
   ·intro Q1234 hQQ1234 hp1235
    refine gS 2 (_ :: _ :: []) hs (by kernel_rfl) ⟨o1 [(13, none)] rfl fun _ _ h n => ok_add rfl (up i13 h n.1) (cI rfl) hx1233_0, cm 0 rfl rfl, trivial⟩ hQQ1234 fun b q p => ?_
    exact tail_done (k := q) (hp1235 _ _ ⟨Bs.post ⟨hg, hs, hd⟩ p, p.ke 0 rfl i0, p.ke 1 rfl i1, p.ke 12 rfl i12, p.ou 1 13 rfl, trivial⟩)
   rintro a k ⟨⟨hg, hs, hd⟩, i0, i1, i12, i13, _⟩
   exact hgo1224 _ _ _ (Option.some.inj hr).symm ⟨⟨hg, hs, hd⟩, i0, i1, i12, i13, trivial⟩
  rw [if_neg (by rw [hc1241]; decide)] at hr
  refine wp_exit ?_
  exact hex1225 _ _ _ _ (Option.some.inj hr).symm ⟨rfl, ⟨hg, hs, hd⟩, trivial⟩
 ·rintro r1249 a k rfl hR
  dsimp only at hr
  obtain rfl := Option.some.inj hr
  exact hR
 ·rintro _ _ _ rfl _
  simp at hr
 clear hf1244
 rintro _ s1245 a k rfl ⟨rfl, ⟨hg, hs, hd⟩, _⟩
 dsimp only at hr
 refine stepL 1 (⟨some (IsV true), []⟩ :: []) rfl ⟨hg, hs, hd⟩ (by kernel_rfl) ⟨ob1 rfl fun _ _ h n => ok_assign rfl (isV_bool.2 rfl), trivial⟩ [⟨_, _⟩] (fun b q p => ⟨p.ou 0 4 rfl, trivial⟩) ?_
 rintro a k ⟨⟨hg, hs, hd⟩, i4, _⟩
 refine wp_ret ?_
 obtain rfl := Option.some.inj hr
 exact retC1 rfl hd hg i4
def region_Right (a_ : (List Rect)) : Option (Bool) :=
 (region_Of a_).bind fun x1259_1 =>
 (if (x1259_1.2 == 0) then
  (slices_Equal_Rect x1259_1.1 a_).bind fun x1260_5 =>
  some x1260_5
 else
  some false).bind fun x1260_6 =>
 some x1260_6
theorem region_Right_ok {k0 : K} {v0 : Value} {a_ : (List Rect)} {r : Bool} (i0 : (IsV a_) v0 k0) (hr : region_Right a_ = some r) :
  Calls Try.prog 55 #[v0] k0.w (Ret k0 (IsV r)) := by
 unfold region_Right at hr
 refine Ret.ofC ?_
 refine enterK Try.func55 rfl Try.ntmps55 (show 1 ≤ 17 by decide) fun a k hk0 hs hd ha => ?_
 obtain ⟨e0, _⟩ := ha
 replace i0 : (IsV a_) (a.get 0) k := by rw [e0, hk0]; exact i0
 have hQ : Gb.LetsOut (bodyPost Try.prog Try.f55 (RetC noF k0 (IsV r))) := letsOutC
 have hg : Chg noF k0 k := by rw [hk0]; exact Chg.refl _ k0
 refine stepL 1 (⟨some (IsV false), []⟩ :: []) rfl ⟨hg, hs, hd⟩ (by kernel_rfl) ⟨ob1 rfl fun _ _ h n => ok_assign rfl (isV_bool.2 rfl), trivial⟩ [⟨_, _⟩] (fun b q p => ⟨p.ke 0 rfl i0, trivial⟩) ?_
 rintro a k ⟨⟨hg, hs, hd⟩, i0, _⟩
 refine wp_seq ?_
 obtain ⟨x1259_1, hx1259_1, hr⟩ := bind_some hr
 refine cut (fun a' k' => Bs noF k0 17 a' k' ∧ (IsV a_) (a'.get 0) k' ∧ (IsV x1259_1.1) (a'.get 3) k' ∧ (IsV x1259_1.2) (a'.get 4) k' ∧ True) ?_ hQ ?_
 ·intro Q1263 hQQ1263 hp1264
  refine gS 7 (_ :: _ :: _ :: _ :: _ :: _ :: _ :: []) hs (by kernel_rfl) ⟨mu rfl i0, o1 [(6, some 0)] rfl fun _ _ h n => ok_call rfl Try.call37 (region_Of_ok n.1 hx1259_1), cm 1 rfl rfl, o1 [(5, some 2)] rfl fun _ _ h n => ok_ext2_0 rfl n.1, o1 [(5, some 2)] rfl fun _ _ h n => ok_ext2_1 rfl n.1, cp 3 rfl rfl, cp 4 rfl rfl, trivial⟩ hQQ1263 fun b q p => ?_
  exact tail_done (k := q) (hp1264 _ _ ⟨Bs.post ⟨hg, hs, hd⟩ p, p.ke 0 rfl i0, p.ou 5 3 rfl, p.ou 6 4 rfl, trivial⟩)
 rintro a k ⟨⟨hg, hs, hd⟩, i0, i3, i4, _⟩
 refine wp_seq ?_
 obtain ⟨x1260_6, hx1260_6, hr⟩ := bind_some hr
 obtain ⟨x1260_5, hx1260_5, hx1260_6⟩ := ite_bind hx1260_6
 refine cut (fun a' k' => Bs noF k0 17 a' k' ∧ (IsV x1260_6) (a'.get 2) k' ∧ True) ?_ hQ ?_
 ·intro Q1261 hQQ1261 hp1262
  refine gS 8 (_ :: _ :: _ :: _ :: _ :: _ :: _ :: _ :: []) hs (by kernel_rfl) ⟨mu rfl i4, o1 [(10, some 0)] rfl fun _ _ h n => ok_eqI rfl n.1 (cI rfl), cm 1 rfl rfl, mT rfl rfl i3, mT rfl rfl i0, gT [(13, some 3), (14, some 4)] rfl rfl fun hp _ _ h n => ok_call rfl Try.call78 (slices_Equal_Rect_ok (Gd.get n.1 hp) (Gd.get n.2.1 hp) (hx1260_5 hp)), o1 [(12, some 2), (15, some 5)] rfl fun _ _ h n => ok_pickM rfl n.1 hx1260_6 (Gd.get n.2.1) (cB rfl), cp 6 rfl rfl, trivial⟩ hQQ1261 fun b q p => ?_
  exact tail_done (k := q) (hp1262 _ _ ⟨Bs.post ⟨hg, hs, hd⟩ p, p.ou 7 2 rfl, trivial⟩)
 rintro a k ⟨⟨hg, hs, hd⟩, i2, _⟩
 refine wp_ret ?_
 obtain rfl := Option.some.inj hr
 exact retC1 rfl hd hg i2
def region_Same (a_ : (List Rect)) (b_ : (List Rect)) : Option (Bool) :=
 (slices_Equal_Rect a_ b_).bind fun x1268_2 =>
 some x1268_2
theorem region_Same_ok {k0 : K} {v0 v1 : Value} {a_ : (List Rect)} {b_ : (List Rect)} {r : Bool} (i0 : (IsV a_) v0 k0) (i1 : (IsV b_) v1 k0) (hr : region_Same a_ b_ = some r) :
  Calls Try.prog 64 #[v0, v1] k0.w (Ret k0 (IsV r)) := by
 unfold region_Same at hr
 refine Ret.ofC ?_
 refine enterK Try.func64 rfl Try.ntmps64 (show 2 ≤ 8 by decide) fun a k hk0 hs hd ha => ?_
 obtain ⟨e0, e1, _⟩ := ha
 replace i0 : (IsV a_) (a.get 0) k := by rw [e0, hk0]; exact i0
 replace i1 : (IsV b_) (a.get 1) k := by rw [e1, hk0]; exact i1
 have hQ : Gb.LetsOut (bodyPost Try.prog Try.f64 (RetC noF k0 (IsV r))) := letsOutC
 have hg : Chg noF k0 k := by rw [hk0]; exact Chg.refl _ k0
 refine stepL 1 (⟨some (IsV false), []⟩ :: []) rfl ⟨hg, hs, hd⟩ (by kernel_rfl) ⟨ob1 rfl fun _ _ h n => ok_assign rfl (isV_bool.2 rfl), trivial⟩ [⟨_, _⟩, ⟨_, _⟩] (fun b q p => ⟨p.ke 0 rfl i0, p.ke 1 rfl i1, trivial⟩) ?_
 rintro a k ⟨⟨hg, hs, hd⟩, i0, i1, _⟩
 refine wp_seq ?_
 obtain ⟨x1268_2, hx1268_2, hr⟩ := bind_some hr
 refine cut (fun a' k' => Bs noF k0 8 a' k' ∧ (IsV x1268_2) (a'.get 4) k' ∧ True) ?_ hQ ?_
 ·intro Q1269 hQQ1269 hp1270
  refine gS 4 (_ :: _ :: _ :: _ :: []) hs (by kernel_rfl) ⟨mu rfl i0, mu rfl i1, o1 [(5, some 0), (6, some 1)] rfl fun _ _ h n => ok_call rfl Try.call78 (slices_Equal_Rect_ok n.1 n.2.1 hx1268_2), cp 2 rfl rfl, trivial⟩ hQQ1269 fun b q p => ?_
  exact tail_done (k := q) (hp1270 _ _ ⟨Bs.post ⟨hg, hs, hd⟩ p, p.ou 3 4 rfl, trivial⟩)
 rintro a k ⟨⟨hg, hs, hd⟩, i4, _⟩
 refine wp_ret ?_
 obtain rfl := Option.some.inj hr
 exact retC1 rfl hd hg i4
def solid_Right_L0 (s_ : (List Slab)) (s1279 : Int) : Option (Flow (Int) (Bool)) :=
 if (decide (s1279 < (s_.length : Int))) then
  ((getI s_ s1279).bind fun x1289_1 =>
  (if ((((decide (x1289_1.Z0 < 0)) || (decide (x1289_1.Z1 ≤ x1289_1.Z0))) || (decide (4096 < x1289_1.Z1))) || ((x1289_1.Area.length : Int) == 0)) then
   some true
  else
   (region_Right x1289_1.Area).bind fun x1290_24 =>
   some (!x1290_24)).bind fun x1290_26 =>
  if x1290_26 then
   some (.ret false)
  else
   if (s1279 == 0) then
    some (.go ())
   else
    (subI s1279 1).bind fun x1295_2 =>
    (getI s_ x1295_2).bind fun x1295_3 =>
    (if (decide (x1289_1.Z0 < x1295_3.Z1)) then
     some true
    else
     (if (x1295_3.Z1 == x1289_1.Z0) then
      (region_Same x1295_3.Area x1289_1.Area).bind fun x1296_16 =>
      some x1296_16
     else
      some false).bind fun x1296_17 =>
     some x1296_17).bind fun x1296_18 =>
    if x1296_18 then
     some (.ret false)
    else
     some (.go ()) : Option (Flow (Unit) (Bool))).bind fun f1313 => match f1313 with
   | .go _ =>
    (addI s1279 1).bind fun x1315_0 =>
    some (.go x1315_0)
   | .ex _ _ => none
   | .ret r1318 => some (.ret r1318)
 else
  some (.ex 0 s1279)
def solid_Right (s_ : (List Slab)) : Option (Bool) :=
 if (decide (80 < (s_.length : Int))) then
  some false
 else
  (iterL (solid_Right_L0 s_) (s_.length + 1) 0).bind fun f1323 => match f1323 with
   | .go _ => none
   | .ex _ _ =>
    some true
   | .ret r1328 => some r1328
theorem solid_Right_ok {k0 : K} {v0 : Value} {s_ : (List Slab)} {r : Bool} (i0 : (IsV s_) v0 k0) (hr : solid_Right s_ = some r) :
  Calls Try.prog 56 #[v0] k0.w (Ret k0 (IsV r)) := by
 unfold solid_Right at hr
 refine Ret.ofC ?_
 refine enterK Try.func56 rfl Try.ntmps56 (show 1 ≤ 70 by decide) fun a k hk0 hs hd ha => ?_
 obtain ⟨e0, _⟩ := ha
 replace i0 : (IsV s_) (a.get 0) k := by rw [e0, hk0]; exact i0
 have hQ : Gb.LetsOut (bodyPost Try.prog Try.f56 (RetC noF k0 (IsV r))) := letsOutC
 have hg : Chg noF k0 k := by rw [hk0]; exact Chg.refl _ k0
 refine stepL 1 (⟨some (IsV false), []⟩ :: []) rfl ⟨hg, hs, hd⟩ (by kernel_rfl) ⟨ob1 rfl fun _ _ h n => ok_assign rfl (isV_bool.2 rfl), trivial⟩ [⟨_, _⟩] (fun b q p => ⟨p.ke 0 rfl i0, trivial⟩) ?_
 rintro a k ⟨⟨hg, hs, hd⟩, i0, _⟩
 refine wp_seq ?_
 refine stepL 3 (_ :: _ :: _ :: []) rfl ⟨hg, hs, hd⟩ (by kernel_rfl) ⟨mu rfl i0, o1 [(6, some 0)] rfl fun _ _ h n => ok_len rfl rfl Try.underlying22 (IsV.rd n.1), o1 [(7, some 1)] rfl fun _ _ h n => ok_gtr rfl n.1 (cI rfl), trivial⟩ [⟨_, _⟩, ⟨_, _⟩] (fun b q p => ⟨p.ke 0 rfl i0, p.ou 2 8 rfl, trivial⟩) ?_
 rintro a k ⟨⟨hg, hs, hd⟩, i0, i8, _⟩
 refine wp_cond_split (isBool i8) (fun hc1332 => ?_) (fun hc1332 => ?_)
 ·rw [if_pos hc1332] at hr
  refine stepL 1 (⟨some (IsV false), []⟩ :: []) rfl ⟨hg, hs, hd⟩ (by kernel_rfl) ⟨ob1 rfl fun _ _ h n => ok_assign rfl (isV_bool.2 rfl), trivial⟩ [⟨_, _⟩] (fun b q p => ⟨p.ou 0 2 rfl, trivial⟩) ?_
  rintro a k ⟨⟨hg, hs, hd⟩, i2, _⟩
  refine wp_ret ?_
  obtain rfl := Option.some.inj hr
  exact retC1 rfl hd hg i2
 rw [if_neg (by rw [hc1332]; decide)] at hr
 refine wp_skip ?_
 refine wp_seq ?_
 refine stepL 3 (_ :: _ :: ⟨some (IsI 0), []⟩ :: []) rfl ⟨hg, hs, hd⟩ (by kernel_rfl) ⟨mu rfl i0, o1 [(9, some 0)] rfl fun _ _ h n => ok_len rfl rfl Try.underlying22 (IsV.rd n.1), ob1 rfl fun _ _ h n => ok_move rfl (cI rfl), trivial⟩ [⟨_, _⟩, ⟨_, _⟩, ⟨_, _⟩, ⟨_, _⟩] (fun b q p => ⟨p.ke 0 rfl i0, p.ou 0 9 rfl, p.ou 1 10 rfl, p.ou 2 11 rfl, trivial⟩) ?_
 rintro a k ⟨⟨hg, hs, hd⟩, i0, i9, i10, i11, _⟩
 refine wp_block ?_
 obtain ⟨f1323, hf1323, hr⟩ := bind_some hr
 refine cutFe f1323 (fun s' a' k' => Bs noF k0 70 a' k' ∧ (IsV s_) (a'.get 0) k' ∧ (IsV s_) (a'.get 9) k' ∧ (IsL s_) (a'.get 10) k' ∧ (IsV s') (a'.get 11) k' ∧ True) (fun i' s' a' k' => (i' = 0 ∧ Bs noF k0 70 a' k' ∧ True)) (fun r' a' k' => bodyPost Try.prog Try.f56 (RetC noF k0 (IsV r')) .ret a' k'.w) ?_ hQ ?_ ?_ ?_
 ·intro Q1329 hQQ1329 hgo hex hret
  refine sim_loop ?_ _ _ _ _ _ hf1323 ⟨⟨hg, hs, hd⟩, i0, i9, i10, i11, trivial⟩ Q1329 hQQ1329 hgo hex hret
  clear hr hf1323 hgo hex hret hQQ1329 hQ hg hs hd i0 i10 i11 i9
  intro s1279 fl_ a k hr hS Q hQ hgo1280 hex1281 hret1282
  obtain ⟨⟨hg, hs, hd⟩, i0, i9, i10, i11, _⟩ := hS
  unfold solid_Right_L0 at hr
  refine stepL 1 (_ :: []) rfl ⟨hg, hs, hd⟩ (by kernel_rfl) ⟨o1 [(11, none), (10, none)] rfl fun _ _ h n => ok_lss rfl (up i11 h n.1) (up i10 h n.2.1), trivial⟩ [⟨_, _⟩, ⟨_, _⟩, ⟨_, _⟩, ⟨_, _⟩, ⟨_, _⟩] (fun b q p => ⟨p.ke 0 rfl i0, p.ke 9 rfl i9, p.ke 10 rfl i10, p.ke 11 rfl i11, p.ou 0 12 rfl, trivial⟩) ?_
  rintro a k ⟨⟨hg, hs, hd⟩, i0, i9, i10, i11, i12, _⟩
  refine wp_seq ?_
  refine wp_cond_split (isBool i12) (fun hc1320 => ?_) (fun hc1320 => ?_)
  ·rw [if_pos hc1320] at hr
   refine wp_skip ?_
   refine wp_seq ?_
   obtain ⟨f1313, hf1313, hr⟩ := bind_some hr
   refine cutFg f1313 (fun s' a' k' => Bs noF k0 70 a' k' ∧ (IsV s_) (a'.get 0) k' ∧ (IsV s_) (a'.get 9) k' ∧ (IsL s_) (a'.get 10) k' ∧ (IsV s1279) (a'.get 11) k' ∧ True) (fun i' s' a' k' => False) (fun r' a' k' => bodyPost Try.prog Try.f56 (RetC noF k0 (IsV r')) .ret a' k'.w) ?_ hQ ?_ ?_ ?_
   ·intro Q1319 hQQ1319 hgo1286 hex1287 hret1288
    replace hr := hf1313
    clear hQ
    have hQ := hQQ1319
    refine wp_block ?_
    refine wp_seq ?_
    obtain ⟨x1289_1, hx1289_1, hr⟩ := bind_some hr
    refine cut (fun a' k' => Bs noF k0 70 a' k' ∧ (IsV s_) (a'.get 0) k' ∧ (IsV s1279) (a'.get 3) k' ∧ (IsRef x1289_1) (a'.get 4) k' ∧ (IsV s_) (a'.get 9) k' ∧ (IsL s_) (a'.get 10) k' ∧ (IsV s1279) (a'.get 11) k' ∧ True) ?_ hQ ?_
    ·intro Q1311 hQQ1311 hp1312
     refine gS 5 (_ :: _ :: _ :: ⟨some (IsBox k.w.heap.size (⟨0, 0, []⟩ : Slab)), []⟩ :: _ :: []) hs (by kernel_rfl) ⟨mu rfl i11, o1 [(9, none), (11, none)] rfl fun _ _ h n => ok_indexAddr rfl Try.underlying22 ty51 (IsV.rd (up i9 h n.1)) (up i11 h n.2.1) hx1289_1, o1 [(14, some 1)] rfl fun _ _ h n => ok_load rfl ty51 n.1, ob1 rfl fun _ _ h n => ok_alloc _ h.size rfl z51, cp 0 rfl rfl, trivial⟩ hQQ1311 fun b q p => ?_
     have hgq := hg.then p.grow
     have hsb := p.size.trans hs
     have hdb := p.defers.trans hd
     have j0 := p.ke 0 rfl i0
     have j3 : (IsV s1279) (b.get 3) q := p.ou 4 3 rfl
     obtain ⟨b4, j4, x4, z4⟩ : (IsBox k.w.heap.size (⟨0, 0, []⟩ : Slab)) (b.get 4) q := p.ou 3 4 rfl
     replace x4 : Lo k (Eq b4) := Lo.eq x4
     have y4 : Lo k0 (Eq b4) := x4.chg hg
     have j9 := p.ke 9 rfl i9
     have j10 := p.ke 10 rfl i10
     have j11 := p.ke 11 rfl i11
     have j15 : (IsV x1289_1) (b.get 15) q := p.ou 2 15 rfl
     have hns := z4.nshF
     refine tail_storeB (i := 5) rfl rfl rfl rfl szf51 (Upd.self (α := Slab)) j4 z4 j15 fun q2 hch hz => ?_
     replace hgq := hgq.step hch y4.wr
     have hle := hch.le hns
     replace j0 := Pers.pers hle j0
     replace j3 := Pers.pers hle j3
     replace j9 := Pers.pers hle j9
     replace j10 := Pers.pers hle j10
     replace j11 := Pers.pers hle j11
     replace j15 := Pers.pers hle j15
     replace z4 := hz
     clear hns hle hch
     obtain ⟨q, hqq⟩ : ∃ q, q = q2 := ⟨q2, rfl⟩
     subst hqq
     obtain ⟨q2, hsh, jn⟩ := z4.give
     replace j0 := Pers.pers hsh.le j0
     replace j3 := Pers.pers hsh.le j3
     replace j9 := Pers.pers hsh.le j9
     replace j10 := Pers.pers hsh.le j10
     replace j11 := Pers.pers hsh.le j11
     rw [← j4] at jn
     replace j4 := jn
     replace hgq := hgq.hand hsh y4.wr
     rw [← hsh.w]
     clear hsh
     obtain ⟨q, hqq⟩ : ∃ q, q = q2 := ⟨q2, rfl⟩
     subst hqq
     exact tail_done (k := q) (hp1312 _ _ ⟨⟨hgq, hsb, hdb⟩, j0, j3, j4, j9, j10, j11, trivial⟩)
    rintro a k ⟨⟨hg, hs, hd⟩, i0, i3, i4, i9, i10, i11, _⟩
    refine wp_seq ?_
    refine wp_seq ?_
    obtain ⟨x1290_26, hx1290_26, hr⟩ := bind_some hr
    obtain ⟨x1290_24, hx1290_24, hx1290_26⟩ := ite_bindF hx1290_26
    refine cut (fun a' k' => Bs noF k0 70 a' k' ∧ (IsV s_) (a'.get 0) k' ∧ (IsV s1279) (a'.get 3) k' ∧ (IsRef x1289_1) (a'.get 4) k' ∧ (IsV s_) (a'.get 9) k' ∧ (IsL s_) (a'.get 10) k' ∧ (IsV s1279) (a'.get 11) k' ∧ (IsV x1290_26) (a'.get 42) k' ∧ True) ?_ hQ ?_
    ·intro Q1309 hQQ1309 hp1310
     refine gS 27 (_ :: _ :: _ :: _ :: _ :: _ :: _ :: _ :: _ :: _ :: _ :: _ :: _ :: _ :: _ :: _ :: _ :: _ :: _ :: _ :: _ :: _ :: _ :: _ :: _ :: _ :: _ :: []) hs (by kernel_rfl) ⟨o1 [(4, none)] rfl fun _ _ h n => ok_fieldAddr rfl fo51_0 (at_Slab_0 _) ((up i4 h n.1)).ptr, o1 [(16, some 0)] rfl fun _ _ h n => ok_load rfl ty3 n.1, o1 [(17, some 1)] rfl fun _ _ h n => ok_lss rfl n.1 (cI rfl), cm 2 rfl rfl, gF [(4, none)] rfl rfl fun hp _ _ h n => ok_fieldAddr rfl fo51_0 (at_Slab_0 _) ((up i4 h n.1)).ptr, gF [(20, some 4)] rfl rfl fun hp _ _ h n => ok_load rfl ty3 (Gd.get n.1 hp), gF [(4, none)] rfl rfl fun hp _ _ h n => ok_fieldAddr rfl fo51_1 (at_Slab_1 _) ((up i4 h n.1)).ptr, gF [(22, some 6)] rfl rfl fun hp _ _ h n => ok_load rfl ty3 (Gd.get n.1 hp), gF [(21, some 5), (23, some 7)] rfl rfl fun hp _ _ h n => ok_geq rfl (Gd.get n.1 hp) (Gd.get n.2.1 hp), o1 [(19, some 3), (24, some 8)] rfl fun _ _ h n => ok_pickOr rfl n.1 (cB rfl) (Gd.get n.2.1), cm 9 rfl rfl, gF [(4, none)] rfl rfl fun hp _ _ h n => ok_fieldAddr rfl fo51_1 (at_Slab_1 _) ((up i4 h n.1)).ptr, gF [(27, some 11)] rfl rfl fun hp _ _ h n => ok_load rfl ty3 (Gd.get n.1 hp), gF [(28, some 12)] rfl rfl fun hp _ _ h n => ok_gtr rfl (Gd.get n.1 hp) (cI rfl), o1 [(26, some 10), (29, some 13)] rfl fun _ _ h n => ok_pickOr rfl n.1 (cB rfl) (Gd.get n.2.1), cm 14 rfl rfl, gF [(4, none)] rfl rfl fun hp _ _ h n => ok_fieldAddr rfl fo51_2 (at_Slab_2 _) ((up i4 h n.1)).ptr, gF [(32, some 16)] rfl rfl fun hp _ _ h n => ok_load rfl ty49 (Gd.get n.1 hp), gF [(33, some 17)] rfl rfl fun hp _ _ h n => ok_len rfl rfl Try.underlying49 (IsV.rd (Gd.get n.1 hp)), gF [(34, some 18)] rfl rfl fun hp _ _ h n => ok_eqI rfl (Gd.get n.1 hp) (cI rfl), o1 [(31, some 15), (35, some 19)] rfl fun _ _ h n => ok_pickOr rfl n.1 (cB rfl) (Gd.get n.2.1), cm 20 rfl rfl, gF [(4, none)] rfl rfl fun hp _ _ h n => ok_fieldAddr rfl fo51_2 (at_Slab_2 _) ((up i4 h n.1)).ptr, gF [(38, some 22)] rfl rfl fun hp _ _ h n => ok_load rfl ty49 (Gd.get n.1 hp), gF [(39, some 23)] rfl rfl fun hp _ _ h n => ok_call rfl Try.call55 (region_Right_ok (Gd.get n.1 hp) (hx1290_24 hp)), gF [(40, some 24)] rfl rfl fun hp _ _ h n => ok_not rfl (Gd.get n.1 hp), o1 [(37, some 21), (41, some 25)] rfl fun _ _ h n => ok_pickM rfl n.1 hx1290_26 (cB rfl) (Gd.get n.2.1), trivial⟩ hQQ1309 fun b q p => ?_
     exact tail_done (k := q) (hp1310 _ _ ⟨Bs.post ⟨hg, hs, hd⟩ p, p.ke 0 rfl i0, p.ke 3 rfl i3, p.ke 4 rfl i4, p.ke 9 rfl i9, p.ke 10 rfl i10, p.ke 11 rfl i11, p.ou 26 42 rfl, trivial⟩)
    rintro a k ⟨⟨hg, hs, hd⟩, i0, i3, i4, i9, i10, i11, i42, _⟩
    refine wp_cond_split (isBool i42) (fun hc1308 => ?_) (fun hc1308 => ?_)
    ·rw [if_pos hc1308] at hr
     refine stepL 1 (⟨some (IsV false), []⟩ :: []) rfl ⟨hg, hs, hd⟩ (by kernel_rfl) ⟨ob1 rfl fun _ _ h n => ok_assign rfl (isV_bool.2 rfl), trivial⟩ [⟨_, _⟩] (fun b q p => ⟨p.ou 0 2 rfl, trivial⟩) ?_
     rintro a k ⟨⟨hg, hs, hd⟩, i2, _⟩
     refine wp_ret ?_
     exact hret1288 _ _ _ (Option.some.inj hr).symm (retC1 rfl hd hg i2)
    rw [if_neg (by rw [hc1308]; decide)] at hr
    refine wp_skip ?_
    refine wp_seq ?_
    refine stepL 2 (_ :: _ :: []) rfl ⟨hg, hs, hd⟩ (by kernel_rfl) ⟨mu rfl i3, o1 [(43, some 0)] rfl fun _ _ h n => ok_eqI rfl n.1 (cI rfl), trivial⟩ [⟨_, _⟩, ⟨_, _⟩, ⟨_, _⟩, ⟨_, _⟩, ⟨_, _⟩, ⟨_, _⟩, ⟨_, _⟩] (fun b q p => ⟨p.ke 0 rfl i0, p.ke 3 rfl i3, p.ke 4 rfl i4, p.ke 9 rfl i9, p.ke 10 rfl i10, p.ke 11 rfl i11, p.ou 1 44 rfl, trivial⟩) ?_
    rintro a k ⟨⟨hg, hs, hd⟩, i0, i3, i4, i9, i10, i11, i44, _⟩
    refine wp_cond_split (isBool i44) (fun hc1305 => ?_) (fun hc1305 => ?_)
    ·rw [if_pos hc1305] at hr
     refine wp_exit ?_
     exact hgo1286 _ _ _ (Option.some.inj hr).symm ⟨⟨hg, hs, hd⟩, i0, i9, i10, i11, trivial⟩
    rw [if_neg (by rw [hc1305]; decide)] at hr
    refine wp_skip ?_
    refine wp_seq ?_
    obtain ⟨x1295_2, hx1295_2, hr⟩ := bind_some hr
    obtain ⟨x1295_3, hx1295_3, hr⟩ := bind_some hr
    refine cut (fun a' k' => Bs noF k0 70 a' k' ∧ (IsV s_) (a'.get 0) k' ∧ (IsRef x1289_1) (a'.get 4) k' ∧ (IsRef x1295_3) (a'.get 5) k' ∧ (IsV s_) (a'.get 9) k' ∧ (IsL s_) (a'.get 10) k' ∧ (IsV s1279) (a'.get 11) k' ∧ True) ?_ hQ ?_
    ·intro Q1303 hQQ1303 hp1304
     refine gS 6 (_ :: _ :: _ :: _ :: _ :: ⟨some (IsBox k.w.heap.size (⟨0, 0, []⟩ : Slab)), []⟩ :: []) hs (by kernel_rfl) ⟨mu rfl i0, mu rfl i3, o1 [(46, some 1)] rfl fun _ _ h n => ok_sub rfl n.1 (cI rfl) hx1295_2, o1 [(45, some 0), (47, some 2)] rfl fun _ _ h n => ok_indexAddr rfl Try.underlying22 ty51 (IsV.rd n.1) n.2.1 hx1295_3, o1 [(48, some 3)] rfl fun _ _ h n => ok_load rfl ty51 n.1, ob1 rfl fun _ _ h n => ok_alloc _ h.size rfl z51, trivial⟩ hQQ1303 fun b q p => ?_
     have hgq := hg.then p.grow
     have hsb := p.size.trans hs
     have hdb := p.defers.trans hd
     have j0 := p.ke 0 rfl i0
     have j4 := p.ke 4 rfl i4
     obtain ⟨b5, j5, x5, z5⟩ : (IsBox k.w.heap.size (⟨0, 0, []⟩ : Slab)) (b.get 5) q := p.ou 5 5 rfl
     replace x5 : Lo k (Eq b5) := Lo.eq x5
     have y5 : Lo k0 (Eq b5) := x5.chg hg
     have j9 := p.ke 9 rfl i9
     have j10 := p.ke 10 rfl i10
     have j11 := p.ke 11 rfl i11
     have j49 : (IsV x1295_3) (b.get 49) q := p.ou 4 49 rfl
     have hns := z5.nshF
     refine tail_storeB (i := 6) rfl rfl rfl rfl szf51 (Upd.self (α := Slab)) j5 z5 j49 fun q2 hch hz => ?_
     replace hgq := hgq.step hch y5.wr
     have hle := hch.le hns
     replace j0 := Pers.pers hle j0
     replace j4 := Pers.pers hle j4
     replace j9 := Pers.pers hle j9
     replace j10 := Pers.pers hle j10
     replace j11 := Pers.pers hle j11
     replace j49 := Pers.pers hle j49
     replace z5 := hz
     clear hns hle hch
     obtain ⟨q, hqq⟩ : ∃ q, q = q2 := ⟨q2, rfl⟩
     subst hqq
     obtain ⟨q2, hsh, jn⟩ := z5.give
     replace j0 := Pers.pers hsh.le j0
     replace j4 := Pers.pers hsh.le j4
     replace j9 := Pers.pers hsh.le j9
     replace j10 := Pers.pers hsh.le j10
     replace j11 := Pers.pers hsh.le j11
     rw [← j5] at jn
     replace j5 := jn
     replace hgq := hgq.hand hsh y5.wr
     rw [← hsh.w]
     clear hsh
     obtain ⟨q, hqq⟩ : ∃ q, q = q2 := ⟨q2, rfl⟩
     subst hqq
     exact tail_done (k := q) (hp1304 _ _ ⟨⟨hgq, hsb, hdb⟩, j0, j4, j5, j9, j10, j11, trivial⟩)
    rintro a k ⟨⟨hg, hs, hd⟩, i0, i4, i5, i9, i10, i11, _⟩
    refine wp_seq ?_
    obtain ⟨x1296_18, hx1296_18, hr⟩ := bind_some hr
    obtain ⟨x1296_17, hx1296_17, hx1296_18⟩ := ite_bindF hx1296_18
    obtain ⟨x1296_16, hx1296_16, hx1296_17⟩ := ite_bindP hx1296_17
    refine cut (fun a' k' => Bs noF k0 70 a' k' ∧ (IsV s_) (a'.get 0) k' ∧ (IsV s_) (a'.get 9) k' ∧ (IsL s_) (a'.get 10) k' ∧ (IsV s1279) (a'.get 11) k' ∧ (IsV x1296_18) (a'.get 68) k' ∧ True) ?_ hQ ?_
    ·intro Q1301 hQQ1301 hp1302
     refine gS 19 (_ :: _ :: _ :: _ :: _ :: _ :: _ :: _ :: _ :: _ :: _ :: ⟨some (Gd ((decide (x1289_1.Z0 < x1295_3.Z1)) = false) (IsV (x1295_3.Z1 == x1289_1.Z0))), [(60, some 10)]⟩ :: ⟨some (Gd (((decide (x1289_1.Z0 < x1295_3.Z1)) = false) ∧ (x1295_3.Z1 == x1289_1.Z0) = true) (IsPtr x1295_3.Area)), [(5, none)]⟩ :: ⟨some (Gd (((decide (x1289_1.Z0 < x1295_3.Z1)) = false) ∧ (x1295_3.Z1 == x1289_1.Z0) = true) (IsV x1295_3.Area)), [(62, some 12)]⟩ :: ⟨some (Gd (((decide (x1289_1.Z0 < x1295_3.Z1)) = false) ∧ (x1295_3.Z1 == x1289_1.Z0) = true) (IsPtr x1289_1.Area)), [(4, none)]⟩ :: ⟨some (Gd (((decide (x1289_1.Z0 < x1295_3.Z1)) = false) ∧ (x1295_3.Z1 == x1289_1.Z0) = true) (IsV x1289_1.Area)), [(64, some 14)]⟩ :: ⟨some (Gd (((decide (x1289_1.Z0 < x1295_3.Z1)) = false) ∧ (x1295_3.Z1 == x1289_1.Z0) = true) (IsV x1296_16)), [(63, some 13), (65, some 15)]⟩ :: _ :: _ :: []) hs (by kernel_rfl) ⟨o1 [(5, none)] rfl fun _ _ h n => ok_fieldAddr rfl fo51_1 (at_Slab_1 _) ((up i5 h n.1)).ptr, o1 [(50, some 0)] rfl fun _ _ h n => ok_load rfl ty3 n.1, o1 [(4, none)] rfl fun _ _ h n => ok_fieldAddr rfl fo51_0 (at_Slab_0 _) ((up i4 h n.1)).ptr, o1 [(52, some 2)] rfl fun _ _ h n => ok_load rfl ty3 n.1, o1 [(51, some 1), (53, some 3)] rfl fun _ _ h n => ok_gtr rfl n.1 n.2.1, cm 4 rfl rfl, gF [(5, none)] rfl rfl fun hp _ _ h n => ok_fieldAddr rfl fo51_1 (at_Slab_1 _) ((up i5 h n.1)).ptr, gF [(56, some 6)] rfl rfl fun hp _ _ h n => ok_load rfl ty3 (Gd.get n.1 hp), gF [(4, none)] rfl rfl fun hp _ _ h n => ok_fieldAddr rfl fo51_0 (at_Slab_0 _) ((up i4 h n.1)).ptr, gF [(58, some 8)] rfl rfl fun hp _ _ h n => ok_load rfl ty3 (Gd.get n.1 hp), gF [(57, some 7), (59, some 9)] rfl rfl fun hp _ _ h n => ok_eqI rfl (Gd.get n.1 hp) (Gd.get n.2.1 hp), gdF rfl rfl fun hp _ _ h n => ok_move rfl (Gd.get n.1 hp), gdTT rfl rfl fun hp b q h n => ok_fieldAddr rfl fo51_2 (at_Slab_2 _) ((up i5 h n.1)).ptr, gdTT rfl rfl fun hp b q h n => ok_load rfl ty49 (Gd.get n.1 hp), gdTT rfl rfl fun hp b q h n => ok_fieldAddr rfl fo51_2 (at_Slab_2 _) ((up i4 h n.1)).ptr, gdTT rfl rfl fun hp b q h n => ok_load rfl ty49 (Gd.get n.1 hp), gdTT rfl rfl fun hp b q h n => ok_call rfl Try.call64 (region_Same_ok (Gd.get n.1 hp) (Gd.get n.2.1 hp) (hx1296_16 hp)), gF [(61, some 11), (66, some 16)] rfl rfl fun hp _ _ h n => ok_pickM rfl (Gd.get n.1 hp) (hx1296_17 hp) (fun hm => (Gd.get n.2.1 ⟨hp, hm⟩)) (cB rfl), o1 [(55, some 5), (67, some 17)] rfl fun _ _ h n => ok_pickM rfl n.1 hx1296_18 (cB rfl) (Gd.get n.2.1), trivial⟩ hQQ1301 fun b q p => ?_
     exact tail_done (k := q) (hp1302 _ _ ⟨Bs.post ⟨hg, hs, hd⟩ p, p.ke 0 rfl i0, p.ke 9 rfl i9, p.ke 10 rfl i10, p.ke 11 rfl i11, p.ou 18 68 rfl, trivial⟩)
    rintro a k ⟨⟨hg, hs, hd⟩, i0, i9, i10, i11, i68, _⟩
    refine wp_cond_split (isBool i68) (fun hc1300 => ?_) (fun hc1300 => ?_)
    ·rw [if_pos hc1300] at hr
     refine stepL 1 (⟨some (IsV false), []⟩ :: []) rfl ⟨hg, hs, hd⟩ (by kernel_rfl) ⟨ob1 rfl fun _ _ h n => ok_assign rfl (isV_bool.2 rfl), trivial⟩ [⟨_, _⟩] (fun b q p => ⟨p.ou 0 2 rfl, trivial⟩) ?_
     rintro a k ⟨⟨hg, hs, hd⟩, i2, _⟩
     refine wp_ret ?_
     exact hret1288 _ _ _ (Option.some.inj hr).symm (retC1 rfl hd hg i2)
    rw [if_neg (by rw [hc1300]; decide)] at hr
    refine wp_skip ?_
    exact hgo1286 _ _ _ (Option.some.inj hr).symm ⟨⟨hg, hs, hd⟩, i0, i9, i10, i11, trivial⟩
   ·rintro r1318 a k rfl hR
    dsimp only at hr
    exact hret1282 _ _ _ (Option.some.inj hr).symm hR
   ·rintro _ _ _ _ _ hX
    exact hX.elim
   clear hf1313
   rintro s1314 a k rfl ⟨⟨hg, hs, hd⟩, i0, i9, i10, i11, _⟩
   dsimp only at hr
   obtain ⟨x1315_0, hx1315_0, hr⟩ := bind_some hr
   refine cut (fun a' k' => Bs noF k0 70 a' k' ∧ (IsV s_) (a'.get 0) k' ∧ (IsV s_) (a'.get 9) k' ∧ (IsL s_) (a'.get 10) k' ∧ (IsV x1315_0) (a'.get 11) k' ∧ True) ?_ hQ ?_
   ·intro Q1316 hQQ1316 hp1317
    refine gS 2 (_ :: _ :: []) hs (by kernel_rfl) ⟨o1 [(11, none)] rfl fun _ _ h n => ok_add rfl (up i11 h n.1) (cI rfl) hx1315_0, cm 0 rfl rfl, trivial⟩ hQQ1316 fun b q p => ?_
    exact tail_done (k := q) (hp1317 _ _ ⟨Bs.post ⟨hg, hs, hd⟩ p, p.ke 0 rfl i0, p.ke 9 rfl i9, p.ke 10 rfl i10, p.ou 1 11 rfl, trivial⟩)
   rintro a k ⟨⟨hg, hs, hd⟩, i0, i9, i10, i11, _⟩
   exact hgo1280 _ _ _ (Option.some.inj hr).symm ⟨⟨hg, hs, hd⟩, i0, i9, i10, i11, trivial⟩
  rw [if_neg (by rw [hc1320]; decide)] at hr
  refine wp_exit ?_
  exact hex1281 _ _ _ _ (Option.some.inj hr).symm ⟨rfl, ⟨hg, hs, hd⟩, trivial⟩
 ·rintro r1328 a k rfl hR
  dsimp only at hr
  obtain rfl := Option.some.inj hr
  exact hR
 ·rintro _ _ _ rfl _
  simp at hr
 clear hf1323
 rintro _ s1324 a k rfl ⟨rfl, ⟨hg, hs, hd⟩, _⟩
 dsimp only at hr
 refine stepL 1 (⟨some (IsV true), []⟩ :: []) rfl ⟨hg, hs, hd⟩ (by kernel_rfl) ⟨ob1 rfl fun _ _ h n => ok_assign rfl (isV_bool.2 rfl), trivial⟩ [⟨_, _⟩] (fun b q p => ⟨p.ou 0 2 rfl, trivial⟩) ?_
 rintro a k ⟨⟨hg, hs, hd⟩, i2, _⟩
 refine wp_ret ?_
 obtain rfl := Option.some.inj hr
 exact retC1 rfl hd hg i2
def solid_Boxes_L1 (x1349_0 : Slab) (s1351 : (List Box) × Int) : Option (Flow ((List Box) × Int) ((List Box))) :=
 if (decide (s1351.2 < (x1349_0.Area.length : Int))) then
  (getI x1349_0.Area s1351.2).bind fun x1356_0 =>
  (appI s1351.1 ([(⟨x1356_0, x1349_0.Z0, x1349_0.Z1⟩ : Box)])).bind fun x1357_8 =>
  (addI s1351.2 1).bind fun x1358_0 =>
  some (.go (x1357_8, x1358_0))
 else
  some (.ex 2 (s1351.1, s1351.2))
def solid_Boxes_L0 (s_ : (List Slab)) (s1344 : (List Box) × Int) : Option (Flow ((List Box) × Int) ((List Box))) :=
 if (decide (s1344.2 < (s_.length : Int))) then
  (getI s_ s1344.2).bind fun x1349_0 =>
  (iterL (solid_Boxes_L1 x1349_0) (x1349_0.Area.length + 1) (s1344.1, 0)).bind fun f1368 => match f1368 with
   | .go _ => none
   | .ex _ s1369 =>
    (addI s1344.2 1).bind fun x1370_0 =>
    some (.go (s1369.1, x1370_0))
   | .ret r1373 => some (.ret r1373)
 else
  some (.ex 0 (s1344.1, s1344.2))
def solid_Boxes (s_ : (List Slab)) : Option ((List Box)) :=
 (solid_Right s_).bind fun x1338_1 =>
 if (!x1338_1) then
  some ([] : List Box)
 else
  (iterL (solid_Boxes_L0 s_) (s_.length + 1) (([] : List Box), 0)).bind fun f1383 => match f1383 with
   | .go _ => none
   | .ex _ s1384 =>
    some s1384.1
   | .ret r1388 => some r1388
theorem solid_Boxes_ok {k0 : K} {v0 : Value} {s_ : (List Slab)} {r : (List Box)} (i0 : (IsV s_) v0 k0) (hr : solid_Boxes s_ = some r) :
  Calls Try.prog 46 #[v0] k0.w (Ret k0 (IsV r)) := by
 unfold solid_Boxes at hr
 refine Ret.ofC ?_
 refine enterK Try.func46 rfl Try.ntmps46 (show 1 ≤ 36 by decide) fun a k hk0 hs hd ha => ?_
 obtain ⟨e0, _⟩ := ha
 replace i0 : (IsV s_) (a.get 0) k := by rw [e0, hk0]; exact i0
 have hQ : Gb.LetsOut (bodyPost Try.prog Try.f46 (RetC noF k0 (IsV r))) := letsOutC
 have hg : Chg noF k0 k := by rw [hk0]; exact Chg.refl _ k0
 refine stepL 1 (⟨some IsE0, []⟩ :: []) rfl ⟨hg, hs, hd⟩ (by kernel_rfl) ⟨ob1 rfl fun b q h n => ok_assign rfl isE0_nil, trivial⟩ [⟨_, _⟩] (fun b q p => ⟨p.ke 0 rfl i0, trivial⟩) ?_
 rintro a k ⟨⟨hg, hs, hd⟩, i0, _⟩
 refine wp_seq ?_
 refine wp_seq ?_
 obtain ⟨x1338_1, hx1338_1, hr⟩ := bind_some hr
 refine cut (fun a' k' => Bs noF k0 36 a' k' ∧ (IsV s_) (a'.get 0) k' ∧ (IsV (!x1338_1)) (a'.get 10) k' ∧ True) ?_ hQ ?_
 ·intro Q1395 hQQ1395 hp1396
  refine gS 3 (_ :: _ :: _ :: []) hs (by kernel_rfl) ⟨mu rfl i0, o1 [(8, some 0)] rfl fun _ _ h n => ok_call rfl Try.call56 (solid_Right_ok n.1 hx1338_1), o1 [(9, some 1)] rfl fun _ _ h n => ok_not rfl n.1, trivial⟩ hQQ1395 fun b q p => ?_
  exact tail_done (k := q) (hp1396 _ _ ⟨Bs.post ⟨hg, hs, hd⟩ p, p.ke 0 rfl i0, p.ou 2 10 rfl, trivial⟩)
 rintro a k ⟨⟨hg, hs, hd⟩, i0, i10, _⟩
 refine wp_cond_split (isBool i10) (fun hc1394 => ?_) (fun hc1394 => ?_)
 ·rw [if_pos hc1394] at hr
  refine cutL noF k0 36 [⟨2, IsV ([] : List Box)⟩] ?_ ?_
  ·intro Q1340 hQQ1340 hp1341
   refine gS 1 (⟨some IsE0, []⟩ :: []) hs (by kernel_rfl) ⟨ob1 rfl fun b q h n => ok_assign rfl isE0_nil, trivial⟩ hQQ1340 fun b q p => ?_
   have hgq := hg.then p.grow
   have hsb := p.size.trans hs
   have hdb := p.defers.trans hd
   have j2 : IsE0 (b.get 2) q := p.ou 0 2 rfl
   replace j2 : IsV ([] : List Box) (b.get 2) q := j2.isV
   exact tail_done (k := q) (hp1341 _ _ ⟨⟨hgq, hsb, hdb⟩, j2, trivial⟩)
  rintro a k ⟨⟨hg, hs, hd⟩, i2, _⟩
  refine wp_ret ?_
  obtain rfl := Option.some.inj hr
  exact retC1 rfl hd hg i2
 rw [if_neg (by rw [hc1394]; decide)] at hr
 refine wp_skip ?_
 refine cutS (fun a' k' => Bs noF k0 36 a' k' ∧ (IsV s_) (a'.get 0) k' ∧ IsOwn 0 37 ([] : List Box) (a'.get 3) k' ∧ Lo k0 (obF (a'.get 3)) ∧ True) ?_ ?_
 ·intro Q1392 hQQ1392 hp1393
  refine gS 1 (⟨some IsE0, []⟩ :: []) hs (by kernel_rfl) ⟨ob1 rfl fun b q h n => ok_assign rfl isE0_nil, trivial⟩ hQQ1392 fun b q p => ?_
  have hgq := hg.then p.grow
  have hsb := p.size.trans hs
  have hdb := p.defers.trans hd
  have j0 := p.ke 0 rfl i0
  have j3 : IsE0 (b.get 3) q := p.ou 0 3 rfl
  have y3 : Lo k0 (obF (b.get 3)) := j3.lo
  replace j3 : IsOwn 0 37 ([] : List Box) (b.get 3) q := j3.own0
  exact tail_done (k := q) (hp1393 _ _ ⟨⟨hgq, hsb, hdb⟩, j0, j3, y3, trivial⟩)
 rintro a k ⟨⟨hg, hs, hd⟩, i0, i3, n3, _⟩
 refine wp_seq ?_
 refine cutS (fun a' k' => Bs noF k0 36 a' k' ∧ IsOwn 0 37 ([] : List Box) (a'.get 3) k' ∧ Lo k0 (obF (a'.get 3)) ∧ (IsV s_) (a'.get 11) k' ∧ (IsL s_) (a'.get 12) k' ∧ (IsI 0) (a'.get 13) k' ∧ True) ?_ ?_
 ·intro Q1390 hQQ1390 hp1391
  refine gS 3 (_ :: _ :: ⟨some (IsI 0), []⟩ :: []) hs (by kernel_rfl) ⟨mu rfl i0, o1 [(11, some 0)] rfl fun _ _ h n => ok_len rfl rfl Try.underlying22 (IsV.rd n.1), ob1 rfl fun _ _ h n => ok_move rfl (cI rfl), trivial⟩ hQQ1390 fun b q p => ?_
  exact tail_done (k := q) (hp1391 _ _ ⟨Bs.post ⟨hg, hs, hd⟩ p, p.ke 3 rfl i3, (by rw [p.old 3 rfl]; exact n3), p.ou 0 11 rfl, p.ou 1 12 rfl, p.ou 2 13 rfl, trivial⟩)
 rintro a k ⟨⟨hg, hs, hd⟩, i3, n3, i11, i12, i13, _⟩
 refine wp_block ?_
 obtain ⟨f1383, hf1383, hr⟩ := bind_some hr
 refine cutFe f1383 (fun s' a' k' => Bs noF k0 36 a' k' ∧ IsOwn 0 37 s'.1 (a'.get 3) k' ∧ Lo k0 (obF (a'.get 3)) ∧ (IsV s_) (a'.get 11) k' ∧ (IsL s_) (a'.get 12) k' ∧ (IsV s'.2) (a'.get 13) k' ∧ True) (fun i' s' a' k' => (i' = 0 ∧ Bs noF k0 36 a' k' ∧ (IsV s'.1) (a'.get 3) k' ∧ True)) (fun r' a' k' => bodyPost Try.prog Try.f46 (RetC noF k0 (IsV r')) .ret a' k'.w) ?_ hQ ?_ ?_ ?_
 ·intro Q1389 hQQ1389 hgo hex hret
  refine sim_loop ?_ _ _ _ _ _ hf1383 ⟨⟨hg, hs, hd⟩, i3, n3, i11, i12, i13, trivial⟩ Q1389 hQQ1389 hgo hex hret
  clear hr hf1383 hgo hex hret hQQ1389 hQ hg hs hd i11 i12 i13 i3 n3
  intro s1344 fl_ a k hr hS Q hQ hgo1345 hex1346 hret1347
  obtain ⟨⟨hg, hs, hd⟩, i3, n3, i11, i12, i13, _⟩ := hS
  unfold solid_Boxes_L0 at hr
  refine cutS (fun a' k' => Bs noF k0 36 a' k' ∧ IsOwn 0 37 s1344.1 (a'.get 3) k' ∧ Lo k0 (obF (a'.get 3)) ∧ (IsV s_) (a'.get 11) k' ∧ (IsL s_) (a'.get 12) k' ∧ (IsV s1344.2) (a'.get 13) k' ∧ (IsV (decide (s1344.2 < (s_.length : Int)))) (a'.get 14) k' ∧ True) ?_ ?_
  ·intro Q1381 hQQ1381 hp1382
   refine gS 1 (_ :: []) hs (by kernel_rfl) ⟨o1 [(13, none), (12, none)] rfl fun _ _ h n => ok_lss rfl (up i13 h n.1) (up i12 h n.2.1), trivial⟩ hQQ1381 fun b q p => ?_
   exact tail_done (k := q) (hp1382 _ _ ⟨Bs.post ⟨hg, hs, hd⟩ p, p.ke 3 rfl i3, (by rw [p.old 3 rfl]; exact n3), p.ke 11 rfl i11, p.ke 12 rfl i12, p.ke 13 rfl i13, p.ou 0 14 rfl, trivial⟩)
  rintro a k ⟨⟨hg, hs, hd⟩, i3, n3, i11, i12, i13, i14, _⟩
  refine wp_seq ?_
  refine wp_cond_split (isBool i14) (fun hc1380 => ?_) (fun hc1380 => ?_)
  ·rw [if_pos hc1380] at hr
   refine wp_skip ?_
   refine wp_seq ?_
   refine wp_block ?_
   refine wp_seq ?_
   obtain ⟨x1349_0, hx1349_0, hr⟩ := bind_some hr
   refine cut (fun a' k' => Bs noF k0 36 a' k' ∧ IsOwn 0 37 s1344.1 (a'.get 3) k' ∧ Lo k0 (obF (a'.get 3)) ∧ (IsRef x1349_0) (a'.get 5) k' ∧ (IsV s_) (a'.get 11) k' ∧ (IsL s_) (a'.get 12) k' ∧ (IsV s1344.2) (a'.get 13) k' ∧ True) ?_ hQ ?_
   ·intro Q1377 hQQ1377 hp1378
    refine gS 3 (_ :: _ :: ⟨some (IsBox k.w.heap.size (⟨0, 0, []⟩ : Slab)), []⟩ :: []) hs (by kernel_rfl) ⟨o1 [(11, none), (13, none)] rfl fun _ _ h n => ok_indexAddr rfl Try.underlying22 ty51 (IsV.rd (up i11 h n.1)) (up i13 h n.2.1) hx1349_0, o1 [(15, some 0)] rfl fun _ _ h n => ok_load rfl ty51 n.1, ob1 rfl fun _ _ h n => ok_alloc _ h.size rfl z51, trivial⟩ hQQ1377 fun b q p => ?_
    have hgq := hg.then p.grow
    have hsb := p.size.trans hs
    have hdb := p.defers.trans hd
    have j3 := p.ke 3 rfl i3
    have y3 : Lo k0 (obF (b.get 3)) := by rw [p.old 3 rfl]; exact n3
    obtain ⟨b5, j5, x5, z5⟩ : (IsBox k.w.heap.size (⟨0, 0, []⟩ : Slab)) (b.get 5) q := p.ou 2 5 rfl
    replace x5 : Lo k (Eq b5) := Lo.eq x5
    have y5 : Lo k0 (Eq b5) := x5.chg hg
    have j11 := p.ke 11 rfl i11
    have j12 := p.ke 12 rfl i12
    have j13 := p.ke 13 rfl i13
    have j16 : (IsV x1349_0) (b.get 16) q := p.ou 1 16 rfl
    have w3_5 : Apart (obF (b.get 3)) (Eq b5) := Apart.new (by rw [p.old 3 rfl]; exact i3.ltF) x5
    have hns := z5.nshF
    refine tail_storeB (i := 3) rfl rfl rfl rfl szf51 (Upd.self (α := Slab)) j5 z5 j16 fun q2 hch hz => ?_
    replace hgq := hgq.step hch y5.wr
    have hle := hch.le hns
    replace j3 := j3.keep hch w3_5 hns
    replace j11 := Pers.pers hle j11
    replace j12 := Pers.pers hle j12
    replace j13 := Pers.pers hle j13
    replace j16 := Pers.pers hle j16
    replace z5 := hz
    clear hns hle hch
    obtain ⟨q, hqq⟩ : ∃ q, q = q2 := ⟨q2, rfl⟩
    subst hqq
    obtain ⟨q2, hsh, jn⟩ := z5.give
    replace j3 := j3.handed hsh w3_5
    replace j11 := Pers.pers hsh.le j11
    replace j12 := Pers.pers hsh.le j12
    replace j13 := Pers.pers hsh.le j13
    rw [← j5] at jn
    replace j5 := jn
    replace hgq := hgq.hand hsh y5.wr
    rw [← hsh.w]
    clear hsh
    obtain ⟨q, hqq⟩ : ∃ q, q = q2 := ⟨q2, rfl⟩
    subst hqq
    exact tail_done (k := q) (hp1378 _ _ ⟨⟨hgq, hsb, hdb⟩, j3, y3, j5, j11, j12, j13, trivial⟩)
   rintro a k ⟨⟨hg, hs, hd⟩, i3, n3, i5, i11, i12, i13, _⟩
   refine cutS (fun a' k' => Bs noF k0 36 a' k' ∧ IsOwn 0 37 s1344.1 (a'.get 3) k' ∧ Lo k0 (obF (a'.get 3)) ∧ (IsRef x1349_0) (a'.get 5) k' ∧ (IsV s_) (a'.get 11) k' ∧ (IsL s_) (a'.get 12) k' ∧ (IsV s1344.2) (a'.get 13) k' ∧ (IsV x1349_0.Area) (a'.get 18) k' ∧ (IsI (x1349_0.Area.length : Int)) (a'.get 19) k' ∧ (IsI 0) (a'.get 20) k' ∧ True) ?_ ?_
   ·intro Q1375 hQQ1375 hp1376
    refine gS 4 (_ :: _ :: _ :: ⟨some (IsI 0), []⟩ :: []) hs (by kernel_rfl) ⟨o1 [(5, none)] rfl fun _ _ h n => ok_fieldAddr rfl fo51_2 (at_Slab_2 _) ((up i5 h n.1)).ptr, o1 [(17, some 0)] rfl fun _ _ h n => ok_load rfl ty49 n.1, o1 [(18, some 1)] rfl fun _ _ h n => ok_len rfl rfl Try.underlying49 (IsV.rd n.1), ob1 rfl fun _ _ h n => ok_move rfl (cI rfl), trivial⟩ hQQ1375 fun b q p => ?_
    exact tail_done (k := q) (hp1376 _ _ ⟨Bs.post ⟨hg, hs, hd⟩ p, p.ke 3 rfl i3, (by rw [p.old 3 rfl]; exact n3), p.ke 5 rfl i5, p.ke 11 rfl i11, p.ke 12 rfl i12, p.ke 13 rfl i13, p.ou 1 18 rfl, p.ou 2 19 rfl, p.ou 3 20 rfl, trivial⟩)
   rintro a k ⟨⟨hg, hs, hd⟩, i3, n3, i5, i11, i12, i13, i18, i19, i20, _⟩
   refine wp_block ?_
   obtain ⟨f1368, hf1368, hr⟩ := bind_some hr
   refine cutFe f1368 (fun s' a' k' => Bs noF k0 36 a' k' ∧ IsOwn 0 37 s'.1 (a'.get 3) k' ∧ Lo k0 (obF (a'.get 3)) ∧ (IsRef x1349_0) (a'.get 5) k' ∧ (IsV s_) (a'.get 11) k' ∧ (IsL s_) (a'.get 12) k' ∧ (IsV s1344.2) (a'.get 13) k' ∧ (IsV x1349_0.Area) (a'.get 18) k' ∧ (IsI (x1349_0.Area.length : Int)) (a'.get 19) k' ∧ (IsV s'.2) (a'.get 20) k' ∧ True) (fun i' s' a' k' => (i' = 2 ∧ Bs noF k0 36 a' k' ∧ IsOwn 0 37 s'.1 (a'.get 3) k' ∧ Lo k0 (obF (a'.get 3)) ∧ (IsV s_) (a'.get 11) k' ∧ (IsL s_) (a'.get 12) k' ∧ (IsV s1344.2) (a'.get 13) k' ∧ True)) (fun r' a' k' => bodyPost Try.prog Try.f46 (RetC noF k0 (IsV r')) .ret a' k'.w) ?_ hQ ?_ ?_ ?_
   ·intro Q1374 hQQ1374 hgo hex hret
    refine sim_loop ?_ _ _ _ _ _ hf1368 ⟨⟨hg, hs, hd⟩, i3, n3, i5, i11, i12, i13, i18, i19, i20, trivial⟩ Q1374 hQQ1374 hgo hex hret
    clear hr hf1368 hgo hex hret hQQ1374 hQ hg hs hd i11 i12 i13 i18 i19 i20 i3 i5 n3
    intro s1351 fl_ a k hr hS Q hQ hgo1352 hex1353 hret1354
    obtain ⟨⟨hg, hs, hd⟩, i3, n3, i5, i11, i12, i13, i18, i19, i20, _⟩ := hS
    unfold solid_Boxes_L1 at hr
    refine cutS (fun a' k' => Bs noF k0 36 a' k' ∧ IsOwn 0 37 s1351.1 (a'.get 3) k' ∧ Lo k0 (obF (a'.get 3)) ∧ (IsRef x1349_0) (a'.get 5) k' ∧ (IsV s_) (a'.get 11) k' ∧ (IsL s_) (a'.get 12) k' ∧ (IsV s1344.2) (a'.get 13) k' ∧ (IsV x1349_0.Area) (a'.get 18) k' ∧ (IsI (x1349_0.Area.length : Int)) (a'.get 19) k' ∧ (IsV s1351.2) (a'.get 20) k' ∧ (IsV (decide (s1351.2 < (x1349_0.Area.length : Int)))) (a'.get 21) k' ∧ True) ?_ ?_
    ·intro Q1366 hQQ1366 hp1367
     refine gS 1 (_ :: []) hs (by kernel_rfl) ⟨o1 [(20, none), (19, none)] rfl fun _ _ h n => ok_lss rfl (up i20 h n.1) (up i19 h n.2.1), trivial⟩ hQQ1366 fun b q p => ?_
     exact tail_done (k := q) (hp1367 _ _ ⟨Bs.post ⟨hg, hs, hd⟩ p, p.ke 3 rfl i3, (by rw [p.old 3 rfl]; exact n3), p.ke 5 rfl i5, p.ke 11 rfl i11, p.ke 12 rfl i12, p.ke 13 rfl i13, p.ke 18 rfl i18, p.ke 19 rfl i19, p.ke 20 rfl i20, p.ou 0 21 rfl, trivial⟩)
    rintro a k ⟨⟨hg, hs, hd⟩, i3, n3, i5, i11, i12, i13, i18, i19, i20, i21, _⟩
    refine wp_seq ?_
    refine wp_cond_split (isBool i21) (fun hc1365 => ?_) (fun hc1365 => ?_)
    ·rw [if_pos hc1365] at hr
     refine wp_skip ?_
     refine wp_seq ?_
     refine wp_block ?_
     refine wp_seq ?_
     obtain ⟨x1356_0, hx1356_0, hr⟩ := bind_some hr
     refine cut (fun a' k' => Bs noF k0 36 a' k' ∧ IsOwn 0 37 s1351.1 (a'.get 3) k' ∧ Lo k0 (obF (a'.get 3)) ∧ (IsRef x1349_0) (a'.get 5) k' ∧ (IsRef x1356_0) (a'.get 7) k' ∧ (IsV s_) (a'.get 11) k' ∧ (IsL s_) (a'.get 12) k' ∧ (IsV s1344.2) (a'.get 13) k' ∧ (IsV x1349_0.Area) (a'.get 18) k' ∧ (IsI (x1349_0.Area.length : Int)) (a'.get 19) k' ∧ (IsV s1351.2) (a'.get 20) k' ∧ True) ?_ hQ ?_
     ·intro Q1363 hQQ1363 hp1364
      refine gS 3 (_ :: _ :: ⟨some (IsBox k.w.heap.size (⟨0, 0, 0, 0⟩ : Rect)), []⟩ :: []) hs (by kernel_rfl) ⟨o1 [(18, none), (20, none)] rfl fun _ _ h n => ok_indexAddr rfl Try.underlying49 ty35 (IsV.rd (up i18 h n.1)) (up i20 h n.2.1) hx1356_0, o1 [(22, some 0)] rfl fun _ _ h n => ok_load rfl ty35 n.1, ob1 rfl fun _ _ h n => ok_alloc _ h.size rfl z35, trivial⟩ hQQ1363 fun b q p => ?_
      have hgq := hg.then p.grow
      have hsb := p.size.trans hs
      have hdb := p.defers.trans hd
      have j3 := p.ke 3 rfl i3
      have y3 : Lo k0 (obF (b.get 3)) := by rw [p.old 3 rfl]; exact n3
      have j5 := p.ke 5 rfl i5
      obtain ⟨b7, j7, x7, z7⟩ : (IsBox k.w.heap.size (⟨0, 0, 0, 0⟩ : Rect)) (b.get 7) q := p.ou 2 7 rfl
      replace x7 : Lo k (Eq b7) := Lo.eq x7
      have y7 : Lo k0 (Eq b7) := x7.chg hg
      have j11 := p.ke 11 rfl i11
      have j12 := p.ke 12 rfl i12
      have j13 := p.ke 13 rfl i13
      have j18 := p.ke 18 rfl i18
      have j19 := p.ke 19 rfl i19
      have j20 := p.ke 20 rfl i20
      have j23 : (IsV x1356_0) (b.get 23) q := p.ou 1 23 rfl
      have w3_7 : Apart (obF (b.get 3)) (Eq b7) := Apart.new (by rw [p.old 3 rfl]; exact i3.ltF) x7
      have hns := z7.nshF
      refine tail_storeB (i := 3) rfl rfl rfl rfl szf35 (Upd.self (α := Rect)) j7 z7 j23 fun q2 hch hz => ?_
      replace hgq := hgq.step hch y7.wr
      have hle := hch.le hns
      replace j3 := j3.keep hch w3_7 hns
      replace j5 := Pers.pers hle j5
      replace j11 := Pers.pers hle j11
      replace j12 := Pers.pers hle j12
      replace j13 := Pers.pers hle j13
      replace j18 := Pers.pers hle j18
      replace j19 := Pers.pers hle j19
      replace j20 := Pers.pers hle j20
      replace j23 := Pers.pers hle j23
      replace z7 := hz
      clear hns hle hch
      obtain ⟨q, hqq⟩ : ∃ q, q = q2 := ⟨q2, rfl⟩
      subst hqq
      obtain ⟨q2, hsh, jn⟩ := z7.give
      replace j3 := j3.handed hsh w3_7
      replace j5 := Pers.pers hsh.le j5
      replace j11 := Pers.pers hsh.le j11
      replace j12 := Pers.pers hsh.le j12
      replace j13 := Pers.pers hsh.le j13
      replace j18 := Pers.pers hsh.le j18
      replace j19 := Pers.pers hsh.le j19
      replace j20 := Pers.pers hsh.le j20
      rw [← j7] at jn
      replace j7 := jn
      replace hgq := hgq.hand hsh y7.wr
      rw [← hsh.w]
      clear hsh
      obtain ⟨q, hqq⟩ : ∃ q, q = q2 := ⟨q2, rfl⟩
      subst hqq
      exact tail_done (k := q) (hp1364 _ _ ⟨⟨hgq, hsb, hdb⟩, j3, y3, j5, j7, j11, j12, j13, j18, j19, j20, trivial⟩)
     rintro a k ⟨⟨hg, hs, hd⟩, i3, n3, i5, i7, i11, i12, i13, i18, i19, i20, _⟩
     obtain ⟨x1357_8, hx1357_8, hr⟩ := bind_some hr
     refine cut (fun a' k' => Bs noF k0 36 a' k' ∧ IsOwn 0 37 x1357_8 (a'.get 3) k' ∧ Lo k0 (obF (a'.get 3)) ∧ (IsRef x1349_0) (a'.get 5) k' ∧ (IsV s_) (a'.get 11) k' ∧ (IsL s_) (a'.get 12) k' ∧ (IsV s1344.2) (a'.get 13) k' ∧ (IsV x1349_0.Area) (a'.get 18) k' ∧ (IsI (x1349_0.Area.length : Int)) (a'.get 19) k' ∧ (IsV s1351.2) (a'.get 20) k' ∧ True) ?_ hQ ?_
     ·intro Q1361 hQQ1361 hp1362
      refine gS 8 (⟨some (OwnAt (a.get 3) 0 37 s1351.1), [(3, none)]⟩ :: _ :: _ :: _ :: _ :: _ :: ⟨some (IsV (⟨x1356_0, x1349_0.Z0, x1349_0.Z1⟩ : Box)), [(25, some 1), (27, some 3), (29, some 5)]⟩ :: ⟨some (IsV (α := (List Box)) ([(⟨x1356_0, x1349_0.Z0, x1349_0.Z1⟩ : Box)])), [(30, some 6)]⟩ :: []) hs (by kernel_rfl) ⟨ob1 rfl fun _ _ h n => ok_moveOA (.inl rfl) (ownAt n.1 (up i3 h n.1)), o1 [(7, none)] rfl fun _ _ h n => ok_load rfl ty35 ((up i7 h n.1)).ptr, o1 [(5, none)] rfl fun _ _ h n => ok_fieldAddr rfl fo51_0 (at_Slab_0 _) ((up i5 h n.1)).ptr, o1 [(26, some 2)] rfl fun _ _ h n => ok_load rfl ty3 n.1, o1 [(5, none)] rfl fun _ _ h n => ok_fieldAddr rfl fo51_1 (at_Slab_1 _) ((up i5 h n.1)).ptr, o1 [(28, some 4)] rfl fun _ _ h n => ok_load rfl ty3 n.1, ob1 rfl fun _ _ h n => ok_build rfl (bld37_0_1_2 n.1 n.2.1 n.2.2.1), ob1 rfl fun _ _ h n => ok_buildSlice rfl Try.underlying31 eo37 rfl (by decide) (by decide) ⟨rfl, n.1, trivial⟩, trivial⟩ hQQ1361 fun b q p => ?_
      have hgq := hg.then p.grow
      have hsb := p.size.trans hs
      have hdb := p.defers.trans hd
      have j5 := p.ke 5 rfl i5
      have j11 := p.ke 11 rfl i11
      have j12 := p.ke 12 rfl i12
      have j13 := p.ke 13 rfl i13
      have j18 := p.ke 18 rfl i18
      have j19 := p.ke 19 rfl i19
      have j20 := p.ke 20 rfl i20
      have e24 : b.get 24 = a.get 3 := (p.ou 0 24 rfl).1
      have j24 : IsOwn 0 37 s1351.1 (b.get 24) q := (p.ou 0 24 rfl).2
      have y24 : Lo k0 (obF (b.get 24)) := by rw [e24]; exact n3
      have j31 : (IsV (α := (List Box)) ([(⟨x1356_0, x1349_0.Z0, x1349_0.Z1⟩ : Box)])) (b.get 31) q := p.ou 7 31 rfl
      have hns := j24.nshF
      refine tail_appendS (i := 8) (d := 32) rfl rfl rfl rfl (by rw [hsb]; decide) (e := 37) Try.underlying31 eo37 j24 (IsV.rd j31) hx1357_8 fun b2 q2 hsz hdf hoth hch hown hob => ?_
      have hle := hch.le hns
      have yn : Lo k0 (obF (b2.get 32)) := y24.app hgq hob
      replace j5 := Pers.pers hle j5
      replace j11 := Pers.pers hle j11
      replace j12 := Pers.pers hle j12
      replace j13 := Pers.pers hle j13
      replace j18 := Pers.pers hle j18
      replace j19 := Pers.pers hle j19
      replace j20 := Pers.pers hle j20
      replace j31 := Pers.pers hle j31
      replace hgq := hgq.step hch y24.wr
      rw [← hoth 5 (by decide)] at j5
      rw [← hoth 11 (by decide)] at j11
      rw [← hoth 12 (by decide)] at j12
      rw [← hoth 13 (by decide)] at j13
      rw [← hoth 18 (by decide)] at j18
      rw [← hoth 19 (by decide)] at j19
      rw [← hoth 20 (by decide)] at j20
      rw [← hoth 31 (by decide)] at j31
      have j32 := hown
      have y32 := yn
      replace hsb := hsz.trans hsb
      replace hdb := hdf.trans hdb
      clear hle hch hown hob hns yn hsz hdf hoth
      obtain ⟨b, hbb⟩ : ∃ b, b = b2 := ⟨b2, rfl⟩
      subst hbb
      obtain ⟨q, hqq⟩ : ∃ q, q = q2 := ⟨q2, rfl⟩
      subst hqq
      refine tail_assign (i := 9) (d := 3) rfl rfl (.inl rfl) rfl (by rw [hsb]; decide) fun b2 hsz hdf hnew hoth => ?_
      have jn : (IsOwn 0 37 x1357_8) (b2.get 3) q := by rw [hnew]; exact j32
      have yn : Lo k0 (obF (b2.get 3)) := by rw [hnew]; exact y32
      rw [← hoth 5 (by decide)] at j5
      rw [← hoth 11 (by decide)] at j11
      rw [← hoth 12 (by decide)] at j12
      rw [← hoth 13 (by decide)] at j13
      rw [← hoth 18 (by decide)] at j18
      rw [← hoth 19 (by decide)] at j19
      rw [← hoth 20 (by decide)] at j20
      rw [← hoth 31 (by decide)] at j31
      have j3 := jn
      have y3 := yn
      replace hsb := hsz.trans hsb
      replace hdb := hdf.trans hdb
      clear hsz hdf hoth
      obtain ⟨b, hbb⟩ : ∃ b, b = b2 := ⟨b2, rfl⟩
      subst hbb
      exact tail_done (k := q) (hp1362 _ _ ⟨⟨hgq, hsb, hdb⟩, j3, y3, j5, j11, j12, j13, j18, j19, j20, trivial⟩)
     rintro a k ⟨⟨hg, hs, hd⟩, i3, n3, i5, i11, i12, i13, i18, i19, i20, _⟩
     obtain ⟨x1358_0, hx1358_0, hr⟩ := bind_some hr
     refine cut (fun a' k' => Bs noF k0 36 a' k' ∧ IsOwn 0 37 x1357_8 (a'.get 3) k' ∧ Lo k0 (obF (a'.get 3)) ∧ (IsRef x1349_0) (a'.get 5) k' ∧ (IsV s_) (a'.get 11) k' ∧ (IsL s_) (a'.get 12) k' ∧ (IsV s1344.2) (a'.get 13) k' ∧ (IsV x1349_0.Area) (a'.get 18) k' ∧ (IsI (x1349_0.Area.length : Int)) (a'.get 19) k' ∧ (IsV x1358_0) (a'.get 20) k' ∧ True) ?_ hQ ?_
     ·intro Q1359 hQQ1359 hp1360
      refine gS 2 (_ :: _ :: []) hs (by kernel_rfl) ⟨o1 [(20, none)] rfl fun _ _ h n => ok_add rfl (up i20 h n.1) (cI rfl) hx1358_0, cm 0 rfl rfl, trivial⟩ hQQ1359 fun b q p => ?_
      exact tail_done (k := q) (hp1360 _ _ ⟨Bs.post ⟨hg, hs, hd⟩ p, p.ke 3 rfl i3, (by rw [p.old 3 rfl]; exact n3), p.ke 5 rfl i5, p.ke 11 rfl i11, p.ke 12 rfl i12, p.ke 13 rfl i13, p.ke 18 rfl i18, p.ke 19 rfl i19, p.ou 1 20 rfl, trivial⟩)
     rintro a k ⟨⟨hg, hs, hd⟩, i3, n3, i5, i11, i12, i13, i18, i19, i20, _⟩
     exact hgo1352 _ _ _ (Option.some.inj hr).symm ⟨⟨hg, hs, hd⟩, i3, n3, i5, i11, i12, i13, i18, i19, i20, trivial⟩
    rw [if_neg (by rw [hc1365]; decide)] at hr
    refine wp_exit ?_
    exact hex1353 _ _ _ _ (Option.some.inj hr).symm ⟨rfl, ⟨hg, hs, hd⟩, i3, n3, i11, i12, i13, trivial⟩
   ·rintro r1373 a k rfl hR
    dsimp only at hr
    exact hret1347 _ _ _ (Option.some.inj hr).symm hR
   ·rintro _ _ _ rfl _
    simp at hr
   clear hf1368
   rintro _ s1369 a k rfl ⟨rfl, ⟨hg, hs, hd⟩, i3, n3, i11, i12, i13, _⟩
   dsimp only at hr
   obtain ⟨x1370_0, hx1370_0, hr⟩ := bind_some hr
   refine cut (fun a' k' => Bs noF k0 36 a' k' ∧ IsOwn 0 37 s1369.1 (a'.get 3) k' ∧ Lo k0 (obF (a'.get 3)) ∧ (IsV s_) (a'.get 11) k' ∧ (IsL s_) (a'.get 12) k' ∧ (IsV x1370_0) (a'.get 13) k' ∧ True) ?_ hQ ?_
   ·intro Q1371 hQQ1371 hp1372
    refine gS 2 (_ :: _ :: []) hs (by kernel_rfl) ⟨o1 [(13, none)] rfl fun _ _ h n => ok_add rfl (up i13 h n.1) (cI rfl) hx1370_0, cm 0 rfl rfl, trivial⟩ hQQ1371 fun b q p => ?_
    exact tail_done (k := q) (hp1372 _ _ ⟨Bs.post ⟨hg, hs, hd⟩ p, p.ke 3 rfl i3, (by rw [p.old 3 rfl]; exact n3), p.ke 11 rfl i11, p.ke 12 rfl i12, p.ou 1 13 rfl, trivial⟩)
   rintro a k ⟨⟨hg, hs, hd⟩, i3, n3, i11, i12, i13, _⟩
   exact hgo1345 _ _ _ (Option.some.inj hr).symm ⟨⟨hg, hs, hd⟩, i3, n3, i11, i12, i13, trivial⟩
  rw [if_neg (by rw [hc1380]; decide)] at hr
  refine wp_exit ?_
  obtain ⟨kk, sh1379, ii3⟩ := i3.give
  replace i3 := ii3
  replace hg := hg.hand sh1379 n3.wr
  rw [← sh1379.w]
  clear sh1379
  obtain ⟨k, hkk⟩ : ∃ k, k = kk := ⟨kk, rfl⟩
  subst hkk
  exact hex1346 _ _ _ _ (Option.some.inj hr).symm ⟨rfl, ⟨hg, hs, hd⟩, i3, trivial⟩
 ·rintro r1388 a k rfl hR
  dsimp only at hr
  obtain rfl := Option.some.inj hr
  exact hR
 ·rintro _ _ _ rfl _
  simp at hr
 clear hf1383
 rintro _ s1384 a k rfl ⟨rfl, ⟨hg, hs, hd⟩, i3, _⟩
 dsimp only at hr
 refine stepL 2 (_ :: _ :: []) rfl ⟨hg, hs, hd⟩ (by kernel_rfl) ⟨mu rfl i3, cp 0 rfl rfl, trivial⟩ [⟨_, _⟩] (fun b q p => ⟨p.ou 1 2 rfl, trivial⟩) ?_
 rintro a k ⟨⟨hg, hs, hd⟩, i2, _⟩
 refine wp_ret ?_
 obtain rfl := Option.some.inj hr
 exact retC1 rfl hd hg i2
def sight_bound_compare (b_ : SightBound) (c_ : SightBound) : Option (Int) :=
 (mulI b_.n c_.d).bind fun x1400_4 =>
 (mulI c_.n b_.d).bind fun x1400_9 =>
 (cmp_Compare_int x1400_4 x1400_9).bind fun x1400_10 =>
 some x1400_10
theorem sight_bound_compare_ok {k0 : K} {v0 v1 : Value} {b_ : SightBound} {c_ : SightBound} {r : Int} (i0 : (IsV b_) v0 k0) (i1 : (IsV c_) v1 k0) (hr : sight_bound_compare b_ c_ = some r) :
  Calls Try.prog 73 #[v0, v1] k0.w (Ret k0 (IsV r)) := by
 unfold sight_bound_compare at hr
 refine Ret.ofC ?_
 refine enterK Try.func73 rfl Try.ntmps73 (show 2 ≤ 16 by decide) fun a k hk0 hs hd ha => ?_
 obtain ⟨e0, e1, _⟩ := ha
 replace i0 : (IsV b_) (a.get 0) k := by rw [e0, hk0]; exact i0
 replace i1 : (IsV c_) (a.get 1) k := by rw [e1, hk0]; exact i1
 have hQ : Gb.LetsOut (bodyPost Try.prog Try.f73 (RetC noF k0 (IsV r))) := letsOutC
 have hg : Chg noF k0 k := by rw [hk0]; exact Chg.refl _ k0
 refine stepL 3 (⟨some (IsRef b_), [(0, none)]⟩ :: ⟨some (IsRef c_), [(1, none)]⟩ :: ⟨some (IsI 0), []⟩ :: []) rfl ⟨hg, hs, hd⟩ (by kernel_rfl) ⟨ob1 rfl fun _ _ h n => ok_boxR rfl (up i0 h n.1), ob1 rfl fun _ _ h n => ok_boxR rfl (up i1 h n.1), aI rfl rfl, trivial⟩ [⟨_, _⟩, ⟨_, _⟩] (fun b q p => ⟨p.ou 0 2 rfl, p.ou 1 3 rfl, trivial⟩) ?_
 rintro a k ⟨⟨hg, hs, hd⟩, i2, i3, _⟩
 refine wp_seq ?_
 obtain ⟨x1400_4, hx1400_4, hr⟩ := bind_some hr
 obtain ⟨x1400_9, hx1400_9, hr⟩ := bind_some hr
 obtain ⟨x1400_10, hx1400_10, hr⟩ := bind_some hr
 refine cut (fun a' k' => Bs noF k0 16 a' k' ∧ (IsV x1400_10) (a'.get 4) k' ∧ True) ?_ hQ ?_
 ·intro Q1401 hQQ1401 hp1402
  refine gS 12 (_ :: _ :: _ :: _ :: _ :: _ :: _ :: _ :: _ :: _ :: _ :: _ :: []) hs (by kernel_rfl) ⟨o1 [(2, none)] rfl fun _ _ h n => ok_fieldAddr rfl fo53_0 (at_SightBound_0 _) ((up i2 h n.1)).ptr, o1 [(5, some 0)] rfl fun _ _ h n => ok_load rfl ty3 n.1, o1 [(3, none)] rfl fun _ _ h n => ok_fieldAddr rfl fo53_1 (at_SightBound_1 _) ((up i3 h n.1)).ptr, o1 [(7, some 2)] rfl fun _ _ h n => ok_load rfl ty3 n.1, o1 [(6, some 1), (8, some 3)] rfl fun _ _ h n => ok_mul rfl n.1 n.2.1 hx1400_4, o1 [(3, none)] rfl fun _ _ h n => ok_fieldAddr rfl fo53_0 (at_SightBound_0 _) ((up i3 h n.1)).ptr, o1 [(10, some 5)] rfl fun _ _ h n => ok_load rfl ty3 n.1, o1 [(2, none)] rfl fun _ _ h n => ok_fieldAddr rfl fo53_1 (at_SightBound_1 _) ((up i2 h n.1)).ptr, o1 [(12, some 7)] rfl fun _ _ h n => ok_load rfl ty3 n.1, o1 [(11, some 6), (13, some 8)] rfl fun _ _ h n => ok_mul rfl n.1 n.2.1 hx1400_9, o1 [(9, some 4), (14, some 9)] rfl fun _ _ h n => ok_call rfl Try.call87 (cmp_Compare_int_ok n.1 n.2.1 hx1400_10), cp 10 rfl rfl, trivial⟩ hQQ1401 fun b q p => ?_
  exact tail_done (k := q) (hp1402 _ _ ⟨Bs.post ⟨hg, hs, hd⟩ p, p.ou 11 4 rfl, trivial⟩)
 rintro a k ⟨⟨hg, hs, hd⟩, i4, _⟩
 refine wp_ret ?_
 obtain rfl := Option.some.inj hr
 exact retC1 rfl hd hg i4
def sight_interval_above (i_ : SightInterval) (b_ : SightBound) : Option (SightInterval) :=
 (sight_bound_compare b_ i_.lo).bind fun x1406_5 =>
 (if (decide (0 < x1406_5)) then
  some { i_ with lo := b_ }
 else
  (if (x1406_5 == 0) then
   some { i_ with lo := { i_.lo with open_ := (i_.lo.open_ || b_.open_) } }
  else
   some i_).bind fun s1414 =>
  some s1414).bind fun s1408 =>
 some s1408
theorem sight_interval_above_ok {k0 : K} {v0 v1 : Value} {i_ : SightInterval} {b_ : SightBound} {r : SightInterval} {b0 : Nat} (i0 : v0 = .pointer (some ⟨b0, 0, none⟩)) (c0 : Gb.Box b0 i_ k0) (i1 : (IsV b_) v1 k0) (hr : sight_interval_above i_ b_ = some r) :
  Calls Try.prog 71 #[v0, v1] k0.w (RetC (Eq b0) k0 (IsTurn b0 r)) := by
 unfold sight_interval_above at hr
 refine enterK Try.func71 rfl Try.ntmps71 (show 2 ≤ 34 by decide) fun a k hk0 hs hd ha => ?_
 obtain ⟨e0, e1, _⟩ := ha
 replace i0 : a.get 0 = .pointer (some ⟨b0, 0, none⟩) := by rw [e0]; exact i0
 replace c0 : Gb.Box b0 i_ k := by rw [hk0]; exact c0
 have n0 : Wr (Eq b0) k0 (Eq b0) := fun b h => .inl h
 replace i1 : (IsV b_) (a.get 1) k := by rw [e1, hk0]; exact i1
 have hQ : Gb.LetsOut (bodyPost Try.prog Try.f71 (RetC (Eq b0) k0 (IsTurn b0 r))) := letsOutC
 have hg : Chg (Eq b0) k0 k := by rw [hk0]; exact Chg.refl _ k0
 refine cutS (fun a' k' => Bs (Eq b0) k0 34 a' k' ∧ a'.get 0 = .pointer (some ⟨b0, 0, none⟩) ∧ Wr (Eq b0) k0 (Eq b0) ∧ Gb.Box b0 i_ k' ∧ (IsRef b_) (a'.get 3) k' ∧ True) ?_ ?_
 ·intro Q1429 hQQ1429 hp1430
  refine gS 1 (⟨some (IsRef b_), [(1, none)]⟩ :: []) hs (by kernel_rfl) ⟨ob1 rfl fun _ _ h n => ok_boxR rfl (up i1 h n.1), trivial⟩ hQQ1429 fun b q p => ?_
  exact tail_done (k := q) (hp1430 _ _ ⟨Bs.post ⟨hg, hs, hd⟩ p, upE i0 (p.old 0 rfl), n0, Gb.Box.grow c0 p.grow, p.ou 0 3 rfl, trivial⟩)
 rintro a k ⟨⟨hg, hs, hd⟩, i0, n0, c0, i3, _⟩
 refine wp_seq ?_
 obtain ⟨x1406_5, hx1406_5, hr⟩ := bind_some hr
 refine cut (fun a' k' => Bs (Eq b0) k0 34 a' k' ∧ a'.get 0 = .pointer (some ⟨b0, 0, none⟩) ∧ Wr (Eq b0) k0 (Eq b0) ∧ Gb.Box b0 i_ k' ∧ (IsRef b_) (a'.get 3) k' ∧ (IsV x1406_5) (a'.get 4) k' ∧ True) ?_ hQ ?_
 ·intro Q1427 hQQ1427 hp1428
  refine region (a0 := a) (k0 := k) (n := 34) (m := 7) (⟨some (IsV b_), [(3, none)]⟩ :: ⟨some (IsAdr b0 (0)), [(0, none)]⟩ :: ⟨some (IsAdr b0 (0)), [(6, some 1)]⟩ :: ⟨some (IsPtr i_.lo), [(7, some 2)]⟩ :: ⟨some (IsV i_.lo), [(8, some 3)]⟩ :: ⟨some (IsV x1406_5), [(5, some 0), (9, some 4)]⟩ :: ⟨some (IsV x1406_5), [(10, some 5)]⟩ :: []) hmix hs (by kernel_rfl) ⟨ob1 rfl fun b q hk hn => ok_load rfl ty53 ((up i3 hk hn.1)).ptr, ob1 rfl fun b q hk hn => ok_moveB rfl (upE i0 hn.1), ob1 rfl fun b q hk hn => ok_nilCheckA rfl hn.1, ob1 rfl fun b q hk hn => ok_fieldAddr rfl fo55_0 (at_SightInterval_0 _) (IsAdr.ptrB hn.1 (c0.grow hk)), ob1 rfl fun b q hk hn => ok_load rfl ty53 hn.1, ob1 rfl fun b q hk hn => ok_call rfl Try.call73 (sight_bound_compare_ok hn.1 hn.2.1 hx1406_5), ob1 rfl fun b q hk hn => ok_assign rfl hn.1, trivial⟩ hQQ1427 fun b q p => ?_
  exact tail_done (k := q) (hp1428 _ _ ⟨Bs.post ⟨hg, hs, hd⟩ p, upE i0 (p.old 0 rfl), n0, Gb.Box.grow c0 p.grow, p.ke 3 rfl i3, p.ou 6 4 rfl, trivial⟩)
 rintro a k ⟨⟨hg, hs, hd⟩, i0, n0, c0, i3, i4, _⟩
 refine wp_block ?_
 refine cutS (fun a' k' => Bs (Eq b0) k0 34 a' k' ∧ a'.get 0 = .pointer (some ⟨b0, 0, none⟩) ∧ Wr (Eq b0) k0 (Eq b0) ∧ Gb.Box b0 i_ k' ∧ (IsRef b_) (a'.get 3) k' ∧ (IsV x1406_5) (a'.get 4) k' ∧ (IsV (decide (0 < x1406_5))) (a'.get 11) k' ∧ True) ?_ ?_
 ·intro Q1425 hQQ1425 hp1426
  refine gS 3 (_ :: _ :: _ :: []) hs (by kernel_rfl) ⟨mu rfl i4, o1 [(12, some 0)] rfl fun _ _ h n => ok_gtr rfl n.1 (cI rfl), cp 1 rfl rfl, trivial⟩ hQQ1425 fun b q p => ?_
  exact tail_done (k := q) (hp1426 _ _ ⟨Bs.post ⟨hg, hs, hd⟩ p, upE i0 (p.old 0 rfl), n0, Gb.Box.grow c0 p.grow, p.ke 3 rfl i3, p.ke 4 rfl i4, p.ou 2 11 rfl, trivial⟩)
 rintro a k ⟨⟨hg, hs, hd⟩, i0, n0, c0, i3, i4, i11, _⟩
 obtain ⟨s1408, hs1408, hr⟩ := bind_some hr
 refine cut (fun a' k' => Bs (Eq b0) k0 34 a' k' ∧ a'.get 0 = .pointer (some ⟨b0, 0, none⟩) ∧ Wr (Eq b0) k0 (Eq b0) ∧ Gb.Box b0 s1408 k' ∧ True) ?_ hQ ?_
 ·intro Q1424 hQQ1424 hp1409
  replace hr := hs1408
  clear hQ
  have hQ := hQQ1424
  refine wp_cond_split (isBool i11) (fun hc1423 => ?_) (fun hc1423 => ?_)
  ·rw [if_pos hc1423] at hr
   refine cut (fun a' k' => Bs (Eq b0) k0 34 a' k' ∧ a'.get 0 = .pointer (some ⟨b0, 0, none⟩) ∧ Wr (Eq b0) k0 (Eq b0) ∧ Gb.Box b0 ({ i_ with lo := b_ }) k' ∧ True) ?_ hQ ?_
   ·intro Q1411 hQQ1411 hp1412
    refine gS 4 (⟨some (IsAdr b0 (0)), [(0, none)]⟩ :: _ :: ⟨some (IsAdr b0 (0)), [(14, some 0)]⟩ :: _ :: []) hs (by kernel_rfl) ⟨ob1 rfl fun _ _ h n => ok_moveB rfl (upE i0 n.1), o1 [(3, none)] rfl fun _ _ h n => ok_load rfl ty53 ((up i3 h n.1)).ptr, ob1 rfl fun _ _ h n => ok_nilCheckA rfl n.1, o1 [(16, some 2)] rfl fun _ _ h n => ok_fieldAdr2 rfl fo55_0 n.1, trivial⟩ hQQ1411 fun b q p => ?_
    have hgq := hg.then p.grow
    have hsb := p.size.trans hs
    have hdb := p.defers.trans hd
    have j0 := upE i0 (p.old 0 rfl)
    have z0 := Gb.Box.grow c0 p.grow
    have y0 := n0
    have j15 : (IsV b_) (b.get 15) q := p.ou 1 15 rfl
    have j17 : IsAdr b0 (0 + 0) (b.get 17) q := p.ou 3 17 rfl
    have hns := z0.nshF
    refine tail_storeB (i := 4) rfl rfl rfl rfl szf53 upd_F55_0 j17 z0 j15 fun q2 hch hz => ?_
    replace hgq := hgq.step hch y0
    have hle := hch.le hns
    replace j15 := Pers.pers hle j15
    replace j17 := Pers.pers hle j17
    replace z0 := hz
    clear hns hle hch
    obtain ⟨q, hqq⟩ : ∃ q, q = q2 := ⟨q2, rfl⟩
    subst hqq
    exact tail_done (k := q) (hp1412 _ _ ⟨⟨hgq, hsb, hdb⟩, j0, y0, z0, trivial⟩)
   rintro a k ⟨⟨hg, hs, hd⟩, i0, n0, c0, _⟩
   obtain rfl := Option.some.inj hr
   exact hp1409 _ _ ⟨⟨hg, hs, hd⟩, i0, n0, c0, trivial⟩
  rw [if_neg (by rw [hc1423]; decide)] at hr
  refine cutS (fun a' k' => Bs (Eq b0) k0 34 a' k' ∧ a'.get 0 = .pointer (some ⟨b0, 0, none⟩) ∧ Wr (Eq b0) k0 (Eq b0) ∧ Gb.Box b0 i_ k' ∧ (IsRef b_) (a'.get 3) k' ∧ (IsV (x1406_5 == 0)) (a'.get 18) k' ∧ True) ?_ ?_
  ·intro Q1421 hQQ1421 hp1422
   refine gS 3 (_ :: _ :: _ :: []) hs (by kernel_rfl) ⟨mu rfl i4, o1 [(19, some 0)] rfl fun _ _ h n => ok_eqI rfl n.1 (cI rfl), cp 1 rfl rfl, trivial⟩ hQQ1421 fun b q p => ?_
   exact tail_done (k := q) (hp1422 _ _ ⟨Bs.post ⟨hg, hs, hd⟩ p, upE i0 (p.old 0 rfl), n0, Gb.Box.grow c0 p.grow, p.ke 3 rfl i3, p.ou 2 18 rfl, trivial⟩)
  rintro a k ⟨⟨hg, hs, hd⟩, i0, n0, c0, i3, i18, _⟩
  obtain ⟨s1414, hs1414, hr⟩ := bind_some hr
  refine cut (fun a' k' => Bs (Eq b0) k0 34 a' k' ∧ a'.get 0 = .pointer (some ⟨b0, 0, none⟩) ∧ Wr (Eq b0) k0 (Eq b0) ∧ Gb.Box b0 s1414 k' ∧ True) ?_ hQ ?_
  ·intro Q1420 hQQ1420 hp1415
   replace hr := hs1414
   clear hQ
   have hQ := hQQ1420
   refine wp_cond_split (isBool i18) (fun hc1419 => ?_) (fun hc1419 => ?_)
   ·rw [if_pos hc1419] at hr
    refine cut (fun a' k' => Bs (Eq b0) k0 34 a' k' ∧ a'.get 0 = .pointer (some ⟨b0, 0, none⟩) ∧ Wr (Eq b0) k0 (Eq b0) ∧ Gb.Box b0 ({ i_ with lo := { i_.lo with open_ := (i_.lo.open_ || b_.open_) } }) k' ∧ True) ?_ hQ ?_
    ·intro Q1417 hQQ1417 hp1418
     refine gS 13 (⟨some (IsAdr b0 (0)), [(0, none)]⟩ :: ⟨some (IsAdr b0 (0)), [(0, none)]⟩ :: ⟨some (IsAdr b0 (0)), [(22, some 1)]⟩ :: _ :: _ :: _ :: _ :: _ :: _ :: _ :: ⟨some (IsAdr b0 (0)), [(21, some 0)]⟩ :: _ :: _ :: []) hs (by kernel_rfl) ⟨ob1 rfl fun _ _ h n => ok_moveB rfl (upE i0 n.1), ob1 rfl fun _ _ h n => ok_moveB rfl (upE i0 n.1), ob1 rfl fun _ _ h n => ok_nilCheckA rfl n.1, o1 [(23, some 2)] rfl fun _ _ h n => ok_fieldAddr rfl fo55_0 (at_SightInterval_0 _) (IsAdr.ptrB n.1 (c0.grow h)), o1 [(24, some 3)] rfl fun _ _ h n => ok_fieldAddr rfl fo53_2 (at_SightBound_2 _) n.1, o1 [(25, some 4)] rfl fun _ _ h n => ok_load rfl ty4 n.1, cm 5 rfl rfl, gF [(3, none)] rfl rfl fun hp _ _ h n => ok_fieldAddr rfl fo53_2 (at_SightBound_2 _) ((up i3 h n.1)).ptr, gF [(28, some 7)] rfl rfl fun hp _ _ h n => ok_load rfl ty4 (Gd.get n.1 hp), o1 [(27, some 6), (29, some 8)] rfl fun _ _ h n => ok_pickOr rfl n.1 (cB rfl) (Gd.get n.2.1), ob1 rfl fun _ _ h n => ok_nilCheckA rfl n.1, o1 [(31, some 10)] rfl fun _ _ h n => ok_fieldAdr2 rfl fo55_0 n.1, o1 [(32, some 11)] rfl fun _ _ h n => ok_fieldAdr2 rfl fo53_2 n.1, trivial⟩ hQQ1417 fun b q p => ?_
     have hgq := hg.then p.grow
     have hsb := p.size.trans hs
     have hdb := p.defers.trans hd
     have j0 := upE i0 (p.old 0 rfl)
     have z0 := Gb.Box.grow c0 p.grow
     have y0 := n0
     have j30 : (IsV (i_.lo.open_ || b_.open_)) (b.get 30) q := p.ou 9 30 rfl
     have j33 : IsAdr b0 (0 + 0 + 2) (b.get 33) q := p.ou 12 33 rfl
     have hns := z0.nshF
     refine tail_storeB (i := 13) rfl rfl rfl rfl szf4 upd_F55_0_F53_2 j33 z0 j30 fun q2 hch hz => ?_
     replace hgq := hgq.step hch y0
     have hle := hch.le hns
     replace j30 := Pers.pers hle j30
     replace j33 := Pers.pers hle j33
     replace z0 := hz
     clear hns hle hch
     obtain ⟨q, hqq⟩ : ∃ q, q = q2 := ⟨q2, rfl⟩
     subst hqq
     exact tail_done (k := q) (hp1418 _ _ ⟨⟨hgq, hsb, hdb⟩, j0, y0, z0, trivial⟩)
    rintro a k ⟨⟨hg, hs, hd⟩, i0, n0, c0, _⟩
    obtain rfl := Option.some.inj hr
    exact hp1415 _ _ ⟨⟨hg, hs, hd⟩, i0, n0, c0, trivial⟩
   rw [if_neg (by rw [hc1419]; decide)] at hr
   refine wp_skip ?_
   obtain rfl := Option.some.inj hr
   exact hp1415 _ _ ⟨⟨hg, hs, hd⟩, i0, n0, c0, trivial⟩
  clear hs1414
  rintro a k ⟨⟨hg, hs, hd⟩, i0, n0, c0, _⟩
  obtain rfl := Option.some.inj hr
  exact hp1409 _ _ ⟨⟨hg, hs, hd⟩, i0, n0, c0, trivial⟩
 clear hs1408
 rintro a k ⟨⟨hg, hs, hd⟩, i0, n0, c0, _⟩
 obtain rfl := Option.some.inj hr
 exact retT rfl hd hg c0
end Go.Proofs.Ytbpecfmimgjakaa
