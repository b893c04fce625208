/- What the functions compute that the law reaches, part 3 -/
import Derived.Test.YtdpekblabnfjnaaT2
namespace Go.Proofs.Ytdpekblabnfjnaa
open Go.Gb
set_option linter.unusedVariables false
set_option linter.unusedSimpArgs false
set_option maxRecDepth 100000
def calmG_L0 (stays_ : (List Stay)) (s1 : Int) : Option (Flow (Int) ((List Stay) × Bool)) :=
 if (decide (s1 < (stays_.length : Int))) then
  (getI stays_ s1).bind fun x1 =>
  if (((decide (x1.From < 0)) || (decide (x1.To < x1.From))) || (decide (1073741824 < x1.To))) then
   some (.ret (([] : List Stay), false))
  else
   (addI s1 1).bind fun x2 =>
   some (.go x2)
 else
  some (.ex 0 s1)
def calmG_L1 (x1 : (List Stay)) (s1 : (List Stay) × Int) : Option (Flow ((List Stay) × Int) ((List Stay) × Bool)) :=
 if (decide (s1.2 < (x1.length : Int))) then
  ((getI x1 s1.2).bind fun x2 =>
  (subI (s1.1.length : Int) 1).bind fun x3 =>
  (if (decide (0 ≤ x3)) then
   (getI s1.1 x3).bind fun x4 =>
   some (decide (x2.From ≤ x4.To))
  else
   some false).bind fun x5 =>
  if x5 then
   (getI s1.1 x3).bind fun x6 =>
   (getI s1.1 x3).bind fun x7 =>
   (some (s1.1.set (x3).toNat ({ x7 with To := (max x6.To x2.To) }))).bind fun x8 =>
   some x8
  else
   (appI s1.1 ([x2])).bind fun x9 =>
   some x9).bind fun s2 =>
  (addI s1.2 1).bind fun x10 =>
  some (.go (s2, x10))
 else
  some (.ex 2 (s1.1, s1.2))
def calmG (stays_ : (List Stay)) : Option ((List Stay) × Bool) :=
 if (decide (100 < (stays_.length : Int))) then
  some (([] : List Stay), false)
 else
  (cloneStays stays_).bind fun x1 =>
  (sortStays x1).bind fun x2 =>
  (iterL (calmG_L0 stays_) (stays_.length + 1) 0).bind fun f1 => match f1 with
   | .go _ => none
   | .ex _ _ =>
    (iterL (calmG_L1 x2) (x2.length + 1) (([] : List Stay), 0)).bind fun f2 => match f2 with
     | .go _ => none
     | .ex _ s1 =>
      some (s1.1, true)
     | .ret r1 => some r1
   | .ret r2 => some r2
theorem calmG_ok {k0 : K} {v0 : Value} {stays_ : (List Stay)} {r : (List Stay) × Bool} (i0 : (IsV stays_) v0 k0) (hr : calmG stays_ = some r) :
  Calls Try.prog 25 #[v0] k0.w (Ret k0 (IsTup2 (IsV r.1) (IsV r.2))) := by
 unfold calmG at hr
 refine Ret.ofC ?_
 refine enterK Try.func25 rfl Try.ntmps25 (show 1 ≤ 79 by decide) fun a k hk0 hs hd ha => ?_
 obtain ⟨e0, _⟩ := ha
 replace i0 : (IsV stays_) (a.get 0) k := by rw [e0, hk0]; exact i0
 have hQ : Gb.LetsOut (bodyPost Try.prog Try.f25 (RetC noF k0 (IsTup2 (IsV r.1) (IsV r.2)))) := letsOutC
 have hg : Chg noF k0 k := by rw [hk0]; exact Chg.refl _ k0
 refine stepL 2 (⟨some IsE0, []⟩ :: ⟨some (IsV false), []⟩ :: []) rfl ⟨hg, hs, hd⟩ (by kernel_rfl) ⟨ob1 rfl fun b q h n => ok_assign rfl isE0_nil, ob1 rfl fun _ _ h n => ok_assign rfl (isV_bool.2 rfl), trivial⟩ [⟨_, _⟩] (fun b q p => ⟨p.ke 0 rfl i0, trivial⟩) ?_
 rintro a k ⟨⟨hg, hs, hd⟩, i0, _⟩
 refine wp_seq ?_
 refine stepL 3 (_ :: _ :: _ :: []) rfl ⟨hg, hs, hd⟩ (by kernel_rfl) ⟨mu rfl i0, o1 [(11, some 0)] rfl fun _ _ h n => ok_len rfl rfl Try.underlying23 (IsV.rd n.1), o1 [(12, some 1)] rfl fun _ _ h n => ok_gtr rfl n.1 (cI rfl), trivial⟩ [⟨_, _⟩, ⟨_, _⟩] (fun b q p => ⟨p.ke 0 rfl i0, p.ou 2 13 rfl, trivial⟩) ?_
 rintro a k ⟨⟨hg, hs, hd⟩, i0, i13, _⟩
 refine wp_cond_split (isBool i13) (fun hc725 => ?_) (fun hc725 => ?_)
 ·rw [if_pos hc725] at hr
  refine cutL noF k0 79 [⟨2, IsV ([] : List Stay)⟩, ⟨3, IsV false⟩] ?_ ?_
  ·intro Q1 W1 w1
   refine gS 2 (⟨some IsE0, []⟩ :: ⟨some (IsV false), []⟩ :: []) hs (by kernel_rfl) ⟨ob1 rfl fun b q h n => ok_assign rfl isE0_nil, ob1 rfl fun _ _ h n => ok_assign rfl (isV_bool.2 rfl), trivial⟩ W1 fun b q p => ?_
   have hgq := hg.then p.grow
   have hsb := p.size.trans hs
   have hdb := p.defers.trans hd
   have j2 : IsE0 (b.get 2) q := p.ou 0 2 rfl
   have j3 : (IsV false) (b.get 3) q := p.ou 1 3 rfl
   replace j2 : IsV ([] : List Stay) (b.get 2) q := j2.isV
   exact tail_done (k := q) (w1 _ _ ⟨⟨hgq, hsb, hdb⟩, j2, j3, trivial⟩)
  rintro a k ⟨⟨hg, hs, hd⟩, i2, i3, _⟩
  refine wp_ret ?_
  obtain rfl := Option.some.inj hr
  exact retC2 rfl hd hg i2 i3
 rw [if_neg (by rw [hc725]; decide)] at hr
 refine wp_skip ?_
 refine wp_seq ?_
 obtain ⟨x1, hx1, hr⟩ := bind_some hr
 refine cut (fun a' k' => Bs noF k0 79 a' k' ∧ (IsV stays_) (a'.get 0) k' ∧ IsOwn 0 38 x1 (a'.get 4) k' ∧ Lo k0 (obF (a'.get 4)) ∧ True) ?_ hQ ?_
 ·intro Q2 W2 w2
  refine gS 3 (_ :: _ :: _ :: []) hs (by kernel_rfl) ⟨mu rfl i0, o1 [(14, some 0)] rfl fun _ _ h n => ok_call rfl Try.call38 (ret_weaken h.size (cloneStays_okO n.1 hx1)), cp 1 rfl rfl, trivial⟩ W2 fun b q p => ?_
  have hgq := hg.then p.grow
  have hsb := p.size.trans hs
  have hdb := p.defers.trans hd
  have j0 := p.ke 0 rfl i0
  have j4 : (IsOwn k.w.heap.size 38 x1) (b.get 4) q := p.ou 2 4 rfl
  have x4 : Lo k (obF (b.get 4)) := j4.loF
  have y4 := x4.chg hg
  replace j4 := j4.weaken (Nat.zero_le _)
  exact tail_done (k := q) (w2 _ _ ⟨⟨hgq, hsb, hdb⟩, j0, j4, y4, trivial⟩)
 rintro a k ⟨⟨hg, hs, hd⟩, i0, i4, n4, _⟩
 refine wp_seq ?_
 obtain ⟨x2, hx2, hr⟩ := bind_some hr
 refine cut (fun a' k' => Bs noF k0 79 a' k' ∧ (IsV stays_) (a'.get 0) k' ∧ IsOwn 0 38 x2 (a'.get 4) k' ∧ Lo k0 (obF (a'.get 4)) ∧ True) ?_ hQ ?_
 ·intro Q3 W3 w3
  refine gS 1 (⟨some (OwnAt (a.get 4) 0 38 x1), [(4, none)]⟩ :: []) hs (by kernel_rfl) ⟨ob1 rfl fun _ _ h n => ok_moveOA (.inl rfl) (ownAt n.1 (up i4 h n.1)), trivial⟩ W3 fun b q p => ?_
  have hgq := hg.then p.grow
  have hsb := p.size.trans hs
  have hdb := p.defers.trans hd
  have j0 := p.ke 0 rfl i0
  have j4 := p.ke 4 rfl i4
  have y4 : Lo k0 (obF (b.get 4)) := by rw [p.old 4 rfl]; exact n4
  have e16 : b.get 16 = a.get 4 := (p.ou 0 16 rfl).1
  have j16 : IsOwn 0 38 x1 (b.get 16) q := (p.ou 0 16 rfl).2
  have y16 : Lo k0 (obF (b.get 16)) := by rw [e16]; exact n4
  have hns := j16.nshF
  have eS : b.get 4 = b.get 16 := (p.old 4 rfl).trans e16.symm
  refine tail_call (F := obF (b.get 16)) (i := 1) (d := 17) rfl rfl rfl rfl (by rw [hsb]; decide) Try.call39 W3 (sortStays_ok j16 hx2) fun b2 q2 hsz hdf hoth hch hres => ?_
  have hle := hch.le hns
  replace j0 := Pers.pers hle j0
  replace hgq := hgq.step hch y16.wr
  replace j4 : IsOwn 0 38 x2 (b.get 4) q2 := by rw [eS]; exact hres
  clear hres eS
  rw [← hoth 0 (by decide)] at j0
  rw [← hoth 4 (by decide)] at j4
  rw [← hoth 4 (by decide)] at y4
  replace hsb := hsz.trans hsb
  replace hdb := hdf.trans hdb
  clear hle hch hns hsz hdf hoth
  obtain ⟨b, hbb⟩ : ∃ b, b = b2 := ⟨b2, rfl⟩
  subst hbb
  obtain ⟨q, hqq⟩ : ∃ q, q = q2 := ⟨q2, rfl⟩
  subst hqq
  exact tail_done (k := q) (w3 _ _ ⟨⟨hgq, hsb, hdb⟩, j0, j4, y4, trivial⟩)
 rintro a k ⟨⟨hg, hs, hd⟩, i0, i4, n4, _⟩
 refine wp_seq ?_
 obtain ⟨kk, sh648, ii4⟩ := i4.give
 replace i0 := Pers.pers sh648.le i0
 replace i4 := ii4
 replace hg := hg.hand sh648 n4.wr
 rw [← sh648.w]
 clear sh648
 obtain ⟨k, hkk⟩ : ∃ k, k = kk := ⟨kk, rfl⟩
 subst hkk
 refine cut (fun a' k' => Bs noF k0 79 a' k' ∧ (IsV stays_) (a'.get 0) k' ∧ (IsV x2) (a'.get 4) k' ∧ IsOwn 0 38 ([] : List Stay) (a'.get 5) k' ∧ Lo k0 (obF (a'.get 5)) ∧ True) ?_ hQ ?_
 ·intro Q4 W4 w4
  refine gS 1 (⟨some IsE0, []⟩ :: []) hs (by kernel_rfl) ⟨ob1 rfl fun b q h n => ok_assign rfl isE0_nil, trivial⟩ W4 fun b q p => ?_
  have hgq := hg.then p.grow
  have hsb := p.size.trans hs
  have hdb := p.defers.trans hd
  have j0 := p.ke 0 rfl i0
  have j4 := p.ke 4 rfl i4
  have j5 : IsE0 (b.get 5) q := p.ou 0 5 rfl
  have y5 : Lo k0 (obF (b.get 5)) := j5.lo
  replace j5 : IsOwn 0 38 ([] : List Stay) (b.get 5) q := j5.own0
  exact tail_done (k := q) (w4 _ _ ⟨⟨hgq, hsb, hdb⟩, j0, j4, j5, y5, trivial⟩)
 rintro a k ⟨⟨hg, hs, hd⟩, i0, i4, i5, n5, _⟩
 refine wp_seq ?_
 refine cutS (fun c l => Bs noF k0 79 c l ∧ IsV x2 (c.get 4) l ∧ IsOwn 0 38 ([] : List Stay) (c.get 5) l ∧ Lo k0 (obF (c.get 5)) ∧ IsV stays_ (c.get 18) l ∧ IsL stays_ (c.get 19) l ∧ IsI 0 (c.get 20) l ∧ True) ?_ ?_
 ·intro Q5 W5 w5
  refine gS 3 (_ :: _ :: ⟨some (IsI 0), []⟩ :: []) hs (by kernel_rfl) ⟨mu rfl i0, o1 [(18, some 0)] rfl fun _ _ h n => ok_len rfl rfl Try.underlying23 (IsV.rd n.1), ob1 rfl fun _ _ h n => ok_move rfl (cI rfl), trivial⟩ W5 fun b q p => ?_
  exact tail_done (k := q) (w5 _ _ ⟨Bs.post ⟨hg, hs, hd⟩ p, p.ke 4 rfl i4, p.ke 5 rfl i5, (by rw [p.old 5 rfl]; exact n5), p.ou 0 18 rfl, p.ou 1 19 rfl, p.ou 2 20 rfl, trivial⟩)
 rintro a k ⟨⟨hg, hs, hd⟩, i4, i5, n5, i18, i19, i20, _⟩
 refine wp_block ?_
 obtain ⟨f1, hf1, hr⟩ := bind_some hr
 refine cutFe f1 (fun s' c l => Bs noF k0 79 c l ∧ IsV x2 (c.get 4) l ∧ IsOwn 0 38 ([] : List Stay) (c.get 5) l ∧ Lo k0 (obF (c.get 5)) ∧ IsV stays_ (c.get 18) l ∧ IsL stays_ (c.get 19) l ∧ IsV s' (c.get 20) l ∧ True) (fun i' s' c l => (i' = 0 ∧ Bs noF k0 79 c l ∧ IsV x2 (c.get 4) l ∧ IsOwn 0 38 ([] : List Stay) (c.get 5) l ∧ Lo k0 (obF (c.get 5)) ∧ True)) (fun r' c l => bodyPost Try.prog Try.f25 (RetC noF k0 (IsTup2 (IsV r'.1) (IsV r'.2))) .ret c l.w) ?_ hQ ?_ ?_ ?_
 ·intro Q6 W6 hgo hex hret
  refine sim_loop ?_ _ _ _ _ _ hf1 ⟨⟨hg, hs, hd⟩, i4, i5, n5, i18, i19, i20, trivial⟩ Q6 W6 hgo hex hret
  clear hr hf1 hgo hex hret W6 hQ hg hs hd i18 i19 i20 i4 i5 n5
  intro s1 fl_ a k hr hS Q hQ hgo652 hex653 hret654
  obtain ⟨⟨hg, hs, hd⟩, i4, i5, n5, i18, i19, i20, _⟩ := hS
  unfold calmG_L0 at hr
  refine cutS (fun c l => Bs noF k0 79 c l ∧ IsV x2 (c.get 4) l ∧ IsOwn 0 38 ([] : List Stay) (c.get 5) l ∧ Lo k0 (obF (c.get 5)) ∧ IsV stays_ (c.get 18) l ∧ IsL stays_ (c.get 19) l ∧ IsV s1 (c.get 20) l ∧ (IsV (decide (s1 < (stays_.length : Int)))) (c.get 21) l ∧ True) ?_ ?_
  ·intro Q7 W7 w6
   refine gS 1 (_ :: []) hs (by kernel_rfl) ⟨o1 [(20, none), (19, none)] rfl fun _ _ h n => ok_lss rfl (up i20 h n.1) (up i19 h n.2.1), trivial⟩ W7 fun b q p => ?_
   exact tail_done (k := q) (w6 _ _ ⟨Bs.post ⟨hg, hs, hd⟩ p, p.ke 4 rfl i4, p.ke 5 rfl i5, (by rw [p.old 5 rfl]; exact n5), p.ke 18 rfl i18, p.ke 19 rfl i19, p.ke 20 rfl i20, p.ou 0 21 rfl, trivial⟩)
  rintro a k ⟨⟨hg, hs, hd⟩, i4, i5, n5, i18, i19, i20, i21, _⟩
  refine wp_seq ?_
  refine wp_cond_split (isBool i21) (fun hc669 => ?_) (fun hc669 => ?_)
  ·rw [if_pos hc669] at hr
   refine wp_skip ?_
   refine wp_seq ?_
   refine wp_block ?_
   refine wp_seq ?_
   obtain ⟨x3, hx3, hr⟩ := bind_some hr
   refine cut (fun a' k' => Bs noF k0 79 a' k' ∧ (IsV x2) (a'.get 4) k' ∧ IsOwn 0 38 ([] : List Stay) (a'.get 5) k' ∧ Lo k0 (obF (a'.get 5)) ∧ (IsRef x3) (a'.get 7) k' ∧ (IsV stays_) (a'.get 18) k' ∧ (IsL stays_) (a'.get 19) k' ∧ (IsV s1) (a'.get 20) k' ∧ True) ?_ hQ ?_
   ·intro Q8 W8 w7
    refine gS 3 (_ :: _ :: ⟨some (IsBox k.w.heap.size (⟨0, 0⟩ : Stay)), []⟩ :: []) hs (by kernel_rfl) ⟨o1 [(18, none), (20, none)] rfl fun _ _ h n => ok_indexAddr rfl Try.underlying23 ty38 (IsV.rd (up i18 h n.1)) (up i20 h n.2.1) hx3, o1 [(22, some 0)] rfl fun _ _ h n => ok_load rfl ty38 n.1, ob1 rfl fun _ _ h n => ok_alloc _ h.size rfl z38, trivial⟩ W8 fun b q p => ?_
    have hgq := hg.then p.grow
    have hsb := p.size.trans hs
    have hdb := p.defers.trans hd
    have j4 := p.ke 4 rfl i4
    have j5 := p.ke 5 rfl i5
    have y5 : Lo k0 (obF (b.get 5)) := by rw [p.old 5 rfl]; exact n5
    obtain ⟨b7, j7, x7, z7⟩ : (IsBox k.w.heap.size (⟨0, 0⟩ : Stay)) (b.get 7) q := p.ou 2 7 rfl
    replace x7 : Lo k (Eq b7) := Lo.eq x7
    have y7 : Lo k0 (Eq b7) := x7.chg hg
    have j18 := p.ke 18 rfl i18
    have j19 := p.ke 19 rfl i19
    have j20 := p.ke 20 rfl i20
    have j23 : (IsV x3) (b.get 23) q := p.ou 1 23 rfl
    have w5_7 : Apart (obF (b.get 5)) (Eq b7) := Apart.new (by rw [p.old 5 rfl]; exact i5.ltF) x7
    have hns := z7.nshF
    refine tail_storeB (i := 3) rfl rfl rfl rfl szf38 (Upd.self (α := Stay)) j7 z7 j23 fun q2 hch hz => ?_
    replace hgq := hgq.step hch y7.wr
    have hle := hch.le hns
    replace j4 := Pers.pers hle j4
    replace j5 := j5.keep hch w5_7 hns
    replace j18 := Pers.pers hle j18
    replace j19 := Pers.pers hle j19
    replace j20 := Pers.pers hle j20
    replace j23 := Pers.pers hle j23
    replace z7 := hz
    clear hns hle hch
    obtain ⟨q, hqq⟩ : ∃ q, q = q2 := ⟨q2, rfl⟩
    subst hqq
    obtain ⟨q2, hsh, jn⟩ := z7.give
    replace j4 := Pers.pers hsh.le j4
    replace j5 := j5.handed hsh w5_7
    replace j18 := Pers.pers hsh.le j18
    replace j19 := Pers.pers hsh.le j19
    replace j20 := Pers.pers hsh.le j20
    rw [← j7] at jn
    replace j7 := jn
    replace hgq := hgq.hand hsh y7.wr
    rw [← hsh.w]
    clear hsh
    obtain ⟨q, hqq⟩ : ∃ q, q = q2 := ⟨q2, rfl⟩
    subst hqq
    exact tail_done (k := q) (w7 _ _ ⟨⟨hgq, hsb, hdb⟩, j4, j5, y5, j7, j18, j19, j20, trivial⟩)
   rintro a k ⟨⟨hg, hs, hd⟩, i4, i5, n5, i7, i18, i19, i20, _⟩
   refine cutS (fun c l => Bs noF k0 79 c l ∧ IsV x2 (c.get 4) l ∧ IsOwn 0 38 ([] : List Stay) (c.get 5) l ∧ Lo k0 (obF (c.get 5)) ∧ IsV stays_ (c.get 18) l ∧ IsL stays_ (c.get 19) l ∧ IsV s1 (c.get 20) l ∧ (IsV (((decide (x3.From < 0)) || (decide (x3.To < x3.From))) || (decide (1073741824 < x3.To)))) (c.get 38) l ∧ True) ?_ ?_
   ·intro Q9 W9 w8
    refine gS 15 (_ :: _ :: _ :: _ :: _ :: _ :: _ :: _ :: _ :: _ :: _ :: _ :: _ :: _ :: _ :: []) hs (by kernel_rfl) ⟨o1 [(7, none)] rfl fun _ _ h n => ok_fieldAddr rfl fo38_0 (at_Stay_0 _) ((up i7 h n.1)).ptr, o1 [(24, some 0)] rfl fun _ _ h n => ok_load rfl ty3 n.1, o1 [(25, some 1)] rfl fun _ _ h n => ok_lss rfl n.1 (cI rfl), cm 2 rfl rfl, gF [(7, none)] rfl rfl fun hp _ _ h n => ok_fieldAddr rfl fo38_0 (at_Stay_0 _) ((up i7 h n.1)).ptr, gF [(28, some 4)] rfl rfl fun hp _ _ h n => ok_load rfl ty3 (Gd.get n.1 hp), gF [(7, none)] rfl rfl fun hp _ _ h n => ok_fieldAddr rfl fo38_1 (at_Stay_1 _) ((up i7 h n.1)).ptr, gF [(30, some 6)] rfl rfl fun hp _ _ h n => ok_load rfl ty3 (Gd.get n.1 hp), gF [(29, some 5), (31, some 7)] rfl rfl fun hp _ _ h n => ok_gtr rfl (Gd.get n.1 hp) (Gd.get n.2.1 hp), o1 [(27, some 3), (32, some 8)] rfl fun _ _ h n => ok_pickOr rfl n.1 (cB rfl) (Gd.get n.2.1), cm 9 rfl rfl, gF [(7, none)] rfl rfl fun hp _ _ h n => ok_fieldAddr rfl fo38_1 (at_Stay_1 _) ((up i7 h n.1)).ptr, gF [(35, some 11)] rfl rfl fun hp _ _ h n => ok_load rfl ty3 (Gd.get n.1 hp), gF [(36, some 12)] rfl rfl fun hp _ _ h n => ok_gtr rfl (Gd.get n.1 hp) (cI rfl), o1 [(34, some 10), (37, some 13)] rfl fun _ _ h n => ok_pickOr rfl n.1 (cB rfl) (Gd.get n.2.1), trivial⟩ W9 fun b q p => ?_
    exact tail_done (k := q) (w8 _ _ ⟨Bs.post ⟨hg, hs, hd⟩ p, p.ke 4 rfl i4, p.ke 5 rfl i5, (by rw [p.old 5 rfl]; exact n5), p.ke 18 rfl i18, p.ke 19 rfl i19, p.ke 20 rfl i20, p.ou 14 38 rfl, trivial⟩)
   rintro a k ⟨⟨hg, hs, hd⟩, i4, i5, n5, i18, i19, i20, i38, _⟩
   refine wp_cond_split (isBool i38) (fun hc664 => ?_) (fun hc664 => ?_)
   ·rw [if_pos hc664] at hr
    refine cutL noF k0 79 [⟨2, IsV ([] : List Stay)⟩, ⟨3, IsV false⟩] ?_ ?_
    ·intro Q10 W10 w9
     refine gS 2 (⟨some IsE0, []⟩ :: ⟨some (IsV false), []⟩ :: []) hs (by kernel_rfl) ⟨ob1 rfl fun b q h n => ok_assign rfl isE0_nil, ob1 rfl fun _ _ h n => ok_assign rfl (isV_bool.2 rfl), trivial⟩ W10 fun b q p => ?_
     have hgq := hg.then p.grow
     have hsb := p.size.trans hs
     have hdb := p.defers.trans hd
     have j2 : IsE0 (b.get 2) q := p.ou 0 2 rfl
     have j3 : (IsV false) (b.get 3) q := p.ou 1 3 rfl
     replace j2 : IsV ([] : List Stay) (b.get 2) q := j2.isV
     exact tail_done (k := q) (w9 _ _ ⟨⟨hgq, hsb, hdb⟩, j2, j3, trivial⟩)
    rintro a k ⟨⟨hg, hs, hd⟩, i2, i3, _⟩
    refine wp_ret ?_
    exact hret654 _ _ _ (Option.some.inj hr).symm (retC2 rfl hd hg i2 i3)
   rw [if_neg (by rw [hc664]; decide)] at hr
   refine wp_skip ?_
   obtain ⟨x5, hx5, hr⟩ := bind_some hr
   refine cut (fun a' k' => Bs noF k0 79 a' k' ∧ (IsV x2) (a'.get 4) k' ∧ IsOwn 0 38 ([] : List Stay) (a'.get 5) k' ∧ Lo k0 (obF (a'.get 5)) ∧ (IsV stays_) (a'.get 18) k' ∧ (IsL stays_) (a'.get 19) k' ∧ (IsV x5) (a'.get 20) k' ∧ True) ?_ hQ ?_
   ·intro Q11 W11 w10
    refine gS 2 (_ :: _ :: []) hs (by kernel_rfl) ⟨o1 [(20, none)] rfl fun _ _ h n => ok_add rfl (up i20 h n.1) (cI rfl) hx5, cm 0 rfl rfl, trivial⟩ W11 fun b q p => ?_
    exact tail_done (k := q) (w10 _ _ ⟨Bs.post ⟨hg, hs, hd⟩ p, p.ke 4 rfl i4, p.ke 5 rfl i5, (by rw [p.old 5 rfl]; exact n5), p.ke 18 rfl i18, p.ke 19 rfl i19, p.ou 1 20 rfl, trivial⟩)
   rintro a k ⟨⟨hg, hs, hd⟩, i4, i5, n5, i18, i19, i20, _⟩
   exact hgo652 _ _ _ (Option.some.inj hr).symm ⟨⟨hg, hs, hd⟩, i4, i5, n5, i18, i19, i20, trivial⟩
  rw [if_neg (by rw [hc669]; decide)] at hr
  refine wp_exit ?_
  exact hex653 _ _ _ _ (Option.some.inj hr).symm ⟨rfl, ⟨hg, hs, hd⟩, i4, i5, n5, trivial⟩
 ·rintro r1 a k rfl hR
  dsimp only at hr
  obtain rfl := Option.some.inj hr
  exact hR
 ·rintro _ _ _ rfl _
  simp at hr
 clear hf1
 rintro _ s2 a k rfl ⟨rfl, ⟨hg, hs, hd⟩, i4, i5, n5, _⟩
 dsimp only at hr
 refine wp_seq ?_
 refine cutS (fun c l => Bs noF k0 79 c l ∧ IsOwn 0 38 ([] : List Stay) (c.get 5) l ∧ Lo k0 (obF (c.get 5)) ∧ IsV x2 (c.get 40) l ∧ IsL x2 (c.get 41) l ∧ IsI 0 (c.get 42) l ∧ True) ?_ ?_
 ·intro Q12 W12 w11
  refine gS 3 (_ :: _ :: ⟨some (IsI 0), []⟩ :: []) hs (by kernel_rfl) ⟨mu rfl i4, o1 [(40, some 0)] rfl fun _ _ h n => ok_len rfl rfl Try.underlying23 (IsV.rd n.1), ob1 rfl fun _ _ h n => ok_move rfl (cI rfl), trivial⟩ W12 fun b q p => ?_
  exact tail_done (k := q) (w11 _ _ ⟨Bs.post ⟨hg, hs, hd⟩ p, p.ke 5 rfl i5, (by rw [p.old 5 rfl]; exact n5), p.ou 0 40 rfl, p.ou 1 41 rfl, p.ou 2 42 rfl, trivial⟩)
 rintro a k ⟨⟨hg, hs, hd⟩, i5, n5, i40, i41, i42, _⟩
 refine wp_block ?_
 obtain ⟨f2, hf2, hr⟩ := bind_some hr
 refine cutFe f2 (fun s' c l => Bs noF k0 79 c l ∧ IsOwn 0 38 s'.1 (c.get 5) l ∧ Lo k0 (obF (c.get 5)) ∧ IsV x2 (c.get 40) l ∧ IsL x2 (c.get 41) l ∧ IsV s'.2 (c.get 42) l ∧ True) (fun i' s' c l => (i' = 2 ∧ Bs noF k0 79 c l ∧ IsV s'.1 (c.get 5) l ∧ True)) (fun r' c l => bodyPost Try.prog Try.f25 (RetC noF k0 (IsTup2 (IsV r'.1) (IsV r'.2))) .ret c l.w) ?_ hQ ?_ ?_ ?_
 ·intro Q13 W13 hgo hex hret
  refine sim_loop ?_ _ _ _ _ _ hf2 ⟨⟨hg, hs, hd⟩, i5, n5, i40, i41, i42, trivial⟩ Q13 W13 hgo hex hret
  clear hr hf2 hgo hex hret W13 hQ hg hs hd i40 i41 i42 i5 n5
  intro s3 fl_ a k hr hS Q hQ hgo676 hex677 hret678
  obtain ⟨⟨hg, hs, hd⟩, i5, n5, i40, i41, i42, _⟩ := hS
  unfold calmG_L1 at hr
  refine cutS (fun c l => Bs noF k0 79 c l ∧ IsOwn 0 38 s3.1 (c.get 5) l ∧ Lo k0 (obF (c.get 5)) ∧ IsV x2 (c.get 40) l ∧ IsL x2 (c.get 41) l ∧ IsV s3.2 (c.get 42) l ∧ (IsV (decide (s3.2 < (x2.length : Int)))) (c.get 43) l ∧ True) ?_ ?_
  ·intro Q14 W14 w12
   refine gS 1 (_ :: []) hs (by kernel_rfl) ⟨o1 [(42, none), (41, none)] rfl fun _ _ h n => ok_lss rfl (up i42 h n.1) (up i41 h n.2.1), trivial⟩ W14 fun b q p => ?_
   exact tail_done (k := q) (w12 _ _ ⟨Bs.post ⟨hg, hs, hd⟩ p, p.ke 5 rfl i5, (by rw [p.old 5 rfl]; exact n5), p.ke 40 rfl i40, p.ke 41 rfl i41, p.ke 42 rfl i42, p.ou 0 43 rfl, trivial⟩)
  rintro a k ⟨⟨hg, hs, hd⟩, i5, n5, i40, i41, i42, i43, _⟩
  refine wp_seq ?_
  refine wp_cond_split (isBool i43) (fun hc703 => ?_) (fun hc703 => ?_)
  ·rw [if_pos hc703] at hr
   refine wp_skip ?_
   refine wp_seq ?_
   obtain ⟨s4, hs4, hr⟩ := bind_some hr
   refine cut (fun a' k' => Bs noF k0 79 a' k' ∧ IsOwn 0 38 s4 (a'.get 5) k' ∧ Lo k0 (obF (a'.get 5)) ∧ (IsV x2) (a'.get 40) k' ∧ (IsL x2) (a'.get 41) k' ∧ (IsV s3.2) (a'.get 42) k' ∧ True) ?_ hQ ?_
   ·intro Q15 W15 w13
    replace hr := hs4
    clear hQ
    have hQ := W15
    refine wp_block ?_
    refine wp_seq ?_
    obtain ⟨x6, hx6, hr⟩ := bind_some hr
    refine cut (fun a' k' => Bs noF k0 79 a' k' ∧ IsOwn 0 38 s3.1 (a'.get 5) k' ∧ Lo k0 (obF (a'.get 5)) ∧ (IsRef x6) (a'.get 9) k' ∧ (IsV x2) (a'.get 40) k' ∧ (IsL x2) (a'.get 41) k' ∧ (IsV s3.2) (a'.get 42) k' ∧ True) ?_ hQ ?_
    ·intro Q16 W16 w14
     refine gS 3 (_ :: _ :: ⟨some (IsBox k.w.heap.size (⟨0, 0⟩ : Stay)), []⟩ :: []) hs (by kernel_rfl) ⟨o1 [(40, none), (42, none)] rfl fun _ _ h n => ok_indexAddr rfl Try.underlying23 ty38 (IsV.rd (up i40 h n.1)) (up i42 h n.2.1) hx6, o1 [(44, some 0)] rfl fun _ _ h n => ok_load rfl ty38 n.1, ob1 rfl fun _ _ h n => ok_alloc _ h.size rfl z38, trivial⟩ W16 fun b q p => ?_
     have hgq := hg.then p.grow
     have hsb := p.size.trans hs
     have hdb := p.defers.trans hd
     have j5 := p.ke 5 rfl i5
     have y5 : Lo k0 (obF (b.get 5)) := by rw [p.old 5 rfl]; exact n5
     obtain ⟨b9, j9, x9, z9⟩ : (IsBox k.w.heap.size (⟨0, 0⟩ : Stay)) (b.get 9) q := p.ou 2 9 rfl
     replace x9 : Lo k (Eq b9) := Lo.eq x9
     have y9 : Lo k0 (Eq b9) := x9.chg hg
     have j40 := p.ke 40 rfl i40
     have j41 := p.ke 41 rfl i41
     have j42 := p.ke 42 rfl i42
     have j45 : (IsV x6) (b.get 45) q := p.ou 1 45 rfl
     have w5_9 : Apart (obF (b.get 5)) (Eq b9) := Apart.new (by rw [p.old 5 rfl]; exact i5.ltF) x9
     have hns := z9.nshF
     refine tail_storeB (i := 3) rfl rfl rfl rfl szf38 (Upd.self (α := Stay)) j9 z9 j45 fun q2 hch hz => ?_
     replace hgq := hgq.step hch y9.wr
     have hle := hch.le hns
     replace j5 := j5.keep hch w5_9 hns
     replace j40 := Pers.pers hle j40
     replace j41 := Pers.pers hle j41
     replace j42 := Pers.pers hle j42
     replace j45 := Pers.pers hle j45
     replace z9 := hz
     clear hns hle hch
     obtain ⟨q, hqq⟩ : ∃ q, q = q2 := ⟨q2, rfl⟩
     subst hqq
     obtain ⟨q2, hsh, jn⟩ := z9.give
     replace j5 := j5.handed hsh w5_9
     replace j40 := Pers.pers hsh.le j40
     replace j41 := Pers.pers hsh.le j41
     replace j42 := Pers.pers hsh.le j42
     rw [← j9] at jn
     replace j9 := jn
     replace hgq := hgq.hand hsh y9.wr
     rw [← hsh.w]
     clear hsh
     obtain ⟨q, hqq⟩ : ∃ q, q = q2 := ⟨q2, rfl⟩
     subst hqq
     exact tail_done (k := q) (w14 _ _ ⟨⟨hgq, hsb, hdb⟩, j5, y5, j9, j40, j41, j42, trivial⟩)
    rintro a k ⟨⟨hg, hs, hd⟩, i5, n5, i9, i40, i41, i42, _⟩
    refine wp_seq ?_
    refine wp_seq ?_
    obtain ⟨x8, hx8, hr⟩ := bind_some hr
    refine cut (fun a' k' => Bs noF k0 79 a' k' ∧ IsOwn 0 38 s3.1 (a'.get 5) k' ∧ Lo k0 (obF (a'.get 5)) ∧ (IsRef x6) (a'.get 9) k' ∧ (IsV x8) (a'.get 10) k' ∧ (IsV x2) (a'.get 40) k' ∧ (IsL x2) (a'.get 41) k' ∧ (IsV s3.2) (a'.get 42) k' ∧ True) ?_ hQ ?_
    ·intro Q17 W17 w15
     refine gS 4 (⟨some (OwnAt (a.get 5) 0 38 s3.1), [(5, none)]⟩ :: _ :: _ :: _ :: []) hs (by kernel_rfl) ⟨ob1 rfl fun _ _ h n => ok_moveOA (.inl rfl) (ownAt n.1 (up i5 h n.1)), o1 [(46, some 0)] rfl fun _ _ h n => ok_len rfl rfl Try.underlying23 (IsOwn.rd (n.1).2), o1 [(47, some 1)] rfl fun _ _ h n => ok_sub rfl n.1 (cI rfl) hx8, cp 2 rfl rfl, trivial⟩ W17 fun b q p => ?_
     exact tail_done (k := q) (w15 _ _ ⟨Bs.post ⟨hg, hs, hd⟩ p, p.ke 5 rfl i5, (by rw [p.old 5 rfl]; exact n5), p.ke 9 rfl i9, p.ou 3 10 rfl, p.ke 40 rfl i40, p.ke 41 rfl i41, p.ke 42 rfl i42, trivial⟩)
    rintro a k ⟨⟨hg, hs, hd⟩, i5, n5, i9, i10, i40, i41, i42, _⟩
    refine wp_seq ?_
    obtain ⟨x10, hx10, hr⟩ := bind_some hr
    obtain ⟨x11, hx11, hx10⟩ := ite_bind hx10
    refine cut (fun a' k' => Bs noF k0 79 a' k' ∧ IsOwn 0 38 s3.1 (a'.get 5) k' ∧ Lo k0 (obF (a'.get 5)) ∧ (IsRef x6) (a'.get 9) k' ∧ (IsV x8) (a'.get 10) k' ∧ (IsV x2) (a'.get 40) k' ∧ (IsL x2) (a'.get 41) k' ∧ (IsV s3.2) (a'.get 42) k' ∧ (IsV x10) (a'.get 60) k' ∧ True) ?_ hQ ?_
    ·intro Q18 W18 w16
     refine region (m := 12) (_ :: _ :: _ :: _ :: _ :: ⟨some (Gd ((decide (0 ≤ x8)) = true) (OwnAt (a.get 5) 0 38 s3.1)), [(5, none)]⟩ :: _ :: _ :: _ :: _ :: _ :: _ :: []) hmix hs (by kernel_rfl) ⟨mu rfl i10, o1 [(49, some 0)] rfl fun _ _ h n => ok_geq rfl n.1 (cI rfl), cm 1 rfl rfl, gT [(9, none)] rfl rfl fun hp _ _ h n => ok_fieldAddr rfl fo38_0 (at_Stay_0 _) ((up i9 h n.1)).ptr, gT [(52, some 3)] rfl rfl fun hp _ _ h n => ok_load rfl ty3 (Gd.get n.1 hp), gdT rfl rfl fun hp _ _ h n => ok_moveOA (.inl rfl) (ownAt n.1 (up i5 h n.1)), mT rfl rfl i10, gT [(54, some 5), (55, some 6)] rfl rfl fun hp _ _ h n => ok_indexAddr rfl Try.underlying23 ty38 (IsOwn.rd ((Gd.get n.1 hp)).2) (Gd.get n.2.1 hp) (hx11 hp), gT [(56, some 7)] rfl rfl fun hp _ _ h n => ok_fieldAddr rfl fo38_1 (at_Stay_1 _) (Gd.get n.1 hp), gT [(57, some 8)] rfl rfl fun hp _ _ h n => ok_load rfl ty3 (Gd.get n.1 hp), gT [(53, some 4), (58, some 9)] rfl rfl fun hp _ _ h n => ok_leq rfl (Gd.get n.1 hp) (Gd.get n.2.1 hp), o1 [(51, some 2), (59, some 10)] rfl fun _ _ h n => ok_pickM rfl n.1 hx10 (Gd.get n.2.1) (cB rfl), trivial⟩ W18 fun b q p => ?_
     exact tail_done (k := q) (w16 _ _ ⟨Bs.post ⟨hg, hs, hd⟩ p, p.ke 5 rfl i5, (by rw [p.old 5 rfl]; exact n5), p.ke 9 rfl i9, p.ke 10 rfl i10, p.ke 40 rfl i40, p.ke 41 rfl i41, p.ke 42 rfl i42, p.ou 11 60 rfl, trivial⟩)
    rintro a k ⟨⟨hg, hs, hd⟩, i5, n5, i9, i10, i40, i41, i42, i60, _⟩
    refine wp_cond_split (isBool i60) (fun hc691 => ?_) (fun hc691 => ?_)
    ·rw [if_pos hc691] at hr
     refine wp_seq ?_
     obtain ⟨x12, hx12, hr⟩ := bind_some hr
     obtain ⟨x13, hx13, hr⟩ := bind_some hr
     obtain ⟨x14, hx14, hr⟩ := bind_some hr
     refine cut (fun a' k' => Bs noF k0 79 a' k' ∧ IsOwn 0 38 x14 (a'.get 5) k' ∧ Lo k0 (obF (a'.get 5)) ∧ (IsV x2) (a'.get 40) k' ∧ (IsL x2) (a'.get 41) k' ∧ (IsV s3.2) (a'.get 42) k' ∧ True) ?_ hQ ?_
     ·intro Q19 W19 w17
      refine region (m := 12) (⟨some (OwnAt (a.get 5) 0 38 s3.1), [(5, none)]⟩ :: _ :: ⟨some (OwnAt (a.get 5) 0 38 s3.1), [(5, none)]⟩ :: _ :: _ :: _ :: _ :: _ :: _ :: _ :: ⟨some (IsAdrO (a.get 5) ((x8).toNat * Enc.sz Stay)), [(61, some 0), (62, some 1)]⟩ :: _ :: []) hmix hs (by kernel_rfl) ⟨ob1 rfl fun _ _ h n => ok_moveOA (.inl rfl) (ownAt n.1 (up i5 h n.1)), mu rfl i10, ob1 rfl fun _ _ h n => ok_moveOA (.inl rfl) (ownAt n.1 (up i5 h n.1)), mu rfl i10, o1 [(63, some 2), (64, some 3)] rfl fun _ _ h n => ok_indexAddr rfl Try.underlying23 ty38 (IsOwn.rd (n.1).2) n.2.1 hx12, o1 [(65, some 4)] rfl fun _ _ h n => ok_fieldAddr rfl fo38_1 (at_Stay_1 _) n.1, o1 [(66, some 5)] rfl fun _ _ h n => ok_load rfl ty3 n.1, o1 [(9, none)] rfl fun _ _ h n => ok_fieldAddr rfl fo38_1 (at_Stay_1 _) ((up i9 h n.1)).ptr, o1 [(68, some 7)] rfl fun _ _ h n => ok_load rfl ty3 n.1, o1 [(67, some 6), (69, some 8)] rfl fun _ _ h n => ok_max2 rfl n.1 n.2.1, ob1 rfl fun _ _ h n => ok_indexO rfl Try.underlying23 ty38 n.1 n.2.1 hx13, o1 [(71, some 10)] rfl fun _ _ h n => ok_fieldAdrO rfl fo38_1 n.1, trivial⟩ W19 fun b q p => ?_
      have hgq := hg.then p.grow
      have hsb := p.size.trans hs
      have hdb := p.defers.trans hd
      have j5 := p.ke 5 rfl i5
      have y5 : Lo k0 (obF (b.get 5)) := by rw [p.old 5 rfl]; exact n5
      have j40 := p.ke 40 rfl i40
      have j41 := p.ke 41 rfl i41
      have j42 := p.ke 42 rfl i42
      have j70 : (IsI (max x12.To x6.To)) (b.get 70) q := p.ou 9 70 rfl
      have j72 : IsAdrO (a.get 5) ((x8).toNat * Enc.sz Stay + 1) (b.get 72) q := p.ou 11 72 rfl
      have eo : b.get 5 = a.get 5 := p.old 5 rfl
      have hns := j5.nshF
      refine tail_storeS (i := 12) (u := b.get 5) (m := (x8).toNat) (off := 0 + 1) rfl rfl rfl rfl szf3 upd_F38_1 (by rw [eo]; exact j72) j5 (getI_spec hx13).2.1 j70 fun q2 hch hz => ?_
      replace hgq := hgq.step hch y5.wr
      have hle := hch.le hns
      replace j40 := Pers.pers hle j40
      replace j41 := Pers.pers hle j41
      replace j42 := Pers.pers hle j42
      replace j70 := Pers.pers hle j70
      replace j72 := Pers.pers hle j72
      replace j5 := hz
      rw [Option.some.inj hx14] at j5
      clear hns hle hch eo hz
      obtain ⟨q, hqq⟩ : ∃ q, q = q2 := ⟨q2, rfl⟩
      subst hqq
      exact tail_done (k := q) (w17 _ _ ⟨⟨hgq, hsb, hdb⟩, j5, y5, j40, j41, j42, trivial⟩)
     rintro a k ⟨⟨hg, hs, hd⟩, i5, n5, i40, i41, i42, _⟩
     refine wp_exit ?_
     obtain rfl := Option.some.inj hr
     exact w13 _ _ ⟨⟨hg, hs, hd⟩, i5, n5, i40, i41, i42, trivial⟩
    rw [if_neg (by rw [hc691]; decide)] at hr
    refine wp_skip ?_
    obtain ⟨x15, hx15, hr⟩ := bind_some hr
    refine cut (fun a' k' => Bs noF k0 79 a' k' ∧ IsOwn 0 38 x15 (a'.get 5) k' ∧ Lo k0 (obF (a'.get 5)) ∧ (IsV x2) (a'.get 40) k' ∧ (IsL x2) (a'.get 41) k' ∧ (IsV s3.2) (a'.get 42) k' ∧ True) ?_ hQ ?_
    ·intro Q20 W20 w18
     refine gS 3 (⟨some (OwnAt (a.get 5) 0 38 s3.1), [(5, none)]⟩ :: _ :: ⟨some (IsV (α := (List Stay)) ([x6])), [(74, some 1)]⟩ :: []) hs (by kernel_rfl) ⟨ob1 rfl fun _ _ h n => ok_moveOA (.inl rfl) (ownAt n.1 (up i5 h n.1)), o1 [(9, none)] rfl fun _ _ h n => ok_load rfl ty38 ((up i9 h n.1)).ptr, ob1 rfl fun _ _ h n => ok_buildSlice rfl Try.underlying23 eo38 rfl (by decide) (by decide) ⟨rfl, n.1, trivial⟩, trivial⟩ W20 fun b q p => ?_
     have hgq := hg.then p.grow
     have hsb := p.size.trans hs
     have hdb := p.defers.trans hd
     have j40 := p.ke 40 rfl i40
     have j41 := p.ke 41 rfl i41
     have j42 := p.ke 42 rfl i42
     have e73 : b.get 73 = a.get 5 := (p.ou 0 73 rfl).1
     have j73 : IsOwn 0 38 s3.1 (b.get 73) q := (p.ou 0 73 rfl).2
     have y73 : Lo k0 (obF (b.get 73)) := by rw [e73]; exact n5
     have j75 : (IsV (α := (List Stay)) ([x6])) (b.get 75) q := p.ou 2 75 rfl
     have hns := j73.nshF
     refine tail_appendS (i := 3) (d := 76) rfl rfl rfl rfl (by rw [hsb]; decide) (e := 38) Try.underlying23 eo38 j73 (IsV.rd j75) hx15 fun b2 q2 hsz hdf hoth hch hown hob => ?_
     have hle := hch.le hns
     have yn : Lo k0 (obF (b2.get 76)) := y73.app hgq hob
     replace j40 := Pers.pers hle j40
     replace j41 := Pers.pers hle j41
     replace j42 := Pers.pers hle j42
     replace j75 := Pers.pers hle j75
     replace hgq := hgq.step hch y73.wr
     rw [← hoth 40 (by decide)] at j40
     rw [← hoth 41 (by decide)] at j41
     rw [← hoth 42 (by decide)] at j42
     rw [← hoth 75 (by decide)] at j75
     have j76 := hown
     have y76 := yn
     replace hsb := hsz.trans hsb
     replace hdb := hdf.trans hdb
     clear hle hch hown hob hns yn hsz hdf hoth
     obtain ⟨b, hbb⟩ : ∃ b, b = b2 := ⟨b2, rfl⟩
     subst hbb
     obtain ⟨q, hqq⟩ : ∃ q, q = q2 := ⟨q2, rfl⟩
     subst hqq
     refine tail_assign (i := 4) (d := 5) rfl rfl (.inl rfl) rfl (by rw [hsb]; decide) fun b2 hsz hdf hnew hoth => ?_
     have jn : (IsOwn 0 38 x15) (b2.get 5) q := by rw [hnew]; exact j76
     have yn : Lo k0 (obF (b2.get 5)) := by rw [hnew]; exact y76
     rw [← hoth 40 (by decide)] at j40
     rw [← hoth 41 (by decide)] at j41
     rw [← hoth 42 (by decide)] at j42
     rw [← hoth 75 (by decide)] at j75
     have j5 := jn
     have y5 := yn
     replace hsb := hsz.trans hsb
     replace hdb := hdf.trans hdb
     clear hsz hdf hoth
     obtain ⟨b, hbb⟩ : ∃ b, b = b2 := ⟨b2, rfl⟩
     subst hbb
     exact tail_done (k := q) (w18 _ _ ⟨⟨hgq, hsb, hdb⟩, j5, y5, j40, j41, j42, trivial⟩)
    rintro a k ⟨⟨hg, hs, hd⟩, i5, n5, i40, i41, i42, _⟩
    obtain rfl := Option.some.inj hr
    exact w13 _ _ ⟨⟨hg, hs, hd⟩, i5, n5, i40, i41, i42, trivial⟩
   clear hs4
   rintro a k ⟨⟨hg, hs, hd⟩, i5, n5, i40, i41, i42, _⟩
   obtain ⟨x16, hx16, hr⟩ := bind_some hr
   refine cut (fun a' k' => Bs noF k0 79 a' k' ∧ IsOwn 0 38 s4 (a'.get 5) k' ∧ Lo k0 (obF (a'.get 5)) ∧ (IsV x2) (a'.get 40) k' ∧ (IsL x2) (a'.get 41) k' ∧ (IsV x16) (a'.get 42) k' ∧ True) ?_ hQ ?_
   ·intro Q21 W21 w19
    refine gS 2 (_ :: _ :: []) hs (by kernel_rfl) ⟨o1 [(42, none)] rfl fun _ _ h n => ok_add rfl (up i42 h n.1) (cI rfl) hx16, cm 0 rfl rfl, trivial⟩ W21 fun b q p => ?_
    exact tail_done (k := q) (w19 _ _ ⟨Bs.post ⟨hg, hs, hd⟩ p, p.ke 5 rfl i5, (by rw [p.old 5 rfl]; exact n5), p.ke 40 rfl i40, p.ke 41 rfl i41, p.ou 1 42 rfl, trivial⟩)
   rintro a k ⟨⟨hg, hs, hd⟩, i5, n5, i40, i41, i42, _⟩
   exact hgo676 _ _ _ (Option.some.inj hr).symm ⟨⟨hg, hs, hd⟩, i5, n5, i40, i41, i42, trivial⟩
  rw [if_neg (by rw [hc703]; decide)] at hr
  refine wp_exit ?_
  obtain ⟨kk, sh702, ii5⟩ := i5.give
  replace i5 := ii5
  replace hg := hg.hand sh702 n5.wr
  rw [← sh702.w]
  clear sh702
  obtain ⟨k, hkk⟩ : ∃ k, k = kk := ⟨kk, rfl⟩
  subst hkk
  exact hex677 _ _ _ _ (Option.some.inj hr).symm ⟨rfl, ⟨hg, hs, hd⟩, i5, trivial⟩
 ·rintro r2 a k rfl hR
  dsimp only at hr
  obtain rfl := Option.some.inj hr
  exact hR
 ·rintro _ _ _ rfl _
  simp at hr
 clear hf2
 rintro _ s5 a k rfl ⟨rfl, ⟨hg, hs, hd⟩, i5, _⟩
 dsimp only at hr
 refine stepL 3 (_ :: _ :: ⟨some (IsV true), []⟩ :: []) rfl ⟨hg, hs, hd⟩ (by kernel_rfl) ⟨mu rfl i5, cp 0 rfl rfl, ob1 rfl fun _ _ h n => ok_assign rfl (isV_bool.2 rfl), trivial⟩ [⟨_, _⟩, ⟨_, _⟩] (fun b q p => ⟨p.ou 1 2 rfl, p.ou 2 3 rfl, trivial⟩) ?_
 rintro a k ⟨⟨hg, hs, hd⟩, i2, i3, _⟩
 refine wp_ret ?_
 obtain rfl := Option.some.inj hr
 exact retC2 rfl hd hg i2 i3
theorem calmX_ok {k0 : K} {v0 : Value} {stays_ : (List Stay)} {r : (List Stay) × Bool} (i0 : (IsV stays_) v0 k0) (hl : (stays_.length : Int) ≤ 100) (hr : iterL (calmG_L0 stays_) (stays_.length + 1) 0 = some (.ret r)) :
  Calls Try.prog 25 #[v0] k0.w (Ret k0 (IsTup2 (IsV r.1) (IsV r.2))) := by
 have hcl : cloneStays stays_ = some stays_ := by unfold cloneStays; rw [appI_some (by simpa using (by omega : stays_.length ≤ 1073741824))]; rfl
 refine Ret.ofC ?_
 refine enterK Try.func25 rfl Try.ntmps25 (show 1 ≤ 79 by decide) fun a k hk0 hs hd ha => ?_
 obtain ⟨e0, _⟩ := ha
 replace i0 : (IsV stays_) (a.get 0) k := by rw [e0, hk0]; exact i0
 have hQ : Gb.LetsOut (bodyPost Try.prog Try.f25 (RetC noF k0 (IsTup2 (IsV r.1) (IsV r.2)))) := letsOutC
 have hg : Chg noF k0 k := by rw [hk0]; exact Chg.refl _ k0
 refine stepL 2 (⟨some IsE0, []⟩ :: ⟨some (IsV false), []⟩ :: []) rfl ⟨hg, hs, hd⟩ (by kernel_rfl) ⟨ob1 rfl fun b q h n => ok_assign rfl isE0_nil, ob1 rfl fun _ _ h n => ok_assign rfl (isV_bool.2 rfl), trivial⟩ [⟨_, _⟩] (fun b q p => ⟨p.ke 0 rfl i0, trivial⟩) ?_
 rintro a k ⟨⟨hg, hs, hd⟩, i0, _⟩
 refine wp_seq ?_
 refine stepL 3 (_ :: _ :: _ :: []) rfl ⟨hg, hs, hd⟩ (by kernel_rfl) ⟨mu rfl i0, o1 [(11, some 0)] rfl fun _ _ h n => ok_len rfl rfl Try.underlying23 (IsV.rd n.1), o1 [(12, some 1)] rfl fun _ _ h n => ok_gtr rfl n.1 (cI rfl), trivial⟩ [⟨_, _⟩, ⟨_, _⟩] (fun b q p => ⟨p.ke 0 rfl i0, p.ou 2 13 rfl, trivial⟩) ?_
 rintro a k ⟨⟨hg, hs, hd⟩, i0, i13, _⟩
 refine wp_cond_split (isBool i13) (fun hc725 => ?_) (fun hc725 => ?_)
 ·exact absurd hl (by have := of_decide_eq_true hc725; omega)
 refine wp_skip ?_
 refine wp_seq ?_
 have hx1 := hcl
 refine cut (fun a' k' => Bs noF k0 79 a' k' ∧ (IsV stays_) (a'.get 0) k' ∧ IsOwn 0 38 stays_ (a'.get 4) k' ∧ Lo k0 (obF (a'.get 4)) ∧ True) ?_ hQ ?_
 ·intro Q2 W2 w2
  refine gS 3 (_ :: _ :: _ :: []) hs (by kernel_rfl) ⟨mu rfl i0, o1 [(14, some 0)] rfl fun _ _ h n => ok_call rfl Try.call38 (ret_weaken h.size (cloneStays_okO n.1 hx1)), cp 1 rfl rfl, trivial⟩ W2 fun b q p => ?_
  have hgq := hg.then p.grow
  have hsb := p.size.trans hs
  have hdb := p.defers.trans hd
  have j0 := p.ke 0 rfl i0
  have j4 : (IsOwn k.w.heap.size 38 stays_) (b.get 4) q := p.ou 2 4 rfl
  have x4 : Lo k (obF (b.get 4)) := j4.loF
  have y4 := x4.chg hg
  replace j4 := j4.weaken (Nat.zero_le _)
  exact tail_done (k := q) (w2 _ _ ⟨⟨hgq, hsb, hdb⟩, j0, j4, y4, trivial⟩)
 rintro a k ⟨⟨hg, hs, hd⟩, i0, i4, n4, _⟩
 refine wp_seq ?_
 refine cut (fun a' k' => Bs noF k0 79 a' k' ∧ (IsV stays_) (a'.get 0) k' ∧ (∃ x2 : List Stay, IsOwn 0 38 x2 (a'.get 4) k') ∧ Lo k0 (obF (a'.get 4)) ∧ True) ?_ hQ ?_
 ·intro Q3 W3 w3
  refine gS 1 (⟨some (OwnAt (a.get 4) 0 38 stays_), [(4, none)]⟩ :: []) hs (by kernel_rfl) ⟨ob1 rfl fun _ _ h n => ok_moveOA (.inl rfl) (ownAt n.1 (up i4 h n.1)), trivial⟩ W3 fun b q p => ?_
  have hgq := hg.then p.grow
  have hsb := p.size.trans hs
  have hdb := p.defers.trans hd
  have j0 := p.ke 0 rfl i0
  have j4 := p.ke 4 rfl i4
  have y4 : Lo k0 (obF (b.get 4)) := by rw [p.old 4 rfl]; exact n4
  have e16 : b.get 16 = a.get 4 := (p.ou 0 16 rfl).1
  have j16 : IsOwn 0 38 stays_ (b.get 16) q := (p.ou 0 16 rfl).2
  have y16 : Lo k0 (obF (b.get 16)) := by rw [e16]; exact n4
  have hns := j16.nshF
  have eS : b.get 4 = b.get 16 := (p.old 4 rfl).trans e16.symm
  refine tail_call (F := obF (b.get 16)) (i := 1) (d := 17) rfl rfl rfl rfl (by rw [hsb]; decide) Try.call39 W3 (sortAny_ok j16 (by omega)) fun b2 q2 hsz hdf hoth hch hres => ?_
  have hle := hch.le hns
  replace j0 := Pers.pers hle j0
  replace hgq := hgq.step hch y16.wr
  obtain ⟨x2, hres⟩ := hres
  replace j4 : IsOwn 0 38 x2 (b.get 4) q2 := by rw [eS]; exact hres
  clear hres eS
  rw [← hoth 0 (by decide)] at j0
  rw [← hoth 4 (by decide)] at j4
  rw [← hoth 4 (by decide)] at y4
  replace hsb := hsz.trans hsb
  replace hdb := hdf.trans hdb
  clear hle hch hns hsz hdf hoth
  obtain ⟨b, hbb⟩ : ∃ b, b = b2 := ⟨b2, rfl⟩
  subst hbb
  obtain ⟨q, hqq⟩ : ∃ q, q = q2 := ⟨q2, rfl⟩
  subst hqq
  exact tail_done (k := q) (w3 _ _ ⟨⟨hgq, hsb, hdb⟩, j0, ⟨x2, j4⟩, y4, trivial⟩)
 rintro a k ⟨⟨hg, hs, hd⟩, i0, ⟨x2, i4⟩, n4, _⟩
 refine wp_seq ?_
 obtain ⟨kk, sh648, ii4⟩ := i4.give
 replace i0 := Pers.pers sh648.le i0
 replace i4 := ii4
 replace hg := hg.hand sh648 n4.wr
 rw [← sh648.w]
 clear sh648
 obtain ⟨k, hkk⟩ : ∃ k, k = kk := ⟨kk, rfl⟩
 subst hkk
 refine cut (fun a' k' => Bs noF k0 79 a' k' ∧ (IsV stays_) (a'.get 0) k' ∧ (IsV x2) (a'.get 4) k' ∧ IsOwn 0 38 ([] : List Stay) (a'.get 5) k' ∧ Lo k0 (obF (a'.get 5)) ∧ True) ?_ hQ ?_
 ·intro Q4 W4 w4
  refine gS 1 (⟨some IsE0, []⟩ :: []) hs (by kernel_rfl) ⟨ob1 rfl fun b q h n => ok_assign rfl isE0_nil, trivial⟩ W4 fun b q p => ?_
  have hgq := hg.then p.grow
  have hsb := p.size.trans hs
  have hdb := p.defers.trans hd
  have j0 := p.ke 0 rfl i0
  have j4 := p.ke 4 rfl i4
  have j5 : IsE0 (b.get 5) q := p.ou 0 5 rfl
  have y5 : Lo k0 (obF (b.get 5)) := j5.lo
  replace j5 : IsOwn 0 38 ([] : List Stay) (b.get 5) q := j5.own0
  exact tail_done (k := q) (w4 _ _ ⟨⟨hgq, hsb, hdb⟩, j0, j4, j5, y5, trivial⟩)
 rintro a k ⟨⟨hg, hs, hd⟩, i0, i4, i5, n5, _⟩
 refine wp_seq ?_
 refine cutS (fun c l => Bs noF k0 79 c l ∧ IsV x2 (c.get 4) l ∧ IsOwn 0 38 ([] : List Stay) (c.get 5) l ∧ Lo k0 (obF (c.get 5)) ∧ IsV stays_ (c.get 18) l ∧ IsL stays_ (c.get 19) l ∧ IsI 0 (c.get 20) l ∧ True) ?_ ?_
 ·intro Q5 W5 w5
  refine gS 3 (_ :: _ :: ⟨some (IsI 0), []⟩ :: []) hs (by kernel_rfl) ⟨mu rfl i0, o1 [(18, some 0)] rfl fun _ _ h n => ok_len rfl rfl Try.underlying23 (IsV.rd n.1), ob1 rfl fun _ _ h n => ok_move rfl (cI rfl), trivial⟩ W5 fun b q p => ?_
  exact tail_done (k := q) (w5 _ _ ⟨Bs.post ⟨hg, hs, hd⟩ p, p.ke 4 rfl i4, p.ke 5 rfl i5, (by rw [p.old 5 rfl]; exact n5), p.ou 0 18 rfl, p.ou 1 19 rfl, p.ou 2 20 rfl, trivial⟩)
 rintro a k ⟨⟨hg, hs, hd⟩, i4, i5, n5, i18, i19, i20, _⟩
 refine wp_block ?_
 have hf1 := hr
 refine cutFe (Flow.ret r : Flow Int (List Stay × Bool)) (fun s' c l => Bs noF k0 79 c l ∧ IsV x2 (c.get 4) l ∧ IsOwn 0 38 ([] : List Stay) (c.get 5) l ∧ Lo k0 (obF (c.get 5)) ∧ IsV stays_ (c.get 18) l ∧ IsL stays_ (c.get 19) l ∧ IsV s' (c.get 20) l ∧ True) (fun i' s' c l => (i' = 0 ∧ Bs noF k0 79 c l ∧ IsV x2 (c.get 4) l ∧ IsOwn 0 38 ([] : List Stay) (c.get 5) l ∧ Lo k0 (obF (c.get 5)) ∧ True)) (fun r' c l => bodyPost Try.prog Try.f25 (RetC noF k0 (IsTup2 (IsV r'.1) (IsV r'.2))) .ret c l.w) ?_ hQ ?_ ?_ ?_
 ·intro Q6 W6 hgo hex hret
  refine sim_loop ?_ _ _ _ _ _ hf1 ⟨⟨hg, hs, hd⟩, i4, i5, n5, i18, i19, i20, trivial⟩ Q6 W6 hgo hex hret
  clear hr hf1 hgo hex hret W6 hQ hg hs hd i18 i19 i20 i4 i5 n5
  intro s1 fl_ a k hr hS Q hQ hgo652 hex653 hret654
  obtain ⟨⟨hg, hs, hd⟩, i4, i5, n5, i18, i19, i20, _⟩ := hS
  unfold calmG_L0 at hr
  refine cutS (fun c l => Bs noF k0 79 c l ∧ IsV x2 (c.get 4) l ∧ IsOwn 0 38 ([] : List Stay) (c.get 5) l ∧ Lo k0 (obF (c.get 5)) ∧ IsV stays_ (c.get 18) l ∧ IsL stays_ (c.get 19) l ∧ IsV s1 (c.get 20) l ∧ (IsV (decide (s1 < (stays_.length : Int)))) (c.get 21) l ∧ True) ?_ ?_
  ·intro Q7 W7 w6
   refine gS 1 (_ :: []) hs (by kernel_rfl) ⟨o1 [(20, none), (19, none)] rfl fun _ _ h n => ok_lss rfl (up i20 h n.1) (up i19 h n.2.1), trivial⟩ W7 fun b q p => ?_
   exact tail_done (k := q) (w6 _ _ ⟨Bs.post ⟨hg, hs, hd⟩ p, p.ke 4 rfl i4, p.ke 5 rfl i5, (by rw [p.old 5 rfl]; exact n5), p.ke 18 rfl i18, p.ke 19 rfl i19, p.ke 20 rfl i20, p.ou 0 21 rfl, trivial⟩)
  rintro a k ⟨⟨hg, hs, hd⟩, i4, i5, n5, i18, i19, i20, i21, _⟩
  refine wp_seq ?_
  refine wp_cond_split (isBool i21) (fun hc669 => ?_) (fun hc669 => ?_)
  ·rw [if_pos hc669] at hr
   refine wp_skip ?_
   refine wp_seq ?_
   refine wp_block ?_
   refine wp_seq ?_
   obtain ⟨x3, hx3, hr⟩ := bind_some hr
   refine cut (fun a' k' => Bs noF k0 79 a' k' ∧ (IsV x2) (a'.get 4) k' ∧ IsOwn 0 38 ([] : List Stay) (a'.get 5) k' ∧ Lo k0 (obF (a'.get 5)) ∧ (IsRef x3) (a'.get 7) k' ∧ (IsV stays_) (a'.get 18) k' ∧ (IsL stays_) (a'.get 19) k' ∧ (IsV s1) (a'.get 20) k' ∧ True) ?_ hQ ?_
   ·intro Q8 W8 w7
    refine gS 3 (_ :: _ :: ⟨some (IsBox k.w.heap.size (⟨0, 0⟩ : Stay)), []⟩ :: []) hs (by kernel_rfl) ⟨o1 [(18, none), (20, none)] rfl fun _ _ h n => ok_indexAddr rfl Try.underlying23 ty38 (IsV.rd (up i18 h n.1)) (up i20 h n.2.1) hx3, o1 [(22, some 0)] rfl fun _ _ h n => ok_load rfl ty38 n.1, ob1 rfl fun _ _ h n => ok_alloc _ h.size rfl z38, trivial⟩ W8 fun b q p => ?_
    have hgq := hg.then p.grow
    have hsb := p.size.trans hs
    have hdb := p.defers.trans hd
    have j4 := p.ke 4 rfl i4
    have j5 := p.ke 5 rfl i5
    have y5 : Lo k0 (obF (b.get 5)) := by rw [p.old 5 rfl]; exact n5
    obtain ⟨b7, j7, x7, z7⟩ : (IsBox k.w.heap.size (⟨0, 0⟩ : Stay)) (b.get 7) q := p.ou 2 7 rfl
    replace x7 : Lo k (Eq b7) := Lo.eq x7
    have y7 : Lo k0 (Eq b7) := x7.chg hg
    have j18 := p.ke 18 rfl i18
    have j19 := p.ke 19 rfl i19
    have j20 := p.ke 20 rfl i20
    have j23 : (IsV x3) (b.get 23) q := p.ou 1 23 rfl
    have w5_7 : Apart (obF (b.get 5)) (Eq b7) := Apart.new (by rw [p.old 5 rfl]; exact i5.ltF) x7
    have hns := z7.nshF
    refine tail_storeB (i := 3) rfl rfl rfl rfl szf38 (Upd.self (α := Stay)) j7 z7 j23 fun q2 hch hz => ?_
    replace hgq := hgq.step hch y7.wr
    have hle := hch.le hns
    replace j4 := Pers.pers hle j4
    replace j5 := j5.keep hch w5_7 hns
    replace j18 := Pers.pers hle j18
    replace j19 := Pers.pers hle j19
    replace j20 := Pers.pers hle j20
    replace j23 := Pers.pers hle j23
    replace z7 := hz
    clear hns hle hch
    obtain ⟨q, hqq⟩ : ∃ q, q = q2 := ⟨q2, rfl⟩
    subst hqq
    obtain ⟨q2, hsh, jn⟩ := z7.give
    replace j4 := Pers.pers hsh.le j4
    replace j5 := j5.handed hsh w5_7
    replace j18 := Pers.pers hsh.le j18
    replace j19 := Pers.pers hsh.le j19
    replace j20 := Pers.pers hsh.le j20
    rw [← j7] at jn
    replace j7 := jn
    replace hgq := hgq.hand hsh y7.wr
    rw [← hsh.w]
    clear hsh
    obtain ⟨q, hqq⟩ : ∃ q, q = q2 := ⟨q2, rfl⟩
    subst hqq
    exact tail_done (k := q) (w7 _ _ ⟨⟨hgq, hsb, hdb⟩, j4, j5, y5, j7, j18, j19, j20, trivial⟩)
   rintro a k ⟨⟨hg, hs, hd⟩, i4, i5, n5, i7, i18, i19, i20, _⟩
   refine cutS (fun c l => Bs noF k0 79 c l ∧ IsV x2 (c.get 4) l ∧ IsOwn 0 38 ([] : List Stay) (c.get 5) l ∧ Lo k0 (obF (c.get 5)) ∧ IsV stays_ (c.get 18) l ∧ IsL stays_ (c.get 19) l ∧ IsV s1 (c.get 20) l ∧ (IsV (((decide (x3.From < 0)) || (decide (x3.To < x3.From))) || (decide (1073741824 < x3.To)))) (c.get 38) l ∧ True) ?_ ?_
   ·intro Q9 W9 w8
    refine gS 15 (_ :: _ :: _ :: _ :: _ :: _ :: _ :: _ :: _ :: _ :: _ :: _ :: _ :: _ :: _ :: []) hs (by kernel_rfl) ⟨o1 [(7, none)] rfl fun _ _ h n => ok_fieldAddr rfl fo38_0 (at_Stay_0 _) ((up i7 h n.1)).ptr, o1 [(24, some 0)] rfl fun _ _ h n => ok_load rfl ty3 n.1, o1 [(25, some 1)] rfl fun _ _ h n => ok_lss rfl n.1 (cI rfl), cm 2 rfl rfl, gF [(7, none)] rfl rfl fun hp _ _ h n => ok_fieldAddr rfl fo38_0 (at_Stay_0 _) ((up i7 h n.1)).ptr, gF [(28, some 4)] rfl rfl fun hp _ _ h n => ok_load rfl ty3 (Gd.get n.1 hp), gF [(7, none)] rfl rfl fun hp _ _ h n => ok_fieldAddr rfl fo38_1 (at_Stay_1 _) ((up i7 h n.1)).ptr, gF [(30, some 6)] rfl rfl fun hp _ _ h n => ok_load rfl ty3 (Gd.get n.1 hp), gF [(29, some 5), (31, some 7)] rfl rfl fun hp _ _ h n => ok_gtr rfl (Gd.get n.1 hp) (Gd.get n.2.1 hp), o1 [(27, some 3), (32, some 8)] rfl fun _ _ h n => ok_pickOr rfl n.1 (cB rfl) (Gd.get n.2.1), cm 9 rfl rfl, gF [(7, none)] rfl rfl fun hp _ _ h n => ok_fieldAddr rfl fo38_1 (at_Stay_1 _) ((up i7 h n.1)).ptr, gF [(35, some 11)] rfl rfl fun hp _ _ h n => ok_load rfl ty3 (Gd.get n.1 hp), gF [(36, some 12)] rfl rfl fun hp _ _ h n => ok_gtr rfl (Gd.get n.1 hp) (cI rfl), o1 [(34, some 10), (37, some 13)] rfl fun _ _ h n => ok_pickOr rfl n.1 (cB rfl) (Gd.get n.2.1), trivial⟩ W9 fun b q p => ?_
    exact tail_done (k := q) (w8 _ _ ⟨Bs.post ⟨hg, hs, hd⟩ p, p.ke 4 rfl i4, p.ke 5 rfl i5, (by rw [p.old 5 rfl]; exact n5), p.ke 18 rfl i18, p.ke 19 rfl i19, p.ke 20 rfl i20, p.ou 14 38 rfl, trivial⟩)
   rintro a k ⟨⟨hg, hs, hd⟩, i4, i5, n5, i18, i19, i20, i38, _⟩
   refine wp_cond_split (isBool i38) (fun hc664 => ?_) (fun hc664 => ?_)
   ·rw [if_pos hc664] at hr
    refine cutL noF k0 79 [⟨2, IsV ([] : List Stay)⟩, ⟨3, IsV false⟩] ?_ ?_
    ·intro Q10 W10 w9
     refine gS 2 (⟨some IsE0, []⟩ :: ⟨some (IsV false), []⟩ :: []) hs (by kernel_rfl) ⟨ob1 rfl fun b q h n => ok_assign rfl isE0_nil, ob1 rfl fun _ _ h n => ok_assign rfl (isV_bool.2 rfl), trivial⟩ W10 fun b q p => ?_
     have hgq := hg.then p.grow
     have hsb := p.size.trans hs
     have hdb := p.defers.trans hd
     have j2 : IsE0 (b.get 2) q := p.ou 0 2 rfl
     have j3 : (IsV false) (b.get 3) q := p.ou 1 3 rfl
     replace j2 : IsV ([] : List Stay) (b.get 2) q := j2.isV
     exact tail_done (k := q) (w9 _ _ ⟨⟨hgq, hsb, hdb⟩, j2, j3, trivial⟩)
    rintro a k ⟨⟨hg, hs, hd⟩, i2, i3, _⟩
    refine wp_ret ?_
    exact hret654 _ _ _ (Option.some.inj hr).symm (retC2 rfl hd hg i2 i3)
   rw [if_neg (by rw [hc664]; decide)] at hr
   refine wp_skip ?_
   obtain ⟨x5, hx5, hr⟩ := bind_some hr
   refine cut (fun a' k' => Bs noF k0 79 a' k' ∧ (IsV x2) (a'.get 4) k' ∧ IsOwn 0 38 ([] : List Stay) (a'.get 5) k' ∧ Lo k0 (obF (a'.get 5)) ∧ (IsV stays_) (a'.get 18) k' ∧ (IsL stays_) (a'.get 19) k' ∧ (IsV x5) (a'.get 20) k' ∧ True) ?_ hQ ?_
   ·intro Q11 W11 w10
    refine gS 2 (_ :: _ :: []) hs (by kernel_rfl) ⟨o1 [(20, none)] rfl fun _ _ h n => ok_add rfl (up i20 h n.1) (cI rfl) hx5, cm 0 rfl rfl, trivial⟩ W11 fun b q p => ?_
    exact tail_done (k := q) (w10 _ _ ⟨Bs.post ⟨hg, hs, hd⟩ p, p.ke 4 rfl i4, p.ke 5 rfl i5, (by rw [p.old 5 rfl]; exact n5), p.ke 18 rfl i18, p.ke 19 rfl i19, p.ou 1 20 rfl, trivial⟩)
   rintro a k ⟨⟨hg, hs, hd⟩, i4, i5, n5, i18, i19, i20, _⟩
   exact hgo652 _ _ _ (Option.some.inj hr).symm ⟨⟨hg, hs, hd⟩, i4, i5, n5, i18, i19, i20, trivial⟩
  rw [if_neg (by rw [hc669]; decide)] at hr
  refine wp_exit ?_
  exact hex653 _ _ _ _ (Option.some.inj hr).symm ⟨rfl, ⟨hg, hs, hd⟩, i4, i5, n5, trivial⟩
 ·rintro r1 a k he hR
  obtain rfl := Flow.ret.inj he
  exact hR
 ·rintro _ _ _ he _
  exact absurd he (by simp)
 rintro _ s2 a k he _
 exact absurd he (by simp)

def calm (stays_ : List Stay) : Option (List Stay × Bool) :=
 if 100 < (stays_.length : Int) ∨ (sortStays stays_).isSome then calmG stays_
 else (iterL (calmG_L0 stays_) (stays_.length + 1) 0).bind fun f => match f with
  | .ret r => some r
  | _ => none
theorem calm_ok {k0 : K} {v0 : Value} {stays_ : (List Stay)} {r : (List Stay) × Bool} (i0 : (IsV stays_) v0 k0) (hr : calm stays_ = some r) :
  Calls Try.prog 25 #[v0] k0.w (Ret k0 (IsTup2 (IsV r.1) (IsV r.2))) := by
 unfold calm at hr
 by_cases h : 100 < (stays_.length : Int) ∨ (sortStays stays_).isSome
 · rw [if_pos h] at hr
   exact calmG_ok i0 hr
 · rw [if_neg h] at hr
   obtain ⟨f, hf, hr⟩ := bind_some hr
   cases f with
   | go _ => cases hr
   | ex _ _ => cases hr
   | ret r' =>
     obtain rfl := Option.some.inj hr
     exact calmX_ok i0 (by omega) hf

def calCounts_1 (s_ : Stay) (p1_ : Int) : Option (Bool) :=
 some ((decide (s_.From ≤ p1_)) && (decide (p1_ ≤ s_.To)))
theorem calCounts_1_ok {k0 : K} {v0 v1 : Value} {s_ : Stay} {p1_ : Int} {r : Bool} (i0 : (IsV s_) v0 k0) (i1 : (IsRef p1_) v1 k0) (hr : calCounts_1 s_ p1_ = some r) :
  Calls Try.prog 36 #[v0, v1] k0.w (Ret k0 (IsV r)) := by
 unfold calCounts_1 at hr
 refine Ret.ofC ?_
 refine enterK Try.func36 rfl Try.ntmps36 (show 2 ≤ 14 by decide) fun a k hk0 hs hd ha => ?_
 obtain ⟨e0, e1, _⟩ := ha
 replace i0 : (IsV s_) (a.get 0) k := by rw [e0, hk0]; exact i0
 replace i1 : (IsRef p1_) (a.get 1) k := by rw [e1, hk0]; exact i1
 have hQ : Gb.LetsOut (bodyPost Try.prog Try.f36 (RetC noF k0 (IsV r))) := letsOutC
 have hg : Chg noF k0 k := by rw [hk0]; exact Chg.refl _ k0
 refine stepL 2 (⟨some (IsRef s_), [(0, none)]⟩ :: ⟨some (IsV false), []⟩ :: []) rfl ⟨hg, hs, hd⟩ (by kernel_rfl) ⟨ob1 rfl fun _ _ h n => ok_boxR rfl (up i0 h n.1), ob1 rfl fun _ _ h n => ok_assign rfl (isV_bool.2 rfl), trivial⟩ [⟨_, _⟩, ⟨_, _⟩] (fun b q p => ⟨p.ke 1 rfl i1, p.ou 0 2 rfl, trivial⟩) ?_
 rintro a k ⟨⟨hg, hs, hd⟩, i1, i2, _⟩
 refine stepL 11 (_ :: _ :: _ :: _ :: _ :: _ :: _ :: _ :: _ :: _ :: _ :: []) rfl ⟨hg, hs, hd⟩ (by kernel_rfl) ⟨o1 [(2, none)] rfl fun _ _ h n => ok_fieldAddr rfl fo38_0 (at_Stay_0 _) ((up i2 h n.1)).ptr, o1 [(4, some 0)] rfl fun _ _ h n => ok_load rfl ty3 n.1, o1 [(1, none)] rfl fun _ _ h n => ok_load rfl ty3 ((up i1 h n.1)).ptr, o1 [(5, some 1), (6, some 2)] rfl fun _ _ h n => ok_leq rfl n.1 n.2.1, cm 3 rfl rfl, gT [(1, none)] rfl rfl fun hp _ _ h n => ok_load rfl ty3 ((up i1 h n.1)).ptr, gT [(2, none)] rfl rfl fun hp _ _ h n => ok_fieldAddr rfl fo38_1 (at_Stay_1 _) ((up i2 h n.1)).ptr, gT [(10, some 6)] rfl rfl fun hp _ _ h n => ok_load rfl ty3 (Gd.get n.1 hp), gT [(9, some 5), (11, some 7)] rfl rfl fun hp _ _ h n => ok_leq rfl (Gd.get n.1 hp) (Gd.get n.2.1 hp), o1 [(8, some 4), (12, some 8)] rfl fun _ _ h n => ok_pickAnd rfl n.1 (Gd.get n.2.1) (cB rfl), cp 9 rfl rfl, trivial⟩ [⟨_, _⟩] (fun b q p => ⟨p.ou 10 3 rfl, trivial⟩) ?_
 rintro a k ⟨⟨hg, hs, hd⟩, i3, _⟩
 refine wp_ret ?_
 obtain rfl := Option.some.inj hr
 exact retC1 rfl hd hg i3
def calCounts (holidays_ : (List Int)) (stays_ : (List Stay)) (day_ : Int) : Option (Bool) :=
 (calm stays_).bind fun x1 =>
 (if (!x1.2) then
  some true
 else
  (calRight holidays_).bind fun x2 =>
  some (!x2)).bind fun x3 =>
 (if x3 then
  some true
 else
  (isDay day_).bind fun x4 =>
  some (!x4)).bind fun x5 =>
 (if x5 then
  some true
 else
  (remI day_ 7).bind fun x6 =>
  some (decide (5 ≤ x6))).bind fun x7 =>
 if x7 then
  some false
 else
  (binSearch holidays_ day_).bind fun x8 =>
  if x8.2 then
   some false
  else
   (containsFunc stays_ (fun y0 => calCounts_1 y0 day_)).bind fun x9 =>
   some (!x9)
theorem calCounts_ok {k0 : K} {v0 v1 v2 : Value} {holidays_ : (List Int)} {stays_ : (List Stay)} {day_ : Int} {r : Bool} (i0 : (IsV holidays_) v0 k0) (i1 : (IsV stays_) v1 k0) (i2 : (IsV day_) v2 k0) (hr : calCounts holidays_ stays_ day_ = some r) :
  Calls Try.prog 17 #[v0, v1, v2] k0.w (Ret k0 (IsV r)) := by
 unfold calCounts at hr
 refine Ret.ofC ?_
 refine enterK Try.func17 rfl Try.ntmps17 (show 3 ≤ 44 by decide) fun a k hk0 hs hd ha => ?_
 obtain ⟨e0, e1, e2, _⟩ := ha
 replace i0 : (IsV holidays_) (a.get 0) k := by rw [e0, hk0]; exact i0
 replace i1 : (IsV stays_) (a.get 1) k := by rw [e1, hk0]; exact i1
 replace i2 : (IsV day_) (a.get 2) k := by rw [e2, hk0]; exact i2
 have hQ : Gb.LetsOut (bodyPost Try.prog Try.f17 (RetC noF k0 (IsV r))) := letsOutC
 have hg : Chg noF k0 k := by rw [hk0]; exact Chg.refl _ k0
 refine stepL 2 (⟨some (IsRef day_), [(2, none)]⟩ :: ⟨some (IsV false), []⟩ :: []) rfl ⟨hg, hs, hd⟩ (by kernel_rfl) ⟨ob1 rfl fun _ _ h n => ok_boxR rfl (up i2 h n.1), ob1 rfl fun _ _ h n => ok_assign rfl (isV_bool.2 rfl), trivial⟩ [⟨_, _⟩, ⟨_, _⟩, ⟨_, _⟩] (fun b q p => ⟨p.ke 0 rfl i0, p.ke 1 rfl i1, p.ou 0 5 rfl, trivial⟩) ?_
 rintro a k ⟨⟨hg, hs, hd⟩, i0, i1, i5, _⟩
 refine wp_seq ?_
 refine wp_seq ?_
 obtain ⟨x1, hx1, hr⟩ := bind_some hr
 refine cut (fun a' k' => Bs noF k0 44 a' k' ∧ (IsV holidays_) (a'.get 0) k' ∧ (IsV stays_) (a'.get 1) k' ∧ (IsRef day_) (a'.get 5) k' ∧ (IsV x1.2) (a'.get 8) k' ∧ True) ?_ hQ ?_
 ·intro Q1 W1 w1
  refine gS 7 (_ :: _ :: _ :: _ :: _ :: _ :: _ :: []) hs (by kernel_rfl) ⟨mu rfl i1, o1 [(12, some 0)] rfl fun _ _ h n => ok_call rfl Try.call25 (calm_ok n.1 hx1), cm 1 rfl rfl, o1 [(11, some 2)] rfl fun _ _ h n => ok_ext2_0 rfl n.1, o1 [(11, some 2)] rfl fun _ _ h n => ok_ext2_1 rfl n.1, cp 3 rfl rfl, cp 4 rfl rfl, trivial⟩ W1 fun b q p => ?_
  exact tail_done (k := q) (w1 _ _ ⟨Bs.post ⟨hg, hs, hd⟩ p, p.ke 0 rfl i0, p.ke 1 rfl i1, p.ke 5 rfl i5, p.ou 6 8 rfl, trivial⟩)
 rintro a k ⟨⟨hg, hs, hd⟩, i0, i1, i5, i8, _⟩
 refine wp_seq ?_
 obtain ⟨x2, hx2, hr⟩ := bind_some hr
 obtain ⟨x3, hx3, hx2⟩ := ite_bindF hx2
 obtain ⟨x4, hx4, hr⟩ := bind_some hr
 obtain ⟨x5, hx5, hx4⟩ := ite_bindF hx4
 obtain ⟨x6, hx6, hr⟩ := bind_some hr
 obtain ⟨x7, hx7, hx6⟩ := ite_bindF hx6
 refine cut (fun a' k' => Bs noF k0 44 a' k' ∧ (IsV holidays_) (a'.get 0) k' ∧ (IsV stays_) (a'.get 1) k' ∧ (IsRef day_) (a'.get 5) k' ∧ (IsV x6) (a'.get 32) k' ∧ True) ?_ hQ ?_
 ·intro Q2 W2 w2
  refine gS 17 (_ :: _ :: _ :: _ :: _ :: _ :: _ :: _ :: _ :: _ :: _ :: _ :: _ :: _ :: _ :: _ :: _ :: []) hs (by kernel_rfl) ⟨mu rfl i8, o1 [(16, some 0)] rfl fun _ _ h n => ok_not rfl n.1, cm 1 rfl rfl, mF rfl rfl i0, gF [(19, some 3)] rfl rfl fun hp _ _ h n => ok_call rfl Try.call13 (calRight_ok (Gd.get n.1 hp) (hx3 hp)), gF [(20, some 4)] rfl rfl fun hp _ _ h n => ok_not rfl (Gd.get n.1 hp), o1 [(18, some 2), (21, some 5)] rfl fun _ _ h n => ok_pickM rfl n.1 hx2 (cB rfl) (Gd.get n.2.1), cm 6 rfl rfl, gF [(5, none)] rfl rfl fun hp _ _ h n => ok_load rfl ty3 ((up i5 h n.1)).ptr, gF [(24, some 8)] rfl rfl fun hp _ _ h n => ok_call rfl Try.call26 (isDay_ok (Gd.get n.1 hp) (hx5 hp)), gF [(25, some 9)] rfl rfl fun hp _ _ h n => ok_not rfl (Gd.get n.1 hp), o1 [(23, some 7), (26, some 10)] rfl fun _ _ h n => ok_pickM rfl n.1 hx4 (cB rfl) (Gd.get n.2.1), cm 11 rfl rfl, gF [(5, none)] rfl rfl fun hp _ _ h n => ok_load rfl ty3 ((up i5 h n.1)).ptr, gF [(29, some 13)] rfl rfl fun hp _ _ h n => ok_rem rfl (Gd.get n.1 hp) (cI rfl) (hx7 hp), gF [(30, some 14)] rfl rfl fun hp _ _ h n => ok_geq rfl (Gd.get n.1 hp) (cI rfl), o1 [(28, some 12), (31, some 15)] rfl fun _ _ h n => ok_pickM rfl n.1 hx6 (cB rfl) (Gd.get n.2.1), trivial⟩ W2 fun b q p => ?_
  exact tail_done (k := q) (w2 _ _ ⟨Bs.post ⟨hg, hs, hd⟩ p, p.ke 0 rfl i0, p.ke 1 rfl i1, p.ke 5 rfl i5, p.ou 16 32 rfl, trivial⟩)
 rintro a k ⟨⟨hg, hs, hd⟩, i0, i1, i5, i32, _⟩
 refine wp_cond_split (isBool i32) (fun hc755 => ?_) (fun hc755 => ?_)
 ·rw [if_pos hc755] at hr
  refine stepL 1 (⟨some (IsV false), []⟩ :: []) rfl ⟨hg, hs, hd⟩ (by kernel_rfl) ⟨ob1 rfl fun _ _ h n => ok_assign rfl (isV_bool.2 rfl), trivial⟩ [⟨_, _⟩] (fun b q p => ⟨p.ou 0 6 rfl, trivial⟩) ?_
  rintro a k ⟨⟨hg, hs, hd⟩, i6, _⟩
  refine wp_ret ?_
  obtain rfl := Option.some.inj hr
  exact retC1 rfl hd hg i6
 rw [if_neg (by rw [hc755]; decide)] at hr
 refine wp_skip ?_
 refine wp_seq ?_
 refine wp_seq ?_
 obtain ⟨x8, hx8, hr⟩ := bind_some hr
 refine cut (fun a' k' => Bs noF k0 44 a' k' ∧ (IsV stays_) (a'.get 1) k' ∧ (IsRef day_) (a'.get 5) k' ∧ (IsV x8.2) (a'.get 10) k' ∧ True) ?_ hQ ?_
 ·intro Q3 W3 w3
  refine gS 8 (_ :: _ :: _ :: _ :: _ :: _ :: _ :: _ :: []) hs (by kernel_rfl) ⟨mu rfl i0, o1 [(5, none)] rfl fun _ _ h n => ok_load rfl ty3 ((up i5 h n.1)).ptr, o1 [(34, some 0), (35, some 1)] rfl fun _ _ h n => ok_call rfl Try.call34 (binSearch_ok n.1 n.2.1 hx8), cm 2 rfl rfl, o1 [(33, some 3)] rfl fun _ _ h n => ok_ext2_0 rfl n.1, o1 [(33, some 3)] rfl fun _ _ h n => ok_ext2_1 rfl n.1, cp 4 rfl rfl, cp 5 rfl rfl, trivial⟩ W3 fun b q p => ?_
  exact tail_done (k := q) (w3 _ _ ⟨Bs.post ⟨hg, hs, hd⟩ p, p.ke 1 rfl i1, p.ke 5 rfl i5, p.ou 7 10 rfl, trivial⟩)
 rintro a k ⟨⟨hg, hs, hd⟩, i1, i5, i10, _⟩
 refine stepL 1 (_ :: []) rfl ⟨hg, hs, hd⟩ (by kernel_rfl) ⟨mu rfl i10, trivial⟩ [⟨_, _⟩, ⟨_, _⟩, ⟨_, _⟩] (fun b q p => ⟨p.ke 1 rfl i1, p.ke 5 rfl i5, p.ou 0 39 rfl, trivial⟩) ?_
 rintro a k ⟨⟨hg, hs, hd⟩, i1, i5, i39, _⟩
 refine wp_cond_split (isBool i39) (fun hc750 => ?_) (fun hc750 => ?_)
 ·rw [if_pos hc750] at hr
  refine stepL 1 (⟨some (IsV false), []⟩ :: []) rfl ⟨hg, hs, hd⟩ (by kernel_rfl) ⟨ob1 rfl fun _ _ h n => ok_assign rfl (isV_bool.2 rfl), trivial⟩ [⟨_, _⟩] (fun b q p => ⟨p.ou 0 6 rfl, trivial⟩) ?_
  rintro a k ⟨⟨hg, hs, hd⟩, i6, _⟩
  refine wp_ret ?_
  obtain rfl := Option.some.inj hr
  exact retC1 rfl hd hg i6
 rw [if_neg (by rw [hc750]; decide)] at hr
 refine wp_skip ?_
 refine wp_seq ?_
 obtain ⟨x9, hx9, hr⟩ := bind_some hr
 refine cut (fun a' k' => Bs noF k0 44 a' k' ∧ (IsV (!x9)) (a'.get 6) k' ∧ True) ?_ hQ ?_
 ·intro Q4 W4 w4
  refine gS 5 (_ :: ⟨some (IsFn1 Try.prog (fun y0 => calCounts_1 y0 day_)), [(5, none)]⟩ :: _ :: _ :: _ :: []) hs (by kernel_rfl) ⟨mu rfl i1, ob1 rfl fun _ _ h n => ok_makeFunc (first := []) (captured := [.tmp 5]) rfl ⟨36, _, _, rfl, Try.call36, fun k9 hk9 _ _ _ hx0 hy9 => by simpa [evalT] using calCounts_1_ok hx0 (Pers.pers hk9 (up i5 h n.1)) hy9⟩, o1 [(40, some 0), (41, some 1)] rfl fun _ _ h n => ok_call rfl Try.call35 (containsFunc_ok n.1 n.2.1 hx9), o1 [(42, some 2)] rfl fun _ _ h n => ok_not rfl n.1, cp 3 rfl rfl, trivial⟩ W4 fun b q p => ?_
  exact tail_done (k := q) (w4 _ _ ⟨Bs.post ⟨hg, hs, hd⟩ p, p.ou 4 6 rfl, trivial⟩)
 rintro a k ⟨⟨hg, hs, hd⟩, i6, _⟩
 refine wp_ret ?_
 obtain rfl := Option.some.inj hr
 exact retC1 rfl hd hg i6
def calDeadline_1 (i_ : Int) (p1_ : (List Int)) (p2_ : (List Stay)) (p3_ : Int) (p4_ : Int) : Option (Bool) :=
 (addI p3_ 1).bind fun x1 =>
 (addI x1 i_).bind fun x2 =>
 (calCountG p1_ p2_ p3_ x2).bind fun x3 =>
 some (decide (p4_ ≤ x3))
theorem calDeadline_1_ok {k0 : K} {v0 v1 v2 v3 v4 : Value} {i_ : Int} {p1_ : (List Int)} {p2_ : (List Stay)} {p3_ : Int} {p4_ : Int} {r : Bool} (i0 : (IsV i_) v0 k0) (i1 : (IsRef p1_) v1 k0) (i2 : (IsRef p2_) v2 k0) (i3 : (IsRef p3_) v3 k0) (i4 : (IsRef p4_) v4 k0) (hr : calDeadline_1 i_ p1_ p2_ p3_ p4_ = some r) :
  Calls Try.prog 28 #[v0, v1, v2, v3, v4] k0.w (Ret k0 (IsV r)) := by
 unfold calDeadline_1 at hr
 refine Ret.ofC ?_
 refine enterK Try.func28 rfl Try.ntmps28 (show 5 ≤ 17 by decide) fun a k hk0 hs hd ha => ?_
 obtain ⟨e0, e1, e2, e3, e4, _⟩ := ha
 replace i0 : (IsV i_) (a.get 0) k := by rw [e0, hk0]; exact i0
 replace i1 : (IsRef p1_) (a.get 1) k := by rw [e1, hk0]; exact i1
 replace i2 : (IsRef p2_) (a.get 2) k := by rw [e2, hk0]; exact i2
 replace i3 : (IsRef p3_) (a.get 3) k := by rw [e3, hk0]; exact i3
 replace i4 : (IsRef p4_) (a.get 4) k := by rw [e4, hk0]; exact i4
 have hQ : Gb.LetsOut (bodyPost Try.prog Try.f28 (RetC noF k0 (IsV r))) := letsOutC
 have hg : Chg noF k0 k := by rw [hk0]; exact Chg.refl _ k0
 refine stepL 1 (⟨some (IsV false), []⟩ :: []) rfl ⟨hg, hs, hd⟩ (by kernel_rfl) ⟨ob1 rfl fun _ _ h n => ok_assign rfl (isV_bool.2 rfl), trivial⟩ [⟨_, _⟩, ⟨_, _⟩, ⟨_, _⟩, ⟨_, _⟩, ⟨_, _⟩] (fun b q p => ⟨p.ke 0 rfl i0, p.ke 1 rfl i1, p.ke 2 rfl i2, p.ke 3 rfl i3, p.ke 4 rfl i4, trivial⟩) ?_
 rintro a k ⟨⟨hg, hs, hd⟩, i0, i1, i2, i3, i4, _⟩
 refine wp_seq ?_
 obtain ⟨x1, hx1, hr⟩ := bind_some hr
 obtain ⟨x2, hx2, hr⟩ := bind_some hr
 obtain ⟨x3, hx3, hr⟩ := bind_some hr
 refine cut (fun a' k' => Bs noF k0 17 a' k' ∧ (IsV (decide (p4_ ≤ x3))) (a'.get 6) k' ∧ True) ?_ hQ ?_
 ·intro Q1 W1 w1
  refine region (m := 11) (_ :: _ :: _ :: _ :: _ :: _ :: _ :: _ :: _ :: _ :: _ :: []) hmix hs (by kernel_rfl) ⟨o1 [(1, none)] rfl fun _ _ h n => ok_load rfl ty22 ((up i1 h n.1)).ptr, o1 [(2, none)] rfl fun _ _ h n => ok_load rfl ty23 ((up i2 h n.1)).ptr, o1 [(3, none)] rfl fun _ _ h n => ok_load rfl ty3 ((up i3 h n.1)).ptr, o1 [(3, none)] rfl fun _ _ h n => ok_load rfl ty3 ((up i3 h n.1)).ptr, o1 [(10, some 3)] rfl fun _ _ h n => ok_add rfl n.1 (cI rfl) hx1, mu rfl i0, o1 [(11, some 4), (12, some 5)] rfl fun _ _ h n => ok_add rfl n.1 n.2.1 hx2, o1 [(7, some 0), (8, some 1), (9, some 2), (13, some 6)] rfl fun _ _ h n => ok_call rfl Try.call29 (calCountG_ok n.1 n.2.1 n.2.2.1 n.2.2.2.1 hx3), o1 [(4, none)] rfl fun _ _ h n => ok_load rfl ty3 ((up i4 h n.1)).ptr, o1 [(14, some 7), (15, some 8)] rfl fun _ _ h n => ok_geq rfl n.1 n.2.1, cp 9 rfl rfl, trivial⟩ W1 fun b q p => ?_
  exact tail_done (k := q) (w1 _ _ ⟨Bs.post ⟨hg, hs, hd⟩ p, p.ou 10 6 rfl, trivial⟩)
 rintro a k ⟨⟨hg, hs, hd⟩, i6, _⟩
 refine wp_ret ?_
 obtain rfl := Option.some.inj hr
 exact retC1 rfl hd hg i6
def calDeadline (holidays_ : (List Int)) (stays_ : (List Stay)) (day_ : Int) (n_ : Int) : Option (Int × Int) :=
 (calm stays_).bind fun x1 =>
 (if (!x1.2) then
  some true
 else
  (calRight holidays_).bind fun x2 =>
  some (!x2)).bind fun x3 =>
 (if x3 then
  some true
 else
  (isDay day_).bind fun x4 =>
  some (!x4)).bind fun x5 =>
 (if x5 then
  some true
 else
  (isDay n_).bind fun x6 =>
  some (!x6)).bind fun x7 =>
 if x7 then
  some (0, 1)
 else
  if (n_ == 0) then
   some (day_, 0)
  else
   (subI 1073741824 day_).bind fun x8 =>
   (search x8 (fun y0 => calDeadline_1 y0 holidays_ x1.1 day_ n_)).bind fun x9 =>
   if (x9 == x8) then
    some (0, 20)
   else
    (addI day_ 1).bind fun x10 =>
    (addI x10 x9).bind fun x11 =>
    some (x11, 0)
theorem calDeadline_ok {k0 : K} {v0 v1 v2 v3 : Value} {holidays_ : (List Int)} {stays_ : (List Stay)} {day_ : Int} {n_ : Int} {r : Int × Int} (i0 : (IsV holidays_) v0 k0) (i1 : (IsV stays_) v1 k0) (i2 : (IsV day_) v2 k0) (i3 : (IsV n_) v3 k0) (hr : calDeadline holidays_ stays_ day_ n_ = some r) :
  Calls Try.prog 11 #[v0, v1, v2, v3] k0.w (Ret k0 (IsTup2 (IsV r.1) (IsV r.2))) := by
 unfold calDeadline at hr
 refine Ret.ofC ?_
 refine enterK Try.func11 rfl Try.ntmps11 (show 4 ≤ 51 by decide) fun a k hk0 hs hd ha => ?_
 obtain ⟨e0, e1, e2, e3, _⟩ := ha
 replace i0 : (IsV holidays_) (a.get 0) k := by rw [e0, hk0]; exact i0
 replace i1 : (IsV stays_) (a.get 1) k := by rw [e1, hk0]; exact i1
 replace i2 : (IsV day_) (a.get 2) k := by rw [e2, hk0]; exact i2
 replace i3 : (IsV n_) (a.get 3) k := by rw [e3, hk0]; exact i3
 have hQ : Gb.LetsOut (bodyPost Try.prog Try.f11 (RetC noF k0 (IsTup2 (IsV r.1) (IsV r.2)))) := letsOutC
 have hg : Chg noF k0 k := by rw [hk0]; exact Chg.refl _ k0
 refine stepL 5 (⟨some (IsRef holidays_), [(0, none)]⟩ :: ⟨some (IsRef day_), [(2, none)]⟩ :: ⟨some (IsRef n_), [(3, none)]⟩ :: ⟨some (IsI 0), []⟩ :: ⟨some (IsI 0), []⟩ :: []) rfl ⟨hg, hs, hd⟩ (by kernel_rfl) ⟨ob1 rfl fun _ _ h n => ok_boxR rfl (up i0 h n.1), ob1 rfl fun _ _ h n => ok_boxR rfl (up i2 h n.1), ob1 rfl fun _ _ h n => ok_boxR rfl (up i3 h n.1), aI rfl rfl, aI rfl rfl, trivial⟩ [⟨_, _⟩, ⟨_, _⟩, ⟨_, _⟩, ⟨_, _⟩] (fun b q p => ⟨p.ke 1 rfl i1, p.ou 0 4 rfl, p.ou 1 6 rfl, p.ou 2 7 rfl, trivial⟩) ?_
 rintro a k ⟨⟨hg, hs, hd⟩, i1, i4, i6, i7, _⟩
 refine wp_seq ?_
 obtain ⟨x1, hx1, hr⟩ := bind_some hr
 refine cut (fun a' k' => Bs noF k0 51 a' k' ∧ (IsRef holidays_) (a'.get 4) k' ∧ (IsRef day_) (a'.get 6) k' ∧ (IsRef n_) (a'.get 7) k' ∧ (IsRef x1.1) (a'.get 10) k' ∧ (IsV x1.2) (a'.get 11) k' ∧ True) ?_ hQ ?_
 ·intro Q1 W1 w1
  refine gS 6 (_ :: _ :: _ :: _ :: _ :: ⟨some (IsBox k.w.heap.size ([])), []⟩ :: []) hs (by kernel_rfl) ⟨mu rfl i1, o1 [(15, some 0)] rfl fun _ _ h n => ok_call rfl Try.call25 (calm_ok n.1 hx1), cm 1 rfl rfl, o1 [(14, some 2)] rfl fun _ _ h n => ok_ext2_0 rfl n.1, o1 [(14, some 2)] rfl fun _ _ h n => ok_ext2_1 rfl n.1, ob1 rfl fun _ _ h n => ok_alloc _ h.size rfl z23, trivial⟩ W1 fun b q p => ?_
  have hgq := hg.then p.grow
  have hsb := p.size.trans hs
  have hdb := p.defers.trans hd
  have j4 := p.ke 4 rfl i4
  have j6 := p.ke 6 rfl i6
  have j7 := p.ke 7 rfl i7
  obtain ⟨b10, j10, x10, z10⟩ : (IsBox k.w.heap.size ([])) (b.get 10) q := p.ou 5 10 rfl
  replace x10 : Lo k (Eq b10) := Lo.eq x10
  have y10 : Lo k0 (Eq b10) := x10.chg hg
  have j17 : (IsV x1.1) (b.get 17) q := p.ou 3 17 rfl
  have j18 : (IsV x1.2) (b.get 18) q := p.ou 4 18 rfl
  have hns := z10.nshF
  refine tail_storeB (i := 6) rfl rfl rfl rfl szf23 (Upd.self (α := (List Stay))) j10 z10 j17 fun q2 hch hz => ?_
  replace hgq := hgq.step hch y10.wr
  have hle := hch.le hns
  replace j4 := Pers.pers hle j4
  replace j6 := Pers.pers hle j6
  replace j7 := Pers.pers hle j7
  replace j17 := Pers.pers hle j17
  replace j18 := Pers.pers hle j18
  replace z10 := hz
  clear hns hle hch
  obtain ⟨q, hqq⟩ : ∃ q, q = q2 := ⟨q2, rfl⟩
  subst hqq
  refine tail_assign (i := 7) (d := 11) rfl rfl (.inl rfl) rfl (by rw [hsb]; decide) fun b2 hsz hdf hnew hoth => ?_
  have jn : (IsV x1.2) (b2.get 11) q := by rw [hnew]; exact j18
  rw [← hoth 4 (by decide)] at j4
  rw [← hoth 6 (by decide)] at j6
  rw [← hoth 7 (by decide)] at j7
  rw [← hoth 10 (by decide)] at j10
  rw [← hoth 17 (by decide)] at j17
  rw [← hoth 18 (by decide)] at j18
  have j11 := jn
  replace hsb := hsz.trans hsb
  replace hdb := hdf.trans hdb
  clear hsz hdf hoth
  obtain ⟨b, hbb⟩ : ∃ b, b = b2 := ⟨b2, rfl⟩
  subst hbb
  obtain ⟨q2, hsh, jn⟩ := z10.give
  replace j4 := Pers.pers hsh.le j4
  replace j6 := Pers.pers hsh.le j6
  replace j7 := Pers.pers hsh.le j7
  replace j11 := Pers.pers hsh.le j11
  rw [← j10] at jn
  replace j10 := jn
  replace hgq := hgq.hand hsh y10.wr
  rw [← hsh.w]
  clear hsh
  obtain ⟨q, hqq⟩ : ∃ q, q = q2 := ⟨q2, rfl⟩
  subst hqq
  exact tail_done (k := q) (w1 _ _ ⟨⟨hgq, hsb, hdb⟩, j4, j6, j7, j10, j11, trivial⟩)
 rintro a k ⟨⟨hg, hs, hd⟩, i4, i6, i7, i10, i11, _⟩
 refine wp_seq ?_
 refine wp_seq ?_
 obtain ⟨x2, hx2, hr⟩ := bind_some hr
 obtain ⟨x3, hx3, hx2⟩ := ite_bindF hx2
 obtain ⟨x4, hx4, hr⟩ := bind_some hr
 obtain ⟨x5, hx5, hx4⟩ := ite_bindF hx4
 obtain ⟨x6, hx6, hr⟩ := bind_some hr
 obtain ⟨x7, hx7, hx6⟩ := ite_bindF hx6
 refine cut (fun a' k' => Bs noF k0 51 a' k' ∧ (IsRef holidays_) (a'.get 4) k' ∧ (IsRef day_) (a'.get 6) k' ∧ (IsRef n_) (a'.get 7) k' ∧ (IsRef x1.1) (a'.get 10) k' ∧ (IsV x6) (a'.get 35) k' ∧ True) ?_ hQ ?_
 ·intro Q2 W2 w2
  refine gS 17 (_ :: _ :: _ :: _ :: _ :: _ :: _ :: _ :: _ :: _ :: _ :: _ :: _ :: _ :: _ :: _ :: _ :: []) hs (by kernel_rfl) ⟨mu rfl i11, o1 [(19, some 0)] rfl fun _ _ h n => ok_not rfl n.1, cm 1 rfl rfl, gF [(4, none)] rfl rfl fun hp _ _ h n => ok_load rfl ty22 ((up i4 h n.1)).ptr, gF [(22, some 3)] rfl rfl fun hp _ _ h n => ok_call rfl Try.call13 (calRight_ok (Gd.get n.1 hp) (hx3 hp)), gF [(23, some 4)] rfl rfl fun hp _ _ h n => ok_not rfl (Gd.get n.1 hp), o1 [(21, some 2), (24, some 5)] rfl fun _ _ h n => ok_pickM rfl n.1 hx2 (cB rfl) (Gd.get n.2.1), cm 6 rfl rfl, gF [(6, none)] rfl rfl fun hp _ _ h n => ok_load rfl ty3 ((up i6 h n.1)).ptr, gF [(27, some 8)] rfl rfl fun hp _ _ h n => ok_call rfl Try.call26 (isDay_ok (Gd.get n.1 hp) (hx5 hp)), gF [(28, some 9)] rfl rfl fun hp _ _ h n => ok_not rfl (Gd.get n.1 hp), o1 [(26, some 7), (29, some 10)] rfl fun _ _ h n => ok_pickM rfl n.1 hx4 (cB rfl) (Gd.get n.2.1), cm 11 rfl rfl, gF [(7, none)] rfl rfl fun hp _ _ h n => ok_load rfl ty3 ((up i7 h n.1)).ptr, gF [(32, some 13)] rfl rfl fun hp _ _ h n => ok_call rfl Try.call26 (isDay_ok (Gd.get n.1 hp) (hx7 hp)), gF [(33, some 14)] rfl rfl fun hp _ _ h n => ok_not rfl (Gd.get n.1 hp), o1 [(31, some 12), (34, some 15)] rfl fun _ _ h n => ok_pickM rfl n.1 hx6 (cB rfl) (Gd.get n.2.1), trivial⟩ W2 fun b q p => ?_
  exact tail_done (k := q) (w2 _ _ ⟨Bs.post ⟨hg, hs, hd⟩ p, p.ke 4 rfl i4, p.ke 6 rfl i6, p.ke 7 rfl i7, p.ke 10 rfl i10, p.ou 16 35 rfl, trivial⟩)
 rintro a k ⟨⟨hg, hs, hd⟩, i4, i6, i7, i10, i35, _⟩
 refine wp_cond_split (isBool i35) (fun hc797 => ?_) (fun hc797 => ?_)
 ·rw [if_pos hc797] at hr
  refine stepL 2 (⟨some (IsI 0), []⟩ :: ⟨some (IsI 1), []⟩ :: []) rfl ⟨hg, hs, hd⟩ (by kernel_rfl) ⟨aI rfl rfl, aI rfl rfl, trivial⟩ [⟨_, _⟩, ⟨_, _⟩] (fun b q p => ⟨p.ou 0 8 rfl, p.ou 1 9 rfl, trivial⟩) ?_
  rintro a k ⟨⟨hg, hs, hd⟩, i8, i9, _⟩
  refine wp_ret ?_
  obtain rfl := Option.some.inj hr
  exact retC2 rfl hd hg i8 i9
 rw [if_neg (by rw [hc797]; decide)] at hr
 refine wp_skip ?_
 refine wp_seq ?_
 refine stepL 2 (_ :: _ :: []) rfl ⟨hg, hs, hd⟩ (by kernel_rfl) ⟨o1 [(7, none)] rfl fun _ _ h n => ok_load rfl ty3 ((up i7 h n.1)).ptr, o1 [(36, some 0)] rfl fun _ _ h n => ok_eqI rfl n.1 (cI rfl), trivial⟩ [⟨_, _⟩, ⟨_, _⟩, ⟨_, _⟩, ⟨_, _⟩, ⟨_, _⟩] (fun b q p => ⟨p.ke 4 rfl i4, p.ke 6 rfl i6, p.ke 7 rfl i7, p.ke 10 rfl i10, p.ou 1 37 rfl, trivial⟩) ?_
 rintro a k ⟨⟨hg, hs, hd⟩, i4, i6, i7, i10, i37, _⟩
 refine wp_cond_split (isBool i37) (fun hc794 => ?_) (fun hc794 => ?_)
 ·rw [if_pos hc794] at hr
  refine stepL 3 (_ :: _ :: ⟨some (IsI 0), []⟩ :: []) rfl ⟨hg, hs, hd⟩ (by kernel_rfl) ⟨o1 [(6, none)] rfl fun _ _ h n => ok_load rfl ty3 ((up i6 h n.1)).ptr, cp 0 rfl rfl, aI rfl rfl, trivial⟩ [⟨_, _⟩, ⟨_, _⟩] (fun b q p => ⟨p.ou 1 8 rfl, p.ou 2 9 rfl, trivial⟩) ?_
  rintro a k ⟨⟨hg, hs, hd⟩, i8, i9, _⟩
  refine wp_ret ?_
  obtain rfl := Option.some.inj hr
  exact retC2 rfl hd hg i8 i9
 rw [if_neg (by rw [hc794]; decide)] at hr
 refine wp_skip ?_
 refine wp_seq ?_
 obtain ⟨x8, hx8, hr⟩ := bind_some hr
 refine cut (fun a' k' => Bs noF k0 51 a' k' ∧ (IsRef holidays_) (a'.get 4) k' ∧ (IsRef day_) (a'.get 6) k' ∧ (IsRef n_) (a'.get 7) k' ∧ (IsRef x1.1) (a'.get 10) k' ∧ (IsV x8) (a'.get 12) k' ∧ True) ?_ hQ ?_
 ·intro Q3 W3 w3
  refine gS 3 (_ :: _ :: _ :: []) hs (by kernel_rfl) ⟨o1 [(6, none)] rfl fun _ _ h n => ok_load rfl ty3 ((up i6 h n.1)).ptr, o1 [(39, some 0)] rfl fun _ _ h n => ok_sub rfl (cI rfl) n.1 hx8, cp 1 rfl rfl, trivial⟩ W3 fun b q p => ?_
  exact tail_done (k := q) (w3 _ _ ⟨Bs.post ⟨hg, hs, hd⟩ p, p.ke 4 rfl i4, p.ke 6 rfl i6, p.ke 7 rfl i7, p.ke 10 rfl i10, p.ou 2 12 rfl, trivial⟩)
 rintro a k ⟨⟨hg, hs, hd⟩, i4, i6, i7, i10, i12, _⟩
 refine wp_seq ?_
 obtain ⟨x9, hx9, hr⟩ := bind_some hr
 refine cut (fun a' k' => Bs noF k0 51 a' k' ∧ (IsRef day_) (a'.get 6) k' ∧ (IsV x8) (a'.get 12) k' ∧ (IsV x9) (a'.get 13) k' ∧ True) ?_ hQ ?_
 ·intro Q4 W4 w4
  refine gS 4 (_ :: ⟨some (IsFn1 Try.prog (fun y0 => calDeadline_1 y0 holidays_ x1.1 day_ n_)), [(4, none), (10, none), (6, none), (7, none)]⟩ :: _ :: _ :: []) hs (by kernel_rfl) ⟨mu rfl i12, ob1 rfl fun _ _ h n => ok_makeFunc (first := []) (captured := [.tmp 4, .tmp 10, .tmp 6, .tmp 7]) rfl ⟨28, _, _, rfl, Try.call28, fun k9 hk9 _ _ _ hx0 hy9 => by simpa [evalT] using calDeadline_1_ok hx0 (Pers.pers hk9 (up i4 h n.1)) (Pers.pers hk9 (up i10 h n.2.1)) (Pers.pers hk9 (up i6 h n.2.2.1)) (Pers.pers hk9 (up i7 h n.2.2.2.1)) hy9⟩, o1 [(41, some 0), (42, some 1)] rfl fun _ _ h n => ok_call rfl Try.call27 (search_ok n.1 n.2.1 hx9), cp 2 rfl rfl, trivial⟩ W4 fun b q p => ?_
  exact tail_done (k := q) (w4 _ _ ⟨Bs.post ⟨hg, hs, hd⟩ p, p.ke 6 rfl i6, p.ke 12 rfl i12, p.ou 3 13 rfl, trivial⟩)
 rintro a k ⟨⟨hg, hs, hd⟩, i6, i12, i13, _⟩
 refine wp_seq ?_
 refine stepL 3 (_ :: _ :: _ :: []) rfl ⟨hg, hs, hd⟩ (by kernel_rfl) ⟨mu rfl i13, mu rfl i12, o1 [(44, some 0), (45, some 1)] rfl fun _ _ h n => ok_eqI rfl n.1 n.2.1, trivial⟩ [⟨_, _⟩, ⟨_, _⟩, ⟨_, _⟩] (fun b q p => ⟨p.ke 6 rfl i6, p.ke 13 rfl i13, p.ou 2 46 rfl, trivial⟩) ?_
 rintro a k ⟨⟨hg, hs, hd⟩, i6, i13, i46, _⟩
 refine wp_cond_split (isBool i46) (fun hc787 => ?_) (fun hc787 => ?_)
 ·rw [if_pos hc787] at hr
  refine stepL 2 (⟨some (IsI 0), []⟩ :: ⟨some (IsI 20), []⟩ :: []) rfl ⟨hg, hs, hd⟩ (by kernel_rfl) ⟨aI rfl rfl, aI rfl rfl, trivial⟩ [⟨_, _⟩, ⟨_, _⟩] (fun b q p => ⟨p.ou 0 8 rfl, p.ou 1 9 rfl, trivial⟩) ?_
  rintro a k ⟨⟨hg, hs, hd⟩, i8, i9, _⟩
  refine wp_ret ?_
  obtain rfl := Option.some.inj hr
  exact retC2 rfl hd hg i8 i9
 rw [if_neg (by rw [hc787]; decide)] at hr
 refine wp_skip ?_
 refine wp_seq ?_
 obtain ⟨x11, hx11, hr⟩ := bind_some hr
 obtain ⟨x12, hx12, hr⟩ := bind_some hr
 refine cut (fun a' k' => Bs noF k0 51 a' k' ∧ (IsV x12) (a'.get 8) k' ∧ (IsI 0) (a'.get 9) k' ∧ True) ?_ hQ ?_
 ·intro Q5 W5 w5
  refine gS 6 (_ :: _ :: _ :: _ :: _ :: ⟨some (IsI 0), []⟩ :: []) hs (by kernel_rfl) ⟨o1 [(6, none)] rfl fun _ _ h n => ok_load rfl ty3 ((up i6 h n.1)).ptr, o1 [(47, some 0)] rfl fun _ _ h n => ok_add rfl n.1 (cI rfl) hx11, mu rfl i13, o1 [(48, some 1), (49, some 2)] rfl fun _ _ h n => ok_add rfl n.1 n.2.1 hx12, cp 3 rfl rfl, aI rfl rfl, trivial⟩ W5 fun b q p => ?_
  exact tail_done (k := q) (w5 _ _ ⟨Bs.post ⟨hg, hs, hd⟩ p, p.ou 4 8 rfl, p.ou 5 9 rfl, trivial⟩)
 rintro a k ⟨⟨hg, hs, hd⟩, i8, i9, _⟩
 refine wp_ret ?_
 obtain rfl := Option.some.inj hr
 exact retC2 rfl hd hg i8 i9
def calCount (holidays_ : (List Int)) (stays_ : (List Stay)) (a_ : Int) (b_ : Int) : Option (Int) :=
 (calm stays_).bind fun x1 =>
 (if (!x1.2) then
  some true
 else
  (calRight holidays_).bind fun x2 =>
  some (!x2)).bind fun x3 =>
 (if x3 then
  some true
 else
  (isDay a_).bind fun x4 =>
  some (!x4)).bind fun x5 =>
 (if x5 then
  some true
 else
  (isDay b_).bind fun x6 =>
  some (!x6)).bind fun x7 =>
 if (x7 || (decide (b_ ≤ a_))) then
  some 0
 else
  (calCountG holidays_ x1.1 a_ b_).bind fun x8 =>
  some x8
theorem calCount_ok {k0 : K} {v0 v1 v2 v3 : Value} {holidays_ : (List Int)} {stays_ : (List Stay)} {a_ : Int} {b_ : Int} {r : Int} (i0 : (IsV holidays_) v0 k0) (i1 : (IsV stays_) v1 k0) (i2 : (IsV a_) v2 k0) (i3 : (IsV b_) v3 k0) (hr : calCount holidays_ stays_ a_ b_ = some r) :
  Calls Try.prog 21 #[v0, v1, v2, v3] k0.w (Ret k0 (IsV r)) := by
 unfold calCount at hr
 refine Ret.ofC ?_
 refine enterK Try.func21 rfl Try.ntmps21 (show 4 ≤ 43 by decide) fun a k hk0 hs hd ha => ?_
 obtain ⟨e0, e1, e2, e3, _⟩ := ha
 replace i0 : (IsV holidays_) (a.get 0) k := by rw [e0, hk0]; exact i0
 replace i1 : (IsV stays_) (a.get 1) k := by rw [e1, hk0]; exact i1
 replace i2 : (IsV a_) (a.get 2) k := by rw [e2, hk0]; exact i2
 replace i3 : (IsV b_) (a.get 3) k := by rw [e3, hk0]; exact i3
 have hQ : Gb.LetsOut (bodyPost Try.prog Try.f21 (RetC noF k0 (IsV r))) := letsOutC
 have hg : Chg noF k0 k := by rw [hk0]; exact Chg.refl _ k0
 refine stepL 1 (⟨some (IsI 0), []⟩ :: []) rfl ⟨hg, hs, hd⟩ (by kernel_rfl) ⟨aI rfl rfl, trivial⟩ [⟨_, _⟩, ⟨_, _⟩, ⟨_, _⟩, ⟨_, _⟩] (fun b q p => ⟨p.ke 0 rfl i0, p.ke 1 rfl i1, p.ke 2 rfl i2, p.ke 3 rfl i3, trivial⟩) ?_
 rintro a k ⟨⟨hg, hs, hd⟩, i0, i1, i2, i3, _⟩
 refine wp_seq ?_
 obtain ⟨x1, hx1, hr⟩ := bind_some hr
 refine cut (fun a' k' => Bs noF k0 43 a' k' ∧ (IsV holidays_) (a'.get 0) k' ∧ (IsV a_) (a'.get 2) k' ∧ (IsV b_) (a'.get 3) k' ∧ (IsV x1.1) (a'.get 9) k' ∧ (IsV x1.2) (a'.get 10) k' ∧ True) ?_ hQ ?_
 ·intro Q1 W1 w1
  refine gS 7 (_ :: _ :: _ :: _ :: _ :: _ :: _ :: []) hs (by kernel_rfl) ⟨mu rfl i1, o1 [(12, some 0)] rfl fun _ _ h n => ok_call rfl Try.call25 (calm_ok n.1 hx1), cm 1 rfl rfl, o1 [(11, some 2)] rfl fun _ _ h n => ok_ext2_0 rfl n.1, o1 [(11, some 2)] rfl fun _ _ h n => ok_ext2_1 rfl n.1, cp 3 rfl rfl, cp 4 rfl rfl, trivial⟩ W1 fun b q p => ?_
  exact tail_done (k := q) (w1 _ _ ⟨Bs.post ⟨hg, hs, hd⟩ p, p.ke 0 rfl i0, p.ke 2 rfl i2, p.ke 3 rfl i3, p.ou 5 9 rfl, p.ou 6 10 rfl, trivial⟩)
 rintro a k ⟨⟨hg, hs, hd⟩, i0, i2, i3, i9, i10, _⟩
 refine wp_seq ?_
 refine wp_seq ?_
 obtain ⟨x2, hx2, hr⟩ := bind_some hr
 obtain ⟨x3, hx3, hx2⟩ := ite_bindF hx2
 obtain ⟨x4, hx4, hr⟩ := bind_some hr
 obtain ⟨x5, hx5, hx4⟩ := ite_bindF hx4
 obtain ⟨x6, hx6, hr⟩ := bind_some hr
 obtain ⟨x7, hx7, hx6⟩ := ite_bindF hx6
 refine cut (fun a' k' => Bs noF k0 43 a' k' ∧ (IsV holidays_) (a'.get 0) k' ∧ (IsV a_) (a'.get 2) k' ∧ (IsV b_) (a'.get 3) k' ∧ (IsV x1.1) (a'.get 9) k' ∧ (IsV (x6 || (decide (b_ ≤ a_)))) (a'.get 37) k' ∧ True) ?_ hQ ?_
 ·intro Q2 W2 w2
  refine gS 22 (_ :: _ :: _ :: _ :: _ :: _ :: _ :: _ :: _ :: _ :: _ :: _ :: _ :: _ :: _ :: _ :: _ :: _ :: _ :: _ :: _ :: _ :: []) hs (by kernel_rfl) ⟨mu rfl i10, o1 [(16, some 0)] rfl fun _ _ h n => ok_not rfl n.1, cm 1 rfl rfl, mF rfl rfl i0, gF [(19, some 3)] rfl rfl fun hp _ _ h n => ok_call rfl Try.call13 (calRight_ok (Gd.get n.1 hp) (hx3 hp)), gF [(20, some 4)] rfl rfl fun hp _ _ h n => ok_not rfl (Gd.get n.1 hp), o1 [(18, some 2), (21, some 5)] rfl fun _ _ h n => ok_pickM rfl n.1 hx2 (cB rfl) (Gd.get n.2.1), cm 6 rfl rfl, mF rfl rfl i2, gF [(24, some 8)] rfl rfl fun hp _ _ h n => ok_call rfl Try.call26 (isDay_ok (Gd.get n.1 hp) (hx5 hp)), gF [(25, some 9)] rfl rfl fun hp _ _ h n => ok_not rfl (Gd.get n.1 hp), o1 [(23, some 7), (26, some 10)] rfl fun _ _ h n => ok_pickM rfl n.1 hx4 (cB rfl) (Gd.get n.2.1), cm 11 rfl rfl, mF rfl rfl i3, gF [(29, some 13)] rfl rfl fun hp _ _ h n => ok_call rfl Try.call26 (isDay_ok (Gd.get n.1 hp) (hx7 hp)), gF [(30, some 14)] rfl rfl fun hp _ _ h n => ok_not rfl (Gd.get n.1 hp), o1 [(28, some 12), (31, some 15)] rfl fun _ _ h n => ok_pickM rfl n.1 hx6 (cB rfl) (Gd.get n.2.1), cm 16 rfl rfl, mF rfl rfl i2, mF rfl rfl i3, gF [(34, some 18), (35, some 19)] rfl rfl fun hp _ _ h n => ok_geq rfl (Gd.get n.1 hp) (Gd.get n.2.1 hp), o1 [(33, some 17), (36, some 20)] rfl fun _ _ h n => ok_pickOr rfl n.1 (cB rfl) (Gd.get n.2.1), trivial⟩ W2 fun b q p => ?_
  exact tail_done (k := q) (w2 _ _ ⟨Bs.post ⟨hg, hs, hd⟩ p, p.ke 0 rfl i0, p.ke 2 rfl i2, p.ke 3 rfl i3, p.ke 9 rfl i9, p.ou 21 37 rfl, trivial⟩)
 rintro a k ⟨⟨hg, hs, hd⟩, i0, i2, i3, i9, i37, _⟩
 refine wp_cond_split (isBool i37) (fun hc813 => ?_) (fun hc813 => ?_)
 ·rw [if_pos hc813] at hr
  refine stepL 1 (⟨some (IsI 0), []⟩ :: []) rfl ⟨hg, hs, hd⟩ (by kernel_rfl) ⟨aI rfl rfl, trivial⟩ [⟨_, _⟩] (fun b q p => ⟨p.ou 0 8 rfl, trivial⟩) ?_
  rintro a k ⟨⟨hg, hs, hd⟩, i8, _⟩
  refine wp_ret ?_
  obtain rfl := Option.some.inj hr
  exact retC1 rfl hd hg i8
 rw [if_neg (by rw [hc813]; decide)] at hr
 refine wp_skip ?_
 refine wp_seq ?_
 obtain ⟨x8, hx8, hr⟩ := bind_some hr
 refine cut (fun a' k' => Bs noF k0 43 a' k' ∧ (IsV x8) (a'.get 8) k' ∧ True) ?_ hQ ?_
 ·intro Q3 W3 w3
  refine gS 6 (_ :: _ :: _ :: _ :: _ :: _ :: []) hs (by kernel_rfl) ⟨mu rfl i0, mu rfl i9, mu rfl i2, mu rfl i3, o1 [(38, some 0), (39, some 1), (40, some 2), (41, some 3)] rfl fun _ _ h n => ok_call rfl Try.call29 (calCountG_ok n.1 n.2.1 n.2.2.1 n.2.2.2.1 hx8), cp 4 rfl rfl, trivial⟩ W3 fun b q p => ?_
  exact tail_done (k := q) (w3 _ _ ⟨Bs.post ⟨hg, hs, hd⟩ p, p.ou 5 8 rfl, trivial⟩)
 rintro a k ⟨⟨hg, hs, hd⟩, i8, _⟩
 refine wp_ret ?_
 obtain rfl := Option.some.inj hr
 exact retC1 rfl hd hg i8
def calIsWork (holidays_ : (List Int)) (day_ : Int) : Option (Bool) :=
 (calCounts holidays_ ([] : List Stay) day_).bind fun x1 =>
 some x1
theorem calIsWork_ok {k0 : K} {v0 v1 : Value} {holidays_ : (List Int)} {day_ : Int} {r : Bool} (i0 : (IsV holidays_) v0 k0) (i1 : (IsV day_) v1 k0) (hr : calIsWork holidays_ day_ = some r) :
  Calls Try.prog 15 #[v0, v1] k0.w (Ret k0 (IsV r)) := by
 unfold calIsWork at hr
 refine Ret.ofC ?_
 refine enterK Try.func15 rfl Try.ntmps15 (show 2 ≤ 8 by decide) fun a k hk0 hs hd ha => ?_
 obtain ⟨e0, e1, _⟩ := ha
 replace i0 : (IsV holidays_) (a.get 0) k := by rw [e0, hk0]; exact i0
 replace i1 : (IsV day_) (a.get 1) k := by rw [e1, hk0]; exact i1
 have hQ : Gb.LetsOut (bodyPost Try.prog Try.f15 (RetC noF k0 (IsV r))) := letsOutC
 have hg : Chg noF k0 k := by rw [hk0]; exact Chg.refl _ k0
 refine stepL 1 (⟨some (IsV false), []⟩ :: []) rfl ⟨hg, hs, hd⟩ (by kernel_rfl) ⟨ob1 rfl fun _ _ h n => ok_assign rfl (isV_bool.2 rfl), trivial⟩ [⟨_, _⟩, ⟨_, _⟩] (fun b q p => ⟨p.ke 0 rfl i0, p.ke 1 rfl i1, trivial⟩) ?_
 rintro a k ⟨⟨hg, hs, hd⟩, i0, i1, _⟩
 refine wp_seq ?_
 obtain ⟨x1, hx1, hr⟩ := bind_some hr
 refine cut (fun a' k' => Bs noF k0 8 a' k' ∧ (IsV x1) (a'.get 4) k' ∧ True) ?_ hQ ?_
 ·intro Q1 W1 w1
  refine gS 4 (_ :: _ :: _ :: _ :: []) hs (by kernel_rfl) ⟨mu rfl i0, mu rfl i1, o1 [(5, some 0), (6, some 1)] rfl fun _ _ h n => ok_call rfl Try.call17 (calCounts_ok n.1 (isV_list.2 (.inl ⟨rfl, rfl⟩)) n.2.1 hx1), cp 2 rfl rfl, trivial⟩ W1 fun b q p => ?_
  exact tail_done (k := q) (w1 _ _ ⟨Bs.post ⟨hg, hs, hd⟩ p, p.ou 3 4 rfl, trivial⟩)
 rintro a k ⟨⟨hg, hs, hd⟩, i4, _⟩
 refine wp_ret ?_
 obtain rfl := Option.some.inj hr
 exact retC1 rfl hd hg i4
def calBetween (holidays_ : (List Int)) (a_ : Int) (b_ : Int) : Option (Int) :=
 (calCount holidays_ ([] : List Stay) a_ b_).bind fun x1 =>
 some x1
theorem calBetween_ok {k0 : K} {v0 v1 v2 : Value} {holidays_ : (List Int)} {a_ : Int} {b_ : Int} {r : Int} (i0 : (IsV holidays_) v0 k0) (i1 : (IsV a_) v1 k0) (i2 : (IsV b_) v2 k0) (hr : calBetween holidays_ a_ b_ = some r) :
  Calls Try.prog 19 #[v0, v1, v2] k0.w (Ret k0 (IsV r)) := by
 unfold calBetween at hr
 refine Ret.ofC ?_
 refine enterK Try.func19 rfl Try.ntmps19 (show 3 ≤ 11 by decide) fun a k hk0 hs hd ha => ?_
 obtain ⟨e0, e1, e2, _⟩ := ha
 replace i0 : (IsV holidays_) (a.get 0) k := by rw [e0, hk0]; exact i0
 replace i1 : (IsV a_) (a.get 1) k := by rw [e1, hk0]; exact i1
 replace i2 : (IsV b_) (a.get 2) k := by rw [e2, hk0]; exact i2
 have hQ : Gb.LetsOut (bodyPost Try.prog Try.f19 (RetC noF k0 (IsV r))) := letsOutC
 have hg : Chg noF k0 k := by rw [hk0]; exact Chg.refl _ k0
 refine stepL 1 (⟨some (IsI 0), []⟩ :: []) rfl ⟨hg, hs, hd⟩ (by kernel_rfl) ⟨aI rfl rfl, trivial⟩ [⟨_, _⟩, ⟨_, _⟩, ⟨_, _⟩] (fun b q p => ⟨p.ke 0 rfl i0, p.ke 1 rfl i1, p.ke 2 rfl i2, trivial⟩) ?_
 rintro a k ⟨⟨hg, hs, hd⟩, i0, i1, i2, _⟩
 refine wp_seq ?_
 obtain ⟨x1, hx1, hr⟩ := bind_some hr
 refine cut (fun a' k' => Bs noF k0 11 a' k' ∧ (IsV x1) (a'.get 6) k' ∧ True) ?_ hQ ?_
 ·intro Q1 W1 w1
  refine gS 5 (_ :: _ :: _ :: _ :: _ :: []) hs (by kernel_rfl) ⟨mu rfl i0, mu rfl i1, mu rfl i2, o1 [(7, some 0), (8, some 1), (9, some 2)] rfl fun _ _ h n => ok_call rfl Try.call21 (calCount_ok n.1 (isV_list.2 (.inl ⟨rfl, rfl⟩)) n.2.1 n.2.2.1 hx1), cp 3 rfl rfl, trivial⟩ W1 fun b q p => ?_
  exact tail_done (k := q) (w1 _ _ ⟨Bs.post ⟨hg, hs, hd⟩ p, p.ou 4 6 rfl, trivial⟩)
 rintro a k ⟨⟨hg, hs, hd⟩, i6, _⟩
 refine wp_ret ?_
 obtain rfl := Option.some.inj hr
 exact retC1 rfl hd hg i6
def calAdd (holidays_ : (List Int)) (day_ : Int) (n_ : Int) : Option (Int × Int) :=
 (calDeadline holidays_ ([] : List Stay) day_ n_).bind fun x1 =>
 some (x1.1, x1.2)
theorem calAdd_ok {k0 : K} {v0 v1 v2 : Value} {holidays_ : (List Int)} {day_ : Int} {n_ : Int} {r : Int × Int} (i0 : (IsV holidays_) v0 k0) (i1 : (IsV day_) v1 k0) (i2 : (IsV n_) v2 k0) (hr : calAdd holidays_ day_ n_ = some r) :
  Calls Try.prog 9 #[v0, v1, v2] k0.w (Ret k0 (IsTup2 (IsV r.1) (IsV r.2))) := by
 unfold calAdd at hr
 refine Ret.ofC ?_
 refine enterK Try.func9 rfl Try.ntmps9 (show 3 ≤ 14 by decide) fun a k hk0 hs hd ha => ?_
 obtain ⟨e0, e1, e2, _⟩ := ha
 replace i0 : (IsV holidays_) (a.get 0) k := by rw [e0, hk0]; exact i0
 replace i1 : (IsV day_) (a.get 1) k := by rw [e1, hk0]; exact i1
 replace i2 : (IsV n_) (a.get 2) k := by rw [e2, hk0]; exact i2
 have hQ : Gb.LetsOut (bodyPost Try.prog Try.f9 (RetC noF k0 (IsTup2 (IsV r.1) (IsV r.2)))) := letsOutC
 have hg : Chg noF k0 k := by rw [hk0]; exact Chg.refl _ k0
 refine stepL 2 (⟨some (IsI 0), []⟩ :: ⟨some (IsI 0), []⟩ :: []) rfl ⟨hg, hs, hd⟩ (by kernel_rfl) ⟨aI rfl rfl, aI rfl rfl, trivial⟩ [⟨_, _⟩, ⟨_, _⟩, ⟨_, _⟩] (fun b q p => ⟨p.ke 0 rfl i0, p.ke 1 rfl i1, p.ke 2 rfl i2, trivial⟩) ?_
 rintro a k ⟨⟨hg, hs, hd⟩, i0, i1, i2, _⟩
 refine wp_seq ?_
 obtain ⟨x1, hx1, hr⟩ := bind_some hr
 refine cut (fun a' k' => Bs noF k0 14 a' k' ∧ (IsV x1.1) (a'.get 6) k' ∧ (IsV x1.2) (a'.get 7) k' ∧ True) ?_ hQ ?_
 ·intro Q1 W1 w1
  refine gS 8 (_ :: _ :: _ :: _ :: _ :: _ :: _ :: _ :: []) hs (by kernel_rfl) ⟨mu rfl i0, mu rfl i1, mu rfl i2, o1 [(8, some 0), (9, some 1), (10, some 2)] rfl fun _ _ h n => ok_call rfl Try.call11 (calDeadline_ok n.1 (isV_list.2 (.inl ⟨rfl, rfl⟩)) n.2.1 n.2.2.1 hx1), o1 [(11, some 3)] rfl fun _ _ h n => ok_ext2_0 rfl n.1, o1 [(11, some 3)] rfl fun _ _ h n => ok_ext2_1 rfl n.1, cp 4 rfl rfl, cp 5 rfl rfl, trivial⟩ W1 fun b q p => ?_
  exact tail_done (k := q) (w1 _ _ ⟨Bs.post ⟨hg, hs, hd⟩ p, p.ou 6 6 rfl, p.ou 7 7 rfl, trivial⟩)
 rintro a k ⟨⟨hg, hs, hd⟩, i6, i7, _⟩
 refine wp_ret ?_
 obtain rfl := Option.some.inj hr
 exact retC2 rfl hd hg i6 i7
def small  : Option (Bool) :=
 (calAdd ([] : List Int) 0 5).bind fun x1 =>
 (calAdd ([4]) 0 4).bind fun x2 =>
 (calAdd ([] : List Int) 5 0).bind fun x3 =>
 (calDeadline ([] : List Int) ([(⟨1, 8⟩ : Stay)]) 0 1).bind fun x4 =>
 (calDeadline ([] : List Int) ([(⟨1, 2⟩ : Stay), (⟨2, 3⟩ : Stay)]) 0 2).bind fun x5 =>
 (calAdd ([] : List Int) 1073741824 1).bind fun x6 =>
 (calAdd ([] : List Int) 3 (-1)).bind fun x7 =>
 (calBetween ([] : List Int) 0 7).bind fun x8 =>
 (if (x8 == 5) then
  (calBetween ([2, 5]) 0 7).bind fun x9 =>
  some (x9 == 4)
 else
  some false).bind fun x10 =>
 (if x10 then
  (calBetween ([] : List Int) 7 7).bind fun x11 =>
  some (x11 == 0)
 else
  some false).bind fun x12 =>
 (if (((((((x12 && (x1.1 == 7)) && (x1.2 == 0)) && (x2.1 == 7)) && (x2.2 == 0)) && (x3.1 == 5)) && (x3.2 == 0)) && ((((((x4.1 == 9) && (x4.2 == 0)) && (x5.1 == 7)) && (x5.2 == 0)) && (x6.2 == 20)) && (x7.2 == 1))) then
  (calRight ([1, 2])).bind fun x13 =>
  some x13
 else
  some false).bind fun x14 =>
 (if x14 then
  (calRight ([2, 2])).bind fun x15 =>
  some (!x15)
 else
  some false).bind fun x16 =>
 (if x16 then
  (calIsWork ([] : List Int) 4).bind fun x17 =>
  some x17
 else
  some false).bind fun x18 =>
 (if x18 then
  (calIsWork ([] : List Int) 5).bind fun x19 =>
  some (!x19)
 else
  some false).bind fun x20 =>
 (if x20 then
  (calCounts ([] : List Int) ([(⟨4, 4⟩ : Stay)]) 4).bind fun x21 =>
  some (!x21)
 else
  some false).bind fun x22 =>
 some x22
theorem small_ok {k0 : K} {r : Bool} (hr : small = some r) :
  Calls Try.prog 8 #[] k0.w (Ret k0 (IsV r)) := by
 unfold small at hr
 refine Ret.ofC ?_
 refine enterK Try.func8 rfl Try.ntmps8 (show 0 ≤ 134 by decide) fun a k hk0 hs hd ha => ?_
 have hQ : Gb.LetsOut (bodyPost Try.prog Try.f8 (RetC noF k0 (IsV r))) := letsOutC
 have hg : Chg noF k0 k := by rw [hk0]; exact Chg.refl _ k0
 refine cutL noF k0 134 [] ?_ ?_
 ·intro Q1 W1 w1
  refine gS 1 (⟨some (IsV false), []⟩ :: []) hs (by kernel_rfl) ⟨ob1 rfl fun _ _ h n => ok_assign rfl (isV_bool.2 rfl), trivial⟩ W1 fun b q p => ?_
  exact tail_done (k := q) (w1 _ _ ⟨Bs.post ⟨hg, hs, hd⟩ p, trivial⟩)
 rintro a k ⟨⟨hg, hs, hd⟩, _⟩
 refine wp_seq ?_
 obtain ⟨x1, hx1, hr⟩ := bind_some hr
 refine cut (fun a' k' => Bs noF k0 134 a' k' ∧ (IsV x1.1) (a'.get 1) k' ∧ (IsV x1.2) (a'.get 2) k' ∧ True) ?_ hQ ?_
 ·intro Q2 W2 w2
  refine gS 6 (_ :: _ :: _ :: _ :: _ :: _ :: []) hs (by kernel_rfl) ⟨o1 [] rfl fun _ _ h n => ok_call rfl Try.call9 (calAdd_ok (isV_list.2 (.inl ⟨rfl, rfl⟩)) (cI rfl) (cI rfl) hx1), cm 0 rfl rfl, o1 [(17, some 1)] rfl fun _ _ h n => ok_ext2_0 rfl n.1, o1 [(17, some 1)] rfl fun _ _ h n => ok_ext2_1 rfl n.1, cp 2 rfl rfl, cp 3 rfl rfl, trivial⟩ W2 fun b q p => ?_
  exact tail_done (k := q) (w2 _ _ ⟨Bs.post ⟨hg, hs, hd⟩ p, p.ou 4 1 rfl, p.ou 5 2 rfl, trivial⟩)
 rintro a k ⟨⟨hg, hs, hd⟩, i1, i2, _⟩
 refine wp_seq ?_
 obtain ⟨x2, hx2, hr⟩ := bind_some hr
 refine cut (fun a' k' => Bs noF k0 134 a' k' ∧ (IsV x1.1) (a'.get 1) k' ∧ (IsV x1.2) (a'.get 2) k' ∧ (IsV x2.1) (a'.get 3) k' ∧ (IsV x2.2) (a'.get 4) k' ∧ True) ?_ hQ ?_
 ·intro Q3 W3 w3
  refine gS 7 (⟨some (IsV (α := (List Int)) ([4])), []⟩ :: _ :: _ :: _ :: _ :: _ :: _ :: []) hs (by kernel_rfl) ⟨ob1 rfl fun _ _ h n => ok_buildSlice rfl Try.underlying22 eo3 rfl (by decide) (by decide) ⟨rfl, (cI rfl), trivial⟩, o1 [(22, some 0)] rfl fun _ _ h n => ok_call rfl Try.call9 (calAdd_ok n.1 (cI rfl) (cI rfl) hx2), cm 1 rfl rfl, o1 [(21, some 2)] rfl fun _ _ h n => ok_ext2_0 rfl n.1, o1 [(21, some 2)] rfl fun _ _ h n => ok_ext2_1 rfl n.1, cp 3 rfl rfl, cp 4 rfl rfl, trivial⟩ W3 fun b q p => ?_
  exact tail_done (k := q) (w3 _ _ ⟨Bs.post ⟨hg, hs, hd⟩ p, p.ke 1 rfl i1, p.ke 2 rfl i2, p.ou 5 3 rfl, p.ou 6 4 rfl, trivial⟩)
 rintro a k ⟨⟨hg, hs, hd⟩, i1, i2, i3, i4, _⟩
 refine wp_seq ?_
 obtain ⟨x3, hx3, hr⟩ := bind_some hr
 refine cut (fun a' k' => Bs noF k0 134 a' k' ∧ (IsV x1.1) (a'.get 1) k' ∧ (IsV x1.2) (a'.get 2) k' ∧ (IsV x2.1) (a'.get 3) k' ∧ (IsV x2.2) (a'.get 4) k' ∧ (IsV x3.1) (a'.get 5) k' ∧ (IsV x3.2) (a'.get 6) k' ∧ True) ?_ hQ ?_
 ·intro Q4 W4 w4
  refine gS 6 (_ :: _ :: _ :: _ :: _ :: _ :: []) hs (by kernel_rfl) ⟨o1 [] rfl fun _ _ h n => ok_call rfl Try.call9 (calAdd_ok (isV_list.2 (.inl ⟨rfl, rfl⟩)) (cI rfl) (cI rfl) hx3), cm 0 rfl rfl, o1 [(26, some 1)] rfl fun _ _ h n => ok_ext2_0 rfl n.1, o1 [(26, some 1)] rfl fun _ _ h n => ok_ext2_1 rfl n.1, cp 2 rfl rfl, cp 3 rfl rfl, trivial⟩ W4 fun b q p => ?_
  exact tail_done (k := q) (w4 _ _ ⟨Bs.post ⟨hg, hs, hd⟩ p, p.ke 1 rfl i1, p.ke 2 rfl i2, p.ke 3 rfl i3, p.ke 4 rfl i4, p.ou 4 5 rfl, p.ou 5 6 rfl, trivial⟩)
 rintro a k ⟨⟨hg, hs, hd⟩, i1, i2, i3, i4, i5, i6, _⟩
 refine wp_seq ?_
 obtain ⟨x4, hx4, hr⟩ := bind_some hr
 refine cut (fun a' k' => Bs noF k0 134 a' k' ∧ (IsV x1.1) (a'.get 1) k' ∧ (IsV x1.2) (a'.get 2) k' ∧ (IsV x2.1) (a'.get 3) k' ∧ (IsV x2.2) (a'.get 4) k' ∧ (IsV x3.1) (a'.get 5) k' ∧ (IsV x3.2) (a'.get 6) k' ∧ (IsV x4.1) (a'.get 7) k' ∧ (IsV x4.2) (a'.get 8) k' ∧ True) ?_ hQ ?_
 ·intro Q5 W5 w5
  refine gS 8 (⟨some (IsV (⟨1, 8⟩ : Stay)), []⟩ :: ⟨some (IsV (α := (List Stay)) ([(⟨1, 8⟩ : Stay)])), [(31, some 0)]⟩ :: _ :: _ :: _ :: _ :: _ :: _ :: []) hs (by kernel_rfl) ⟨ob1 rfl fun _ _ h n => ok_build rfl (bld38_0_1 (cI rfl) (cI rfl)), ob1 rfl fun _ _ h n => ok_buildSlice rfl Try.underlying23 eo38 rfl (by decide) (by decide) ⟨rfl, n.1, trivial⟩, o1 [(32, some 1)] rfl fun _ _ h n => ok_call rfl Try.call11 (calDeadline_ok (isV_list.2 (.inl ⟨rfl, rfl⟩)) n.1 (cI rfl) (cI rfl) hx4), cm 2 rfl rfl, o1 [(30, some 3)] rfl fun _ _ h n => ok_ext2_0 rfl n.1, o1 [(30, some 3)] rfl fun _ _ h n => ok_ext2_1 rfl n.1, cp 4 rfl rfl, cp 5 rfl rfl, trivial⟩ W5 fun b q p => ?_
  exact tail_done (k := q) (w5 _ _ ⟨Bs.post ⟨hg, hs, hd⟩ p, p.ke 1 rfl i1, p.ke 2 rfl i2, p.ke 3 rfl i3, p.ke 4 rfl i4, p.ke 5 rfl i5, p.ke 6 rfl i6, p.ou 6 7 rfl, p.ou 7 8 rfl, trivial⟩)
 rintro a k ⟨⟨hg, hs, hd⟩, i1, i2, i3, i4, i5, i6, i7, i8, _⟩
 refine wp_seq ?_
 obtain ⟨x5, hx5, hr⟩ := bind_some hr
 refine cut (fun a' k' => Bs noF k0 134 a' k' ∧ (IsV x1.1) (a'.get 1) k' ∧ (IsV x1.2) (a'.get 2) k' ∧ (IsV x2.1) (a'.get 3) k' ∧ (IsV x2.2) (a'.get 4) k' ∧ (IsV x3.1) (a'.get 5) k' ∧ (IsV x3.2) (a'.get 6) k' ∧ (IsV x4.1) (a'.get 7) k' ∧ (IsV x4.2) (a'.get 8) k' ∧ (IsV x5.1) (a'.get 9) k' ∧ (IsV x5.2) (a'.get 10) k' ∧ True) ?_ hQ ?_
 ·intro Q6 W6 w6
  refine gS 9 (⟨some (IsV (⟨1, 2⟩ : Stay)), []⟩ :: ⟨some (IsV (⟨2, 3⟩ : Stay)), []⟩ :: ⟨some (IsV (α := (List Stay)) ([(⟨1, 2⟩ : Stay), (⟨2, 3⟩ : Stay)])), [(37, some 0), (38, some 1)]⟩ :: _ :: _ :: _ :: _ :: _ :: _ :: []) hs (by kernel_rfl) ⟨ob1 rfl fun _ _ h n => ok_build rfl (bld38_0_1 (cI rfl) (cI rfl)), ob1 rfl fun _ _ h n => ok_build rfl (bld38_0_1 (cI rfl) (cI rfl)), ob1 rfl fun _ _ h n => ok_buildSlice rfl Try.underlying23 eo38 rfl (by decide) (by decide) ⟨rfl, n.1, rfl, n.2.1, trivial⟩, o1 [(39, some 2)] rfl fun _ _ h n => ok_call rfl Try.call11 (calDeadline_ok (isV_list.2 (.inl ⟨rfl, rfl⟩)) n.1 (cI rfl) (cI rfl) hx5), cm 3 rfl rfl, o1 [(36, some 4)] rfl fun _ _ h n => ok_ext2_0 rfl n.1, o1 [(36, some 4)] rfl fun _ _ h n => ok_ext2_1 rfl n.1, cp 5 rfl rfl, cp 6 rfl rfl, trivial⟩ W6 fun b q p => ?_
  exact tail_done (k := q) (w6 _ _ ⟨Bs.post ⟨hg, hs, hd⟩ p, p.ke 1 rfl i1, p.ke 2 rfl i2, p.ke 3 rfl i3, p.ke 4 rfl i4, p.ke 5 rfl i5, p.ke 6 rfl i6, p.ke 7 rfl i7, p.ke 8 rfl i8, p.ou 7 9 rfl, p.ou 8 10 rfl, trivial⟩)
 rintro a k ⟨⟨hg, hs, hd⟩, i1, i2, i3, i4, i5, i6, i7, i8, i9, i10, _⟩
 refine wp_seq ?_
 obtain ⟨x6, hx6, hr⟩ := bind_some hr
 refine cut (fun a' k' => Bs noF k0 134 a' k' ∧ (IsV x1.1) (a'.get 1) k' ∧ (IsV x1.2) (a'.get 2) k' ∧ (IsV x2.1) (a'.get 3) k' ∧ (IsV x2.2) (a'.get 4) k' ∧ (IsV x3.1) (a'.get 5) k' ∧ (IsV x3.2) (a'.get 6) k' ∧ (IsV x4.1) (a'.get 7) k' ∧ (IsV x4.2) (a'.get 8) k' ∧ (IsV x5.1) (a'.get 9) k' ∧ (IsV x5.2) (a'.get 10) k' ∧ (IsV x6.2) (a'.get 12) k' ∧ True) ?_ hQ ?_
 ·intro Q7 W7 w7
  refine gS 6 (_ :: _ :: _ :: _ :: _ :: _ :: []) hs (by kernel_rfl) ⟨o1 [] rfl fun _ _ h n => ok_call rfl Try.call9 (calAdd_ok (isV_list.2 (.inl ⟨rfl, rfl⟩)) (cI rfl) (cI rfl) hx6), cm 0 rfl rfl, o1 [(43, some 1)] rfl fun _ _ h n => ok_ext2_0 rfl n.1, o1 [(43, some 1)] rfl fun _ _ h n => ok_ext2_1 rfl n.1, cp 2 rfl rfl, cp 3 rfl rfl, trivial⟩ W7 fun b q p => ?_
  exact tail_done (k := q) (w7 _ _ ⟨Bs.post ⟨hg, hs, hd⟩ p, p.ke 1 rfl i1, p.ke 2 rfl i2, p.ke 3 rfl i3, p.ke 4 rfl i4, p.ke 5 rfl i5, p.ke 6 rfl i6, p.ke 7 rfl i7, p.ke 8 rfl i8, p.ke 9 rfl i9, p.ke 10 rfl i10, p.ou 5 12 rfl, trivial⟩)
 rintro a k ⟨⟨hg, hs, hd⟩, i1, i2, i3, i4, i5, i6, i7, i8, i9, i10, i12, _⟩
 refine wp_seq ?_
 obtain ⟨x7, hx7, hr⟩ := bind_some hr
 refine cut (fun a' k' => Bs noF k0 134 a' k' ∧ (IsV x1.1) (a'.get 1) k' ∧ (IsV x1.2) (a'.get 2) k' ∧ (IsV x2.1) (a'.get 3) k' ∧ (IsV x2.2) (a'.get 4) k' ∧ (IsV x3.1) (a'.get 5) k' ∧ (IsV x3.2) (a'.get 6) k' ∧ (IsV x4.1) (a'.get 7) k' ∧ (IsV x4.2) (a'.get 8) k' ∧ (IsV x5.1) (a'.get 9) k' ∧ (IsV x5.2) (a'.get 10) k' ∧ (IsV x6.2) (a'.get 12) k' ∧ (IsV x7.2) (a'.get 14) k' ∧ True) ?_ hQ ?_
 ·intro Q8 W8 w8
  refine gS 6 (_ :: _ :: _ :: _ :: _ :: _ :: []) hs (by kernel_rfl) ⟨o1 [] rfl fun _ _ h n => ok_call rfl Try.call9 (calAdd_ok (isV_list.2 (.inl ⟨rfl, rfl⟩)) (cI rfl) (cI rfl) hx7), cm 0 rfl rfl, o1 [(47, some 1)] rfl fun _ _ h n => ok_ext2_0 rfl n.1, o1 [(47, some 1)] rfl fun _ _ h n => ok_ext2_1 rfl n.1, cp 2 rfl rfl, cp 3 rfl rfl, trivial⟩ W8 fun b q p => ?_
  exact tail_done (k := q) (w8 _ _ ⟨Bs.post ⟨hg, hs, hd⟩ p, p.ke 1 rfl i1, p.ke 2 rfl i2, p.ke 3 rfl i3, p.ke 4 rfl i4, p.ke 5 rfl i5, p.ke 6 rfl i6, p.ke 7 rfl i7, p.ke 8 rfl i8, p.ke 9 rfl i9, p.ke 10 rfl i10, p.ke 12 rfl i12, p.ou 5 14 rfl, trivial⟩)
 rintro a k ⟨⟨hg, hs, hd⟩, i1, i2, i3, i4, i5, i6, i7, i8, i9, i10, i12, i14, _⟩
 refine wp_seq ?_
 obtain ⟨x8, hx8, hr⟩ := bind_some hr
 obtain ⟨x9, hx9, hr⟩ := bind_some hr
 obtain ⟨x10, hx10, hx9⟩ := ite_bind hx9
 obtain ⟨x11, hx11, hr⟩ := bind_some hr
 obtain ⟨x12, hx12, hx11⟩ := ite_bind hx11
 refine cut (fun a' k' => Bs noF k0 134 a' k' ∧ (IsV x4.1) (a'.get 7) k' ∧ (IsV x4.2) (a'.get 8) k' ∧ (IsV x5.1) (a'.get 9) k' ∧ (IsV x5.2) (a'.get 10) k' ∧ (IsV x6.2) (a'.get 12) k' ∧ (IsV x7.2) (a'.get 14) k' ∧ (IsV ((((((x11 && (x1.1 == 7)) && (x1.2 == 0)) && (x2.1 == 7)) && (x2.2 == 0)) && (x3.1 == 5)) && (x3.2 == 0))) (a'.get 15) k' ∧ True) ?_ hQ ?_
 ·intro Q9 W9 w9
  refine gS 36 (_ :: _ :: _ :: ⟨some (Gd ((x8 == 5) = true) (IsV (α := (List Int)) ([2, 5]))), []⟩ :: _ :: _ :: _ :: _ :: _ :: _ :: _ :: _ :: _ :: _ :: _ :: _ :: _ :: _ :: _ :: _ :: _ :: _ :: _ :: _ :: _ :: _ :: _ :: _ :: _ :: _ :: _ :: _ :: _ :: _ :: _ :: _ :: []) hs (by kernel_rfl) ⟨o1 [] rfl fun _ _ h n => ok_call rfl Try.call19 (calBetween_ok (isV_list.2 (.inl ⟨rfl, rfl⟩)) (cI rfl) (cI rfl) hx8), o1 [(51, some 0)] rfl fun _ _ h n => ok_eqI rfl n.1 (cI rfl), cm 1 rfl rfl, gdT rfl rfl fun hp _ _ h n => ok_buildSlice rfl Try.underlying22 eo3 rfl (by decide) (by decide) ⟨rfl, (cI rfl), rfl, (cI rfl), trivial⟩, gT [(54, some 3)] rfl rfl fun hp _ _ h n => ok_call rfl Try.call19 (calBetween_ok (Gd.get n.1 hp) (cI rfl) (cI rfl) (hx10 hp)), gT [(55, some 4)] rfl rfl fun hp _ _ h n => ok_eqI rfl (Gd.get n.1 hp) (cI rfl), o1 [(53, some 2), (56, some 5)] rfl fun _ _ h n => ok_pickM rfl n.1 hx9 (Gd.get n.2.1) (cB rfl), cm 6 rfl rfl, gT [] rfl rfl fun hp _ _ h n => ok_call rfl Try.call19 (calBetween_ok (isV_list.2 (.inl ⟨rfl, rfl⟩)) (cI rfl) (cI rfl) (hx12 hp)), gT [(59, some 8)] rfl rfl fun hp _ _ h n => ok_eqI rfl (Gd.get n.1 hp) (cI rfl), o1 [(58, some 7), (60, some 9)] rfl fun _ _ h n => ok_pickM rfl n.1 hx11 (Gd.get n.2.1) (cB rfl), cm 10 rfl rfl, mT rfl rfl i1, gT [(63, some 12)] rfl rfl fun hp _ _ h n => ok_eqI rfl (Gd.get n.1 hp) (cI rfl), o1 [(62, some 11), (64, some 13)] rfl fun _ _ h n => ok_pickAnd rfl n.1 (Gd.get n.2.1) (cB rfl), cm 14 rfl rfl, mT rfl rfl i2, gT [(67, some 16)] rfl rfl fun hp _ _ h n => ok_eqI rfl (Gd.get n.1 hp) (cI rfl), o1 [(66, some 15), (68, some 17)] rfl fun _ _ h n => ok_pickAnd rfl n.1 (Gd.get n.2.1) (cB rfl), cm 18 rfl rfl, mT rfl rfl i3, gT [(71, some 20)] rfl rfl fun hp _ _ h n => ok_eqI rfl (Gd.get n.1 hp) (cI rfl), o1 [(70, some 19), (72, some 21)] rfl fun _ _ h n => ok_pickAnd rfl n.1 (Gd.get n.2.1) (cB rfl), cm 22 rfl rfl, mT rfl rfl i4, gT [(75, some 24)] rfl rfl fun hp _ _ h n => ok_eqI rfl (Gd.get n.1 hp) (cI rfl), o1 [(74, some 23), (76, some 25)] rfl fun _ _ h n => ok_pickAnd rfl n.1 (Gd.get n.2.1) (cB rfl), cm 26 rfl rfl, mT rfl rfl i5, gT [(79, some 28)] rfl rfl fun hp _ _ h n => ok_eqI rfl (Gd.get n.1 hp) (cI rfl), o1 [(78, some 27), (80, some 29)] rfl fun _ _ h n => ok_pickAnd rfl n.1 (Gd.get n.2.1) (cB rfl), cm 30 rfl rfl, mT rfl rfl i6, gT [(83, some 32)] rfl rfl fun hp _ _ h n => ok_eqI rfl (Gd.get n.1 hp) (cI rfl), o1 [(82, some 31), (84, some 33)] rfl fun _ _ h n => ok_pickAnd rfl n.1 (Gd.get n.2.1) (cB rfl), cp 34 rfl rfl, trivial⟩ W9 fun b q p => ?_
  exact tail_done (k := q) (w9 _ _ ⟨Bs.post ⟨hg, hs, hd⟩ p, p.ke 7 rfl i7, p.ke 8 rfl i8, p.ke 9 rfl i9, p.ke 10 rfl i10, p.ke 12 rfl i12, p.ke 14 rfl i14, p.ou 35 15 rfl, trivial⟩)
 rintro a k ⟨⟨hg, hs, hd⟩, i7, i8, i9, i10, i12, i14, i15, _⟩
 refine stepL 23 (_ :: _ :: _ :: _ :: _ :: _ :: _ :: _ :: _ :: _ :: _ :: _ :: _ :: _ :: _ :: _ :: _ :: _ :: _ :: _ :: _ :: _ :: _ :: []) rfl ⟨hg, hs, hd⟩ (by kernel_rfl) ⟨mu rfl i7, o1 [(86, some 0)] rfl fun _ _ h n => ok_eqI rfl n.1 (cI rfl), cm 1 rfl rfl, mT rfl rfl i8, gT [(89, some 3)] rfl rfl fun hp _ _ h n => ok_eqI rfl (Gd.get n.1 hp) (cI rfl), o1 [(88, some 2), (90, some 4)] rfl fun _ _ h n => ok_pickAnd rfl n.1 (Gd.get n.2.1) (cB rfl), cm 5 rfl rfl, mT rfl rfl i9, gT [(93, some 7)] rfl rfl fun hp _ _ h n => ok_eqI rfl (Gd.get n.1 hp) (cI rfl), o1 [(92, some 6), (94, some 8)] rfl fun _ _ h n => ok_pickAnd rfl n.1 (Gd.get n.2.1) (cB rfl), cm 9 rfl rfl, mT rfl rfl i10, gT [(97, some 11)] rfl rfl fun hp _ _ h n => ok_eqI rfl (Gd.get n.1 hp) (cI rfl), o1 [(96, some 10), (98, some 12)] rfl fun _ _ h n => ok_pickAnd rfl n.1 (Gd.get n.2.1) (cB rfl), cm 13 rfl rfl, mT rfl rfl i12, gT [(101, some 15)] rfl rfl fun hp _ _ h n => ok_eqI rfl (Gd.get n.1 hp) (cI rfl), o1 [(100, some 14), (102, some 16)] rfl fun _ _ h n => ok_pickAnd rfl n.1 (Gd.get n.2.1) (cB rfl), cm 17 rfl rfl, mT rfl rfl i14, gT [(105, some 19)] rfl rfl fun hp _ _ h n => ok_eqI rfl (Gd.get n.1 hp) (cI rfl), o1 [(104, some 18), (106, some 20)] rfl fun _ _ h n => ok_pickAnd rfl n.1 (Gd.get n.2.1) (cB rfl), cp 21 rfl rfl, trivial⟩ [⟨_, _⟩, ⟨_, _⟩] (fun b q p => ⟨p.ke 15 rfl i15, p.ou 22 16 rfl, trivial⟩) ?_
 rintro a k ⟨⟨hg, hs, hd⟩, i15, i16, _⟩
 refine wp_seq ?_
 obtain ⟨x13, hx13, hr⟩ := bind_some hr
 obtain ⟨x14, hx14, hx13⟩ := ite_bind hx13
 obtain ⟨x15, hx15, hr⟩ := bind_some hr
 obtain ⟨x16, hx16, hx15⟩ := ite_bind hx15
 obtain ⟨x17, hx17, hr⟩ := bind_some hr
 obtain ⟨x18, hx18, hx17⟩ := ite_bind hx17
 obtain ⟨x19, hx19, hr⟩ := bind_some hr
 obtain ⟨x20, hx20, hx19⟩ := ite_bind hx19
 obtain ⟨x21, hx21, hr⟩ := bind_some hr
 obtain ⟨x22, hx22, hx21⟩ := ite_bind hx21
 refine cut (fun a' k' => Bs noF k0 134 a' k' ∧ (IsV x21) (a'.get 0) k' ∧ True) ?_ hQ ?_
 ·intro Q10 W10 w10
  refine gS 27 (_ :: _ :: _ :: _ :: _ :: ⟨some (Gd ((((((((x11 && (x1.1 == 7)) && (x1.2 == 0)) && (x2.1 == 7)) && (x2.2 == 0)) && (x3.1 == 5)) && (x3.2 == 0)) && ((((((x4.1 == 9) && (x4.2 == 0)) && (x5.1 == 7)) && (x5.2 == 0)) && (x6.2 == 20)) && (x7.2 == 1))) = true) (IsV (α := (List Int)) ([1, 2]))), []⟩ :: _ :: _ :: _ :: ⟨some (Gd (x13 = true) (IsV (α := (List Int)) ([2, 2]))), []⟩ :: _ :: _ :: _ :: _ :: _ :: _ :: _ :: _ :: _ :: _ :: _ :: ⟨some (Gd (x19 = true) (IsV (⟨4, 4⟩ : Stay))), []⟩ :: ⟨some (Gd (x19 = true) (IsV (α := (List Stay)) ([(⟨4, 4⟩ : Stay)]))), [(129, some 21)]⟩ :: _ :: _ :: _ :: _ :: []) hs (by kernel_rfl) ⟨mu rfl i15, cm 0 rfl rfl, mT rfl rfl i16, o1 [(109, some 1), (110, some 2)] rfl fun _ _ h n => ok_pickAnd rfl n.1 (Gd.get n.2.1) (cB rfl), cm 3 rfl rfl, gdT rfl rfl fun hp _ _ h n => ok_buildSlice rfl Try.underlying22 eo3 rfl (by decide) (by decide) ⟨rfl, (cI rfl), rfl, (cI rfl), trivial⟩, gT [(113, some 5)] rfl rfl fun hp _ _ h n => ok_call rfl Try.call13 (calRight_ok (Gd.get n.1 hp) (hx14 hp)), o1 [(112, some 4), (114, some 6)] rfl fun _ _ h n => ok_pickM rfl n.1 hx13 (Gd.get n.2.1) (cB rfl), cm 7 rfl rfl, gdT rfl rfl fun hp _ _ h n => ok_buildSlice rfl Try.underlying22 eo3 rfl (by decide) (by decide) ⟨rfl, (cI rfl), rfl, (cI rfl), trivial⟩, gT [(117, some 9)] rfl rfl fun hp _ _ h n => ok_call rfl Try.call13 (calRight_ok (Gd.get n.1 hp) (hx16 hp)), gT [(118, some 10)] rfl rfl fun hp _ _ h n => ok_not rfl (Gd.get n.1 hp), o1 [(116, some 8), (119, some 11)] rfl fun _ _ h n => ok_pickM rfl n.1 hx15 (Gd.get n.2.1) (cB rfl), cm 12 rfl rfl, gT [] rfl rfl fun hp _ _ h n => ok_call rfl Try.call15 (calIsWork_ok (isV_list.2 (.inl ⟨rfl, rfl⟩)) (cI rfl) (hx18 hp)), o1 [(121, some 13), (122, some 14)] rfl fun _ _ h n => ok_pickM rfl n.1 hx17 (Gd.get n.2.1) (cB rfl), cm 15 rfl rfl, gT [] rfl rfl fun hp _ _ h n => ok_call rfl Try.call15 (calIsWork_ok (isV_list.2 (.inl ⟨rfl, rfl⟩)) (cI rfl) (hx20 hp)), gT [(125, some 17)] rfl rfl fun hp _ _ h n => ok_not rfl (Gd.get n.1 hp), o1 [(124, some 16), (126, some 18)] rfl fun _ _ h n => ok_pickM rfl n.1 hx19 (Gd.get n.2.1) (cB rfl), cm 19 rfl rfl, gdT rfl rfl fun hp _ _ h n => ok_build rfl (bld38_0_1 (cI rfl) (cI rfl)), gdT rfl rfl fun hp _ _ h n => ok_buildSlice rfl Try.underlying23 eo38 rfl (by decide) (by decide) ⟨rfl, (Gd.get n.1 hp), trivial⟩, gT [(130, some 22)] rfl rfl fun hp _ _ h n => ok_call rfl Try.call17 (calCounts_ok (isV_list.2 (.inl ⟨rfl, rfl⟩)) (Gd.get n.1 hp) (cI rfl) (hx22 hp)), gT [(131, some 23)] rfl rfl fun hp _ _ h n => ok_not rfl (Gd.get n.1 hp), o1 [(128, some 20), (132, some 24)] rfl fun _ _ h n => ok_pickM rfl n.1 hx21 (Gd.get n.2.1) (cB rfl), cp 25 rfl rfl, trivial⟩ W10 fun b q p => ?_
  exact tail_done (k := q) (w10 _ _ ⟨Bs.post ⟨hg, hs, hd⟩ p, p.ou 26 0 rfl, trivial⟩)
 rintro a k ⟨⟨hg, hs, hd⟩, i0, _⟩
 refine wp_ret ?_
 obtain rfl := Option.some.inj hr
 exact retC1 rfl hd hg i0
def lawTells (holidays_ : (List Int)) (stays_ : (List Stay)) (a_ : Int) (b_ : Int) (n_ : Int) : Option (Bool) :=
 (small).bind fun x1 =>
 if ((decide (1100 < (holidays_.length : Int))) || (decide (110 < (stays_.length : Int)))) then
  some x1
 else
  (calAdd holidays_ a_ n_).bind fun x2 =>
  (rAdd holidays_ a_ n_).bind fun x3 =>
  (calDeadline holidays_ stays_ a_ n_).bind fun x4 =>
  (rDeadline holidays_ stays_ a_ n_).bind fun x5 =>
  (calRight holidays_).bind fun x6 =>
  (rRight holidays_).bind fun x7 =>
  (if (x6 == x7) then
   (calIsWork holidays_ a_).bind fun x8 =>
   (rIsWork holidays_ a_).bind fun x9 =>
   some (x8 == x9)
  else
   some false).bind fun x10 =>
  (if x10 then
   (calCounts holidays_ stays_ a_).bind fun x11 =>
   (rCounts holidays_ stays_ a_).bind fun x12 =>
   some (x11 == x12)
  else
   some false).bind fun x13 =>
  (calBetween holidays_ a_ b_).bind fun x14 =>
  (rBetween holidays_ a_ b_).bind fun x15 =>
  (if (x14 == x15) then
   (calCount holidays_ stays_ a_ b_).bind fun x16 =>
   (rCount holidays_ stays_ a_ b_).bind fun x17 =>
   some (x16 == x17)
  else
   some false).bind fun x18 =>
  some ((((((x1 && x13) && x18) && (x2.1 == x3.1)) && (x2.2 == x3.2)) && (x4.1 == x5.1)) && (x4.2 == x5.2))
theorem lawTells_ok {k0 : K} {v0 v1 v2 v3 v4 : Value} {holidays_ : (List Int)} {stays_ : (List Stay)} {a_ : Int} {b_ : Int} {n_ : Int} {r : Bool} (i0 : (IsV holidays_) v0 k0) (i1 : (IsV stays_) v1 k0) (i2 : (IsV a_) v2 k0) (i3 : (IsV b_) v3 k0) (i4 : (IsV n_) v4 k0) (hr : lawTells holidays_ stays_ a_ b_ n_ = some r) :
  Calls Try.prog 3 #[v0, v1, v2, v3, v4] k0.w (Ret k0 (IsV r)) := by
 unfold lawTells at hr
 refine Ret.ofC ?_
 refine enterK Try.func3 rfl Try.ntmps3 (show 5 ≤ 136 by decide) fun a k hk0 hs hd ha => ?_
 obtain ⟨e0, e1, e2, e3, e4, _⟩ := ha
 replace i0 : (IsV holidays_) (a.get 0) k := by rw [e0, hk0]; exact i0
 replace i1 : (IsV stays_) (a.get 1) k := by rw [e1, hk0]; exact i1
 replace i2 : (IsV a_) (a.get 2) k := by rw [e2, hk0]; exact i2
 replace i3 : (IsV b_) (a.get 3) k := by rw [e3, hk0]; exact i3
 replace i4 : (IsV n_) (a.get 4) k := by rw [e4, hk0]; exact i4
 have hQ : Gb.LetsOut (bodyPost Try.prog Try.f3 (RetC noF k0 (IsV r))) := letsOutC
 have hg : Chg noF k0 k := by rw [hk0]; exact Chg.refl _ k0
 refine stepL 1 (⟨some (IsV false), []⟩ :: []) rfl ⟨hg, hs, hd⟩ (by kernel_rfl) ⟨ob1 rfl fun _ _ h n => ok_assign rfl (isV_bool.2 rfl), trivial⟩ [⟨_, _⟩, ⟨_, _⟩, ⟨_, _⟩, ⟨_, _⟩, ⟨_, _⟩] (fun b q p => ⟨p.ke 0 rfl i0, p.ke 1 rfl i1, p.ke 2 rfl i2, p.ke 3 rfl i3, p.ke 4 rfl i4, trivial⟩) ?_
 rintro a k ⟨⟨hg, hs, hd⟩, i0, i1, i2, i3, i4, _⟩
 refine wp_seq ?_
 obtain ⟨x1, hx1, hr⟩ := bind_some hr
 refine cut (fun a' k' => Bs noF k0 136 a' k' ∧ (IsV holidays_) (a'.get 0) k' ∧ (IsV stays_) (a'.get 1) k' ∧ (IsV a_) (a'.get 2) k' ∧ (IsV b_) (a'.get 3) k' ∧ (IsV n_) (a'.get 4) k' ∧ (IsV x1) (a'.get 11) k' ∧ True) ?_ hQ ?_
 ·intro Q1 W1 w1
  refine gS 2 (_ :: _ :: []) hs (by kernel_rfl) ⟨o1 [] rfl fun _ _ h n => ok_call rfl Try.call8 (small_ok hx1), cp 0 rfl rfl, trivial⟩ W1 fun b q p => ?_
  exact tail_done (k := q) (w1 _ _ ⟨Bs.post ⟨hg, hs, hd⟩ p, p.ke 0 rfl i0, p.ke 1 rfl i1, p.ke 2 rfl i2, p.ke 3 rfl i3, p.ke 4 rfl i4, p.ou 1 11 rfl, trivial⟩)
 rintro a k ⟨⟨hg, hs, hd⟩, i0, i1, i2, i3, i4, i11, _⟩
 refine wp_seq ?_
 refine stepL 8 (_ :: _ :: _ :: _ :: _ :: _ :: _ :: _ :: []) rfl ⟨hg, hs, hd⟩ (by kernel_rfl) ⟨mu rfl i0, o1 [(23, some 0)] rfl fun _ _ h n => ok_len rfl rfl Try.underlying22 (IsV.rd n.1), o1 [(24, some 1)] rfl fun _ _ h n => ok_gtr rfl n.1 (cI rfl), cm 2 rfl rfl, mF rfl rfl i1, gF [(27, some 4)] rfl rfl fun hp _ _ h n => ok_len rfl rfl Try.underlying23 (IsV.rd (Gd.get n.1 hp)), gF [(28, some 5)] rfl rfl fun hp _ _ h n => ok_gtr rfl (Gd.get n.1 hp) (cI rfl), o1 [(26, some 3), (29, some 6)] rfl fun _ _ h n => ok_pickOr rfl n.1 (cB rfl) (Gd.get n.2.1), trivial⟩ [⟨_, _⟩, ⟨_, _⟩, ⟨_, _⟩, ⟨_, _⟩, ⟨_, _⟩, ⟨_, _⟩, ⟨_, _⟩] (fun b q p => ⟨p.ke 0 rfl i0, p.ke 1 rfl i1, p.ke 2 rfl i2, p.ke 3 rfl i3, p.ke 4 rfl i4, p.ke 11 rfl i11, p.ou 7 30 rfl, trivial⟩) ?_
 rintro a k ⟨⟨hg, hs, hd⟩, i0, i1, i2, i3, i4, i11, i30, _⟩
 refine wp_cond_split (isBool i30) (fun hc898 => ?_) (fun hc898 => ?_)
 ·rw [if_pos hc898] at hr
  refine stepL 2 (_ :: _ :: []) rfl ⟨hg, hs, hd⟩ (by kernel_rfl) ⟨mu rfl i11, cp 0 rfl rfl, trivial⟩ [⟨_, _⟩] (fun b q p => ⟨p.ou 1 10 rfl, trivial⟩) ?_
  rintro a k ⟨⟨hg, hs, hd⟩, i10, _⟩
  refine wp_ret ?_
  obtain rfl := Option.some.inj hr
  exact retC1 rfl hd hg i10
 rw [if_neg (by rw [hc898]; decide)] at hr
 refine wp_skip ?_
 refine wp_seq ?_
 obtain ⟨x2, hx2, hr⟩ := bind_some hr
 refine cut (fun a' k' => Bs noF k0 136 a' k' ∧ (IsV holidays_) (a'.get 0) k' ∧ (IsV stays_) (a'.get 1) k' ∧ (IsV a_) (a'.get 2) k' ∧ (IsV b_) (a'.get 3) k' ∧ (IsV n_) (a'.get 4) k' ∧ (IsV x1) (a'.get 11) k' ∧ (IsV x2.1) (a'.get 12) k' ∧ (IsV x2.2) (a'.get 13) k' ∧ True) ?_ hQ ?_
 ·intro Q2 W2 w2
  refine gS 9 (_ :: _ :: _ :: _ :: _ :: _ :: _ :: _ :: _ :: []) hs (by kernel_rfl) ⟨mu rfl i0, mu rfl i2, mu rfl i4, o1 [(33, some 0), (34, some 1), (35, some 2)] rfl fun _ _ h n => ok_call rfl Try.call9 (calAdd_ok n.1 n.2.1 n.2.2.1 hx2), cm 3 rfl rfl, o1 [(32, some 4)] rfl fun _ _ h n => ok_ext2_0 rfl n.1, o1 [(32, some 4)] rfl fun _ _ h n => ok_ext2_1 rfl n.1, cp 5 rfl rfl, cp 6 rfl rfl, trivial⟩ W2 fun b q p => ?_
  exact tail_done (k := q) (w2 _ _ ⟨Bs.post ⟨hg, hs, hd⟩ p, p.ke 0 rfl i0, p.ke 1 rfl i1, p.ke 2 rfl i2, p.ke 3 rfl i3, p.ke 4 rfl i4, p.ke 11 rfl i11, p.ou 7 12 rfl, p.ou 8 13 rfl, trivial⟩)
 rintro a k ⟨⟨hg, hs, hd⟩, i0, i1, i2, i3, i4, i11, i12, i13, _⟩
 refine wp_seq ?_
 obtain ⟨x3, hx3, hr⟩ := bind_some hr
 refine cut (fun a' k' => Bs noF k0 136 a' k' ∧ (IsV holidays_) (a'.get 0) k' ∧ (IsV stays_) (a'.get 1) k' ∧ (IsV a_) (a'.get 2) k' ∧ (IsV b_) (a'.get 3) k' ∧ (IsV n_) (a'.get 4) k' ∧ (IsV x1) (a'.get 11) k' ∧ (IsV x2.1) (a'.get 12) k' ∧ (IsV x2.2) (a'.get 13) k' ∧ (IsV x3.1) (a'.get 14) k' ∧ (IsV x3.2) (a'.get 15) k' ∧ True) ?_ hQ ?_
 ·intro Q3 W3 w3
  refine gS 9 (_ :: _ :: _ :: _ :: _ :: _ :: _ :: _ :: _ :: []) hs (by kernel_rfl) ⟨mu rfl i0, mu rfl i2, mu rfl i4, o1 [(40, some 0), (41, some 1), (42, some 2)] rfl fun _ _ h n => ok_call rfl Try.call10 (rAdd_ok n.1 n.2.1 n.2.2.1 hx3), cm 3 rfl rfl, o1 [(39, some 4)] rfl fun _ _ h n => ok_ext2_0 rfl n.1, o1 [(39, some 4)] rfl fun _ _ h n => ok_ext2_1 rfl n.1, cp 5 rfl rfl, cp 6 rfl rfl, trivial⟩ W3 fun b q p => ?_
  exact tail_done (k := q) (w3 _ _ ⟨Bs.post ⟨hg, hs, hd⟩ p, p.ke 0 rfl i0, p.ke 1 rfl i1, p.ke 2 rfl i2, p.ke 3 rfl i3, p.ke 4 rfl i4, p.ke 11 rfl i11, p.ke 12 rfl i12, p.ke 13 rfl i13, p.ou 7 14 rfl, p.ou 8 15 rfl, trivial⟩)
 rintro a k ⟨⟨hg, hs, hd⟩, i0, i1, i2, i3, i4, i11, i12, i13, i14, i15, _⟩
 refine wp_seq ?_
 obtain ⟨x4, hx4, hr⟩ := bind_some hr
 refine cut (fun a' k' => Bs noF k0 136 a' k' ∧ (IsV holidays_) (a'.get 0) k' ∧ (IsV stays_) (a'.get 1) k' ∧ (IsV a_) (a'.get 2) k' ∧ (IsV b_) (a'.get 3) k' ∧ (IsV n_) (a'.get 4) k' ∧ (IsV x1) (a'.get 11) k' ∧ (IsV x2.1) (a'.get 12) k' ∧ (IsV x2.2) (a'.get 13) k' ∧ (IsV x3.1) (a'.get 14) k' ∧ (IsV x3.2) (a'.get 15) k' ∧ (IsV x4.1) (a'.get 16) k' ∧ (IsV x4.2) (a'.get 17) k' ∧ True) ?_ hQ ?_
 ·intro Q4 W4 w4
  refine gS 10 (_ :: _ :: _ :: _ :: _ :: _ :: _ :: _ :: _ :: _ :: []) hs (by kernel_rfl) ⟨mu rfl i0, mu rfl i1, mu rfl i2, mu rfl i4, o1 [(47, some 0), (48, some 1), (49, some 2), (50, some 3)] rfl fun _ _ h n => ok_call rfl Try.call11 (calDeadline_ok n.1 n.2.1 n.2.2.1 n.2.2.2.1 hx4), cm 4 rfl rfl, o1 [(46, some 5)] rfl fun _ _ h n => ok_ext2_0 rfl n.1, o1 [(46, some 5)] rfl fun _ _ h n => ok_ext2_1 rfl n.1, cp 6 rfl rfl, cp 7 rfl rfl, trivial⟩ W4 fun b q p => ?_
  exact tail_done (k := q) (w4 _ _ ⟨Bs.post ⟨hg, hs, hd⟩ p, p.ke 0 rfl i0, p.ke 1 rfl i1, p.ke 2 rfl i2, p.ke 3 rfl i3, p.ke 4 rfl i4, p.ke 11 rfl i11, p.ke 12 rfl i12, p.ke 13 rfl i13, p.ke 14 rfl i14, p.ke 15 rfl i15, p.ou 8 16 rfl, p.ou 9 17 rfl, trivial⟩)
 rintro a k ⟨⟨hg, hs, hd⟩, i0, i1, i2, i3, i4, i11, i12, i13, i14, i15, i16, i17, _⟩
 refine wp_seq ?_
 obtain ⟨x5, hx5, hr⟩ := bind_some hr
 refine cut (fun a' k' => Bs noF k0 136 a' k' ∧ (IsV holidays_) (a'.get 0) k' ∧ (IsV stays_) (a'.get 1) k' ∧ (IsV a_) (a'.get 2) k' ∧ (IsV b_) (a'.get 3) k' ∧ (IsV x1) (a'.get 11) k' ∧ (IsV x2.1) (a'.get 12) k' ∧ (IsV x2.2) (a'.get 13) k' ∧ (IsV x3.1) (a'.get 14) k' ∧ (IsV x3.2) (a'.get 15) k' ∧ (IsV x4.1) (a'.get 16) k' ∧ (IsV x4.2) (a'.get 17) k' ∧ (IsV x5.1) (a'.get 18) k' ∧ (IsV x5.2) (a'.get 19) k' ∧ True) ?_ hQ ?_
 ·intro Q5 W5 w5
  refine gS 10 (_ :: _ :: _ :: _ :: _ :: _ :: _ :: _ :: _ :: _ :: []) hs (by kernel_rfl) ⟨mu rfl i0, mu rfl i1, mu rfl i2, mu rfl i4, o1 [(55, some 0), (56, some 1), (57, some 2), (58, some 3)] rfl fun _ _ h n => ok_call rfl Try.call12 (rDeadline_ok n.1 n.2.1 n.2.2.1 n.2.2.2.1 hx5), cm 4 rfl rfl, o1 [(54, some 5)] rfl fun _ _ h n => ok_ext2_0 rfl n.1, o1 [(54, some 5)] rfl fun _ _ h n => ok_ext2_1 rfl n.1, cp 6 rfl rfl, cp 7 rfl rfl, trivial⟩ W5 fun b q p => ?_
  exact tail_done (k := q) (w5 _ _ ⟨Bs.post ⟨hg, hs, hd⟩ p, p.ke 0 rfl i0, p.ke 1 rfl i1, p.ke 2 rfl i2, p.ke 3 rfl i3, p.ke 11 rfl i11, p.ke 12 rfl i12, p.ke 13 rfl i13, p.ke 14 rfl i14, p.ke 15 rfl i15, p.ke 16 rfl i16, p.ke 17 rfl i17, p.ou 8 18 rfl, p.ou 9 19 rfl, trivial⟩)
 rintro a k ⟨⟨hg, hs, hd⟩, i0, i1, i2, i3, i11, i12, i13, i14, i15, i16, i17, i18, i19, _⟩
 refine wp_seq ?_
 obtain ⟨x6, hx6, hr⟩ := bind_some hr
 obtain ⟨x7, hx7, hr⟩ := bind_some hr
 obtain ⟨x8, hx8, hr⟩ := bind_some hr
 obtain ⟨x9, hx9, hx8⟩ := ite_bind hx8
 obtain ⟨x10, hx10, hx8⟩ := ite_bind hx8
 obtain ⟨x11, hx11, hr⟩ := bind_some hr
 obtain ⟨x12, hx12, hx11⟩ := ite_bind hx11
 obtain ⟨x13, hx13, hx11⟩ := ite_bind hx11
 refine cut (fun a' k' => Bs noF k0 136 a' k' ∧ (IsV holidays_) (a'.get 0) k' ∧ (IsV stays_) (a'.get 1) k' ∧ (IsV a_) (a'.get 2) k' ∧ (IsV b_) (a'.get 3) k' ∧ (IsV x1) (a'.get 11) k' ∧ (IsV x2.1) (a'.get 12) k' ∧ (IsV x2.2) (a'.get 13) k' ∧ (IsV x3.1) (a'.get 14) k' ∧ (IsV x3.2) (a'.get 15) k' ∧ (IsV x4.1) (a'.get 16) k' ∧ (IsV x4.2) (a'.get 17) k' ∧ (IsV x5.1) (a'.get 18) k' ∧ (IsV x5.2) (a'.get 19) k' ∧ (IsV x11) (a'.get 20) k' ∧ True) ?_ hQ ?_
 ·intro Q6 W6 w6
  refine gS 26 (_ :: _ :: _ :: _ :: _ :: _ :: _ :: _ :: _ :: _ :: _ :: _ :: _ :: _ :: _ :: _ :: _ :: _ :: _ :: _ :: _ :: _ :: _ :: _ :: _ :: _ :: []) hs (by kernel_rfl) ⟨mu rfl i0, o1 [(62, some 0)] rfl fun _ _ h n => ok_call rfl Try.call13 (calRight_ok n.1 hx6), mu rfl i0, o1 [(64, some 2)] rfl fun _ _ h n => ok_call rfl Try.call14 (rRight_ok n.1 hx7), o1 [(63, some 1), (65, some 3)] rfl fun _ _ h n => ok_eqB rfl Try.underlying4 n.1 n.2.1, cm 4 rfl rfl, mT rfl rfl i0, mT rfl rfl i2, gT [(68, some 6), (69, some 7)] rfl rfl fun hp _ _ h n => ok_call rfl Try.call15 (calIsWork_ok (Gd.get n.1 hp) (Gd.get n.2.1 hp) (hx9 hp)), mT rfl rfl i0, mT rfl rfl i2, gT [(71, some 9), (72, some 10)] rfl rfl fun hp _ _ h n => ok_call rfl Try.call16 (rIsWork_ok (Gd.get n.1 hp) (Gd.get n.2.1 hp) (hx10 hp)), gT [(70, some 8), (73, some 11)] rfl rfl fun hp _ _ h n => ok_eqB rfl Try.underlying4 (Gd.get n.1 hp) (Gd.get n.2.1 hp), o1 [(67, some 5), (74, some 12)] rfl fun _ _ h n => ok_pickM rfl n.1 hx8 (Gd.get n.2.1) (cB rfl), cm 13 rfl rfl, mT rfl rfl i0, mT rfl rfl i1, mT rfl rfl i2, gT [(77, some 15), (78, some 16), (79, some 17)] rfl rfl fun hp _ _ h n => ok_call rfl Try.call17 (calCounts_ok (Gd.get n.1 hp) (Gd.get n.2.1 hp) (Gd.get n.2.2.1 hp) (hx12 hp)), mT rfl rfl i0, mT rfl rfl i1, mT rfl rfl i2, gT [(81, some 19), (82, some 20), (83, some 21)] rfl rfl fun hp _ _ h n => ok_call rfl Try.call18 (rCounts_ok (Gd.get n.1 hp) (Gd.get n.2.1 hp) (Gd.get n.2.2.1 hp) (hx13 hp)), gT [(80, some 18), (84, some 22)] rfl rfl fun hp _ _ h n => ok_eqB rfl Try.underlying4 (Gd.get n.1 hp) (Gd.get n.2.1 hp), o1 [(76, some 14), (85, some 23)] rfl fun _ _ h n => ok_pickM rfl n.1 hx11 (Gd.get n.2.1) (cB rfl), cp 24 rfl rfl, trivial⟩ W6 fun b q p => ?_
  exact tail_done (k := q) (w6 _ _ ⟨Bs.post ⟨hg, hs, hd⟩ p, p.ke 0 rfl i0, p.ke 1 rfl i1, p.ke 2 rfl i2, p.ke 3 rfl i3, p.ke 11 rfl i11, p.ke 12 rfl i12, p.ke 13 rfl i13, p.ke 14 rfl i14, p.ke 15 rfl i15, p.ke 16 rfl i16, p.ke 17 rfl i17, p.ke 18 rfl i18, p.ke 19 rfl i19, p.ou 25 20 rfl, trivial⟩)
 rintro a k ⟨⟨hg, hs, hd⟩, i0, i1, i2, i3, i11, i12, i13, i14, i15, i16, i17, i18, i19, i20, _⟩
 refine wp_seq ?_
 obtain ⟨x14, hx14, hr⟩ := bind_some hr
 obtain ⟨x15, hx15, hr⟩ := bind_some hr
 obtain ⟨x16, hx16, hr⟩ := bind_some hr
 obtain ⟨x17, hx17, hx16⟩ := ite_bind hx16
 obtain ⟨x18, hx18, hx16⟩ := ite_bind hx16
 refine cut (fun a' k' => Bs noF k0 136 a' k' ∧ (IsV x1) (a'.get 11) k' ∧ (IsV x2.1) (a'.get 12) k' ∧ (IsV x2.2) (a'.get 13) k' ∧ (IsV x3.1) (a'.get 14) k' ∧ (IsV x3.2) (a'.get 15) k' ∧ (IsV x4.1) (a'.get 16) k' ∧ (IsV x4.2) (a'.get 17) k' ∧ (IsV x5.1) (a'.get 18) k' ∧ (IsV x5.2) (a'.get 19) k' ∧ (IsV x11) (a'.get 20) k' ∧ (IsV x16) (a'.get 21) k' ∧ True) ?_ hQ ?_
 ·intro Q7 W7 w7
  refine gS 23 (_ :: _ :: _ :: _ :: _ :: _ :: _ :: _ :: _ :: _ :: _ :: _ :: _ :: _ :: _ :: _ :: _ :: _ :: _ :: _ :: _ :: _ :: _ :: []) hs (by kernel_rfl) ⟨mu rfl i0, mu rfl i2, mu rfl i3, o1 [(87, some 0), (88, some 1), (89, some 2)] rfl fun _ _ h n => ok_call rfl Try.call19 (calBetween_ok n.1 n.2.1 n.2.2.1 hx14), mu rfl i0, mu rfl i2, mu rfl i3, o1 [(91, some 4), (92, some 5), (93, some 6)] rfl fun _ _ h n => ok_call rfl Try.call20 (rBetween_ok n.1 n.2.1 n.2.2.1 hx15), o1 [(90, some 3), (94, some 7)] rfl fun _ _ h n => ok_eqI rfl n.1 n.2.1, cm 8 rfl rfl, mT rfl rfl i0, mT rfl rfl i1, mT rfl rfl i2, mT rfl rfl i3, gT [(97, some 10), (98, some 11), (99, some 12), (100, some 13)] rfl rfl fun hp _ _ h n => ok_call rfl Try.call21 (calCount_ok (Gd.get n.1 hp) (Gd.get n.2.1 hp) (Gd.get n.2.2.1 hp) (Gd.get n.2.2.2.1 hp) (hx17 hp)), mT rfl rfl i0, mT rfl rfl i1, mT rfl rfl i2, mT rfl rfl i3, gT [(102, some 15), (103, some 16), (104, some 17), (105, some 18)] rfl rfl fun hp _ _ h n => ok_call rfl Try.call22 (rCount_ok (Gd.get n.1 hp) (Gd.get n.2.1 hp) (Gd.get n.2.2.1 hp) (Gd.get n.2.2.2.1 hp) (hx18 hp)), gT [(101, some 14), (106, some 19)] rfl rfl fun hp _ _ h n => ok_eqI rfl (Gd.get n.1 hp) (Gd.get n.2.1 hp), o1 [(96, some 9), (107, some 20)] rfl fun _ _ h n => ok_pickM rfl n.1 hx16 (Gd.get n.2.1) (cB rfl), cp 21 rfl rfl, trivial⟩ W7 fun b q p => ?_
  exact tail_done (k := q) (w7 _ _ ⟨Bs.post ⟨hg, hs, hd⟩ p, p.ke 11 rfl i11, p.ke 12 rfl i12, p.ke 13 rfl i13, p.ke 14 rfl i14, p.ke 15 rfl i15, p.ke 16 rfl i16, p.ke 17 rfl i17, p.ke 18 rfl i18, p.ke 19 rfl i19, p.ke 20 rfl i20, p.ou 22 21 rfl, trivial⟩)
 rintro a k ⟨⟨hg, hs, hd⟩, i11, i12, i13, i14, i15, i16, i17, i18, i19, i20, i21, _⟩
 refine stepL 28 (_ :: _ :: _ :: _ :: _ :: _ :: _ :: _ :: _ :: _ :: _ :: _ :: _ :: _ :: _ :: _ :: _ :: _ :: _ :: _ :: _ :: _ :: _ :: _ :: _ :: _ :: _ :: _ :: []) rfl ⟨hg, hs, hd⟩ (by kernel_rfl) ⟨mu rfl i11, cm 0 rfl rfl, mT rfl rfl i20, o1 [(110, some 1), (111, some 2)] rfl fun _ _ h n => ok_pickAnd rfl n.1 (Gd.get n.2.1) (cB rfl), cm 3 rfl rfl, mT rfl rfl i21, o1 [(113, some 4), (114, some 5)] rfl fun _ _ h n => ok_pickAnd rfl n.1 (Gd.get n.2.1) (cB rfl), cm 6 rfl rfl, mT rfl rfl i12, mT rfl rfl i14, gT [(117, some 8), (118, some 9)] rfl rfl fun hp _ _ h n => ok_eqI rfl (Gd.get n.1 hp) (Gd.get n.2.1 hp), o1 [(116, some 7), (119, some 10)] rfl fun _ _ h n => ok_pickAnd rfl n.1 (Gd.get n.2.1) (cB rfl), cm 11 rfl rfl, mT rfl rfl i13, mT rfl rfl i15, gT [(122, some 13), (123, some 14)] rfl rfl fun hp _ _ h n => ok_eqI rfl (Gd.get n.1 hp) (Gd.get n.2.1 hp), o1 [(121, some 12), (124, some 15)] rfl fun _ _ h n => ok_pickAnd rfl n.1 (Gd.get n.2.1) (cB rfl), cm 16 rfl rfl, mT rfl rfl i16, mT rfl rfl i18, gT [(127, some 18), (128, some 19)] rfl rfl fun hp _ _ h n => ok_eqI rfl (Gd.get n.1 hp) (Gd.get n.2.1 hp), o1 [(126, some 17), (129, some 20)] rfl fun _ _ h n => ok_pickAnd rfl n.1 (Gd.get n.2.1) (cB rfl), cm 21 rfl rfl, mT rfl rfl i17, mT rfl rfl i19, gT [(132, some 23), (133, some 24)] rfl rfl fun hp _ _ h n => ok_eqI rfl (Gd.get n.1 hp) (Gd.get n.2.1 hp), o1 [(131, some 22), (134, some 25)] rfl fun _ _ h n => ok_pickAnd rfl n.1 (Gd.get n.2.1) (cB rfl), cp 26 rfl rfl, trivial⟩ [⟨_, _⟩] (fun b q p => ⟨p.ou 27 10 rfl, trivial⟩) ?_
 rintro a k ⟨⟨hg, hs, hd⟩, i10, _⟩
 refine wp_ret ?_
 obtain rfl := Option.some.inj hr
 exact retC1 rfl hd hg i10
end Go.Proofs.Ytdpekblabnfjnaa
