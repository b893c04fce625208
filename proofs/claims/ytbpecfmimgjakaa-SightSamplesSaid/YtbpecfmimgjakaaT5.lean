/- What the functions compute that the law reaches, part 5 -/
import Derived.Test.YtbpecfmimgjakaaT4
namespace Go.Proofs.Ytbpecfmimgjakaa
open Go.Gb
set_option linter.unusedVariables false
set_option linter.unusedSimpArgs false
set_option maxRecDepth 100000
def sight_interval_below (i_ : SightInterval) (b_ : SightBound) : Option (SightInterval) :=
 (if i_.top then
  (sight_bound_compare b_ i_.hi).bind fun x1436_5 =>
  some x1436_5
 else
  some (-1)).bind fun s1434 =>
 (if (decide (s1434 < 0)) then
  some { { i_ with hi := b_ } with top := true }
 else
  (if (s1434 == 0) then
   some { i_ with hi := { i_.hi with open_ := (i_.hi.open_ || b_.open_) } }
  else
   some i_).bind fun s1447 =>
  some s1447).bind fun s1441 =>
 some s1441
theorem sight_interval_below_ok {k0 : K} {v0 v1 : Value} {i_ : SightInterval} {b_ : SightBound} {r : SightInterval} {b0 : Nat} (i0 : v0 = .pointer (some ⟨b0, 0, none⟩)) (c0 : Gb.Box b0 i_ k0) (i1 : (IsV b_) v1 k0) (hr : sight_interval_below i_ b_ = some r) :
  Calls Try.prog 72 #[v0, v1] k0.w (RetC (Eq b0) k0 (IsTurn b0 r)) := by
 unfold sight_interval_below at hr
 refine enterK Try.func72 rfl Try.ntmps72 (show 2 ≤ 41 by decide) fun a k hk0 hs hd ha => ?_
 obtain ⟨e0, e1, _⟩ := ha
 replace i0 : a.get 0 = .pointer (some ⟨b0, 0, none⟩) := by rw [e0]; exact i0
 replace c0 : Gb.Box b0 i_ k := by rw [hk0]; exact c0
 have n0 : Wr (Eq b0) k0 (Eq b0) := fun b h => .inl h
 replace i1 : (IsV b_) (a.get 1) k := by rw [e1, hk0]; exact i1
 have hQ : Gb.LetsOut (bodyPost Try.prog Try.f72 (RetC (Eq b0) k0 (IsTurn b0 r))) := letsOutC
 have hg : Chg (Eq b0) k0 k := by rw [hk0]; exact Chg.refl _ k0
 refine cutS (fun a' k' => Bs (Eq b0) k0 41 a' k' ∧ a'.get 0 = .pointer (some ⟨b0, 0, none⟩) ∧ Wr (Eq b0) k0 (Eq b0) ∧ Gb.Box b0 i_ k' ∧ (IsRef b_) (a'.get 3) k' ∧ True) ?_ ?_
 ·intro Q1465 hQQ1465 hp1466
  refine gS 1 (⟨some (IsRef b_), [(1, none)]⟩ :: []) hs (by kernel_rfl) ⟨ob1 rfl fun _ _ h n => ok_boxR rfl (up i1 h n.1), trivial⟩ hQQ1465 fun b q p => ?_
  exact tail_done (k := q) (hp1466 _ _ ⟨Bs.post ⟨hg, hs, hd⟩ p, upE i0 (p.old 0 rfl), n0, Gb.Box.grow c0 p.grow, p.ou 0 3 rfl, trivial⟩)
 rintro a k ⟨⟨hg, hs, hd⟩, i0, n0, c0, i3, _⟩
 refine cutS (fun a' k' => Bs (Eq b0) k0 41 a' k' ∧ a'.get 0 = .pointer (some ⟨b0, 0, none⟩) ∧ Wr (Eq b0) k0 (Eq b0) ∧ Gb.Box b0 i_ k' ∧ (IsRef b_) (a'.get 3) k' ∧ (IsI (-1)) (a'.get 4) k' ∧ True) ?_ ?_
 ·intro Q1463 hQQ1463 hp1464
  refine gS 1 (⟨some (IsI (-1)), []⟩ :: []) hs (by kernel_rfl) ⟨aI rfl rfl, trivial⟩ hQQ1463 fun b q p => ?_
  exact tail_done (k := q) (hp1464 _ _ ⟨Bs.post ⟨hg, hs, hd⟩ p, upE i0 (p.old 0 rfl), n0, Gb.Box.grow c0 p.grow, p.ke 3 rfl i3, p.ou 0 4 rfl, trivial⟩)
 rintro a k ⟨⟨hg, hs, hd⟩, i0, n0, c0, i3, i4, _⟩
 refine wp_seq ?_
 refine cutS (fun a' k' => Bs (Eq b0) k0 41 a' k' ∧ a'.get 0 = .pointer (some ⟨b0, 0, none⟩) ∧ Wr (Eq b0) k0 (Eq b0) ∧ Gb.Box b0 i_ k' ∧ (IsRef b_) (a'.get 3) k' ∧ (IsI (-1)) (a'.get 4) k' ∧ (IsV i_.top) (a'.get 8) k' ∧ True) ?_ ?_
 ·intro Q1461 hQQ1461 hp1462
  refine gS 4 (⟨some (IsAdr b0 (0)), [(0, none)]⟩ :: ⟨some (IsAdr b0 (0)), [(5, some 0)]⟩ :: _ :: _ :: []) hs (by kernel_rfl) ⟨ob1 rfl fun _ _ h n => ok_moveB rfl (upE i0 n.1), ob1 rfl fun _ _ h n => ok_nilCheckA rfl n.1, o1 [(6, some 1)] rfl fun _ _ h n => ok_fieldAddr rfl fo55_2 (at_SightInterval_2 _) (IsAdr.ptrB n.1 (c0.grow h)), o1 [(7, some 2)] rfl fun _ _ h n => ok_load rfl ty4 n.1, trivial⟩ hQQ1461 fun b q p => ?_
  exact tail_done (k := q) (hp1462 _ _ ⟨Bs.post ⟨hg, hs, hd⟩ p, upE i0 (p.old 0 rfl), n0, Gb.Box.grow c0 p.grow, p.ke 3 rfl i3, p.ke 4 rfl i4, p.ou 3 8 rfl, trivial⟩)
 rintro a k ⟨⟨hg, hs, hd⟩, i0, n0, c0, i3, i4, i8, _⟩
 obtain ⟨s1434, hs1434, hr⟩ := bind_some hr
 refine cut (fun a' k' => Bs (Eq b0) k0 41 a' k' ∧ a'.get 0 = .pointer (some ⟨b0, 0, none⟩) ∧ Wr (Eq b0) k0 (Eq b0) ∧ Gb.Box b0 i_ k' ∧ (IsRef b_) (a'.get 3) k' ∧ (IsV s1434) (a'.get 4) k' ∧ True) ?_ hQ ?_
 ·intro Q1460 hQQ1460 hp1435
  replace hr := hs1434
  clear hQ
  have hQ := hQQ1460
  refine wp_cond_split (isBool i8) (fun hc1439 => ?_) (fun hc1439 => ?_)
  ·rw [if_pos hc1439] at hr
   obtain ⟨x1436_5, hx1436_5, hr⟩ := bind_some hr
   refine cut (fun a' k' => Bs (Eq b0) k0 41 a' k' ∧ a'.get 0 = .pointer (some ⟨b0, 0, none⟩) ∧ Wr (Eq b0) k0 (Eq b0) ∧ Gb.Box b0 i_ k' ∧ (IsRef b_) (a'.get 3) k' ∧ (IsV x1436_5) (a'.get 4) k' ∧ True) ?_ hQ ?_
   ·intro Q1437 hQQ1437 hp1438
    refine region (a0 := a) (k0 := k) (n := 41) (m := 7) (⟨some (IsV b_), [(3, none)]⟩ :: ⟨some (IsAdr b0 (0)), [(0, none)]⟩ :: ⟨some (IsAdr b0 (0)), [(10, some 1)]⟩ :: ⟨some (IsPtr i_.hi), [(11, some 2)]⟩ :: ⟨some (IsV i_.hi), [(12, some 3)]⟩ :: ⟨some (IsV x1436_5), [(9, some 0), (13, some 4)]⟩ :: ⟨some (IsV x1436_5), [(14, some 5)]⟩ :: []) hmix hs (by kernel_rfl) ⟨ob1 rfl fun b q hk hn => ok_load rfl ty53 ((up i3 hk hn.1)).ptr, ob1 rfl fun b q hk hn => ok_moveB rfl (upE i0 hn.1), ob1 rfl fun b q hk hn => ok_nilCheckA rfl hn.1, ob1 rfl fun b q hk hn => ok_fieldAddr rfl fo55_1 (at_SightInterval_1 _) (IsAdr.ptrB hn.1 (c0.grow hk)), ob1 rfl fun b q hk hn => ok_load rfl ty53 hn.1, ob1 rfl fun b q hk hn => ok_call rfl Try.call73 (sight_bound_compare_ok hn.1 hn.2.1 hx1436_5), ob1 rfl fun b q hk hn => ok_assign rfl hn.1, trivial⟩ hQQ1437 fun b q p => ?_
    exact tail_done (k := q) (hp1438 _ _ ⟨Bs.post ⟨hg, hs, hd⟩ p, upE i0 (p.old 0 rfl), n0, Gb.Box.grow c0 p.grow, p.ke 3 rfl i3, p.ou 6 4 rfl, trivial⟩)
   rintro a k ⟨⟨hg, hs, hd⟩, i0, n0, c0, i3, i4, _⟩
   obtain rfl := Option.some.inj hr
   exact hp1435 _ _ ⟨⟨hg, hs, hd⟩, i0, n0, c0, i3, i4, trivial⟩
  rw [if_neg (by rw [hc1439]; decide)] at hr
  refine wp_skip ?_
  obtain rfl := Option.some.inj hr
  exact hp1435 _ _ ⟨⟨hg, hs, hd⟩, i0, n0, c0, i3, i4, trivial⟩
 clear hs1434
 rintro a k ⟨⟨hg, hs, hd⟩, i0, n0, c0, i3, i4, _⟩
 refine wp_block ?_
 refine cutS (fun a' k' => Bs (Eq b0) k0 41 a' k' ∧ a'.get 0 = .pointer (some ⟨b0, 0, none⟩) ∧ Wr (Eq b0) k0 (Eq b0) ∧ Gb.Box b0 i_ k' ∧ (IsRef b_) (a'.get 3) k' ∧ (IsV s1434) (a'.get 4) k' ∧ (IsV (decide (s1434 < 0))) (a'.get 15) k' ∧ True) ?_ ?_
 ·intro Q1458 hQQ1458 hp1459
  refine gS 3 (_ :: _ :: _ :: []) hs (by kernel_rfl) ⟨mu rfl i4, o1 [(16, some 0)] rfl fun _ _ h n => ok_lss rfl n.1 (cI rfl), cp 1 rfl rfl, trivial⟩ hQQ1458 fun b q p => ?_
  exact tail_done (k := q) (hp1459 _ _ ⟨Bs.post ⟨hg, hs, hd⟩ p, upE i0 (p.old 0 rfl), n0, Gb.Box.grow c0 p.grow, p.ke 3 rfl i3, p.ke 4 rfl i4, p.ou 2 15 rfl, trivial⟩)
 rintro a k ⟨⟨hg, hs, hd⟩, i0, n0, c0, i3, i4, i15, _⟩
 obtain ⟨s1441, hs1441, hr⟩ := bind_some hr
 refine cut (fun a' k' => Bs (Eq b0) k0 41 a' k' ∧ a'.get 0 = .pointer (some ⟨b0, 0, none⟩) ∧ Wr (Eq b0) k0 (Eq b0) ∧ Gb.Box b0 s1441 k' ∧ True) ?_ hQ ?_
 ·intro Q1457 hQQ1457 hp1442
  replace hr := hs1441
  clear hQ
  have hQ := hQQ1457
  refine wp_cond_split (isBool i15) (fun hc1456 => ?_) (fun hc1456 => ?_)
  ·rw [if_pos hc1456] at hr
   refine cut (fun a' k' => Bs (Eq b0) k0 41 a' k' ∧ a'.get 0 = .pointer (some ⟨b0, 0, none⟩) ∧ Wr (Eq b0) k0 (Eq b0) ∧ Gb.Box b0 ({ { i_ with hi := b_ } with top := true }) k' ∧ True) ?_ hQ ?_
   ·intro Q1444 hQQ1444 hp1445
    refine gS 5 (⟨some (IsAdr b0 (0)), [(0, none)]⟩ :: ⟨some (IsAdr b0 (0)), [(0, none)]⟩ :: _ :: ⟨some (IsAdr b0 (0)), [(18, some 0)]⟩ :: _ :: []) hs (by kernel_rfl) ⟨ob1 rfl fun _ _ h n => ok_moveB rfl (upE i0 n.1), ob1 rfl fun _ _ h n => ok_moveB rfl (upE i0 n.1), o1 [(3, none)] rfl fun _ _ h n => ok_load rfl ty53 ((up i3 h n.1)).ptr, ob1 rfl fun _ _ h n => ok_nilCheckA rfl n.1, o1 [(21, some 3)] rfl fun _ _ h n => ok_fieldAdr2 rfl fo55_1 n.1, trivial⟩ hQQ1444 fun b q p => ?_
    have hgq := hg.then p.grow
    have hsb := p.size.trans hs
    have hdb := p.defers.trans hd
    have j0 := upE i0 (p.old 0 rfl)
    have z0 := Gb.Box.grow c0 p.grow
    have y0 := n0
    have j19 : IsAdr b0 (0) (b.get 19) q := p.ou 1 19 rfl
    have j20 : (IsV b_) (b.get 20) q := p.ou 2 20 rfl
    have j22 : IsAdr b0 (0 + 3) (b.get 22) q := p.ou 4 22 rfl
    have hns := z0.nshF
    refine tail_storeB (i := 5) rfl rfl rfl rfl szf53 upd_F55_1 j22 z0 j20 fun q2 hch hz => ?_
    replace hgq := hgq.step hch y0
    have hle := hch.le hns
    replace j19 := Pers.pers hle j19
    replace j20 := Pers.pers hle j20
    replace j22 := Pers.pers hle j22
    replace z0 := hz
    clear hns hle hch
    obtain ⟨q, hqq⟩ : ∃ q, q = q2 := ⟨q2, rfl⟩
    subst hqq
    refine tail_does (R := IsAdr b0 (0)) (i := 6) (d := 23) rfl rfl rfl (by rw [hsb]; decide) hQQ1444 (ok_nilCheckA rfl j19) fun b2 q2 hsz hdf hoth hgr hnew => ?_
    replace z0 := z0.grow hgr
    replace j19 := Pers.pers hgr.le j19
    replace j20 := Pers.pers hgr.le j20
    replace j22 := Pers.pers hgr.le j22
    replace hgq := hgq.then hgr
    rw [← hoth 0 (by decide)] at j0
    rw [← hoth 19 (by decide)] at j19
    rw [← hoth 20 (by decide)] at j20
    rw [← hoth 22 (by decide)] at j22
    have j23 := hnew
    replace hsb := hsz.trans hsb
    replace hdb := hdf.trans hdb
    clear hgr hsz hdf hoth hnew
    obtain ⟨b, hbb⟩ : ∃ b, b = b2 := ⟨b2, rfl⟩
    subst hbb
    obtain ⟨q, hqq⟩ : ∃ q, q = q2 := ⟨q2, rfl⟩
    subst hqq
    refine tail_does (R := IsAdr b0 (0 + 6)) (i := 7) (d := 24) rfl rfl rfl (by rw [hsb]; decide) hQQ1444 (ok_fieldAdr2 rfl fo55_2 j23) fun b2 q2 hsz hdf hoth hgr hnew => ?_
    replace z0 := z0.grow hgr
    replace j19 := Pers.pers hgr.le j19
    replace j20 := Pers.pers hgr.le j20
    replace j22 := Pers.pers hgr.le j22
    replace j23 := Pers.pers hgr.le j23
    replace hgq := hgq.then hgr
    rw [← hoth 0 (by decide)] at j0
    rw [← hoth 19 (by decide)] at j19
    rw [← hoth 20 (by decide)] at j20
    rw [← hoth 22 (by decide)] at j22
    rw [← hoth 23 (by decide)] at j23
    have j24 := hnew
    replace hsb := hsz.trans hsb
    replace hdb := hdf.trans hdb
    clear hgr hsz hdf hoth hnew
    obtain ⟨b, hbb⟩ : ∃ b, b = b2 := ⟨b2, rfl⟩
    subst hbb
    obtain ⟨q, hqq⟩ : ∃ q, q = q2 := ⟨q2, rfl⟩
    subst hqq
    have hns := z0.nshF
    refine tail_storeB (i := 8) rfl rfl rfl rfl szf4 upd_F55_2 j24 z0 (isV_bool.2 rfl) fun q2 hch hz => ?_
    replace hgq := hgq.step hch y0
    have hle := hch.le hns
    replace j19 := Pers.pers hle j19
    replace j20 := Pers.pers hle j20
    replace j22 := Pers.pers hle j22
    replace j23 := Pers.pers hle j23
    replace j24 := Pers.pers hle j24
    replace z0 := hz
    clear hns hle hch
    obtain ⟨q, hqq⟩ : ∃ q, q = q2 := ⟨q2, rfl⟩
    subst hqq
    exact tail_done (k := q) (hp1445 _ _ ⟨⟨hgq, hsb, hdb⟩, j0, y0, z0, trivial⟩)
   rintro a k ⟨⟨hg, hs, hd⟩, i0, n0, c0, _⟩
   obtain rfl := Option.some.inj hr
   exact hp1442 _ _ ⟨⟨hg, hs, hd⟩, i0, n0, c0, trivial⟩
  rw [if_neg (by rw [hc1456]; decide)] at hr
  refine cutS (fun a' k' => Bs (Eq b0) k0 41 a' k' ∧ a'.get 0 = .pointer (some ⟨b0, 0, none⟩) ∧ Wr (Eq b0) k0 (Eq b0) ∧ Gb.Box b0 i_ k' ∧ (IsRef b_) (a'.get 3) k' ∧ (IsV (s1434 == 0)) (a'.get 25) k' ∧ True) ?_ ?_
  ·intro Q1454 hQQ1454 hp1455
   refine gS 3 (_ :: _ :: _ :: []) hs (by kernel_rfl) ⟨mu rfl i4, o1 [(26, some 0)] rfl fun _ _ h n => ok_eqI rfl n.1 (cI rfl), cp 1 rfl rfl, trivial⟩ hQQ1454 fun b q p => ?_
   exact tail_done (k := q) (hp1455 _ _ ⟨Bs.post ⟨hg, hs, hd⟩ p, upE i0 (p.old 0 rfl), n0, Gb.Box.grow c0 p.grow, p.ke 3 rfl i3, p.ou 2 25 rfl, trivial⟩)
  rintro a k ⟨⟨hg, hs, hd⟩, i0, n0, c0, i3, i25, _⟩
  obtain ⟨s1447, hs1447, hr⟩ := bind_some hr
  refine cut (fun a' k' => Bs (Eq b0) k0 41 a' k' ∧ a'.get 0 = .pointer (some ⟨b0, 0, none⟩) ∧ Wr (Eq b0) k0 (Eq b0) ∧ Gb.Box b0 s1447 k' ∧ True) ?_ hQ ?_
  ·intro Q1453 hQQ1453 hp1448
   replace hr := hs1447
   clear hQ
   have hQ := hQQ1453
   refine wp_cond_split (isBool i25) (fun hc1452 => ?_) (fun hc1452 => ?_)
   ·rw [if_pos hc1452] at hr
    refine cut (fun a' k' => Bs (Eq b0) k0 41 a' k' ∧ a'.get 0 = .pointer (some ⟨b0, 0, none⟩) ∧ Wr (Eq b0) k0 (Eq b0) ∧ Gb.Box b0 ({ i_ with hi := { i_.hi with open_ := (i_.hi.open_ || b_.open_) } }) k' ∧ True) ?_ hQ ?_
    ·intro Q1450 hQQ1450 hp1451
     refine gS 13 (⟨some (IsAdr b0 (0)), [(0, none)]⟩ :: ⟨some (IsAdr b0 (0)), [(0, none)]⟩ :: ⟨some (IsAdr b0 (0)), [(29, some 1)]⟩ :: _ :: _ :: _ :: _ :: _ :: _ :: _ :: ⟨some (IsAdr b0 (0)), [(28, some 0)]⟩ :: _ :: _ :: []) hs (by kernel_rfl) ⟨ob1 rfl fun _ _ h n => ok_moveB rfl (upE i0 n.1), ob1 rfl fun _ _ h n => ok_moveB rfl (upE i0 n.1), ob1 rfl fun _ _ h n => ok_nilCheckA rfl n.1, o1 [(30, some 2)] rfl fun _ _ h n => ok_fieldAddr rfl fo55_1 (at_SightInterval_1 _) (IsAdr.ptrB n.1 (c0.grow h)), o1 [(31, some 3)] rfl fun _ _ h n => ok_fieldAddr rfl fo53_2 (at_SightBound_2 _) n.1, o1 [(32, some 4)] rfl fun _ _ h n => ok_load rfl ty4 n.1, cm 5 rfl rfl, gF [(3, none)] rfl rfl fun hp _ _ h n => ok_fieldAddr rfl fo53_2 (at_SightBound_2 _) ((up i3 h n.1)).ptr, gF [(35, some 7)] rfl rfl fun hp _ _ h n => ok_load rfl ty4 (Gd.get n.1 hp), o1 [(34, some 6), (36, some 8)] rfl fun _ _ h n => ok_pickOr rfl n.1 (cB rfl) (Gd.get n.2.1), ob1 rfl fun _ _ h n => ok_nilCheckA rfl n.1, o1 [(38, some 10)] rfl fun _ _ h n => ok_fieldAdr2 rfl fo55_1 n.1, o1 [(39, some 11)] rfl fun _ _ h n => ok_fieldAdr2 rfl fo53_2 n.1, trivial⟩ hQQ1450 fun b q p => ?_
     have hgq := hg.then p.grow
     have hsb := p.size.trans hs
     have hdb := p.defers.trans hd
     have j0 := upE i0 (p.old 0 rfl)
     have z0 := Gb.Box.grow c0 p.grow
     have y0 := n0
     have j37 : (IsV (i_.hi.open_ || b_.open_)) (b.get 37) q := p.ou 9 37 rfl
     have j40 : IsAdr b0 (0 + 3 + 2) (b.get 40) q := p.ou 12 40 rfl
     have hns := z0.nshF
     refine tail_storeB (i := 13) rfl rfl rfl rfl szf4 upd_F55_1_F53_2 j40 z0 j37 fun q2 hch hz => ?_
     replace hgq := hgq.step hch y0
     have hle := hch.le hns
     replace j37 := Pers.pers hle j37
     replace j40 := Pers.pers hle j40
     replace z0 := hz
     clear hns hle hch
     obtain ⟨q, hqq⟩ : ∃ q, q = q2 := ⟨q2, rfl⟩
     subst hqq
     exact tail_done (k := q) (hp1451 _ _ ⟨⟨hgq, hsb, hdb⟩, j0, y0, z0, trivial⟩)
    rintro a k ⟨⟨hg, hs, hd⟩, i0, n0, c0, _⟩
    obtain rfl := Option.some.inj hr
    exact hp1448 _ _ ⟨⟨hg, hs, hd⟩, i0, n0, c0, trivial⟩
   rw [if_neg (by rw [hc1452]; decide)] at hr
   refine wp_skip ?_
   obtain rfl := Option.some.inj hr
   exact hp1448 _ _ ⟨⟨hg, hs, hd⟩, i0, n0, c0, trivial⟩
  clear hs1447
  rintro a k ⟨⟨hg, hs, hd⟩, i0, n0, c0, _⟩
  obtain rfl := Option.some.inj hr
  exact hp1442 _ _ ⟨⟨hg, hs, hd⟩, i0, n0, c0, trivial⟩
 clear hs1441
 rintro a k ⟨⟨hg, hs, hd⟩, i0, n0, c0, _⟩
 obtain rfl := Option.some.inj hr
 exact retT rfl hd hg c0
def sight_interval_narrow (i_ : SightInterval) (at_ : Int) (by_ : Int) (from_ : Int) (to_ : Int) : Option (SightInterval) :=
 (if (decide (0 < by_)) then
  (subI from_ at_).bind fun x1470_3 =>
  (sight_interval_above i_ (⟨x1470_3, by_, false⟩ : SightBound)).bind fun x1470_6 =>
  (subI to_ at_).bind fun x1471_3 =>
  (sight_interval_below x1470_6 (⟨x1471_3, by_, true⟩ : SightBound)).bind fun x1471_6 =>
  some x1471_6
 else
  (if (decide (by_ < 0)) then
   (subI at_ to_).bind fun x1479_3 =>
   (subI 0 by_).bind fun x1479_5 =>
   (sight_interval_above i_ (⟨x1479_3, x1479_5, true⟩ : SightBound)).bind fun x1479_7 =>
   (subI at_ from_).bind fun x1480_3 =>
   (subI 0 by_).bind fun x1480_5 =>
   (sight_interval_below x1479_7 (⟨x1480_3, x1480_5, false⟩ : SightBound)).bind fun x1480_7 =>
   some x1480_7
  else
   (if ((decide (at_ < from_)) || (decide (to_ ≤ at_))) then
    some { i_ with none_ := true }
   else
    some i_).bind fun s1486 =>
   some s1486).bind fun s1477 =>
  some s1477).bind fun s1468 =>
 some s1468
theorem sight_interval_narrow_ok {k0 : K} {v0 v1 v2 v3 v4 : Value} {i_ : SightInterval} {at_ : Int} {by_ : Int} {from_ : Int} {to_ : Int} {r : SightInterval} {b0 : Nat} (i0 : v0 = .pointer (some ⟨b0, 0, none⟩)) (c0 : Gb.Box b0 i_ k0) (i1 : (IsV at_) v1 k0) (i2 : (IsV by_) v2 k0) (i3 : (IsV from_) v3 k0) (i4 : (IsV to_) v4 k0) (hr : sight_interval_narrow i_ at_ by_ from_ to_ = some r) :
  Calls Try.prog 47 #[v0, v1, v2, v3, v4] k0.w (RetC (Eq b0) k0 (IsTurn b0 r)) := by
 unfold sight_interval_narrow at hr
 refine enterK Try.func47 rfl Try.ntmps47 (show 5 ≤ 58 by decide) fun a k hk0 hs hd ha => ?_
 obtain ⟨e0, e1, e2, e3, e4, _⟩ := ha
 replace i0 : a.get 0 = .pointer (some ⟨b0, 0, none⟩) := by rw [e0]; exact i0
 replace c0 : Gb.Box b0 i_ k := by rw [hk0]; exact c0
 have n0 : Wr (Eq b0) k0 (Eq b0) := fun b h => .inl h
 replace i1 : (IsV at_) (a.get 1) k := by rw [e1, hk0]; exact i1
 replace i2 : (IsV by_) (a.get 2) k := by rw [e2, hk0]; exact i2
 replace i3 : (IsV from_) (a.get 3) k := by rw [e3, hk0]; exact i3
 replace i4 : (IsV to_) (a.get 4) k := by rw [e4, hk0]; exact i4
 have hQ : Gb.LetsOut (bodyPost Try.prog Try.f47 (RetC (Eq b0) k0 (IsTurn b0 r))) := letsOutC
 have hg : Chg (Eq b0) k0 k := by rw [hk0]; exact Chg.refl _ k0
 refine wp_block ?_
 refine cutS (fun a' k' => Bs (Eq b0) k0 58 a' k' ∧ a'.get 0 = .pointer (some ⟨b0, 0, none⟩) ∧ Wr (Eq b0) k0 (Eq b0) ∧ Gb.Box b0 i_ k' ∧ (IsV at_) (a'.get 1) k' ∧ (IsV by_) (a'.get 2) k' ∧ (IsV from_) (a'.get 3) k' ∧ (IsV to_) (a'.get 4) k' ∧ (IsV (decide (0 < by_))) (a'.get 10) k' ∧ True) ?_ ?_
 ·intro Q1501 hQQ1501 hp1502
  refine gS 3 (_ :: _ :: _ :: []) hs (by kernel_rfl) ⟨mu rfl i2, o1 [(11, some 0)] rfl fun _ _ h n => ok_gtr rfl n.1 (cI rfl), cp 1 rfl rfl, trivial⟩ hQQ1501 fun b q p => ?_
  exact tail_done (k := q) (hp1502 _ _ ⟨Bs.post ⟨hg, hs, hd⟩ p, upE i0 (p.old 0 rfl), n0, Gb.Box.grow c0 p.grow, p.ke 1 rfl i1, p.ke 2 rfl i2, p.ke 3 rfl i3, p.ke 4 rfl i4, p.ou 2 10 rfl, trivial⟩)
 rintro a k ⟨⟨hg, hs, hd⟩, i0, n0, c0, i1, i2, i3, i4, i10, _⟩
 obtain ⟨s1468, hs1468, hr⟩ := bind_some hr
 refine cut (fun a' k' => Bs (Eq b0) k0 58 a' k' ∧ a'.get 0 = .pointer (some ⟨b0, 0, none⟩) ∧ Wr (Eq b0) k0 (Eq b0) ∧ Gb.Box b0 s1468 k' ∧ True) ?_ hQ ?_
 ·intro Q1500 hQQ1500 hp1469
  replace hr := hs1468
  clear hQ
  have hQ := hQQ1500
  refine wp_cond_split (isBool i10) (fun hc1499 => ?_) (fun hc1499 => ?_)
  ·rw [if_pos hc1499] at hr
   refine wp_seq ?_
   obtain ⟨x1470_3, hx1470_3, hr⟩ := bind_some hr
   obtain ⟨x1470_6, hx1470_6, hr⟩ := bind_some hr
   refine cut (fun a' k' => Bs (Eq b0) k0 58 a' k' ∧ a'.get 0 = .pointer (some ⟨b0, 0, none⟩) ∧ Wr (Eq b0) k0 (Eq b0) ∧ Gb.Box b0 x1470_6 k' ∧ (IsV at_) (a'.get 1) k' ∧ (IsV by_) (a'.get 2) k' ∧ (IsV to_) (a'.get 4) k' ∧ True) ?_ hQ ?_
   ·intro Q1474 hQQ1474 hp1475
    refine gS 6 (⟨some (IsAdr b0 (0)), [(0, none)]⟩ :: _ :: _ :: _ :: _ :: ⟨some (IsV (⟨x1470_3, by_, false⟩ : SightBound)), [(16, some 3), (17, some 4)]⟩ :: []) hs (by kernel_rfl) ⟨ob1 rfl fun _ _ h n => ok_moveB rfl (upE i0 n.1), mu rfl i3, mu rfl i1, o1 [(14, some 1), (15, some 2)] rfl fun _ _ h n => ok_sub rfl n.1 n.2.1 hx1470_3, mu rfl i2, ob1 rfl fun _ _ h n => ok_build rfl (bld53_0_1_2 n.1 n.2.1 (isV_bool.2 rfl)), trivial⟩ hQQ1474 fun b q p => ?_
    have hgq := hg.then p.grow
    have hsb := p.size.trans hs
    have hdb := p.defers.trans hd
    have j0 := upE i0 (p.old 0 rfl)
    have z0 := Gb.Box.grow c0 p.grow
    have y0 := n0
    have j1 := p.ke 1 rfl i1
    have j2 := p.ke 2 rfl i2
    have j4 := p.ke 4 rfl i4
    have j13 : IsAdr b0 (0) (b.get 13) q := p.ou 0 13 rfl
    have j18 : (IsV (⟨x1470_3, by_, false⟩ : SightBound)) (b.get 18) q := p.ou 5 18 rfl
    have hns := z0.nshF
    refine tail_call (F := Eq b0) (i := 6) (d := 19) rfl rfl rfl rfl (by rw [hsb]; decide) Try.call71 hQQ1474 (sight_interval_above_ok j13 z0 j18 hx1470_6) fun b2 q2 hsz hdf hoth hch hres => ?_
    have hle := hch.le hns
    replace j1 := Pers.pers hle j1
    replace j2 := Pers.pers hle j2
    replace j4 := Pers.pers hle j4
    replace j13 := Pers.pers hle j13
    replace j18 := Pers.pers hle j18
    replace hgq := hgq.step hch y0
    replace z0 := hres
    rw [← hoth 0 (by decide)] at j0
    rw [← hoth 1 (by decide)] at j1
    rw [← hoth 2 (by decide)] at j2
    rw [← hoth 4 (by decide)] at j4
    rw [← hoth 13 (by decide)] at j13
    rw [← hoth 18 (by decide)] at j18
    replace hsb := hsz.trans hsb
    replace hdb := hdf.trans hdb
    clear hle hch hns hsz hdf hoth hres
    obtain ⟨b, hbb⟩ : ∃ b, b = b2 := ⟨b2, rfl⟩
    subst hbb
    obtain ⟨q, hqq⟩ : ∃ q, q = q2 := ⟨q2, rfl⟩
    subst hqq
    exact tail_done (k := q) (hp1475 _ _ ⟨⟨hgq, hsb, hdb⟩, j0, y0, z0, j1, j2, j4, trivial⟩)
   rintro a k ⟨⟨hg, hs, hd⟩, i0, n0, c0, i1, i2, i4, _⟩
   obtain ⟨x1471_3, hx1471_3, hr⟩ := bind_some hr
   obtain ⟨x1471_6, hx1471_6, hr⟩ := bind_some hr
   refine cut (fun a' k' => Bs (Eq b0) k0 58 a' k' ∧ a'.get 0 = .pointer (some ⟨b0, 0, none⟩) ∧ Wr (Eq b0) k0 (Eq b0) ∧ Gb.Box b0 x1471_6 k' ∧ True) ?_ hQ ?_
   ·intro Q1472 hQQ1472 hp1473
    refine gS 6 (⟨some (IsAdr b0 (0)), [(0, none)]⟩ :: _ :: _ :: _ :: _ :: ⟨some (IsV (⟨x1471_3, by_, true⟩ : SightBound)), [(23, some 3), (24, some 4)]⟩ :: []) hs (by kernel_rfl) ⟨ob1 rfl fun _ _ h n => ok_moveB rfl (upE i0 n.1), mu rfl i4, mu rfl i1, o1 [(21, some 1), (22, some 2)] rfl fun _ _ h n => ok_sub rfl n.1 n.2.1 hx1471_3, mu rfl i2, ob1 rfl fun _ _ h n => ok_build rfl (bld53_0_1_2 n.1 n.2.1 (isV_bool.2 rfl)), trivial⟩ hQQ1472 fun b q p => ?_
    have hgq := hg.then p.grow
    have hsb := p.size.trans hs
    have hdb := p.defers.trans hd
    have j0 := upE i0 (p.old 0 rfl)
    have z0 := Gb.Box.grow c0 p.grow
    have y0 := n0
    have j20 : IsAdr b0 (0) (b.get 20) q := p.ou 0 20 rfl
    have j25 : (IsV (⟨x1471_3, by_, true⟩ : SightBound)) (b.get 25) q := p.ou 5 25 rfl
    have hns := z0.nshF
    refine tail_call (F := Eq b0) (i := 6) (d := 26) rfl rfl rfl rfl (by rw [hsb]; decide) Try.call72 hQQ1472 (sight_interval_below_ok j20 z0 j25 hx1471_6) fun b2 q2 hsz hdf hoth hch hres => ?_
    have hle := hch.le hns
    replace j20 := Pers.pers hle j20
    replace j25 := Pers.pers hle j25
    replace hgq := hgq.step hch y0
    replace z0 := hres
    rw [← hoth 0 (by decide)] at j0
    rw [← hoth 20 (by decide)] at j20
    rw [← hoth 25 (by decide)] at j25
    replace hsb := hsz.trans hsb
    replace hdb := hdf.trans hdb
    clear hle hch hns hsz hdf hoth hres
    obtain ⟨b, hbb⟩ : ∃ b, b = b2 := ⟨b2, rfl⟩
    subst hbb
    obtain ⟨q, hqq⟩ : ∃ q, q = q2 := ⟨q2, rfl⟩
    subst hqq
    exact tail_done (k := q) (hp1473 _ _ ⟨⟨hgq, hsb, hdb⟩, j0, y0, z0, trivial⟩)
   rintro a k ⟨⟨hg, hs, hd⟩, i0, n0, c0, _⟩
   obtain rfl := Option.some.inj hr
   exact hp1469 _ _ ⟨⟨hg, hs, hd⟩, i0, n0, c0, trivial⟩
  rw [if_neg (by rw [hc1499]; decide)] at hr
  refine cutS (fun a' k' => Bs (Eq b0) k0 58 a' k' ∧ a'.get 0 = .pointer (some ⟨b0, 0, none⟩) ∧ Wr (Eq b0) k0 (Eq b0) ∧ Gb.Box b0 i_ k' ∧ (IsV at_) (a'.get 1) k' ∧ (IsV by_) (a'.get 2) k' ∧ (IsV from_) (a'.get 3) k' ∧ (IsV to_) (a'.get 4) k' ∧ (IsV (decide (by_ < 0))) (a'.get 27) k' ∧ True) ?_ ?_
  ·intro Q1497 hQQ1497 hp1498
   refine gS 3 (_ :: _ :: _ :: []) hs (by kernel_rfl) ⟨mu rfl i2, o1 [(28, some 0)] rfl fun _ _ h n => ok_lss rfl n.1 (cI rfl), cp 1 rfl rfl, trivial⟩ hQQ1497 fun b q p => ?_
   exact tail_done (k := q) (hp1498 _ _ ⟨Bs.post ⟨hg, hs, hd⟩ p, upE i0 (p.old 0 rfl), n0, Gb.Box.grow c0 p.grow, p.ke 1 rfl i1, p.ke 2 rfl i2, p.ke 3 rfl i3, p.ke 4 rfl i4, p.ou 2 27 rfl, trivial⟩)
  rintro a k ⟨⟨hg, hs, hd⟩, i0, n0, c0, i1, i2, i3, i4, i27, _⟩
  obtain ⟨s1477, hs1477, hr⟩ := bind_some hr
  refine cut (fun a' k' => Bs (Eq b0) k0 58 a' k' ∧ a'.get 0 = .pointer (some ⟨b0, 0, none⟩) ∧ Wr (Eq b0) k0 (Eq b0) ∧ Gb.Box b0 s1477 k' ∧ True) ?_ hQ ?_
  ·intro Q1496 hQQ1496 hp1478
   replace hr := hs1477
   clear hQ
   have hQ := hQQ1496
   refine wp_cond_split (isBool i27) (fun hc1495 => ?_) (fun hc1495 => ?_)
   ·rw [if_pos hc1495] at hr
    refine wp_seq ?_
    obtain ⟨x1479_3, hx1479_3, hr⟩ := bind_some hr
    obtain ⟨x1479_5, hx1479_5, hr⟩ := bind_some hr
    obtain ⟨x1479_7, hx1479_7, hr⟩ := bind_some hr
    refine cut (fun a' k' => Bs (Eq b0) k0 58 a' k' ∧ a'.get 0 = .pointer (some ⟨b0, 0, none⟩) ∧ Wr (Eq b0) k0 (Eq b0) ∧ Gb.Box b0 x1479_7 k' ∧ (IsV at_) (a'.get 1) k' ∧ (IsV by_) (a'.get 2) k' ∧ (IsV from_) (a'.get 3) k' ∧ True) ?_ hQ ?_
    ·intro Q1483 hQQ1483 hp1484
     refine gS 7 (⟨some (IsAdr b0 (0)), [(0, none)]⟩ :: _ :: _ :: _ :: _ :: ⟨some (IsV x1479_5), [(34, some 4)]⟩ :: ⟨some (IsV (⟨x1479_3, x1479_5, true⟩ : SightBound)), [(33, some 3), (35, some 5)]⟩ :: []) hs (by kernel_rfl) ⟨ob1 rfl fun _ _ h n => ok_moveB rfl (upE i0 n.1), mu rfl i1, mu rfl i4, o1 [(31, some 1), (32, some 2)] rfl fun _ _ h n => ok_sub rfl n.1 n.2.1 hx1479_3, mu rfl i2, ob1 rfl fun _ _ h n => ok_neg rfl n.1 hx1479_5, ob1 rfl fun _ _ h n => ok_build rfl (bld53_0_1_2 n.1 n.2.1 (isV_bool.2 rfl)), trivial⟩ hQQ1483 fun b q p => ?_
     have hgq := hg.then p.grow
     have hsb := p.size.trans hs
     have hdb := p.defers.trans hd
     have j0 := upE i0 (p.old 0 rfl)
     have z0 := Gb.Box.grow c0 p.grow
     have y0 := n0
     have j1 := p.ke 1 rfl i1
     have j2 := p.ke 2 rfl i2
     have j3 := p.ke 3 rfl i3
     have j30 : IsAdr b0 (0) (b.get 30) q := p.ou 0 30 rfl
     have j36 : (IsV (⟨x1479_3, x1479_5, true⟩ : SightBound)) (b.get 36) q := p.ou 6 36 rfl
     have hns := z0.nshF
     refine tail_call (F := Eq b0) (i := 7) (d := 37) rfl rfl rfl rfl (by rw [hsb]; decide) Try.call71 hQQ1483 (sight_interval_above_ok j30 z0 j36 hx1479_7) fun b2 q2 hsz hdf hoth hch hres => ?_
     have hle := hch.le hns
     replace j1 := Pers.pers hle j1
     replace j2 := Pers.pers hle j2
     replace j3 := Pers.pers hle j3
     replace j30 := Pers.pers hle j30
     replace j36 := Pers.pers hle j36
     replace hgq := hgq.step hch y0
     replace z0 := hres
     rw [← hoth 0 (by decide)] at j0
     rw [← hoth 1 (by decide)] at j1
     rw [← hoth 2 (by decide)] at j2
     rw [← hoth 3 (by decide)] at j3
     rw [← hoth 30 (by decide)] at j30
     rw [← hoth 36 (by decide)] at j36
     replace hsb := hsz.trans hsb
     replace hdb := hdf.trans hdb
     clear hle hch hns hsz hdf hoth hres
     obtain ⟨b, hbb⟩ : ∃ b, b = b2 := ⟨b2, rfl⟩
     subst hbb
     obtain ⟨q, hqq⟩ : ∃ q, q = q2 := ⟨q2, rfl⟩
     subst hqq
     exact tail_done (k := q) (hp1484 _ _ ⟨⟨hgq, hsb, hdb⟩, j0, y0, z0, j1, j2, j3, trivial⟩)
    rintro a k ⟨⟨hg, hs, hd⟩, i0, n0, c0, i1, i2, i3, _⟩
    obtain ⟨x1480_3, hx1480_3, hr⟩ := bind_some hr
    obtain ⟨x1480_5, hx1480_5, hr⟩ := bind_some hr
    obtain ⟨x1480_7, hx1480_7, hr⟩ := bind_some hr
    refine cut (fun a' k' => Bs (Eq b0) k0 58 a' k' ∧ a'.get 0 = .pointer (some ⟨b0, 0, none⟩) ∧ Wr (Eq b0) k0 (Eq b0) ∧ Gb.Box b0 x1480_7 k' ∧ True) ?_ hQ ?_
    ·intro Q1481 hQQ1481 hp1482
     refine gS 7 (⟨some (IsAdr b0 (0)), [(0, none)]⟩ :: _ :: _ :: _ :: _ :: ⟨some (IsV x1480_5), [(42, some 4)]⟩ :: ⟨some (IsV (⟨x1480_3, x1480_5, false⟩ : SightBound)), [(41, some 3), (43, some 5)]⟩ :: []) hs (by kernel_rfl) ⟨ob1 rfl fun _ _ h n => ok_moveB rfl (upE i0 n.1), mu rfl i1, mu rfl i3, o1 [(39, some 1), (40, some 2)] rfl fun _ _ h n => ok_sub rfl n.1 n.2.1 hx1480_3, mu rfl i2, ob1 rfl fun _ _ h n => ok_neg rfl n.1 hx1480_5, ob1 rfl fun _ _ h n => ok_build rfl (bld53_0_1_2 n.1 n.2.1 (isV_bool.2 rfl)), trivial⟩ hQQ1481 fun b q p => ?_
     have hgq := hg.then p.grow
     have hsb := p.size.trans hs
     have hdb := p.defers.trans hd
     have j0 := upE i0 (p.old 0 rfl)
     have z0 := Gb.Box.grow c0 p.grow
     have y0 := n0
     have j38 : IsAdr b0 (0) (b.get 38) q := p.ou 0 38 rfl
     have j44 : (IsV (⟨x1480_3, x1480_5, false⟩ : SightBound)) (b.get 44) q := p.ou 6 44 rfl
     have hns := z0.nshF
     refine tail_call (F := Eq b0) (i := 7) (d := 45) rfl rfl rfl rfl (by rw [hsb]; decide) Try.call72 hQQ1481 (sight_interval_below_ok j38 z0 j44 hx1480_7) fun b2 q2 hsz hdf hoth hch hres => ?_
     have hle := hch.le hns
     replace j38 := Pers.pers hle j38
     replace j44 := Pers.pers hle j44
     replace hgq := hgq.step hch y0
     replace z0 := hres
     rw [← hoth 0 (by decide)] at j0
     rw [← hoth 38 (by decide)] at j38
     rw [← hoth 44 (by decide)] at j44
     replace hsb := hsz.trans hsb
     replace hdb := hdf.trans hdb
     clear hle hch hns hsz hdf hoth hres
     obtain ⟨b, hbb⟩ : ∃ b, b = b2 := ⟨b2, rfl⟩
     subst hbb
     obtain ⟨q, hqq⟩ : ∃ q, q = q2 := ⟨q2, rfl⟩
     subst hqq
     exact tail_done (k := q) (hp1482 _ _ ⟨⟨hgq, hsb, hdb⟩, j0, y0, z0, trivial⟩)
    rintro a k ⟨⟨hg, hs, hd⟩, i0, n0, c0, _⟩
    obtain rfl := Option.some.inj hr
    exact hp1478 _ _ ⟨⟨hg, hs, hd⟩, i0, n0, c0, trivial⟩
   rw [if_neg (by rw [hc1495]; decide)] at hr
   refine cutS (fun a' k' => Bs (Eq b0) k0 58 a' k' ∧ a'.get 0 = .pointer (some ⟨b0, 0, none⟩) ∧ Wr (Eq b0) k0 (Eq b0) ∧ Gb.Box b0 i_ k' ∧ (IsV ((decide (at_ < from_)) || (decide (to_ ≤ at_)))) (a'.get 46) k' ∧ True) ?_ ?_
   ·intro Q1493 hQQ1493 hp1494
    refine gS 9 (_ :: _ :: _ :: _ :: _ :: _ :: _ :: _ :: _ :: []) hs (by kernel_rfl) ⟨mu rfl i1, mu rfl i3, o1 [(47, some 0), (48, some 1)] rfl fun _ _ h n => ok_lss rfl n.1 n.2.1, cm 2 rfl rfl, mF rfl rfl i1, mF rfl rfl i4, gF [(51, some 4), (52, some 5)] rfl rfl fun hp _ _ h n => ok_geq rfl (Gd.get n.1 hp) (Gd.get n.2.1 hp), o1 [(50, some 3), (53, some 6)] rfl fun _ _ h n => ok_pickOr rfl n.1 (cB rfl) (Gd.get n.2.1), cp 7 rfl rfl, trivial⟩ hQQ1493 fun b q p => ?_
    exact tail_done (k := q) (hp1494 _ _ ⟨Bs.post ⟨hg, hs, hd⟩ p, upE i0 (p.old 0 rfl), n0, Gb.Box.grow c0 p.grow, p.ou 8 46 rfl, trivial⟩)
   rintro a k ⟨⟨hg, hs, hd⟩, i0, n0, c0, i46, _⟩
   obtain ⟨s1486, hs1486, hr⟩ := bind_some hr
   refine cut (fun a' k' => Bs (Eq b0) k0 58 a' k' ∧ a'.get 0 = .pointer (some ⟨b0, 0, none⟩) ∧ Wr (Eq b0) k0 (Eq b0) ∧ Gb.Box b0 s1486 k' ∧ True) ?_ hQ ?_
   ·intro Q1492 hQQ1492 hp1487
    replace hr := hs1486
    clear hQ
    have hQ := hQQ1492
    refine wp_cond_split (isBool i46) (fun hc1491 => ?_) (fun hc1491 => ?_)
    ·rw [if_pos hc1491] at hr
     refine cut (fun a' k' => Bs (Eq b0) k0 58 a' k' ∧ a'.get 0 = .pointer (some ⟨b0, 0, none⟩) ∧ Wr (Eq b0) k0 (Eq b0) ∧ Gb.Box b0 ({ i_ with none_ := true }) k' ∧ True) ?_ hQ ?_
     ·intro Q1489 hQQ1489 hp1490
      refine gS 3 (⟨some (IsAdr b0 (0)), [(0, none)]⟩ :: ⟨some (IsAdr b0 (0)), [(55, some 0)]⟩ :: _ :: []) hs (by kernel_rfl) ⟨ob1 rfl fun _ _ h n => ok_moveB rfl (upE i0 n.1), ob1 rfl fun _ _ h n => ok_nilCheckA rfl n.1, o1 [(56, some 1)] rfl fun _ _ h n => ok_fieldAdr2 rfl fo55_3 n.1, trivial⟩ hQQ1489 fun b q p => ?_
      have hgq := hg.then p.grow
      have hsb := p.size.trans hs
      have hdb := p.defers.trans hd
      have j0 := upE i0 (p.old 0 rfl)
      have z0 := Gb.Box.grow c0 p.grow
      have y0 := n0
      have j57 : IsAdr b0 (0 + 7) (b.get 57) q := p.ou 2 57 rfl
      have hns := z0.nshF
      refine tail_storeB (i := 3) rfl rfl rfl rfl szf4 upd_F55_3 j57 z0 (isV_bool.2 rfl) fun q2 hch hz => ?_
      replace hgq := hgq.step hch y0
      have hle := hch.le hns
      replace j57 := Pers.pers hle j57
      replace z0 := hz
      clear hns hle hch
      obtain ⟨q, hqq⟩ : ∃ q, q = q2 := ⟨q2, rfl⟩
      subst hqq
      exact tail_done (k := q) (hp1490 _ _ ⟨⟨hgq, hsb, hdb⟩, j0, y0, z0, trivial⟩)
     rintro a k ⟨⟨hg, hs, hd⟩, i0, n0, c0, _⟩
     obtain rfl := Option.some.inj hr
     exact hp1487 _ _ ⟨⟨hg, hs, hd⟩, i0, n0, c0, trivial⟩
    rw [if_neg (by rw [hc1491]; decide)] at hr
    refine wp_skip ?_
    obtain rfl := Option.some.inj hr
    exact hp1487 _ _ ⟨⟨hg, hs, hd⟩, i0, n0, c0, trivial⟩
   clear hs1486
   rintro a k ⟨⟨hg, hs, hd⟩, i0, n0, c0, _⟩
   obtain rfl := Option.some.inj hr
   exact hp1478 _ _ ⟨⟨hg, hs, hd⟩, i0, n0, c0, trivial⟩
  clear hs1477
  rintro a k ⟨⟨hg, hs, hd⟩, i0, n0, c0, _⟩
  obtain rfl := Option.some.inj hr
  exact hp1469 _ _ ⟨⟨hg, hs, hd⟩, i0, n0, c0, trivial⟩
 clear hs1468
 rintro a k ⟨⟨hg, hs, hd⟩, i0, n0, c0, _⟩
 obtain rfl := Option.some.inj hr
 exact retT rfl hd hg c0
def sight_interval_empty (i_ : SightInterval) : Option (Bool) :=
 if (i_.none_ || (!i_.top)) then
  some i_.none_
 else
  (sight_bound_compare i_.lo i_.hi).bind fun x1508_8 =>
  some ((decide (0 < x1508_8)) || ((x1508_8 == 0) && (i_.lo.open_ || i_.hi.open_)))
theorem sight_interval_empty_ok {k0 : K} {v0 : Value} {i_ : SightInterval} {r : Bool} (i0 : (IsRef i_) v0 k0) (hr : sight_interval_empty i_ = some r) :
  Calls Try.prog 48 #[v0] k0.w (Ret k0 (IsV r)) := by
 unfold sight_interval_empty at hr
 refine Ret.ofC ?_
 refine enterK Try.func48 rfl Try.ntmps48 (show 1 ≤ 48 by decide) fun a k hk0 hs hd ha => ?_
 obtain ⟨e0, _⟩ := ha
 replace i0 : (IsRef i_) (a.get 0) k := by rw [e0, hk0]; exact i0
 have hQ : Gb.LetsOut (bodyPost Try.prog Try.f48 (RetC noF k0 (IsV r))) := letsOutC
 have hg : Chg noF k0 k := by rw [hk0]; exact Chg.refl _ k0
 refine stepL 1 (⟨some (IsV false), []⟩ :: []) rfl ⟨hg, hs, hd⟩ (by kernel_rfl) ⟨ob1 rfl fun _ _ h n => ok_assign rfl (isV_bool.2 rfl), trivial⟩ [⟨_, _⟩] (fun b q p => ⟨p.ke 0 rfl i0, trivial⟩) ?_
 rintro a k ⟨⟨hg, hs, hd⟩, i0, _⟩
 refine wp_seq ?_
 refine stepL 11 (_ :: ⟨some (IsRef i_), [(4, some 0)]⟩ :: _ :: _ :: _ :: _ :: ⟨some (Gd (i_.none_ = false) (IsRef i_)), [(9, some 5)]⟩ :: _ :: _ :: _ :: _ :: []) rfl ⟨hg, hs, hd⟩ (by kernel_rfl) ⟨mu rfl i0, ob1 rfl fun _ _ h n => ok_nilCheckR rfl n.1, o1 [(5, some 1)] rfl fun _ _ h n => ok_fieldAddr rfl fo55_3 (at_SightInterval_3 _) (n.1).ptr, o1 [(6, some 2)] rfl fun _ _ h n => ok_load rfl ty4 n.1, cm 3 rfl rfl, mF rfl rfl i0, gdF rfl rfl fun hp _ _ h n => ok_nilCheckR rfl (Gd.get n.1 hp), gF [(10, some 6)] rfl rfl fun hp _ _ h n => ok_fieldAddr rfl fo55_2 (at_SightInterval_2 _) ((Gd.get n.1 hp)).ptr, gF [(11, some 7)] rfl rfl fun hp _ _ h n => ok_load rfl ty4 (Gd.get n.1 hp), gF [(12, some 8)] rfl rfl fun hp _ _ h n => ok_not rfl (Gd.get n.1 hp), o1 [(8, some 4), (13, some 9)] rfl fun _ _ h n => ok_pickOr rfl n.1 (cB rfl) (Gd.get n.2.1), trivial⟩ [⟨_, _⟩, ⟨_, _⟩] (fun b q p => ⟨p.ke 0 rfl i0, p.ou 10 14 rfl, trivial⟩) ?_
 rintro a k ⟨⟨hg, hs, hd⟩, i0, i14, _⟩
 refine wp_cond_split (isBool i14) (fun hc1514 => ?_) (fun hc1514 => ?_)
 ·rw [if_pos hc1514] at hr
  refine stepL 5 (_ :: ⟨some (IsRef i_), [(15, some 0)]⟩ :: _ :: _ :: _ :: []) rfl ⟨hg, hs, hd⟩ (by kernel_rfl) ⟨mu rfl i0, ob1 rfl fun _ _ h n => ok_nilCheckR rfl n.1, o1 [(16, some 1)] rfl fun _ _ h n => ok_fieldAddr rfl fo55_3 (at_SightInterval_3 _) (n.1).ptr, o1 [(17, some 2)] rfl fun _ _ h n => ok_load rfl ty4 n.1, cp 3 rfl rfl, trivial⟩ [⟨_, _⟩] (fun b q p => ⟨p.ou 4 2 rfl, trivial⟩) ?_
  rintro a k ⟨⟨hg, hs, hd⟩, i2, _⟩
  refine wp_ret ?_
  obtain rfl := Option.some.inj hr
  exact retC1 rfl hd hg i2
 rw [if_neg (by rw [hc1514]; decide)] at hr
 refine wp_skip ?_
 refine wp_seq ?_
 obtain ⟨x1508_8, hx1508_8, hr⟩ := bind_some hr
 refine cut (fun a' k' => Bs noF k0 48 a' k' ∧ (IsRef i_) (a'.get 0) k' ∧ (IsV x1508_8) (a'.get 3) k' ∧ True) ?_ hQ ?_
 ·intro Q1512 hQQ1512 hp1513
  refine region (a0 := a) (k0 := k) (n := 48) (m := 10) (⟨some (IsRef i_), [(0, none)]⟩ :: ⟨some (IsRef i_), [(19, some 0)]⟩ :: ⟨some (IsPtr i_.lo), [(20, some 1)]⟩ :: ⟨some (IsV i_.lo), [(21, some 2)]⟩ :: ⟨some (IsRef i_), [(0, none)]⟩ :: ⟨some (IsRef i_), [(23, some 4)]⟩ :: ⟨some (IsPtr i_.hi), [(24, some 5)]⟩ :: ⟨some (IsV i_.hi), [(25, some 6)]⟩ :: ⟨some (IsV x1508_8), [(22, some 3), (26, some 7)]⟩ :: ⟨some (IsV x1508_8), [(27, some 8)]⟩ :: []) hmix hs (by kernel_rfl) ⟨ob1 rfl fun b q hk hn => ok_move rfl (up i0 hk hn.1), ob1 rfl fun b q hk hn => ok_nilCheckR rfl hn.1, ob1 rfl fun b q hk hn => ok_fieldAddr rfl fo55_0 (at_SightInterval_0 _) (hn.1).ptr, ob1 rfl fun b q hk hn => ok_load rfl ty53 hn.1, ob1 rfl fun b q hk hn => ok_move rfl (up i0 hk hn.1), ob1 rfl fun b q hk hn => ok_nilCheckR rfl hn.1, ob1 rfl fun b q hk hn => ok_fieldAddr rfl fo55_1 (at_SightInterval_1 _) (hn.1).ptr, ob1 rfl fun b q hk hn => ok_load rfl ty53 hn.1, ob1 rfl fun b q hk hn => ok_call rfl Try.call73 (sight_bound_compare_ok hn.1 hn.2.1 hx1508_8), ob1 rfl fun b q hk hn => ok_assign rfl hn.1, trivial⟩ hQQ1512 fun b q p => ?_
  exact tail_done (k := q) (hp1513 _ _ ⟨Bs.post ⟨hg, hs, hd⟩ p, p.ke 0 rfl i0, p.ou 9 3 rfl, trivial⟩)
 rintro a k ⟨⟨hg, hs, hd⟩, i0, i3, _⟩
 refine stepL 21 (_ :: _ :: _ :: _ :: _ :: ⟨some (Gd ((decide (0 < x1508_8)) = false) (IsV (x1508_8 == 0))), [(32, some 4)]⟩ :: ⟨some (Gd (((decide (0 < x1508_8)) = false) ∧ (x1508_8 == 0) = true) (IsRef i_)), [(0, none)]⟩ :: ⟨some (Gd (((decide (0 < x1508_8)) = false) ∧ (x1508_8 == 0) = true) (IsRef i_)), [(34, some 6)]⟩ :: ⟨some (Gd (((decide (0 < x1508_8)) = false) ∧ (x1508_8 == 0) = true) (IsPtr i_.lo)), [(35, some 7)]⟩ :: ⟨some (Gd (((decide (0 < x1508_8)) = false) ∧ (x1508_8 == 0) = true) (IsPtr i_.lo.open_)), [(36, some 8)]⟩ :: ⟨some (Gd (((decide (0 < x1508_8)) = false) ∧ (x1508_8 == 0) = true) (IsV i_.lo.open_)), [(37, some 9)]⟩ :: ⟨some (Gd (((decide (0 < x1508_8)) = false) ∧ (x1508_8 == 0) = true) (IsV i_.lo.open_)), [(38, some 10)]⟩ :: ⟨some (Gd ((((decide (0 < x1508_8)) = false) ∧ (x1508_8 == 0) = true) ∧ i_.lo.open_ = false) (IsRef i_)), [(0, none)]⟩ :: ⟨some (Gd ((((decide (0 < x1508_8)) = false) ∧ (x1508_8 == 0) = true) ∧ i_.lo.open_ = false) (IsRef i_)), [(40, some 12)]⟩ :: ⟨some (Gd ((((decide (0 < x1508_8)) = false) ∧ (x1508_8 == 0) = true) ∧ i_.lo.open_ = false) (IsPtr i_.hi)), [(41, some 13)]⟩ :: ⟨some (Gd ((((decide (0 < x1508_8)) = false) ∧ (x1508_8 == 0) = true) ∧ i_.lo.open_ = false) (IsPtr i_.hi.open_)), [(42, some 14)]⟩ :: ⟨some (Gd ((((decide (0 < x1508_8)) = false) ∧ (x1508_8 == 0) = true) ∧ i_.lo.open_ = false) (IsV i_.hi.open_)), [(43, some 15)]⟩ :: ⟨some (Gd (((decide (0 < x1508_8)) = false) ∧ (x1508_8 == 0) = true) (IsV (i_.lo.open_ || i_.hi.open_))), [(39, some 11), (44, some 16)]⟩ :: _ :: _ :: _ :: []) rfl ⟨hg, hs, hd⟩ (by kernel_rfl) ⟨mu rfl i3, o1 [(28, some 0)] rfl fun _ _ h n => ok_gtr rfl n.1 (cI rfl), cm 1 rfl rfl, mF rfl rfl i3, gF [(31, some 3)] rfl rfl fun hp _ _ h n => ok_eqI rfl (Gd.get n.1 hp) (cI rfl), gdF rfl rfl fun hp _ _ h n => ok_move rfl (Gd.get n.1 hp), gdTT rfl rfl fun hp b q h n => ok_move rfl (up i0 h n.1), gdTT rfl rfl fun hp b q h n => ok_nilCheckR rfl (Gd.get n.1 hp), gdTT rfl rfl fun hp b q h n => ok_fieldAddr rfl fo55_0 (at_SightInterval_0 _) ((Gd.get n.1 hp)).ptr, gdTT rfl rfl fun hp b q h n => ok_fieldAddr rfl fo53_2 (at_SightBound_2 _) (Gd.get n.1 hp), gdTT rfl rfl fun hp b q h n => ok_load rfl ty4 (Gd.get n.1 hp), gdTT rfl rfl fun hp b q h n => ok_move rfl (Gd.get n.1 hp), gdTF rfl rfl fun hp b q h n => ok_move rfl (up i0 h n.1), gdTF rfl rfl fun hp b q h n => ok_nilCheckR rfl (Gd.get n.1 hp), gdTF rfl rfl fun hp b q h n => ok_fieldAddr rfl fo55_1 (at_SightInterval_1 _) ((Gd.get n.1 hp)).ptr, gdTF rfl rfl fun hp b q h n => ok_fieldAddr rfl fo53_2 (at_SightBound_2 _) (Gd.get n.1 hp), gdTF rfl rfl fun hp b q h n => ok_load rfl ty4 (Gd.get n.1 hp), gdTT rfl rfl fun hp b q h n => ok_pickOr rfl (Gd.get n.1 hp) (cB rfl) (fun hm => (Gd.get n.2.1 ⟨hp, hm⟩)), gF [(33, some 5), (45, some 17)] rfl rfl fun hp _ _ h n => ok_pickAnd rfl (Gd.get n.1 hp) (fun hm => (Gd.get n.2.1 ⟨hp, hm⟩)) (cB rfl), o1 [(30, some 2), (46, some 18)] rfl fun _ _ h n => ok_pickOr rfl n.1 (cB rfl) (Gd.get n.2.1), cp 19 rfl rfl, trivial⟩ [⟨_, _⟩] (fun b q p => ⟨p.ou 20 2 rfl, trivial⟩) ?_
 rintro a k ⟨⟨hg, hs, hd⟩, i2, _⟩
 refine wp_ret ?_
 obtain rfl := Option.some.inj hr
 exact retC1 rfl hd hg i2
def sight_meets_L0 (p_ : Point3) (v_ : Point3) (t_ : SightInterval) (x1520_1 : (List Box)) (s1521 : Int) : Option (Flow (Int) (Bool)) :=
 if (decide (s1521 < (x1520_1.length : Int))) then
  (getI x1520_1 s1521).bind fun x1526_0 =>
  (sight_interval_narrow t_ p_.X v_.X x1526_0.Base.X0 x1526_0.Base.X1).bind fun x1529_11 =>
  (sight_interval_narrow x1529_11 p_.Y v_.Y x1526_0.Base.Y0 x1526_0.Base.Y1).bind fun x1530_11 =>
  (sight_interval_narrow x1530_11 p_.Z v_.Z x1526_0.Z0 x1526_0.Z1).bind fun x1531_9 =>
  (sight_interval_empty x1531_9).bind fun x1532_0 =>
  if (!x1532_0) then
   some (.ret true)
  else
   (addI s1521 1).bind fun x1536_0 =>
   some (.go x1536_0)
 else
  some (.ex 0 s1521)
def sight_meets (s_ : (List Slab)) (p_ : Point3) (v_ : Point3) (t_ : SightInterval) : Option (Bool) :=
 (solid_Boxes s_).bind fun x1520_1 =>
 (iterL (sight_meets_L0 p_ v_ t_ x1520_1) (x1520_1.length + 1) 0).bind fun f1557 => match f1557 with
  | .go _ => none
  | .ex _ _ =>
   some false
  | .ret r1562 => some r1562
theorem sight_meets_ok {k0 : K} {v0 v1 v2 v3 : Value} {s_ : (List Slab)} {p_ : Point3} {v_ : Point3} {t_ : SightInterval} {r : Bool} (i0 : (IsV s_) v0 k0) (i1 : (IsV p_) v1 k0) (i2 : (IsV v_) v2 k0) (i3 : (IsV t_) v3 k0) (hr : sight_meets s_ p_ v_ t_ = some r) :
  Calls Try.prog 27 #[v0, v1, v2, v3] k0.w (Ret k0 (IsV r)) := by
 unfold sight_meets at hr
 refine Ret.ofC ?_
 refine enterK Try.func27 rfl Try.ntmps27 (show 4 ≤ 59 by decide) fun a k hk0 hs hd ha => ?_
 obtain ⟨e0, e1, e2, e3, _⟩ := ha
 replace i0 : (IsV s_) (a.get 0) k := by rw [e0, hk0]; exact i0
 replace i1 : (IsV p_) (a.get 1) k := by rw [e1, hk0]; exact i1
 replace i2 : (IsV v_) (a.get 2) k := by rw [e2, hk0]; exact i2
 replace i3 : (IsV t_) (a.get 3) k := by rw [e3, hk0]; exact i3
 have hQ : Gb.LetsOut (bodyPost Try.prog Try.f27 (RetC noF k0 (IsV r))) := letsOutC
 have hg : Chg noF k0 k := by rw [hk0]; exact Chg.refl _ k0
 refine stepL 4 (⟨some (IsRef p_), [(1, none)]⟩ :: ⟨some (IsRef v_), [(2, none)]⟩ :: ⟨some (IsRef t_), [(3, none)]⟩ :: ⟨some (IsV false), []⟩ :: []) rfl ⟨hg, hs, hd⟩ (by kernel_rfl) ⟨ob1 rfl fun _ _ h n => ok_boxR rfl (up i1 h n.1), ob1 rfl fun _ _ h n => ok_boxR rfl (up i2 h n.1), ob1 rfl fun _ _ h n => ok_boxR rfl (up i3 h n.1), ob1 rfl fun _ _ h n => ok_assign rfl (isV_bool.2 rfl), trivial⟩ [⟨_, _⟩, ⟨_, _⟩, ⟨_, _⟩, ⟨_, _⟩] (fun b q p => ⟨p.ke 0 rfl i0, p.ou 0 5 rfl, p.ou 1 6 rfl, p.ou 2 7 rfl, trivial⟩) ?_
 rintro a k ⟨⟨hg, hs, hd⟩, i0, i5, i6, i7, _⟩
 refine wp_seq ?_
 refine wp_seq ?_
 obtain ⟨x1520_1, hx1520_1, hr⟩ := bind_some hr
 refine cut (fun a' k' => Bs noF k0 59 a' k' ∧ (IsRef p_) (a'.get 5) k' ∧ (IsRef v_) (a'.get 6) k' ∧ (IsRef t_) (a'.get 7) k' ∧ (IsV x1520_1) (a'.get 14) k' ∧ (IsL x1520_1) (a'.get 15) k' ∧ (IsI 0) (a'.get 16) k' ∧ True) ?_ hQ ?_
 ·intro Q1564 hQQ1564 hp1565
  refine gS 4 (_ :: _ :: _ :: ⟨some (IsI 0), []⟩ :: []) hs (by kernel_rfl) ⟨mu rfl i0, o1 [(13, some 0)] rfl fun _ _ h n => ok_call rfl Try.call46 (solid_Boxes_ok n.1 hx1520_1), o1 [(14, some 1)] rfl fun _ _ h n => ok_len rfl rfl Try.underlying31 (IsV.rd n.1), ob1 rfl fun _ _ h n => ok_move rfl (cI rfl), trivial⟩ hQQ1564 fun b q p => ?_
  exact tail_done (k := q) (hp1565 _ _ ⟨Bs.post ⟨hg, hs, hd⟩ p, p.ke 5 rfl i5, p.ke 6 rfl i6, p.ke 7 rfl i7, p.ou 1 14 rfl, p.ou 2 15 rfl, p.ou 3 16 rfl, trivial⟩)
 rintro a k ⟨⟨hg, hs, hd⟩, i5, i6, i7, i14, i15, i16, _⟩
 refine wp_block ?_
 obtain ⟨f1557, hf1557, hr⟩ := bind_some hr
 refine cutFe f1557 (fun s' a' k' => Bs noF k0 59 a' k' ∧ (IsRef p_) (a'.get 5) k' ∧ (IsRef v_) (a'.get 6) k' ∧ (IsRef t_) (a'.get 7) k' ∧ (IsV x1520_1) (a'.get 14) k' ∧ (IsL x1520_1) (a'.get 15) k' ∧ (IsV s') (a'.get 16) k' ∧ True) (fun i' s' a' k' => (i' = 0 ∧ Bs noF k0 59 a' k' ∧ True)) (fun r' a' k' => bodyPost Try.prog Try.f27 (RetC noF k0 (IsV r')) .ret a' k'.w) ?_ hQ ?_ ?_ ?_
 ·intro Q1563 hQQ1563 hgo hex hret
  refine sim_loop ?_ _ _ _ _ _ hf1557 ⟨⟨hg, hs, hd⟩, i5, i6, i7, i14, i15, i16, trivial⟩ Q1563 hQQ1563 hgo hex hret
  clear hr hf1557 hgo hex hret hQQ1563 hQ hg hs hd i14 i15 i16 i5 i6 i7
  intro s1521 fl_ a k hr hS Q hQ hgo1522 hex1523 hret1524
  obtain ⟨⟨hg, hs, hd⟩, i5, i6, i7, i14, i15, i16, _⟩ := hS
  unfold sight_meets_L0 at hr
  refine stepL 1 (_ :: []) rfl ⟨hg, hs, hd⟩ (by kernel_rfl) ⟨o1 [(16, none), (15, none)] rfl fun _ _ h n => ok_lss rfl (up i16 h n.1) (up i15 h n.2.1), trivial⟩ [⟨_, _⟩, ⟨_, _⟩, ⟨_, _⟩, ⟨_, _⟩, ⟨_, _⟩, ⟨_, _⟩, ⟨_, _⟩] (fun b q p => ⟨p.ke 5 rfl i5, p.ke 6 rfl i6, p.ke 7 rfl i7, p.ke 14 rfl i14, p.ke 15 rfl i15, p.ke 16 rfl i16, p.ou 0 17 rfl, trivial⟩) ?_
  rintro a k ⟨⟨hg, hs, hd⟩, i5, i6, i7, i14, i15, i16, i17, _⟩
  refine wp_seq ?_
  refine wp_cond_split (isBool i17) (fun hc1554 => ?_) (fun hc1554 => ?_)
  ·rw [if_pos hc1554] at hr
   refine wp_skip ?_
   refine wp_seq ?_
   refine wp_block ?_
   refine wp_seq ?_
   obtain ⟨x1526_0, hx1526_0, hr⟩ := bind_some hr
   refine cut (fun a' k' => Bs noF k0 59 a' k' ∧ (IsRef p_) (a'.get 5) k' ∧ (IsRef v_) (a'.get 6) k' ∧ (IsRef t_) (a'.get 7) k' ∧ (IsRef x1526_0) (a'.get 10) k' ∧ (IsV x1520_1) (a'.get 14) k' ∧ (IsL x1520_1) (a'.get 15) k' ∧ (IsV s1521) (a'.get 16) k' ∧ True) ?_ hQ ?_
   ·intro Q1552 hQQ1552 hp1553
    refine gS 3 (_ :: _ :: ⟨some (IsBox k.w.heap.size (⟨(⟨0, 0, 0, 0⟩ : Rect), 0, 0⟩ : Box)), []⟩ :: []) hs (by kernel_rfl) ⟨o1 [(14, none), (16, none)] rfl fun _ _ h n => ok_indexAddr rfl Try.underlying31 ty37 (IsV.rd (up i14 h n.1)) (up i16 h n.2.1) hx1526_0, o1 [(18, some 0)] rfl fun _ _ h n => ok_load rfl ty37 n.1, ob1 rfl fun _ _ h n => ok_alloc _ h.size rfl z37, trivial⟩ hQQ1552 fun b q p => ?_
    have hgq := hg.then p.grow
    have hsb := p.size.trans hs
    have hdb := p.defers.trans hd
    have j5 := p.ke 5 rfl i5
    have j6 := p.ke 6 rfl i6
    have j7 := p.ke 7 rfl i7
    obtain ⟨b10, j10, x10, z10⟩ : (IsBox k.w.heap.size (⟨(⟨0, 0, 0, 0⟩ : Rect), 0, 0⟩ : Box)) (b.get 10) q := p.ou 2 10 rfl
    replace x10 : Lo k (Eq b10) := Lo.eq x10
    have y10 : Lo k0 (Eq b10) := x10.chg hg
    have j14 := p.ke 14 rfl i14
    have j15 := p.ke 15 rfl i15
    have j16 := p.ke 16 rfl i16
    have j19 : (IsV x1526_0) (b.get 19) q := p.ou 1 19 rfl
    have hns := z10.nshF
    refine tail_storeB (i := 3) rfl rfl rfl rfl szf37 (Upd.self (α := Box)) j10 z10 j19 fun q2 hch hz => ?_
    replace hgq := hgq.step hch y10.wr
    have hle := hch.le hns
    replace j5 := Pers.pers hle j5
    replace j6 := Pers.pers hle j6
    replace j7 := Pers.pers hle j7
    replace j14 := Pers.pers hle j14
    replace j15 := Pers.pers hle j15
    replace j16 := Pers.pers hle j16
    replace j19 := Pers.pers hle j19
    replace z10 := hz
    clear hns hle hch
    obtain ⟨q, hqq⟩ : ∃ q, q = q2 := ⟨q2, rfl⟩
    subst hqq
    obtain ⟨q2, hsh, jn⟩ := z10.give
    replace j5 := Pers.pers hsh.le j5
    replace j6 := Pers.pers hsh.le j6
    replace j7 := Pers.pers hsh.le j7
    replace j14 := Pers.pers hsh.le j14
    replace j15 := Pers.pers hsh.le j15
    replace j16 := Pers.pers hsh.le j16
    rw [← j10] at jn
    replace j10 := jn
    replace hgq := hgq.hand hsh y10.wr
    rw [← hsh.w]
    clear hsh
    obtain ⟨q, hqq⟩ : ∃ q, q = q2 := ⟨q2, rfl⟩
    subst hqq
    exact tail_done (k := q) (hp1553 _ _ ⟨⟨hgq, hsb, hdb⟩, j5, j6, j7, j10, j14, j15, j16, trivial⟩)
   rintro a k ⟨⟨hg, hs, hd⟩, i5, i6, i7, i10, i14, i15, i16, _⟩
   refine cutS (fun a' k' => Bs noF k0 59 a' k' ∧ (IsRef p_) (a'.get 5) k' ∧ (IsRef v_) (a'.get 6) k' ∧ (IsRef t_) (a'.get 7) k' ∧ (IsRef x1526_0) (a'.get 10) k' ∧ (IsV x1520_1) (a'.get 14) k' ∧ (IsL x1520_1) (a'.get 15) k' ∧ (IsV s1521) (a'.get 16) k' ∧ (∃ b11, a'.get 11 = .pointer (some ⟨b11, 0, none⟩) ∧ Lo k0 (Eq b11) ∧ Gb.Box b11 t_ k' ∧ True)) ?_ ?_
   ·intro Q1550 hQQ1550 hp1551
    refine gS 2 (_ :: ⟨some (IsBox k.w.heap.size (⟨(⟨0, 0, false⟩ : SightBound), (⟨0, 0, false⟩ : SightBound), false, false⟩ : SightInterval)), []⟩ :: []) hs (by kernel_rfl) ⟨o1 [(7, none)] rfl fun _ _ h n => ok_load rfl ty55 ((up i7 h n.1)).ptr, ob1 rfl fun _ _ h n => ok_alloc _ h.size rfl z55, trivial⟩ hQQ1550 fun b q p => ?_
    have hgq := hg.then p.grow
    have hsb := p.size.trans hs
    have hdb := p.defers.trans hd
    have j5 := p.ke 5 rfl i5
    have j6 := p.ke 6 rfl i6
    have j7 := p.ke 7 rfl i7
    have j10 := p.ke 10 rfl i10
    obtain ⟨b11, j11, x11, z11⟩ : (IsBox k.w.heap.size (⟨(⟨0, 0, false⟩ : SightBound), (⟨0, 0, false⟩ : SightBound), false, false⟩ : SightInterval)) (b.get 11) q := p.ou 1 11 rfl
    replace x11 : Lo k (Eq b11) := Lo.eq x11
    have y11 : Lo k0 (Eq b11) := x11.chg hg
    have j14 := p.ke 14 rfl i14
    have j15 := p.ke 15 rfl i15
    have j16 := p.ke 16 rfl i16
    have j20 : (IsV t_) (b.get 20) q := p.ou 0 20 rfl
    have hns := z11.nshF
    refine tail_storeB (i := 2) rfl rfl rfl rfl szf55 (Upd.self (α := SightInterval)) j11 z11 j20 fun q2 hch hz => ?_
    replace hgq := hgq.step hch y11.wr
    have hle := hch.le hns
    replace j5 := Pers.pers hle j5
    replace j6 := Pers.pers hle j6
    replace j7 := Pers.pers hle j7
    replace j10 := Pers.pers hle j10
    replace j14 := Pers.pers hle j14
    replace j15 := Pers.pers hle j15
    replace j16 := Pers.pers hle j16
    replace j20 := Pers.pers hle j20
    replace z11 := hz
    clear hns hle hch
    obtain ⟨q, hqq⟩ : ∃ q, q = q2 := ⟨q2, rfl⟩
    subst hqq
    exact tail_done (k := q) (hp1551 _ _ ⟨⟨hgq, hsb, hdb⟩, j5, j6, j7, j10, j14, j15, j16, b11, j11, y11, z11, trivial⟩)
   rintro a k ⟨⟨hg, hs, hd⟩, i5, i6, i7, i10, i14, i15, i16, b11, i11, n11, c11, _⟩
   refine cutS (fun a' k' => Bs noF k0 59 a' k' ∧ (IsRef p_) (a'.get 5) k' ∧ (IsRef v_) (a'.get 6) k' ∧ (IsRef t_) (a'.get 7) k' ∧ (IsRef x1526_0) (a'.get 10) k' ∧ a'.get 11 = .pointer (some ⟨b11, 0, none⟩) ∧ Lo k0 (Eq b11) ∧ Gb.Box b11 t_ k' ∧ (IsMV 47 b11) (a'.get 12) k' ∧ (IsV x1520_1) (a'.get 14) k' ∧ (IsL x1520_1) (a'.get 15) k' ∧ (IsV s1521) (a'.get 16) k' ∧ True) ?_ ?_
   ·intro Q1548 hQQ1548 hp1549
    refine gS 2 (⟨some (IsMV 47 b11), [(11, none)]⟩ :: _ :: []) hs (by kernel_rfl) ⟨ob1 rfl fun _ _ h n => ok_makeMV rfl (upE i11 n.1), cp 0 rfl rfl, trivial⟩ hQQ1548 fun b q p => ?_
    exact tail_done (k := q) (hp1549 _ _ ⟨Bs.post ⟨hg, hs, hd⟩ p, p.ke 5 rfl i5, p.ke 6 rfl i6, p.ke 7 rfl i7, p.ke 10 rfl i10, upE i11 (p.old 11 rfl), n11, Gb.Box.grow c11 p.grow, p.ou 1 12 rfl, p.ke 14 rfl i14, p.ke 15 rfl i15, p.ke 16 rfl i16, trivial⟩)
   rintro a k ⟨⟨hg, hs, hd⟩, i5, i6, i7, i10, i11, n11, c11, i12, i14, i15, i16, _⟩
   refine wp_seq ?_
   obtain ⟨x1529_11, hx1529_11, hr⟩ := bind_some hr
   refine cut (fun a' k' => Bs noF k0 59 a' k' ∧ (IsRef p_) (a'.get 5) k' ∧ (IsRef v_) (a'.get 6) k' ∧ (IsRef t_) (a'.get 7) k' ∧ (IsRef x1526_0) (a'.get 10) k' ∧ a'.get 11 = .pointer (some ⟨b11, 0, none⟩) ∧ Lo k0 (Eq b11) ∧ Gb.Box b11 x1529_11 k' ∧ (IsMV 47 b11) (a'.get 12) k' ∧ (IsV x1520_1) (a'.get 14) k' ∧ (IsL x1520_1) (a'.get 15) k' ∧ (IsV s1521) (a'.get 16) k' ∧ True) ?_ hQ ?_
   ·intro Q1546 hQQ1546 hp1547
    refine gS 11 (_ :: _ :: _ :: _ :: _ :: _ :: _ :: _ :: _ :: _ :: _ :: []) hs (by kernel_rfl) ⟨mu rfl i12, o1 [(5, none)] rfl fun _ _ h n => ok_fieldAddr rfl fo24_0 (at_Point3_0 _) ((up i5 h n.1)).ptr, o1 [(23, some 1)] rfl fun _ _ h n => ok_load rfl ty3 n.1, o1 [(6, none)] rfl fun _ _ h n => ok_fieldAddr rfl fo24_0 (at_Point3_0 _) ((up i6 h n.1)).ptr, o1 [(25, some 3)] rfl fun _ _ h n => ok_load rfl ty3 n.1, o1 [(10, none)] rfl fun _ _ h n => ok_fieldAddr rfl fo37_0 (at_Box_0 _) ((up i10 h n.1)).ptr, o1 [(27, some 5)] rfl fun _ _ h n => ok_fieldAddr rfl fo35_0 (at_Rect_0 _) n.1, o1 [(28, some 6)] rfl fun _ _ h n => ok_load rfl ty3 n.1, o1 [(10, none)] rfl fun _ _ h n => ok_fieldAddr rfl fo37_0 (at_Box_0 _) ((up i10 h n.1)).ptr, o1 [(30, some 8)] rfl fun _ _ h n => ok_fieldAddr rfl fo35_2 (at_Rect_2 _) n.1, o1 [(31, some 9)] rfl fun _ _ h n => ok_load rfl ty3 n.1, trivial⟩ hQQ1546 fun b q p => ?_
    have hgq := hg.then p.grow
    have hsb := p.size.trans hs
    have hdb := p.defers.trans hd
    have j5 := p.ke 5 rfl i5
    have j6 := p.ke 6 rfl i6
    have j7 := p.ke 7 rfl i7
    have j10 := p.ke 10 rfl i10
    have j11 := upE i11 (p.old 11 rfl)
    have z11 := Gb.Box.grow c11 p.grow
    have y11 := n11
    have j12 := p.ke 12 rfl i12
    have j14 := p.ke 14 rfl i14
    have j15 := p.ke 15 rfl i15
    have j16 := p.ke 16 rfl i16
    have j22 : (IsMV 47 b11) (b.get 22) q := p.ou 0 22 rfl
    have j24 : (IsV p_.X) (b.get 24) q := p.ou 2 24 rfl
    have j26 : (IsV v_.X) (b.get 26) q := p.ou 4 26 rfl
    have j29 : (IsV x1526_0.Base.X0) (b.get 29) q := p.ou 7 29 rfl
    have j32 : (IsV x1526_0.Base.X1) (b.get 32) q := p.ou 10 32 rfl
    have hns := z11.nshF
    refine tail_callMV (F := Eq b11) (i := 11) (d := 33) rfl rfl rfl rfl (by rw [hsb]; decide) j22 Try.call47 hQQ1546 (sight_interval_narrow_ok rfl z11 j24 j26 j29 j32 hx1529_11) fun b2 q2 hsz hdf hoth hch hres => ?_
    have hle := hch.le hns
    replace j5 := Pers.pers hle j5
    replace j6 := Pers.pers hle j6
    replace j7 := Pers.pers hle j7
    replace j10 := Pers.pers hle j10
    replace j12 := Pers.pers hle j12
    replace j14 := Pers.pers hle j14
    replace j15 := Pers.pers hle j15
    replace j16 := Pers.pers hle j16
    replace j22 := Pers.pers hle j22
    replace j24 := Pers.pers hle j24
    replace j26 := Pers.pers hle j26
    replace j29 := Pers.pers hle j29
    replace j32 := Pers.pers hle j32
    replace hgq := hgq.step hch y11.wr
    replace z11 := hres
    rw [← hoth 5 (by decide)] at j5
    rw [← hoth 6 (by decide)] at j6
    rw [← hoth 7 (by decide)] at j7
    rw [← hoth 10 (by decide)] at j10
    rw [← hoth 11 (by decide)] at j11
    rw [← hoth 12 (by decide)] at j12
    rw [← hoth 14 (by decide)] at j14
    rw [← hoth 15 (by decide)] at j15
    rw [← hoth 16 (by decide)] at j16
    rw [← hoth 22 (by decide)] at j22
    rw [← hoth 24 (by decide)] at j24
    rw [← hoth 26 (by decide)] at j26
    rw [← hoth 29 (by decide)] at j29
    rw [← hoth 32 (by decide)] at j32
    replace hsb := hsz.trans hsb
    replace hdb := hdf.trans hdb
    clear hle hch hns hsz hdf hoth hres
    obtain ⟨b, hbb⟩ : ∃ b, b = b2 := ⟨b2, rfl⟩
    subst hbb
    obtain ⟨q, hqq⟩ : ∃ q, q = q2 := ⟨q2, rfl⟩
    subst hqq
    exact tail_done (k := q) (hp1547 _ _ ⟨⟨hgq, hsb, hdb⟩, j5, j6, j7, j10, j11, y11, z11, j12, j14, j15, j16, trivial⟩)
   rintro a k ⟨⟨hg, hs, hd⟩, i5, i6, i7, i10, i11, n11, c11, i12, i14, i15, i16, _⟩
   refine wp_seq ?_
   obtain ⟨x1530_11, hx1530_11, hr⟩ := bind_some hr
   refine cut (fun a' k' => Bs noF k0 59 a' k' ∧ (IsRef p_) (a'.get 5) k' ∧ (IsRef v_) (a'.get 6) k' ∧ (IsRef t_) (a'.get 7) k' ∧ (IsRef x1526_0) (a'.get 10) k' ∧ a'.get 11 = .pointer (some ⟨b11, 0, none⟩) ∧ Lo k0 (Eq b11) ∧ Gb.Box b11 x1530_11 k' ∧ (IsMV 47 b11) (a'.get 12) k' ∧ (IsV x1520_1) (a'.get 14) k' ∧ (IsL x1520_1) (a'.get 15) k' ∧ (IsV s1521) (a'.get 16) k' ∧ True) ?_ hQ ?_
   ·intro Q1544 hQQ1544 hp1545
    refine gS 11 (_ :: _ :: _ :: _ :: _ :: _ :: _ :: _ :: _ :: _ :: _ :: []) hs (by kernel_rfl) ⟨mu rfl i12, o1 [(5, none)] rfl fun _ _ h n => ok_fieldAddr rfl fo24_1 (at_Point3_1 _) ((up i5 h n.1)).ptr, o1 [(35, some 1)] rfl fun _ _ h n => ok_load rfl ty3 n.1, o1 [(6, none)] rfl fun _ _ h n => ok_fieldAddr rfl fo24_1 (at_Point3_1 _) ((up i6 h n.1)).ptr, o1 [(37, some 3)] rfl fun _ _ h n => ok_load rfl ty3 n.1, o1 [(10, none)] rfl fun _ _ h n => ok_fieldAddr rfl fo37_0 (at_Box_0 _) ((up i10 h n.1)).ptr, o1 [(39, some 5)] rfl fun _ _ h n => ok_fieldAddr rfl fo35_1 (at_Rect_1 _) n.1, o1 [(40, some 6)] rfl fun _ _ h n => ok_load rfl ty3 n.1, o1 [(10, none)] rfl fun _ _ h n => ok_fieldAddr rfl fo37_0 (at_Box_0 _) ((up i10 h n.1)).ptr, o1 [(42, some 8)] rfl fun _ _ h n => ok_fieldAddr rfl fo35_3 (at_Rect_3 _) n.1, o1 [(43, some 9)] rfl fun _ _ h n => ok_load rfl ty3 n.1, trivial⟩ hQQ1544 fun b q p => ?_
    have hgq := hg.then p.grow
    have hsb := p.size.trans hs
    have hdb := p.defers.trans hd
    have j5 := p.ke 5 rfl i5
    have j6 := p.ke 6 rfl i6
    have j7 := p.ke 7 rfl i7
    have j10 := p.ke 10 rfl i10
    have j11 := upE i11 (p.old 11 rfl)
    have z11 := Gb.Box.grow c11 p.grow
    have y11 := n11
    have j12 := p.ke 12 rfl i12
    have j14 := p.ke 14 rfl i14
    have j15 := p.ke 15 rfl i15
    have j16 := p.ke 16 rfl i16
    have j34 : (IsMV 47 b11) (b.get 34) q := p.ou 0 34 rfl
    have j36 : (IsV p_.Y) (b.get 36) q := p.ou 2 36 rfl
    have j38 : (IsV v_.Y) (b.get 38) q := p.ou 4 38 rfl
    have j41 : (IsV x1526_0.Base.Y0) (b.get 41) q := p.ou 7 41 rfl
    have j44 : (IsV x1526_0.Base.Y1) (b.get 44) q := p.ou 10 44 rfl
    have hns := z11.nshF
    refine tail_callMV (F := Eq b11) (i := 11) (d := 45) rfl rfl rfl rfl (by rw [hsb]; decide) j34 Try.call47 hQQ1544 (sight_interval_narrow_ok rfl z11 j36 j38 j41 j44 hx1530_11) fun b2 q2 hsz hdf hoth hch hres => ?_
    have hle := hch.le hns
    replace j5 := Pers.pers hle j5
    replace j6 := Pers.pers hle j6
    replace j7 := Pers.pers hle j7
    replace j10 := Pers.pers hle j10
    replace j12 := Pers.pers hle j12
    replace j14 := Pers.pers hle j14
    replace j15 := Pers.pers hle j15
    replace j16 := Pers.pers hle j16
    replace j34 := Pers.pers hle j34
    replace j36 := Pers.pers hle j36
    replace j38 := Pers.pers hle j38
    replace j41 := Pers.pers hle j41
    replace j44 := Pers.pers hle j44
    replace hgq := hgq.step hch y11.wr
    replace z11 := hres
    rw [← hoth 5 (by decide)] at j5
    rw [← hoth 6 (by decide)] at j6
    rw [← hoth 7 (by decide)] at j7
    rw [← hoth 10 (by decide)] at j10
    rw [← hoth 11 (by decide)] at j11
    rw [← hoth 12 (by decide)] at j12
    rw [← hoth 14 (by decide)] at j14
    rw [← hoth 15 (by decide)] at j15
    rw [← hoth 16 (by decide)] at j16
    rw [← hoth 34 (by decide)] at j34
    rw [← hoth 36 (by decide)] at j36
    rw [← hoth 38 (by decide)] at j38
    rw [← hoth 41 (by decide)] at j41
    rw [← hoth 44 (by decide)] at j44
    replace hsb := hsz.trans hsb
    replace hdb := hdf.trans hdb
    clear hle hch hns hsz hdf hoth hres
    obtain ⟨b, hbb⟩ : ∃ b, b = b2 := ⟨b2, rfl⟩
    subst hbb
    obtain ⟨q, hqq⟩ : ∃ q, q = q2 := ⟨q2, rfl⟩
    subst hqq
    exact tail_done (k := q) (hp1545 _ _ ⟨⟨hgq, hsb, hdb⟩, j5, j6, j7, j10, j11, y11, z11, j12, j14, j15, j16, trivial⟩)
   rintro a k ⟨⟨hg, hs, hd⟩, i5, i6, i7, i10, i11, n11, c11, i12, i14, i15, i16, _⟩
   refine wp_seq ?_
   obtain ⟨x1531_9, hx1531_9, hr⟩ := bind_some hr
   refine cut (fun a' k' => Bs noF k0 59 a' k' ∧ (IsRef p_) (a'.get 5) k' ∧ (IsRef v_) (a'.get 6) k' ∧ (IsRef t_) (a'.get 7) k' ∧ a'.get 11 = .pointer (some ⟨b11, 0, none⟩) ∧ Lo k0 (Eq b11) ∧ Gb.Box b11 x1531_9 k' ∧ (IsV x1520_1) (a'.get 14) k' ∧ (IsL x1520_1) (a'.get 15) k' ∧ (IsV s1521) (a'.get 16) k' ∧ True) ?_ hQ ?_
   ·intro Q1542 hQQ1542 hp1543
    refine gS 9 (_ :: _ :: _ :: _ :: _ :: _ :: _ :: _ :: _ :: []) hs (by kernel_rfl) ⟨mu rfl i12, o1 [(5, none)] rfl fun _ _ h n => ok_fieldAddr rfl fo24_2 (at_Point3_2 _) ((up i5 h n.1)).ptr, o1 [(47, some 1)] rfl fun _ _ h n => ok_load rfl ty3 n.1, o1 [(6, none)] rfl fun _ _ h n => ok_fieldAddr rfl fo24_2 (at_Point3_2 _) ((up i6 h n.1)).ptr, o1 [(49, some 3)] rfl fun _ _ h n => ok_load rfl ty3 n.1, o1 [(10, none)] rfl fun _ _ h n => ok_fieldAddr rfl fo37_1 (at_Box_1 _) ((up i10 h n.1)).ptr, o1 [(51, some 5)] rfl fun _ _ h n => ok_load rfl ty3 n.1, o1 [(10, none)] rfl fun _ _ h n => ok_fieldAddr rfl fo37_2 (at_Box_2 _) ((up i10 h n.1)).ptr, o1 [(53, some 7)] rfl fun _ _ h n => ok_load rfl ty3 n.1, trivial⟩ hQQ1542 fun b q p => ?_
    have hgq := hg.then p.grow
    have hsb := p.size.trans hs
    have hdb := p.defers.trans hd
    have j5 := p.ke 5 rfl i5
    have j6 := p.ke 6 rfl i6
    have j7 := p.ke 7 rfl i7
    have j11 := upE i11 (p.old 11 rfl)
    have z11 := Gb.Box.grow c11 p.grow
    have y11 := n11
    have j14 := p.ke 14 rfl i14
    have j15 := p.ke 15 rfl i15
    have j16 := p.ke 16 rfl i16
    have j46 : (IsMV 47 b11) (b.get 46) q := p.ou 0 46 rfl
    have j48 : (IsV p_.Z) (b.get 48) q := p.ou 2 48 rfl
    have j50 : (IsV v_.Z) (b.get 50) q := p.ou 4 50 rfl
    have j52 : (IsV x1526_0.Z0) (b.get 52) q := p.ou 6 52 rfl
    have j54 : (IsV x1526_0.Z1) (b.get 54) q := p.ou 8 54 rfl
    have hns := z11.nshF
    refine tail_callMV (F := Eq b11) (i := 9) (d := 55) rfl rfl rfl rfl (by rw [hsb]; decide) j46 Try.call47 hQQ1542 (sight_interval_narrow_ok rfl z11 j48 j50 j52 j54 hx1531_9) fun b2 q2 hsz hdf hoth hch hres => ?_
    have hle := hch.le hns
    replace j5 := Pers.pers hle j5
    replace j6 := Pers.pers hle j6
    replace j7 := Pers.pers hle j7
    replace j14 := Pers.pers hle j14
    replace j15 := Pers.pers hle j15
    replace j16 := Pers.pers hle j16
    replace j46 := Pers.pers hle j46
    replace j48 := Pers.pers hle j48
    replace j50 := Pers.pers hle j50
    replace j52 := Pers.pers hle j52
    replace j54 := Pers.pers hle j54
    replace hgq := hgq.step hch y11.wr
    replace z11 := hres
    rw [← hoth 5 (by decide)] at j5
    rw [← hoth 6 (by decide)] at j6
    rw [← hoth 7 (by decide)] at j7
    rw [← hoth 11 (by decide)] at j11
    rw [← hoth 14 (by decide)] at j14
    rw [← hoth 15 (by decide)] at j15
    rw [← hoth 16 (by decide)] at j16
    rw [← hoth 46 (by decide)] at j46
    rw [← hoth 48 (by decide)] at j48
    rw [← hoth 50 (by decide)] at j50
    rw [← hoth 52 (by decide)] at j52
    rw [← hoth 54 (by decide)] at j54
    replace hsb := hsz.trans hsb
    replace hdb := hdf.trans hdb
    clear hle hch hns hsz hdf hoth hres
    obtain ⟨b, hbb⟩ : ∃ b, b = b2 := ⟨b2, rfl⟩
    subst hbb
    obtain ⟨q, hqq⟩ : ∃ q, q = q2 := ⟨q2, rfl⟩
    subst hqq
    exact tail_done (k := q) (hp1543 _ _ ⟨⟨hgq, hsb, hdb⟩, j5, j6, j7, j11, y11, z11, j14, j15, j16, trivial⟩)
   rintro a k ⟨⟨hg, hs, hd⟩, i5, i6, i7, i11, n11, c11, i14, i15, i16, _⟩
   refine wp_seq ?_
   obtain ⟨x1532_0, hx1532_0, hr⟩ := bind_some hr
   refine cut (fun a' k' => Bs noF k0 59 a' k' ∧ (IsRef p_) (a'.get 5) k' ∧ (IsRef v_) (a'.get 6) k' ∧ (IsRef t_) (a'.get 7) k' ∧ (IsV x1520_1) (a'.get 14) k' ∧ (IsL x1520_1) (a'.get 15) k' ∧ (IsV s1521) (a'.get 16) k' ∧ (IsV (!x1532_0)) (a'.get 57) k' ∧ True) ?_ hQ ?_
   ·intro Q1540 hQQ1540 hp1541
    refine regionS (a0 := a) (k0 := k) (n := 59) (m := 0) ([]) hs (by kernel_rfl) trivial hQQ1540 fun b q p => ?_
    have hgq := hg.then p.grow
    have hsb := p.size.trans hs
    have hdb := p.defers.trans hd
    have j5 := p.ke 5 rfl i5
    have j6 := p.ke 6 rfl i6
    have j7 := p.ke 7 rfl i7
    have j11 := upE i11 (p.old 11 rfl)
    have z11 := Gb.Box.grow c11 p.grow
    have y11 := n11
    have j14 := p.ke 14 rfl i14
    have j15 := p.ke 15 rfl i15
    have j16 := p.ke 16 rfl i16
    obtain ⟨q2, hsh, jn⟩ := z11.give
    replace j5 := Pers.pers hsh.le j5
    replace j6 := Pers.pers hsh.le j6
    replace j7 := Pers.pers hsh.le j7
    replace j14 := Pers.pers hsh.le j14
    replace j15 := Pers.pers hsh.le j15
    replace j16 := Pers.pers hsh.le j16
    rw [← j11] at jn
    replace j11 := jn
    replace hgq := hgq.hand hsh y11.wr
    rw [← hsh.w]
    clear hsh
    obtain ⟨q, hqq⟩ : ∃ q, q = q2 := ⟨q2, rfl⟩
    subst hqq
    refine tail_call (F := noF) (i := 0) (d := 56) rfl rfl rfl rfl (by rw [hsb]; decide) Try.call48 hQQ1540 (Ret.toC (sight_interval_empty_ok j11 hx1532_0)) fun b2 q2 hsz hdf hoth hch hres => ?_
    have hgr := hch.grow
    replace j5 := Pers.pers hgr.le j5
    replace j6 := Pers.pers hgr.le j6
    replace j7 := Pers.pers hgr.le j7
    replace j11 := Pers.pers hgr.le j11
    replace j14 := Pers.pers hgr.le j14
    replace j15 := Pers.pers hgr.le j15
    replace j16 := Pers.pers hgr.le j16
    replace hgq := hgq.then hgr
    rw [← hoth 5 (by decide)] at j5
    rw [← hoth 6 (by decide)] at j6
    rw [← hoth 7 (by decide)] at j7
    rw [← hoth 11 (by decide)] at j11
    rw [← hoth 14 (by decide)] at j14
    rw [← hoth 15 (by decide)] at j15
    rw [← hoth 16 (by decide)] at j16
    have j56 : (IsV x1532_0) (b2.get 56) q2 := hres
    replace hsb := hsz.trans hsb
    replace hdb := hdf.trans hdb
    clear hch hgr hres hsz hdf hoth
    obtain ⟨b, hbb⟩ : ∃ b, b = b2 := ⟨b2, rfl⟩
    subst hbb
    obtain ⟨q, hqq⟩ : ∃ q, q = q2 := ⟨q2, rfl⟩
    subst hqq
    refine tail_does (R := (IsV (!x1532_0))) (i := 1) (d := 57) rfl rfl rfl (by rw [hsb]; decide) hQQ1540 (ok_not rfl j56) fun b2 q2 hsz hdf hoth hgr hnew => ?_
    replace j5 := Pers.pers hgr.le j5
    replace j6 := Pers.pers hgr.le j6
    replace j7 := Pers.pers hgr.le j7
    replace j11 := Pers.pers hgr.le j11
    replace j14 := Pers.pers hgr.le j14
    replace j15 := Pers.pers hgr.le j15
    replace j16 := Pers.pers hgr.le j16
    replace j56 := Pers.pers hgr.le j56
    replace hgq := hgq.then hgr
    rw [← hoth 5 (by decide)] at j5
    rw [← hoth 6 (by decide)] at j6
    rw [← hoth 7 (by decide)] at j7
    rw [← hoth 11 (by decide)] at j11
    rw [← hoth 14 (by decide)] at j14
    rw [← hoth 15 (by decide)] at j15
    rw [← hoth 16 (by decide)] at j16
    rw [← hoth 56 (by decide)] at j56
    have j57 := hnew
    replace hsb := hsz.trans hsb
    replace hdb := hdf.trans hdb
    clear hgr hsz hdf hoth hnew
    obtain ⟨b, hbb⟩ : ∃ b, b = b2 := ⟨b2, rfl⟩
    subst hbb
    obtain ⟨q, hqq⟩ : ∃ q, q = q2 := ⟨q2, rfl⟩
    subst hqq
    exact tail_done (k := q) (hp1541 _ _ ⟨⟨hgq, hsb, hdb⟩, j5, j6, j7, j14, j15, j16, j57, trivial⟩)
   rintro a k ⟨⟨hg, hs, hd⟩, i5, i6, i7, i14, i15, i16, i57, _⟩
   refine wp_cond_split (isBool i57) (fun hc1539 => ?_) (fun hc1539 => ?_)
   ·rw [if_pos hc1539] at hr
    refine stepL 1 (⟨some (IsV true), []⟩ :: []) rfl ⟨hg, hs, hd⟩ (by kernel_rfl) ⟨ob1 rfl fun _ _ h n => ok_assign rfl (isV_bool.2 rfl), trivial⟩ [⟨_, _⟩] (fun b q p => ⟨p.ou 0 8 rfl, trivial⟩) ?_
    rintro a k ⟨⟨hg, hs, hd⟩, i8, _⟩
    refine wp_ret ?_
    exact hret1524 _ _ _ (Option.some.inj hr).symm (retC1 rfl hd hg i8)
   rw [if_neg (by rw [hc1539]; decide)] at hr
   refine wp_skip ?_
   obtain ⟨x1536_0, hx1536_0, hr⟩ := bind_some hr
   refine cut (fun a' k' => Bs noF k0 59 a' k' ∧ (IsRef p_) (a'.get 5) k' ∧ (IsRef v_) (a'.get 6) k' ∧ (IsRef t_) (a'.get 7) k' ∧ (IsV x1520_1) (a'.get 14) k' ∧ (IsL x1520_1) (a'.get 15) k' ∧ (IsV x1536_0) (a'.get 16) k' ∧ True) ?_ hQ ?_
   ·intro Q1537 hQQ1537 hp1538
    refine gS 2 (_ :: _ :: []) hs (by kernel_rfl) ⟨o1 [(16, none)] rfl fun _ _ h n => ok_add rfl (up i16 h n.1) (cI rfl) hx1536_0, cm 0 rfl rfl, trivial⟩ hQQ1537 fun b q p => ?_
    exact tail_done (k := q) (hp1538 _ _ ⟨Bs.post ⟨hg, hs, hd⟩ p, p.ke 5 rfl i5, p.ke 6 rfl i6, p.ke 7 rfl i7, p.ke 14 rfl i14, p.ke 15 rfl i15, p.ou 1 16 rfl, trivial⟩)
   rintro a k ⟨⟨hg, hs, hd⟩, i5, i6, i7, i14, i15, i16, _⟩
   exact hgo1522 _ _ _ (Option.some.inj hr).symm ⟨⟨hg, hs, hd⟩, i5, i6, i7, i14, i15, i16, trivial⟩
  rw [if_neg (by rw [hc1554]; decide)] at hr
  refine wp_exit ?_
  exact hex1523 _ _ _ _ (Option.some.inj hr).symm ⟨rfl, ⟨hg, hs, hd⟩, trivial⟩
 ·rintro r1562 a k rfl hR
  dsimp only at hr
  obtain rfl := Option.some.inj hr
  exact hR
 ·rintro _ _ _ rfl _
  simp at hr
 clear hf1557
 rintro _ s1558 a k rfl ⟨rfl, ⟨hg, hs, hd⟩, _⟩
 dsimp only at hr
 refine stepL 1 (⟨some (IsV false), []⟩ :: []) rfl ⟨hg, hs, hd⟩ (by kernel_rfl) ⟨ob1 rfl fun _ _ h n => ok_assign rfl (isV_bool.2 rfl), trivial⟩ [⟨_, _⟩] (fun b q p => ⟨p.ou 0 8 rfl, trivial⟩) ?_
 rintro a k ⟨⟨hg, hs, hd⟩, i8, _⟩
 refine wp_ret ?_
 obtain rfl := Option.some.inj hr
 exact retC1 rfl hd hg i8
def sight_Blocked (s_ : (List Slab)) (p_ : Point3) (q_ : Point3) : Option (Bool) :=
 (sight_on p_).bind fun x1569_1 =>
 (if (!x1569_1) then
  some true
 else
  (sight_on q_).bind fun x1569_5 =>
  some (!x1569_5)).bind fun x1569_7 =>
 if x1569_7 then
  some false
 else
  (subI q_.X p_.X).bind fun x1574_6 =>
  (subI q_.Y p_.Y).bind fun x1574_11 =>
  (subI q_.Z p_.Z).bind fun x1574_16 =>
  (sight_meets s_ p_ (⟨x1574_6, x1574_11, x1574_16⟩ : Point3) (⟨(⟨0, 1, true⟩ : SightBound), (⟨1, 1, true⟩ : SightBound), true, false⟩ : SightInterval)).bind fun x1574_19 =>
  some x1574_19
theorem sight_Blocked_ok {k0 : K} {v0 v1 v2 : Value} {s_ : (List Slab)} {p_ : Point3} {q_ : Point3} {r : Bool} (i0 : (IsV s_) v0 k0) (i1 : (IsV p_) v1 k0) (i2 : (IsV q_) v2 k0) (hr : sight_Blocked s_ p_ q_ = some r) :
  Calls Try.prog 11 #[v0, v1, v2] k0.w (Ret k0 (IsV r)) := by
 unfold sight_Blocked at hr
 refine Ret.ofC ?_
 refine enterK Try.func11 rfl Try.ntmps11 (show 3 ≤ 39 by decide) fun a k hk0 hs hd ha => ?_
 obtain ⟨e0, e1, e2, _⟩ := ha
 replace i0 : (IsV s_) (a.get 0) k := by rw [e0, hk0]; exact i0
 replace i1 : (IsV p_) (a.get 1) k := by rw [e1, hk0]; exact i1
 replace i2 : (IsV q_) (a.get 2) k := by rw [e2, hk0]; exact i2
 have hQ : Gb.LetsOut (bodyPost Try.prog Try.f11 (RetC noF k0 (IsV r))) := letsOutC
 have hg : Chg noF k0 k := by rw [hk0]; exact Chg.refl _ k0
 refine stepL 3 (⟨some (IsRef p_), [(1, none)]⟩ :: ⟨some (IsRef q_), [(2, none)]⟩ :: ⟨some (IsV false), []⟩ :: []) rfl ⟨hg, hs, hd⟩ (by kernel_rfl) ⟨ob1 rfl fun _ _ h n => ok_boxR rfl (up i1 h n.1), ob1 rfl fun _ _ h n => ok_boxR rfl (up i2 h n.1), ob1 rfl fun _ _ h n => ok_assign rfl (isV_bool.2 rfl), trivial⟩ [⟨_, _⟩, ⟨_, _⟩, ⟨_, _⟩] (fun b q p => ⟨p.ke 0 rfl i0, p.ou 0 4 rfl, p.ou 1 5 rfl, trivial⟩) ?_
 rintro a k ⟨⟨hg, hs, hd⟩, i0, i4, i5, _⟩
 refine wp_seq ?_
 refine wp_seq ?_
 obtain ⟨x1569_1, hx1569_1, hr⟩ := bind_some hr
 obtain ⟨x1569_7, hx1569_7, hr⟩ := bind_some hr
 obtain ⟨x1569_5, hx1569_5, hx1569_7⟩ := ite_bindF hx1569_7
 refine cut (fun a' k' => Bs noF k0 39 a' k' ∧ (IsV s_) (a'.get 0) k' ∧ (IsRef p_) (a'.get 4) k' ∧ (IsRef q_) (a'.get 5) k' ∧ (IsV x1569_7) (a'.get 15) k' ∧ True) ?_ hQ ?_
 ·intro Q1580 hQQ1580 hp1581
  refine gS 8 (_ :: _ :: _ :: _ :: _ :: _ :: _ :: _ :: []) hs (by kernel_rfl) ⟨o1 [(4, none)] rfl fun _ _ h n => ok_load rfl ty24 ((up i4 h n.1)).ptr, o1 [(8, some 0)] rfl fun _ _ h n => ok_call rfl Try.call26 (sight_on_ok n.1 hx1569_1), o1 [(9, some 1)] rfl fun _ _ h n => ok_not rfl n.1, cm 2 rfl rfl, gF [(5, none)] rfl rfl fun hp _ _ h n => ok_load rfl ty24 ((up i5 h n.1)).ptr, gF [(12, some 4)] rfl rfl fun hp _ _ h n => ok_call rfl Try.call26 (sight_on_ok (Gd.get n.1 hp) (hx1569_5 hp)), gF [(13, some 5)] rfl rfl fun hp _ _ h n => ok_not rfl (Gd.get n.1 hp), o1 [(11, some 3), (14, some 6)] rfl fun _ _ h n => ok_pickM rfl n.1 hx1569_7 (cB rfl) (Gd.get n.2.1), trivial⟩ hQQ1580 fun b q p => ?_
  exact tail_done (k := q) (hp1581 _ _ ⟨Bs.post ⟨hg, hs, hd⟩ p, p.ke 0 rfl i0, p.ke 4 rfl i4, p.ke 5 rfl i5, p.ou 7 15 rfl, trivial⟩)
 rintro a k ⟨⟨hg, hs, hd⟩, i0, i4, i5, i15, _⟩
 refine wp_cond_split (isBool i15) (fun hc1579 => ?_) (fun hc1579 => ?_)
 ·rw [if_pos hc1579] at hr
  refine stepL 1 (⟨some (IsV false), []⟩ :: []) rfl ⟨hg, hs, hd⟩ (by kernel_rfl) ⟨ob1 rfl fun _ _ h n => ok_assign rfl (isV_bool.2 rfl), trivial⟩ [⟨_, _⟩] (fun b q p => ⟨p.ou 0 6 rfl, trivial⟩) ?_
  rintro a k ⟨⟨hg, hs, hd⟩, i6, _⟩
  refine wp_ret ?_
  obtain rfl := Option.some.inj hr
  exact retC1 rfl hd hg i6
 rw [if_neg (by rw [hc1579]; decide)] at hr
 refine wp_skip ?_
 refine cutL noF k0 39 [⟨0, IsV s_⟩, ⟨4, IsRef p_⟩, ⟨5, IsRef q_⟩, ⟨7, IsRef (⟨(⟨0, 1, true⟩ : SightBound), (⟨1, 1, true⟩ : SightBound), true, false⟩ : SightInterval)⟩] ?_ ?_
 ·intro Q1577 hQQ1577 hp1578
  refine gS 4 (⟨some (IsV (⟨0, 1, true⟩ : SightBound)), []⟩ :: ⟨some (IsV (⟨1, 1, true⟩ : SightBound)), []⟩ :: ⟨some (IsV (⟨(⟨0, 1, true⟩ : SightBound), (⟨1, 1, true⟩ : SightBound), true, false⟩ : SightInterval)), [(16, some 0), (17, some 1)]⟩ :: ⟨some (IsBox k.w.heap.size (⟨(⟨0, 0, false⟩ : SightBound), (⟨0, 0, false⟩ : SightBound), false, false⟩ : SightInterval)), []⟩ :: []) hs (by kernel_rfl) ⟨ob1 rfl fun _ _ h n => ok_build rfl (bld53_0_1_2 (cI rfl) (cI rfl) (isV_bool.2 rfl)), ob1 rfl fun _ _ h n => ok_build rfl (bld53_0_1_2 (cI rfl) (cI rfl) (isV_bool.2 rfl)), ob1 rfl fun _ _ h n => ok_build rfl (bld55_0_1_2 n.1 n.2.1 (isV_bool.2 rfl)), ob1 rfl fun _ _ h n => ok_alloc _ h.size rfl z55, trivial⟩ hQQ1577 fun b q p => ?_
  have hgq := hg.then p.grow
  have hsb := p.size.trans hs
  have hdb := p.defers.trans hd
  have j0 := p.ke 0 rfl i0
  have j4 := p.ke 4 rfl i4
  have j5 := p.ke 5 rfl i5
  obtain ⟨b7, j7, x7, z7⟩ : (IsBox k.w.heap.size (⟨(⟨0, 0, false⟩ : SightBound), (⟨0, 0, false⟩ : SightBound), false, false⟩ : SightInterval)) (b.get 7) q := p.ou 3 7 rfl
  replace x7 : Lo k (Eq b7) := Lo.eq x7
  have y7 : Lo k0 (Eq b7) := x7.chg hg
  have j18 : (IsV (⟨(⟨0, 1, true⟩ : SightBound), (⟨1, 1, true⟩ : SightBound), true, false⟩ : SightInterval)) (b.get 18) q := p.ou 2 18 rfl
  have hns := z7.nshF
  refine tail_storeB (i := 4) rfl rfl rfl rfl szf55 (Upd.self (α := SightInterval)) j7 z7 j18 fun q2 hch hz => ?_
  replace hgq := hgq.step hch y7.wr
  have hle := hch.le hns
  replace j0 := Pers.pers hle j0
  replace j4 := Pers.pers hle j4
  replace j5 := Pers.pers hle j5
  replace j18 := Pers.pers hle j18
  replace z7 := hz
  clear hns hle hch
  obtain ⟨q, hqq⟩ : ∃ q, q = q2 := ⟨q2, rfl⟩
  subst hqq
  obtain ⟨q2, hsh, jn⟩ := z7.give
  replace j0 := Pers.pers hsh.le j0
  replace j4 := Pers.pers hsh.le j4
  replace j5 := Pers.pers hsh.le j5
  rw [← j7] at jn
  replace j7 := jn
  replace hgq := hgq.hand hsh y7.wr
  rw [← hsh.w]
  clear hsh
  obtain ⟨q, hqq⟩ : ∃ q, q = q2 := ⟨q2, rfl⟩
  subst hqq
  exact tail_done (k := q) (hp1578 _ _ ⟨⟨hgq, hsb, hdb⟩, j0, j4, j5, j7, trivial⟩)
 rintro a k ⟨⟨hg, hs, hd⟩, i0, i4, i5, i7, _⟩
 refine wp_seq ?_
 obtain ⟨x1574_6, hx1574_6, hr⟩ := bind_some hr
 obtain ⟨x1574_11, hx1574_11, hr⟩ := bind_some hr
 obtain ⟨x1574_16, hx1574_16, hr⟩ := bind_some hr
 obtain ⟨x1574_19, hx1574_19, hr⟩ := bind_some hr
 refine cut (fun a' k' => Bs noF k0 39 a' k' ∧ (IsV x1574_19) (a'.get 6) k' ∧ True) ?_ hQ ?_
 ·intro Q1575 hQQ1575 hp1576
  refine gS 21 (_ :: _ :: _ :: _ :: _ :: _ :: _ :: _ :: _ :: _ :: _ :: _ :: _ :: _ :: _ :: _ :: _ :: ⟨some (IsV (⟨x1574_6, x1574_11, x1574_16⟩ : Point3)), [(25, some 6), (30, some 11), (35, some 16)]⟩ :: _ :: _ :: _ :: []) hs (by kernel_rfl) ⟨mu rfl i0, o1 [(4, none)] rfl fun _ _ h n => ok_load rfl ty24 ((up i4 h n.1)).ptr, o1 [(5, none)] rfl fun _ _ h n => ok_fieldAddr rfl fo24_0 (at_Point3_0 _) ((up i5 h n.1)).ptr, o1 [(21, some 2)] rfl fun _ _ h n => ok_load rfl ty3 n.1, o1 [(4, none)] rfl fun _ _ h n => ok_fieldAddr rfl fo24_0 (at_Point3_0 _) ((up i4 h n.1)).ptr, o1 [(23, some 4)] rfl fun _ _ h n => ok_load rfl ty3 n.1, o1 [(22, some 3), (24, some 5)] rfl fun _ _ h n => ok_sub rfl n.1 n.2.1 hx1574_6, o1 [(5, none)] rfl fun _ _ h n => ok_fieldAddr rfl fo24_1 (at_Point3_1 _) ((up i5 h n.1)).ptr, o1 [(26, some 7)] rfl fun _ _ h n => ok_load rfl ty3 n.1, o1 [(4, none)] rfl fun _ _ h n => ok_fieldAddr rfl fo24_1 (at_Point3_1 _) ((up i4 h n.1)).ptr, o1 [(28, some 9)] rfl fun _ _ h n => ok_load rfl ty3 n.1, o1 [(27, some 8), (29, some 10)] rfl fun _ _ h n => ok_sub rfl n.1 n.2.1 hx1574_11, o1 [(5, none)] rfl fun _ _ h n => ok_fieldAddr rfl fo24_2 (at_Point3_2 _) ((up i5 h n.1)).ptr, o1 [(31, some 12)] rfl fun _ _ h n => ok_load rfl ty3 n.1, o1 [(4, none)] rfl fun _ _ h n => ok_fieldAddr rfl fo24_2 (at_Point3_2 _) ((up i4 h n.1)).ptr, o1 [(33, some 14)] rfl fun _ _ h n => ok_load rfl ty3 n.1, o1 [(32, some 13), (34, some 15)] rfl fun _ _ h n => ok_sub rfl n.1 n.2.1 hx1574_16, ob1 rfl fun _ _ h n => ok_build rfl (bld24_0_1_2 n.1 n.2.1 n.2.2.1), o1 [(7, none)] rfl fun _ _ h n => ok_load rfl ty55 ((up i7 h n.1)).ptr, o1 [(19, some 0), (20, some 1), (36, some 17), (37, some 18)] rfl fun _ _ h n => ok_call rfl Try.call27 (sight_meets_ok n.1 n.2.1 n.2.2.1 n.2.2.2.1 hx1574_19), cp 19 rfl rfl, trivial⟩ hQQ1575 fun b q p => ?_
  exact tail_done (k := q) (hp1576 _ _ ⟨Bs.post ⟨hg, hs, hd⟩ p, p.ou 20 6 rfl, trivial⟩)
 rintro a k ⟨⟨hg, hs, hd⟩, i6, _⟩
 refine wp_ret ?_
 obtain rfl := Option.some.inj hr
 exact retC1 rfl hd hg i6
def sight_Ray (s_ : (List Slab)) (p_ : Point3) (d_ : Point3) : Option (Bool) :=
 (sight_on p_).bind fun x1585_1 =>
 if ((((!x1585_1) || (decide (d_ = (⟨0, 0, 0⟩ : Point3)))) || (decide ((min (min d_.X d_.Y) d_.Z) < (-1048576)))) || (decide (1048576 < (max (max d_.X d_.Y) d_.Z)))) then
  some false
 else
  (sight_meets s_ p_ d_ (⟨(⟨0, 1, true⟩ : SightBound), (⟨0, 0, false⟩ : SightBound), false, false⟩ : SightInterval)).bind fun x1589_5 =>
  some x1589_5
theorem sight_Ray_ok {k0 : K} {v0 v1 v2 : Value} {s_ : (List Slab)} {p_ : Point3} {d_ : Point3} {r : Bool} (i0 : (IsV s_) v0 k0) (i1 : (IsV p_) v1 k0) (i2 : (IsV d_) v2 k0) (hr : sight_Ray s_ p_ d_ = some r) :
  Calls Try.prog 13 #[v0, v1, v2] k0.w (Ret k0 (IsV r)) := by
 unfold sight_Ray at hr
 refine Ret.ofC ?_
 refine enterK Try.func13 rfl Try.ntmps13 (show 3 ≤ 41 by decide) fun a k hk0 hs hd ha => ?_
 obtain ⟨e0, e1, e2, _⟩ := ha
 replace i0 : (IsV s_) (a.get 0) k := by rw [e0, hk0]; exact i0
 replace i1 : (IsV p_) (a.get 1) k := by rw [e1, hk0]; exact i1
 replace i2 : (IsV d_) (a.get 2) k := by rw [e2, hk0]; exact i2
 have hQ : Gb.LetsOut (bodyPost Try.prog Try.f13 (RetC noF k0 (IsV r))) := letsOutC
 have hg : Chg noF k0 k := by rw [hk0]; exact Chg.refl _ k0
 refine stepL 3 (⟨some (IsRef p_), [(1, none)]⟩ :: ⟨some (IsRef d_), [(2, none)]⟩ :: ⟨some (IsV false), []⟩ :: []) rfl ⟨hg, hs, hd⟩ (by kernel_rfl) ⟨ob1 rfl fun _ _ h n => ok_boxR rfl (up i1 h n.1), ob1 rfl fun _ _ h n => ok_boxR rfl (up i2 h n.1), ob1 rfl fun _ _ h n => ok_assign rfl (isV_bool.2 rfl), trivial⟩ [⟨_, _⟩, ⟨_, _⟩, ⟨_, _⟩] (fun b q p => ⟨p.ke 0 rfl i0, p.ou 0 4 rfl, p.ou 1 5 rfl, trivial⟩) ?_
 rintro a k ⟨⟨hg, hs, hd⟩, i0, i4, i5, _⟩
 refine wp_seq ?_
 refine wp_seq ?_
 obtain ⟨x1585_1, hx1585_1, hr⟩ := bind_some hr
 refine cut (fun a' k' => Bs noF k0 41 a' k' ∧ (IsV s_) (a'.get 0) k' ∧ (IsRef p_) (a'.get 4) k' ∧ (IsRef d_) (a'.get 5) k' ∧ (IsV ((((!x1585_1) || (decide (d_ = (⟨0, 0, 0⟩ : Point3)))) || (decide ((min (min d_.X d_.Y) d_.Z) < (-1048576)))) || (decide (1048576 < (max (max d_.X d_.Y) d_.Z))))) (a'.get 34) k' ∧ True) ?_ hQ ?_
 ·intro Q1593 hQQ1593 hp1594
  refine gS 28 (_ :: _ :: _ :: _ :: _ :: ⟨some (Gd ((!x1585_1) = false) (IsV (⟨0, 0, 0⟩ : Point3))), []⟩ :: ⟨some (Gd ((!x1585_1) = false) (IsV (decide (d_ = (⟨0, 0, 0⟩ : Point3))))), [(11, some 4), (12, some 5)]⟩ :: _ :: _ :: _ :: _ :: _ :: _ :: _ :: _ :: _ :: _ :: _ :: _ :: _ :: _ :: _ :: _ :: _ :: _ :: _ :: _ :: _ :: []) hs (by kernel_rfl) ⟨o1 [(4, none)] rfl fun _ _ h n => ok_load rfl ty24 ((up i4 h n.1)).ptr, o1 [(7, some 0)] rfl fun _ _ h n => ok_call rfl Try.call26 (sight_on_ok n.1 hx1585_1), o1 [(8, some 1)] rfl fun _ _ h n => ok_not rfl n.1, cm 2 rfl rfl, gF [(5, none)] rfl rfl fun hp _ _ h n => ok_load rfl ty24 ((up i5 h n.1)).ptr, gdF rfl rfl fun hp _ _ h n => ok_build rfl (bld24_ ), gdF rfl rfl fun hp _ _ h n => ok_eqA rfl eq24 (Gd.get n.1 hp) (Gd.get n.2.1 hp), o1 [(10, some 3), (13, some 6)] rfl fun _ _ h n => ok_pickOr rfl n.1 (cB rfl) (Gd.get n.2.1), cm 7 rfl rfl, gF [(5, none)] rfl rfl fun hp _ _ h n => ok_fieldAddr rfl fo24_0 (at_Point3_0 _) ((up i5 h n.1)).ptr, gF [(16, some 9)] rfl rfl fun hp _ _ h n => ok_load rfl ty3 (Gd.get n.1 hp), gF [(5, none)] rfl rfl fun hp _ _ h n => ok_fieldAddr rfl fo24_1 (at_Point3_1 _) ((up i5 h n.1)).ptr, gF [(18, some 11)] rfl rfl fun hp _ _ h n => ok_load rfl ty3 (Gd.get n.1 hp), gF [(5, none)] rfl rfl fun hp _ _ h n => ok_fieldAddr rfl fo24_2 (at_Point3_2 _) ((up i5 h n.1)).ptr, gF [(20, some 13)] rfl rfl fun hp _ _ h n => ok_load rfl ty3 (Gd.get n.1 hp), gF [(17, some 10), (19, some 12), (21, some 14)] rfl rfl fun hp _ _ h n => ok_min3 rfl (Gd.get n.1 hp) (Gd.get n.2.1 hp) (Gd.get n.2.2.1 hp), gF [(22, some 15)] rfl rfl fun hp _ _ h n => ok_lss rfl (Gd.get n.1 hp) (cI rfl), o1 [(15, some 8), (23, some 16)] rfl fun _ _ h n => ok_pickOr rfl n.1 (cB rfl) (Gd.get n.2.1), cm 17 rfl rfl, gF [(5, none)] rfl rfl fun hp _ _ h n => ok_fieldAddr rfl fo24_0 (at_Point3_0 _) ((up i5 h n.1)).ptr, gF [(26, some 19)] rfl rfl fun hp _ _ h n => ok_load rfl ty3 (Gd.get n.1 hp), gF [(5, none)] rfl rfl fun hp _ _ h n => ok_fieldAddr rfl fo24_1 (at_Point3_1 _) ((up i5 h n.1)).ptr, gF [(28, some 21)] rfl rfl fun hp _ _ h n => ok_load rfl ty3 (Gd.get n.1 hp), gF [(5, none)] rfl rfl fun hp _ _ h n => ok_fieldAddr rfl fo24_2 (at_Point3_2 _) ((up i5 h n.1)).ptr, gF [(30, some 23)] rfl rfl fun hp _ _ h n => ok_load rfl ty3 (Gd.get n.1 hp), gF [(27, some 20), (29, some 22), (31, some 24)] rfl rfl fun hp _ _ h n => ok_max3 rfl (Gd.get n.1 hp) (Gd.get n.2.1 hp) (Gd.get n.2.2.1 hp), gF [(32, some 25)] rfl rfl fun hp _ _ h n => ok_gtr rfl (Gd.get n.1 hp) (cI rfl), o1 [(25, some 18), (33, some 26)] rfl fun _ _ h n => ok_pickOr rfl n.1 (cB rfl) (Gd.get n.2.1), trivial⟩ hQQ1593 fun b q p => ?_
  exact tail_done (k := q) (hp1594 _ _ ⟨Bs.post ⟨hg, hs, hd⟩ p, p.ke 0 rfl i0, p.ke 4 rfl i4, p.ke 5 rfl i5, p.ou 27 34 rfl, trivial⟩)
 rintro a k ⟨⟨hg, hs, hd⟩, i0, i4, i5, i34, _⟩
 refine wp_cond_split (isBool i34) (fun hc1592 => ?_) (fun hc1592 => ?_)
 ·rw [if_pos hc1592] at hr
  refine stepL 1 (⟨some (IsV false), []⟩ :: []) rfl ⟨hg, hs, hd⟩ (by kernel_rfl) ⟨ob1 rfl fun _ _ h n => ok_assign rfl (isV_bool.2 rfl), trivial⟩ [⟨_, _⟩] (fun b q p => ⟨p.ou 0 6 rfl, trivial⟩) ?_
  rintro a k ⟨⟨hg, hs, hd⟩, i6, _⟩
  refine wp_ret ?_
  obtain rfl := Option.some.inj hr
  exact retC1 rfl hd hg i6
 rw [if_neg (by rw [hc1592]; decide)] at hr
 refine wp_skip ?_
 refine wp_seq ?_
 obtain ⟨x1589_5, hx1589_5, hr⟩ := bind_some hr
 refine cut (fun a' k' => Bs noF k0 41 a' k' ∧ (IsV x1589_5) (a'.get 6) k' ∧ True) ?_ hQ ?_
 ·intro Q1590 hQQ1590 hp1591
  refine gS 7 (_ :: _ :: _ :: ⟨some (IsV (⟨0, 1, true⟩ : SightBound)), []⟩ :: ⟨some (IsV (⟨(⟨0, 1, true⟩ : SightBound), (⟨0, 0, false⟩ : SightBound), false, false⟩ : SightInterval)), [(38, some 3)]⟩ :: _ :: _ :: []) hs (by kernel_rfl) ⟨mu rfl i0, o1 [(4, none)] rfl fun _ _ h n => ok_load rfl ty24 ((up i4 h n.1)).ptr, o1 [(5, none)] rfl fun _ _ h n => ok_load rfl ty24 ((up i5 h n.1)).ptr, ob1 rfl fun _ _ h n => ok_build rfl (bld53_0_1_2 (cI rfl) (cI rfl) (isV_bool.2 rfl)), ob1 rfl fun _ _ h n => ok_build rfl (bld55_0 n.1), o1 [(35, some 0), (36, some 1), (37, some 2), (39, some 4)] rfl fun _ _ h n => ok_call rfl Try.call27 (sight_meets_ok n.1 n.2.1 n.2.2.1 n.2.2.2.1 hx1589_5), cp 5 rfl rfl, trivial⟩ hQQ1590 fun b q p => ?_
  exact tail_done (k := q) (hp1591 _ _ ⟨Bs.post ⟨hg, hs, hd⟩ p, p.ou 6 6 rfl, trivial⟩)
 rintro a k ⟨⟨hg, hs, hd⟩, i6, _⟩
 refine wp_ret ?_
 obtain rfl := Option.some.inj hr
 exact retC1 rfl hd hg i6
def law11_small  : Option (Bool) :=
 (ref09_Of ([(⟨(⟨2, 0, 3, 1⟩ : Rect), 0, 1⟩ : Box)])).bind fun x1598_3 =>
 (law11_at 0 0 0).bind fun x1599_1 =>
 (law11_at 5 0 0).bind fun x1599_2 =>
 (sight_Blocked x1598_3.1 x1599_1 x1599_2).bind fun x1599_3 =>
 (if x1599_3 then
  (law11_at 0 0 0).bind fun x1599_6 =>
  (law11_at 2 0 0).bind fun x1599_7 =>
  (sight_Blocked x1598_3.1 x1599_6 x1599_7).bind fun x1599_8 =>
  some (!x1599_8)
 else
  some false).bind fun x1599_10 =>
 (if x1599_10 then
  (law11_at 0 1 0).bind fun x1599_13 =>
  (law11_at 5 1 0).bind fun x1599_14 =>
  (sight_Blocked x1598_3.1 x1599_13 x1599_14).bind fun x1599_15 =>
  some (!x1599_15)
 else
  some false).bind fun x1599_17 =>
 (if x1599_17 then
  (law11_at 0 0 1).bind fun x1599_20 =>
  (law11_at 5 0 1).bind fun x1599_21 =>
  (sight_Blocked x1598_3.1 x1599_20 x1599_21).bind fun x1599_22 =>
  some (!x1599_22)
 else
  some false).bind fun x1599_24 =>
 (law11_at 2 0 0).bind fun x1600_1 =>
 (law11_at 2 0 0).bind fun x1600_2 =>
 (sight_Blocked x1598_3.1 x1600_1 x1600_2).bind fun x1600_3 =>
 (if x1600_3 then
  (law11_at 3 0 0).bind fun x1600_6 =>
  (law11_at 3 5 0).bind fun x1600_7 =>
  (sight_Blocked x1598_3.1 x1600_6 x1600_7).bind fun x1600_8 =>
  some (!x1600_8)
 else
  some false).bind fun x1600_10 =>
 (if (x1599_24 && x1600_10) then
  (law11_at 0 0 0).bind fun x1601_6 =>
  (law11_at 1 0 0).bind fun x1601_7 =>
  (sight_Ray x1598_3.1 x1601_6 x1601_7).bind fun x1601_8 =>
  some x1601_8
 else
  some false).bind fun x1601_9 =>
 (if x1601_9 then
  (law11_at 0 0 0).bind fun x1601_12 =>
  (law11_at (-1) 0 0).bind fun x1601_13 =>
  (sight_Ray x1598_3.1 x1601_12 x1601_13).bind fun x1601_14 =>
  some (!x1601_14)
 else
  some false).bind fun x1601_16 =>
 (if x1601_16 then
  (law11_at 0 0 0).bind fun x1601_19 =>
  (law11_at 4 1 1).bind fun x1601_20 =>
  (sight_Ray x1598_3.1 x1601_19 x1601_20).bind fun x1601_21 =>
  some x1601_21
 else
  some false).bind fun x1601_22 =>
 some x1601_22
theorem law11_small_ok {k0 : K} {r : Bool} (hr : law11_small = some r) :
  Calls Try.prog 9 #[] k0.w (Ret k0 (IsV r)) := by
 unfold law11_small at hr
 refine Ret.ofC ?_
 refine enterK Try.func9 rfl Try.ntmps9 (show 0 ≤ 71 by decide) fun a k hk0 hs hd ha => ?_
 have hQ : Gb.LetsOut (bodyPost Try.prog Try.f9 (RetC noF k0 (IsV r))) := letsOutC
 have hg : Chg noF k0 k := by rw [hk0]; exact Chg.refl _ k0
 refine cutL noF k0 71 [] ?_ ?_
 ·intro Q1610 hQQ1610 hp1611
  refine gS 1 (⟨some (IsV false), []⟩ :: []) hs (by kernel_rfl) ⟨ob1 rfl fun _ _ h n => ok_assign rfl (isV_bool.2 rfl), trivial⟩ hQQ1610 fun b q p => ?_
  exact tail_done (k := q) (hp1611 _ _ ⟨Bs.post ⟨hg, hs, hd⟩ p, trivial⟩)
 rintro a k ⟨⟨hg, hs, hd⟩, _⟩
 refine wp_seq ?_
 obtain ⟨x1598_3, hx1598_3, hr⟩ := bind_some hr
 refine cut (fun a' k' => Bs noF k0 71 a' k' ∧ (IsV x1598_3.1) (a'.get 1) k' ∧ True) ?_ hQ ?_
 ·intro Q1608 hQQ1608 hp1609
  refine gS 9 (⟨some (IsV (⟨2, 0, 3, 1⟩ : Rect)), []⟩ :: ⟨some (IsV (⟨(⟨2, 0, 3, 1⟩ : Rect), 0, 1⟩ : Box)), [(6, some 0)]⟩ :: ⟨some (IsV (α := (List Box)) ([(⟨(⟨2, 0, 3, 1⟩ : Rect), 0, 1⟩ : Box)])), [(7, some 1)]⟩ :: _ :: _ :: _ :: _ :: _ :: _ :: []) hs (by kernel_rfl) ⟨ob1 rfl fun _ _ h n => ok_build rfl (bld35_0_2_3 (cI rfl) (cI rfl) (cI rfl)), ob1 rfl fun _ _ h n => ok_build rfl (bld37_0_2 n.1 (cI rfl)), ob1 rfl fun _ _ h n => ok_buildSlice rfl Try.underlying31 eo37 rfl (by decide) (by decide) ⟨rfl, n.1, trivial⟩, o1 [(8, some 2)] rfl fun _ _ h n => ok_call rfl Try.call25 (ref09_Of_ok n.1 hx1598_3), cm 3 rfl rfl, o1 [(5, some 4)] rfl fun _ _ h n => ok_ext2_0 rfl n.1, o1 [(5, some 4)] rfl fun _ _ h n => ok_ext2_1 rfl n.1, cp 5 rfl rfl, cp 6 rfl rfl, trivial⟩ hQQ1608 fun b q p => ?_
  exact tail_done (k := q) (hp1609 _ _ ⟨Bs.post ⟨hg, hs, hd⟩ p, p.ou 7 1 rfl, trivial⟩)
 rintro a k ⟨⟨hg, hs, hd⟩, i1, _⟩
 refine wp_seq ?_
 obtain ⟨x1599_1, hx1599_1, hr⟩ := bind_some hr
 obtain ⟨x1599_2, hx1599_2, hr⟩ := bind_some hr
 obtain ⟨x1599_3, hx1599_3, hr⟩ := bind_some hr
 obtain ⟨x1599_10, hx1599_10, hr⟩ := bind_some hr
 obtain ⟨x1599_6, hx1599_6, hx1599_10⟩ := ite_bind hx1599_10
 obtain ⟨x1599_7, hx1599_7, hx1599_10⟩ := ite_bind hx1599_10
 obtain ⟨x1599_8, hx1599_8, hx1599_10⟩ := ite_bind hx1599_10
 obtain ⟨x1599_17, hx1599_17, hr⟩ := bind_some hr
 obtain ⟨x1599_13, hx1599_13, hx1599_17⟩ := ite_bind hx1599_17
 obtain ⟨x1599_14, hx1599_14, hx1599_17⟩ := ite_bind hx1599_17
 obtain ⟨x1599_15, hx1599_15, hx1599_17⟩ := ite_bind hx1599_17
 obtain ⟨x1599_24, hx1599_24, hr⟩ := bind_some hr
 obtain ⟨x1599_20, hx1599_20, hx1599_24⟩ := ite_bind hx1599_24
 obtain ⟨x1599_21, hx1599_21, hx1599_24⟩ := ite_bind hx1599_24
 obtain ⟨x1599_22, hx1599_22, hx1599_24⟩ := ite_bind hx1599_24
 refine cut (fun a' k' => Bs noF k0 71 a' k' ∧ (IsV x1598_3.1) (a'.get 1) k' ∧ (IsV x1599_24) (a'.get 3) k' ∧ True) ?_ hQ ?_
 ·intro Q1606 hQQ1606 hp1607
  refine gS 26 (_ :: _ :: _ :: _ :: _ :: _ :: _ :: _ :: _ :: _ :: _ :: _ :: _ :: _ :: _ :: _ :: _ :: _ :: _ :: _ :: _ :: _ :: _ :: _ :: _ :: _ :: []) hs (by kernel_rfl) ⟨mu rfl i1, o1 [] rfl fun _ _ h n => ok_call rfl Try.call16 (law11_at_ok (cI rfl) (cI rfl) (cI rfl) hx1599_1), o1 [] rfl fun _ _ h n => ok_call rfl Try.call16 (law11_at_ok (cI rfl) (cI rfl) (cI rfl) hx1599_2), o1 [(12, some 0), (13, some 1), (14, some 2)] rfl fun _ _ h n => ok_call rfl Try.call11 (sight_Blocked_ok n.1 n.2.1 n.2.2.1 hx1599_3), cm 3 rfl rfl, mT rfl rfl i1, gT [] rfl rfl fun hp _ _ h n => ok_call rfl Try.call16 (law11_at_ok (cI rfl) (cI rfl) (cI rfl) (hx1599_6 hp)), gT [] rfl rfl fun hp _ _ h n => ok_call rfl Try.call16 (law11_at_ok (cI rfl) (cI rfl) (cI rfl) (hx1599_7 hp)), gT [(17, some 5), (18, some 6), (19, some 7)] rfl rfl fun hp _ _ h n => ok_call rfl Try.call11 (sight_Blocked_ok (Gd.get n.1 hp) (Gd.get n.2.1 hp) (Gd.get n.2.2.1 hp) (hx1599_8 hp)), gT [(20, some 8)] rfl rfl fun hp _ _ h n => ok_not rfl (Gd.get n.1 hp), o1 [(16, some 4), (21, some 9)] rfl fun _ _ h n => ok_pickM rfl n.1 hx1599_10 (Gd.get n.2.1) (cB rfl), cm 10 rfl rfl, mT rfl rfl i1, gT [] rfl rfl fun hp _ _ h n => ok_call rfl Try.call16 (law11_at_ok (cI rfl) (cI rfl) (cI rfl) (hx1599_13 hp)), gT [] rfl rfl fun hp _ _ h n => ok_call rfl Try.call16 (law11_at_ok (cI rfl) (cI rfl) (cI rfl) (hx1599_14 hp)), gT [(24, some 12), (25, some 13), (26, some 14)] rfl rfl fun hp _ _ h n => ok_call rfl Try.call11 (sight_Blocked_ok (Gd.get n.1 hp) (Gd.get n.2.1 hp) (Gd.get n.2.2.1 hp) (hx1599_15 hp)), gT [(27, some 15)] rfl rfl fun hp _ _ h n => ok_not rfl (Gd.get n.1 hp), o1 [(23, some 11), (28, some 16)] rfl fun _ _ h n => ok_pickM rfl n.1 hx1599_17 (Gd.get n.2.1) (cB rfl), cm 17 rfl rfl, mT rfl rfl i1, gT [] rfl rfl fun hp _ _ h n => ok_call rfl Try.call16 (law11_at_ok (cI rfl) (cI rfl) (cI rfl) (hx1599_20 hp)), gT [] rfl rfl fun hp _ _ h n => ok_call rfl Try.call16 (law11_at_ok (cI rfl) (cI rfl) (cI rfl) (hx1599_21 hp)), gT [(31, some 19), (32, some 20), (33, some 21)] rfl rfl fun hp _ _ h n => ok_call rfl Try.call11 (sight_Blocked_ok (Gd.get n.1 hp) (Gd.get n.2.1 hp) (Gd.get n.2.2.1 hp) (hx1599_22 hp)), gT [(34, some 22)] rfl rfl fun hp _ _ h n => ok_not rfl (Gd.get n.1 hp), o1 [(30, some 18), (35, some 23)] rfl fun _ _ h n => ok_pickM rfl n.1 hx1599_24 (Gd.get n.2.1) (cB rfl), cp 24 rfl rfl, trivial⟩ hQQ1606 fun b q p => ?_
  exact tail_done (k := q) (hp1607 _ _ ⟨Bs.post ⟨hg, hs, hd⟩ p, p.ke 1 rfl i1, p.ou 25 3 rfl, trivial⟩)
 rintro a k ⟨⟨hg, hs, hd⟩, i1, i3, _⟩
 refine wp_seq ?_
 obtain ⟨x1600_1, hx1600_1, hr⟩ := bind_some hr
 obtain ⟨x1600_2, hx1600_2, hr⟩ := bind_some hr
 obtain ⟨x1600_3, hx1600_3, hr⟩ := bind_some hr
 obtain ⟨x1600_10, hx1600_10, hr⟩ := bind_some hr
 obtain ⟨x1600_6, hx1600_6, hx1600_10⟩ := ite_bind hx1600_10
 obtain ⟨x1600_7, hx1600_7, hx1600_10⟩ := ite_bind hx1600_10
 obtain ⟨x1600_8, hx1600_8, hx1600_10⟩ := ite_bind hx1600_10
 refine cut (fun a' k' => Bs noF k0 71 a' k' ∧ (IsV x1598_3.1) (a'.get 1) k' ∧ (IsV x1599_24) (a'.get 3) k' ∧ (IsV x1600_10) (a'.get 4) k' ∧ True) ?_ hQ ?_
 ·intro Q1604 hQQ1604 hp1605
  refine gS 12 (_ :: _ :: _ :: _ :: _ :: _ :: _ :: _ :: _ :: _ :: _ :: _ :: []) hs (by kernel_rfl) ⟨mu rfl i1, o1 [] rfl fun _ _ h n => ok_call rfl Try.call16 (law11_at_ok (cI rfl) (cI rfl) (cI rfl) hx1600_1), o1 [] rfl fun _ _ h n => ok_call rfl Try.call16 (law11_at_ok (cI rfl) (cI rfl) (cI rfl) hx1600_2), o1 [(37, some 0), (38, some 1), (39, some 2)] rfl fun _ _ h n => ok_call rfl Try.call11 (sight_Blocked_ok n.1 n.2.1 n.2.2.1 hx1600_3), cm 3 rfl rfl, mT rfl rfl i1, gT [] rfl rfl fun hp _ _ h n => ok_call rfl Try.call16 (law11_at_ok (cI rfl) (cI rfl) (cI rfl) (hx1600_6 hp)), gT [] rfl rfl fun hp _ _ h n => ok_call rfl Try.call16 (law11_at_ok (cI rfl) (cI rfl) (cI rfl) (hx1600_7 hp)), gT [(42, some 5), (43, some 6), (44, some 7)] rfl rfl fun hp _ _ h n => ok_call rfl Try.call11 (sight_Blocked_ok (Gd.get n.1 hp) (Gd.get n.2.1 hp) (Gd.get n.2.2.1 hp) (hx1600_8 hp)), gT [(45, some 8)] rfl rfl fun hp _ _ h n => ok_not rfl (Gd.get n.1 hp), o1 [(41, some 4), (46, some 9)] rfl fun _ _ h n => ok_pickM rfl n.1 hx1600_10 (Gd.get n.2.1) (cB rfl), cp 10 rfl rfl, trivial⟩ hQQ1604 fun b q p => ?_
  exact tail_done (k := q) (hp1605 _ _ ⟨Bs.post ⟨hg, hs, hd⟩ p, p.ke 1 rfl i1, p.ke 3 rfl i3, p.ou 11 4 rfl, trivial⟩)
 rintro a k ⟨⟨hg, hs, hd⟩, i1, i3, i4, _⟩
 refine wp_seq ?_
 obtain ⟨x1601_9, hx1601_9, hr⟩ := bind_some hr
 obtain ⟨x1601_6, hx1601_6, hx1601_9⟩ := ite_bind hx1601_9
 obtain ⟨x1601_7, hx1601_7, hx1601_9⟩ := ite_bind hx1601_9
 obtain ⟨x1601_8, hx1601_8, hx1601_9⟩ := ite_bind hx1601_9
 obtain ⟨x1601_16, hx1601_16, hr⟩ := bind_some hr
 obtain ⟨x1601_12, hx1601_12, hx1601_16⟩ := ite_bind hx1601_16
 obtain ⟨x1601_13, hx1601_13, hx1601_16⟩ := ite_bind hx1601_16
 obtain ⟨x1601_14, hx1601_14, hx1601_16⟩ := ite_bind hx1601_16
 obtain ⟨x1601_22, hx1601_22, hr⟩ := bind_some hr
 obtain ⟨x1601_19, hx1601_19, hx1601_22⟩ := ite_bind hx1601_22
 obtain ⟨x1601_20, hx1601_20, hx1601_22⟩ := ite_bind hx1601_22
 obtain ⟨x1601_21, hx1601_21, hx1601_22⟩ := ite_bind hx1601_22
 refine cut (fun a' k' => Bs noF k0 71 a' k' ∧ (IsV x1601_22) (a'.get 0) k' ∧ True) ?_ hQ ?_
 ·intro Q1602 hQQ1602 hp1603
  refine gS 24 (_ :: _ :: _ :: _ :: _ :: _ :: _ :: _ :: _ :: _ :: _ :: _ :: _ :: _ :: _ :: _ :: _ :: _ :: _ :: _ :: _ :: _ :: _ :: _ :: []) hs (by kernel_rfl) ⟨mu rfl i3, cm 0 rfl rfl, mT rfl rfl i4, o1 [(49, some 1), (50, some 2)] rfl fun _ _ h n => ok_pickAnd rfl n.1 (Gd.get n.2.1) (cB rfl), cm 3 rfl rfl, mT rfl rfl i1, gT [] rfl rfl fun hp _ _ h n => ok_call rfl Try.call16 (law11_at_ok (cI rfl) (cI rfl) (cI rfl) (hx1601_6 hp)), gT [] rfl rfl fun hp _ _ h n => ok_call rfl Try.call16 (law11_at_ok (cI rfl) (cI rfl) (cI rfl) (hx1601_7 hp)), gT [(53, some 5), (54, some 6), (55, some 7)] rfl rfl fun hp _ _ h n => ok_call rfl Try.call13 (sight_Ray_ok (Gd.get n.1 hp) (Gd.get n.2.1 hp) (Gd.get n.2.2.1 hp) (hx1601_8 hp)), o1 [(52, some 4), (56, some 8)] rfl fun _ _ h n => ok_pickM rfl n.1 hx1601_9 (Gd.get n.2.1) (cB rfl), cm 9 rfl rfl, mT rfl rfl i1, gT [] rfl rfl fun hp _ _ h n => ok_call rfl Try.call16 (law11_at_ok (cI rfl) (cI rfl) (cI rfl) (hx1601_12 hp)), gT [] rfl rfl fun hp _ _ h n => ok_call rfl Try.call16 (law11_at_ok (cI rfl) (cI rfl) (cI rfl) (hx1601_13 hp)), gT [(59, some 11), (60, some 12), (61, some 13)] rfl rfl fun hp _ _ h n => ok_call rfl Try.call13 (sight_Ray_ok (Gd.get n.1 hp) (Gd.get n.2.1 hp) (Gd.get n.2.2.1 hp) (hx1601_14 hp)), gT [(62, some 14)] rfl rfl fun hp _ _ h n => ok_not rfl (Gd.get n.1 hp), o1 [(58, some 10), (63, some 15)] rfl fun _ _ h n => ok_pickM rfl n.1 hx1601_16 (Gd.get n.2.1) (cB rfl), cm 16 rfl rfl, mT rfl rfl i1, gT [] rfl rfl fun hp _ _ h n => ok_call rfl Try.call16 (law11_at_ok (cI rfl) (cI rfl) (cI rfl) (hx1601_19 hp)), gT [] rfl rfl fun hp _ _ h n => ok_call rfl Try.call16 (law11_at_ok (cI rfl) (cI rfl) (cI rfl) (hx1601_20 hp)), gT [(66, some 18), (67, some 19), (68, some 20)] rfl rfl fun hp _ _ h n => ok_call rfl Try.call13 (sight_Ray_ok (Gd.get n.1 hp) (Gd.get n.2.1 hp) (Gd.get n.2.2.1 hp) (hx1601_21 hp)), o1 [(65, some 17), (69, some 21)] rfl fun _ _ h n => ok_pickM rfl n.1 hx1601_22 (Gd.get n.2.1) (cB rfl), cp 22 rfl rfl, trivial⟩ hQQ1602 fun b q p => ?_
  exact tail_done (k := q) (hp1603 _ _ ⟨Bs.post ⟨hg, hs, hd⟩ p, p.ou 23 0 rfl, trivial⟩)
 rintro a k ⟨⟨hg, hs, hd⟩, i0, _⟩
 refine wp_ret ?_
 obtain rfl := Option.some.inj hr
 exact retC1 rfl hd hg i0
def law11_few_L0 (s_ : (List Slab)) (s1618 : Int) : Option (Flow (Int) (Bool)) :=
 if (decide (s1618 < (s_.length : Int))) then
  (getI s_ s1618).bind fun x1623_2 =>
  if (decide (10 < (x1623_2.Area.length : Int))) then
   some (.ret false)
  else
   (addI s1618 1).bind fun x1627_1 =>
   some (.go x1627_1)
 else
  some (.ex 0 s1618)
def law11_few (s_ : (List Slab)) : Option (Bool) :=
 if (decide (10 < (s_.length : Int))) then
  some false
 else
  (iterL (law11_few_L0 s_) (s_.length + 1) 0).bind fun f1636 => match f1636 with
   | .go _ => none
   | .ex _ _ =>
    some true
   | .ret r1641 => some r1641
theorem law11_few_ok {k0 : K} {v0 : Value} {s_ : (List Slab)} {r : Bool} (i0 : (IsV s_) v0 k0) (hr : law11_few s_ = some r) :
  Calls Try.prog 10 #[v0] k0.w (Ret k0 (IsV r)) := by
 unfold law11_few at hr
 refine Ret.ofC ?_
 refine enterK Try.func10 rfl Try.ntmps10 (show 1 ≤ 20 by decide) fun a k hk0 hs hd ha => ?_
 obtain ⟨e0, _⟩ := ha
 replace i0 : (IsV s_) (a.get 0) k := by rw [e0, hk0]; exact i0
 have hQ : Gb.LetsOut (bodyPost Try.prog Try.f10 (RetC noF k0 (IsV r))) := letsOutC
 have hg : Chg noF k0 k := by rw [hk0]; exact Chg.refl _ k0
 refine stepL 1 (⟨some (IsV false), []⟩ :: []) rfl ⟨hg, hs, hd⟩ (by kernel_rfl) ⟨ob1 rfl fun _ _ h n => ok_assign rfl (isV_bool.2 rfl), trivial⟩ [⟨_, _⟩] (fun b q p => ⟨p.ke 0 rfl i0, trivial⟩) ?_
 rintro a k ⟨⟨hg, hs, hd⟩, i0, _⟩
 refine wp_seq ?_
 refine stepL 3 (_ :: _ :: _ :: []) rfl ⟨hg, hs, hd⟩ (by kernel_rfl) ⟨mu rfl i0, o1 [(4, some 0)] rfl fun _ _ h n => ok_len rfl rfl Try.underlying22 (IsV.rd n.1), o1 [(5, some 1)] rfl fun _ _ h n => ok_gtr rfl n.1 (cI rfl), trivial⟩ [⟨_, _⟩, ⟨_, _⟩] (fun b q p => ⟨p.ke 0 rfl i0, p.ou 2 6 rfl, trivial⟩) ?_
 rintro a k ⟨⟨hg, hs, hd⟩, i0, i6, _⟩
 refine wp_cond_split (isBool i6) (fun hc1645 => ?_) (fun hc1645 => ?_)
 ·rw [if_pos hc1645] at hr
  refine stepL 1 (⟨some (IsV false), []⟩ :: []) rfl ⟨hg, hs, hd⟩ (by kernel_rfl) ⟨ob1 rfl fun _ _ h n => ok_assign rfl (isV_bool.2 rfl), trivial⟩ [⟨_, _⟩] (fun b q p => ⟨p.ou 0 2 rfl, trivial⟩) ?_
  rintro a k ⟨⟨hg, hs, hd⟩, i2, _⟩
  refine wp_ret ?_
  obtain rfl := Option.some.inj hr
  exact retC1 rfl hd hg i2
 rw [if_neg (by rw [hc1645]; decide)] at hr
 refine wp_skip ?_
 refine wp_seq ?_
 refine stepL 1 (⟨some (IsI 0), []⟩ :: []) rfl ⟨hg, hs, hd⟩ (by kernel_rfl) ⟨aI rfl rfl, trivial⟩ [⟨_, _⟩, ⟨_, _⟩] (fun b q p => ⟨p.ke 0 rfl i0, p.ou 0 3 rfl, trivial⟩) ?_
 rintro a k ⟨⟨hg, hs, hd⟩, i0, i3, _⟩
 refine wp_block ?_
 obtain ⟨f1636, hf1636, hr⟩ := bind_some hr
 refine cutFe f1636 (fun s' a' k' => Bs noF k0 20 a' k' ∧ (IsV s_) (a'.get 0) k' ∧ (IsV s') (a'.get 3) k' ∧ True) (fun i' s' a' k' => (i' = 0 ∧ Bs noF k0 20 a' k' ∧ True)) (fun r' a' k' => bodyPost Try.prog Try.f10 (RetC noF k0 (IsV r')) .ret a' k'.w) ?_ hQ ?_ ?_ ?_
 ·intro Q1642 hQQ1642 hgo hex hret
  refine sim_loop ?_ _ _ _ _ _ hf1636 ⟨⟨hg, hs, hd⟩, i0, i3, trivial⟩ Q1642 hQQ1642 hgo hex hret
  clear hr hf1636 hgo hex hret hQQ1642 hQ hg hs hd i0 i3
  intro s1618 fl_ a k hr hS Q hQ hgo1619 hex1620 hret1621
  obtain ⟨⟨hg, hs, hd⟩, i0, i3, _⟩ := hS
  unfold law11_few_L0 at hr
  refine wp_seq ?_
  refine stepL 4 (_ :: _ :: _ :: _ :: []) rfl ⟨hg, hs, hd⟩ (by kernel_rfl) ⟨mu rfl i3, mu rfl i0, o1 [(8, some 1)] rfl fun _ _ h n => ok_len rfl rfl Try.underlying22 (IsV.rd n.1), o1 [(7, some 0), (9, some 2)] rfl fun _ _ h n => ok_lss rfl n.1 n.2.1, trivial⟩ [⟨_, _⟩, ⟨_, _⟩, ⟨_, _⟩] (fun b q p => ⟨p.ke 0 rfl i0, p.ke 3 rfl i3, p.ou 3 10 rfl, trivial⟩) ?_
  rintro a k ⟨⟨hg, hs, hd⟩, i0, i3, i10, _⟩
  refine wp_cond_split (isBool i10) (fun hc1633 => ?_) (fun hc1633 => ?_)
  ·rw [if_pos hc1633] at hr
   refine wp_skip ?_
   refine wp_seq ?_
   refine wp_block ?_
   refine wp_seq ?_
   obtain ⟨x1623_2, hx1623_2, hr⟩ := bind_some hr
   refine cut (fun a' k' => Bs noF k0 20 a' k' ∧ (IsV s_) (a'.get 0) k' ∧ (IsV s1618) (a'.get 3) k' ∧ (IsV (decide (10 < (x1623_2.Area.length : Int)))) (a'.get 19) k' ∧ True) ?_ hQ ?_
   ·intro Q1631 hQQ1631 hp1632
    refine gS 7 (_ :: _ :: _ :: _ :: _ :: _ :: _ :: []) hs (by kernel_rfl) ⟨mu rfl i0, mu rfl i3, o1 [(13, some 0), (14, some 1)] rfl fun _ _ h n => ok_indexAddr rfl Try.underlying22 ty51 (IsV.rd n.1) n.2.1 hx1623_2, o1 [(15, some 2)] rfl fun _ _ h n => ok_fieldAddr rfl fo51_2 (at_Slab_2 _) n.1, o1 [(16, some 3)] rfl fun _ _ h n => ok_load rfl ty49 n.1, o1 [(17, some 4)] rfl fun _ _ h n => ok_len rfl rfl Try.underlying49 (IsV.rd n.1), o1 [(18, some 5)] rfl fun _ _ h n => ok_gtr rfl n.1 (cI rfl), trivial⟩ hQQ1631 fun b q p => ?_
    exact tail_done (k := q) (hp1632 _ _ ⟨Bs.post ⟨hg, hs, hd⟩ p, p.ke 0 rfl i0, p.ke 3 rfl i3, p.ou 6 19 rfl, trivial⟩)
   rintro a k ⟨⟨hg, hs, hd⟩, i0, i3, i19, _⟩
   refine wp_cond_split (isBool i19) (fun hc1630 => ?_) (fun hc1630 => ?_)
   ·rw [if_pos hc1630] at hr
    refine stepL 1 (⟨some (IsV false), []⟩ :: []) rfl ⟨hg, hs, hd⟩ (by kernel_rfl) ⟨ob1 rfl fun _ _ h n => ok_assign rfl (isV_bool.2 rfl), trivial⟩ [⟨_, _⟩] (fun b q p => ⟨p.ou 0 2 rfl, trivial⟩) ?_
    rintro a k ⟨⟨hg, hs, hd⟩, i2, _⟩
    refine wp_ret ?_
    exact hret1621 _ _ _ (Option.some.inj hr).symm (retC1 rfl hd hg i2)
   rw [if_neg (by rw [hc1630]; decide)] at hr
   refine wp_skip ?_
   obtain ⟨x1627_1, hx1627_1, hr⟩ := bind_some hr
   refine cut (fun a' k' => Bs noF k0 20 a' k' ∧ (IsV s_) (a'.get 0) k' ∧ (IsV x1627_1) (a'.get 3) k' ∧ True) ?_ hQ ?_
   ·intro Q1628 hQQ1628 hp1629
    refine gS 3 (_ :: _ :: _ :: []) hs (by kernel_rfl) ⟨mu rfl i3, o1 [(11, some 0)] rfl fun _ _ h n => ok_add rfl n.1 (cI rfl) hx1627_1, cp 1 rfl rfl, trivial⟩ hQQ1628 fun b q p => ?_
    exact tail_done (k := q) (hp1629 _ _ ⟨Bs.post ⟨hg, hs, hd⟩ p, p.ke 0 rfl i0, p.ou 2 3 rfl, trivial⟩)
   rintro a k ⟨⟨hg, hs, hd⟩, i0, i3, _⟩
   exact hgo1619 _ _ _ (Option.some.inj hr).symm ⟨⟨hg, hs, hd⟩, i0, i3, trivial⟩
  rw [if_neg (by rw [hc1633]; decide)] at hr
  refine wp_exit ?_
  exact hex1620 _ _ _ _ (Option.some.inj hr).symm ⟨rfl, ⟨hg, hs, hd⟩, trivial⟩
 ·rintro r1641 a k rfl hR
  dsimp only at hr
  obtain rfl := Option.some.inj hr
  exact hR
 ·rintro _ _ _ rfl _
  simp at hr
 clear hf1636
 rintro _ s1637 a k rfl ⟨rfl, ⟨hg, hs, hd⟩, _⟩
 dsimp only at hr
 refine stepL 1 (⟨some (IsV true), []⟩ :: []) rfl ⟨hg, hs, hd⟩ (by kernel_rfl) ⟨ob1 rfl fun _ _ h n => ok_assign rfl (isV_bool.2 rfl), trivial⟩ [⟨_, _⟩] (fun b q p => ⟨p.ou 0 2 rfl, trivial⟩) ?_
 rintro a k ⟨⟨hg, hs, hd⟩, i2, _⟩
 refine wp_ret ?_
 obtain rfl := Option.some.inj hr
 exact retC1 rfl hd hg i2
def ref06_Of_L0 (l_ : (List Rect)) (s1652 : Int) : Option (Flow (Int) ((List Rect) × Int)) :=
 if (decide (s1652 < (l_.length : Int))) then
  (getI l_ s1652).bind fun x1657_2 =>
  (ref06_RightRect x1657_2).bind fun x1657_4 =>
  if (!x1657_4) then
   some (.ret (([] : List Rect), 1))
  else
   (addI s1652 1).bind fun x1661_1 =>
   some (.go x1661_1)
 else
  some (.ex 0 s1652)
def ref06_Of (l_ : (List Rect)) : Option ((List Rect) × Int) :=
 (iterL (ref06_Of_L0 l_) (l_.length + 1) 0).bind fun f1670 => match f1670 with
  | .go _ => none
  | .ex _ _ =>
   if (decide (400 < (l_.length : Int))) then
    some (([] : List Rect), 6)
   else
    (ref06_Form l_ ([] : List Rect) 0).bind fun x1676_1 =>
    if (decide (200 < (x1676_1.length : Int))) then
     some (([] : List Rect), 6)
    else
     some (x1676_1, 0)
  | .ret r1692 => some r1692
theorem ref06_Of_ok {k0 : K} {v0 : Value} {l_ : (List Rect)} {r : (List Rect) × Int} (i0 : (IsV l_) v0 k0) (hr : ref06_Of l_ = some r) :
  Calls Try.prog 51 #[v0] k0.w (Ret k0 (IsTup2 (IsV r.1) (IsV r.2))) := by
 unfold ref06_Of at hr
 refine Ret.ofC ?_
 refine enterK Try.func51 rfl Try.ntmps51 (show 1 ≤ 27 by decide) fun a k hk0 hs hd ha => ?_
 obtain ⟨e0, _⟩ := ha
 replace i0 : (IsV l_) (a.get 0) k := by rw [e0, hk0]; exact i0
 have hQ : Gb.LetsOut (bodyPost Try.prog Try.f51 (RetC noF k0 (IsTup2 (IsV r.1) (IsV r.2)))) := letsOutC
 have hg : Chg noF k0 k := by rw [hk0]; exact Chg.refl _ k0
 refine stepL 2 (⟨some IsE0, []⟩ :: ⟨some (IsI 0), []⟩ :: []) rfl ⟨hg, hs, hd⟩ (by kernel_rfl) ⟨ob1 rfl fun b q h n => ok_assign rfl isE0_nil, aI rfl rfl, trivial⟩ [⟨_, _⟩] (fun b q p => ⟨p.ke 0 rfl i0, trivial⟩) ?_
 rintro a k ⟨⟨hg, hs, hd⟩, i0, _⟩
 refine wp_seq ?_
 refine stepL 1 (⟨some (IsI 0), []⟩ :: []) rfl ⟨hg, hs, hd⟩ (by kernel_rfl) ⟨aI rfl rfl, trivial⟩ [⟨_, _⟩, ⟨_, _⟩] (fun b q p => ⟨p.ke 0 rfl i0, p.ou 0 4 rfl, trivial⟩) ?_
 rintro a k ⟨⟨hg, hs, hd⟩, i0, i4, _⟩
 refine wp_block ?_
 obtain ⟨f1670, hf1670, hr⟩ := bind_some hr
 refine cutFe f1670 (fun s' a' k' => Bs noF k0 27 a' k' ∧ (IsV l_) (a'.get 0) k' ∧ (IsV s') (a'.get 4) k' ∧ True) (fun i' s' a' k' => (i' = 0 ∧ Bs noF k0 27 a' k' ∧ (IsV l_) (a'.get 0) k' ∧ True)) (fun r' a' k' => bodyPost Try.prog Try.f51 (RetC noF k0 (IsTup2 (IsV r'.1) (IsV r'.2))) .ret a' k'.w) ?_ hQ ?_ ?_ ?_
 ·intro Q1693 hQQ1693 hgo hex hret
  refine sim_loop ?_ _ _ _ _ _ hf1670 ⟨⟨hg, hs, hd⟩, i0, i4, trivial⟩ Q1693 hQQ1693 hgo hex hret
  clear hr hf1670 hgo hex hret hQQ1693 hQ hg hs hd i0 i4
  intro s1652 fl_ a k hr hS Q hQ hgo1653 hex1654 hret1655
  obtain ⟨⟨hg, hs, hd⟩, i0, i4, _⟩ := hS
  unfold ref06_Of_L0 at hr
  refine wp_seq ?_
  refine stepL 4 (_ :: _ :: _ :: _ :: []) rfl ⟨hg, hs, hd⟩ (by kernel_rfl) ⟨mu rfl i4, mu rfl i0, o1 [(7, some 1)] rfl fun _ _ h n => ok_len rfl rfl Try.underlying49 (IsV.rd n.1), o1 [(6, some 0), (8, some 2)] rfl fun _ _ h n => ok_lss rfl n.1 n.2.1, trivial⟩ [⟨_, _⟩, ⟨_, _⟩, ⟨_, _⟩] (fun b q p => ⟨p.ke 0 rfl i0, p.ke 4 rfl i4, p.ou 3 9 rfl, trivial⟩) ?_
  rintro a k ⟨⟨hg, hs, hd⟩, i0, i4, i9, _⟩
  refine wp_cond_split (isBool i9) (fun hc1667 => ?_) (fun hc1667 => ?_)
  ·rw [if_pos hc1667] at hr
   refine wp_skip ?_
   refine wp_seq ?_
   refine wp_block ?_
   refine wp_seq ?_
   obtain ⟨x1657_2, hx1657_2, hr⟩ := bind_some hr
   obtain ⟨x1657_4, hx1657_4, hr⟩ := bind_some hr
   refine cut (fun a' k' => Bs noF k0 27 a' k' ∧ (IsV l_) (a'.get 0) k' ∧ (IsV s1652) (a'.get 4) k' ∧ (IsV (!x1657_4)) (a'.get 17) k' ∧ True) ?_ hQ ?_
   ·intro Q1665 hQQ1665 hp1666
    refine gS 6 (_ :: _ :: _ :: _ :: _ :: _ :: []) hs (by kernel_rfl) ⟨mu rfl i0, mu rfl i4, o1 [(12, some 0), (13, some 1)] rfl fun _ _ h n => ok_indexAddr rfl Try.underlying49 ty35 (IsV.rd n.1) n.2.1 hx1657_2, o1 [(14, some 2)] rfl fun _ _ h n => ok_load rfl ty35 n.1, o1 [(15, some 3)] rfl fun _ _ h n => ok_call rfl Try.call34 (ref06_RightRect_ok n.1 hx1657_4), o1 [(16, some 4)] rfl fun _ _ h n => ok_not rfl n.1, trivial⟩ hQQ1665 fun b q p => ?_
    exact tail_done (k := q) (hp1666 _ _ ⟨Bs.post ⟨hg, hs, hd⟩ p, p.ke 0 rfl i0, p.ke 4 rfl i4, p.ou 5 17 rfl, trivial⟩)
   rintro a k ⟨⟨hg, hs, hd⟩, i0, i4, i17, _⟩
   refine wp_cond_split (isBool i17) (fun hc1664 => ?_) (fun hc1664 => ?_)
   ·rw [if_pos hc1664] at hr
    refine cutL noF k0 27 [⟨2, IsV ([] : List Rect)⟩, ⟨3, IsI 1⟩] ?_ ?_
    ·intro Q1659 hQQ1659 hp1660
     refine gS 2 (⟨some IsE0, []⟩ :: ⟨some (IsI 1), []⟩ :: []) hs (by kernel_rfl) ⟨ob1 rfl fun b q h n => ok_assign rfl isE0_nil, aI rfl rfl, trivial⟩ hQQ1659 fun b q p => ?_
     have hgq := hg.then p.grow
     have hsb := p.size.trans hs
     have hdb := p.defers.trans hd
     have j2 : IsE0 (b.get 2) q := p.ou 0 2 rfl
     have j3 : (IsI 1) (b.get 3) q := p.ou 1 3 rfl
     replace j2 : IsV ([] : List Rect) (b.get 2) q := j2.isV
     exact tail_done (k := q) (hp1660 _ _ ⟨⟨hgq, hsb, hdb⟩, j2, j3, trivial⟩)
    rintro a k ⟨⟨hg, hs, hd⟩, i2, i3, _⟩
    refine wp_ret ?_
    exact hret1655 _ _ _ (Option.some.inj hr).symm (retC2 rfl hd hg i2 i3)
   rw [if_neg (by rw [hc1664]; decide)] at hr
   refine wp_skip ?_
   obtain ⟨x1661_1, hx1661_1, hr⟩ := bind_some hr
   refine cut (fun a' k' => Bs noF k0 27 a' k' ∧ (IsV l_) (a'.get 0) k' ∧ (IsV x1661_1) (a'.get 4) k' ∧ True) ?_ hQ ?_
   ·intro Q1662 hQQ1662 hp1663
    refine gS 3 (_ :: _ :: _ :: []) hs (by kernel_rfl) ⟨mu rfl i4, o1 [(10, some 0)] rfl fun _ _ h n => ok_add rfl n.1 (cI rfl) hx1661_1, cp 1 rfl rfl, trivial⟩ hQQ1662 fun b q p => ?_
    exact tail_done (k := q) (hp1663 _ _ ⟨Bs.post ⟨hg, hs, hd⟩ p, p.ke 0 rfl i0, p.ou 2 4 rfl, trivial⟩)
   rintro a k ⟨⟨hg, hs, hd⟩, i0, i4, _⟩
   exact hgo1653 _ _ _ (Option.some.inj hr).symm ⟨⟨hg, hs, hd⟩, i0, i4, trivial⟩
  rw [if_neg (by rw [hc1667]; decide)] at hr
  refine wp_exit ?_
  exact hex1654 _ _ _ _ (Option.some.inj hr).symm ⟨rfl, ⟨hg, hs, hd⟩, i0, trivial⟩
 ·rintro r1692 a k rfl hR
  dsimp only at hr
  obtain rfl := Option.some.inj hr
  exact hR
 ·rintro _ _ _ rfl _
  simp at hr
 clear hf1670
 rintro _ s1671 a k rfl ⟨rfl, ⟨hg, hs, hd⟩, i0, _⟩
 dsimp only at hr
 refine wp_seq ?_
 refine stepL 3 (_ :: _ :: _ :: []) rfl ⟨hg, hs, hd⟩ (by kernel_rfl) ⟨mu rfl i0, o1 [(18, some 0)] rfl fun _ _ h n => ok_len rfl rfl Try.underlying49 (IsV.rd n.1), o1 [(19, some 1)] rfl fun _ _ h n => ok_gtr rfl n.1 (cI rfl), trivial⟩ [⟨_, _⟩, ⟨_, _⟩] (fun b q p => ⟨p.ke 0 rfl i0, p.ou 2 20 rfl, trivial⟩) ?_
 rintro a k ⟨⟨hg, hs, hd⟩, i0, i20, _⟩
 refine wp_cond_split (isBool i20) (fun hc1689 => ?_) (fun hc1689 => ?_)
 ·rw [if_pos hc1689] at hr
  refine cutL noF k0 27 [⟨2, IsV ([] : List Rect)⟩, ⟨3, IsI 6⟩] ?_ ?_
  ·intro Q1674 hQQ1674 hp1675
   refine gS 2 (⟨some IsE0, []⟩ :: ⟨some (IsI 6), []⟩ :: []) hs (by kernel_rfl) ⟨ob1 rfl fun b q h n => ok_assign rfl isE0_nil, aI rfl rfl, trivial⟩ hQQ1674 fun b q p => ?_
   have hgq := hg.then p.grow
   have hsb := p.size.trans hs
   have hdb := p.defers.trans hd
   have j2 : IsE0 (b.get 2) q := p.ou 0 2 rfl
   have j3 : (IsI 6) (b.get 3) q := p.ou 1 3 rfl
   replace j2 : IsV ([] : List Rect) (b.get 2) q := j2.isV
   exact tail_done (k := q) (hp1675 _ _ ⟨⟨hgq, hsb, hdb⟩, j2, j3, trivial⟩)
  rintro a k ⟨⟨hg, hs, hd⟩, i2, i3, _⟩
  refine wp_ret ?_
  obtain rfl := Option.some.inj hr
  exact retC2 rfl hd hg i2 i3
 rw [if_neg (by rw [hc1689]; decide)] at hr
 refine wp_skip ?_
 refine wp_seq ?_
 obtain ⟨x1676_1, hx1676_1, hr⟩ := bind_some hr
 refine cut (fun a' k' => Bs noF k0 27 a' k' ∧ (IsV x1676_1) (a'.get 5) k' ∧ True) ?_ hQ ?_
 ·intro Q1687 hQQ1687 hp1688
  refine gS 3 (_ :: _ :: _ :: []) hs (by kernel_rfl) ⟨mu rfl i0, o1 [(21, some 0)] rfl fun _ _ h n => ok_call rfl Try.call44 (ref06_Form_ok n.1 (isV_list.2 (.inl ⟨rfl, rfl⟩)) (cI rfl) hx1676_1), cp 1 rfl rfl, trivial⟩ hQQ1687 fun b q p => ?_
  exact tail_done (k := q) (hp1688 _ _ ⟨Bs.post ⟨hg, hs, hd⟩ p, p.ou 2 5 rfl, trivial⟩)
 rintro a k ⟨⟨hg, hs, hd⟩, i5, _⟩
 refine wp_seq ?_
 refine stepL 3 (_ :: _ :: _ :: []) rfl ⟨hg, hs, hd⟩ (by kernel_rfl) ⟨mu rfl i5, o1 [(23, some 0)] rfl fun _ _ h n => ok_len rfl rfl Try.underlying49 (IsV.rd n.1), o1 [(24, some 1)] rfl fun _ _ h n => ok_gtr rfl n.1 (cI rfl), trivial⟩ [⟨_, _⟩, ⟨_, _⟩] (fun b q p => ⟨p.ke 5 rfl i5, p.ou 2 25 rfl, trivial⟩) ?_
 rintro a k ⟨⟨hg, hs, hd⟩, i5, i25, _⟩
 refine wp_cond_split (isBool i25) (fun hc1684 => ?_) (fun hc1684 => ?_)
 ·rw [if_pos hc1684] at hr
  refine cutL noF k0 27 [⟨2, IsV ([] : List Rect)⟩, ⟨3, IsI 6⟩] ?_ ?_
  ·intro Q1679 hQQ1679 hp1680
   refine gS 2 (⟨some IsE0, []⟩ :: ⟨some (IsI 6), []⟩ :: []) hs (by kernel_rfl) ⟨ob1 rfl fun b q h n => ok_assign rfl isE0_nil, aI rfl rfl, trivial⟩ hQQ1679 fun b q p => ?_
   have hgq := hg.then p.grow
   have hsb := p.size.trans hs
   have hdb := p.defers.trans hd
   have j2 : IsE0 (b.get 2) q := p.ou 0 2 rfl
   have j3 : (IsI 6) (b.get 3) q := p.ou 1 3 rfl
   replace j2 : IsV ([] : List Rect) (b.get 2) q := j2.isV
   exact tail_done (k := q) (hp1680 _ _ ⟨⟨hgq, hsb, hdb⟩, j2, j3, trivial⟩)
  rintro a k ⟨⟨hg, hs, hd⟩, i2, i3, _⟩
  refine wp_ret ?_
  obtain rfl := Option.some.inj hr
  exact retC2 rfl hd hg i2 i3
 rw [if_neg (by rw [hc1684]; decide)] at hr
 refine wp_skip ?_
 refine stepL 3 (_ :: _ :: ⟨some (IsI 0), []⟩ :: []) rfl ⟨hg, hs, hd⟩ (by kernel_rfl) ⟨mu rfl i5, cp 0 rfl rfl, aI rfl rfl, trivial⟩ [⟨_, _⟩, ⟨_, _⟩] (fun b q p => ⟨p.ou 1 2 rfl, p.ou 2 3 rfl, trivial⟩) ?_
 rintro a k ⟨⟨hg, hs, hd⟩, i2, i3, _⟩
 refine wp_ret ?_
 obtain rfl := Option.some.inj hr
 exact retC2 rfl hd hg i2 i3
def ref06_Right (a_ : (List Rect)) : Option (Bool) :=
 (ref06_Of a_).bind fun x1699_1 =>
 (if (x1699_1.2 == 0) then
  (ref06_Same x1699_1.1 a_).bind fun x1700_5 =>
  some x1700_5
 else
  some false).bind fun x1700_6 =>
 some x1700_6
theorem ref06_Right_ok {k0 : K} {v0 : Value} {a_ : (List Rect)} {r : Bool} (i0 : (IsV a_) v0 k0) (hr : ref06_Right a_ = some r) :
  Calls Try.prog 30 #[v0] k0.w (Ret k0 (IsV r)) := by
 unfold ref06_Right at hr
 refine Ret.ofC ?_
 refine enterK Try.func30 rfl Try.ntmps30 (show 1 ≤ 17 by decide) fun a k hk0 hs hd ha => ?_
 obtain ⟨e0, _⟩ := ha
 replace i0 : (IsV a_) (a.get 0) k := by rw [e0, hk0]; exact i0
 have hQ : Gb.LetsOut (bodyPost Try.prog Try.f30 (RetC noF k0 (IsV r))) := letsOutC
 have hg : Chg noF k0 k := by rw [hk0]; exact Chg.refl _ k0
 refine stepL 1 (⟨some (IsV false), []⟩ :: []) rfl ⟨hg, hs, hd⟩ (by kernel_rfl) ⟨ob1 rfl fun _ _ h n => ok_assign rfl (isV_bool.2 rfl), trivial⟩ [⟨_, _⟩] (fun b q p => ⟨p.ke 0 rfl i0, trivial⟩) ?_
 rintro a k ⟨⟨hg, hs, hd⟩, i0, _⟩
 refine wp_seq ?_
 obtain ⟨x1699_1, hx1699_1, hr⟩ := bind_some hr
 refine cut (fun a' k' => Bs noF k0 17 a' k' ∧ (IsV a_) (a'.get 0) k' ∧ (IsV x1699_1.1) (a'.get 3) k' ∧ (IsV x1699_1.2) (a'.get 4) k' ∧ True) ?_ hQ ?_
 ·intro Q1703 hQQ1703 hp1704
  refine gS 7 (_ :: _ :: _ :: _ :: _ :: _ :: _ :: []) hs (by kernel_rfl) ⟨mu rfl i0, o1 [(6, some 0)] rfl fun _ _ h n => ok_call rfl Try.call51 (ref06_Of_ok n.1 hx1699_1), cm 1 rfl rfl, o1 [(5, some 2)] rfl fun _ _ h n => ok_ext2_0 rfl n.1, o1 [(5, some 2)] rfl fun _ _ h n => ok_ext2_1 rfl n.1, cp 3 rfl rfl, cp 4 rfl rfl, trivial⟩ hQQ1703 fun b q p => ?_
  exact tail_done (k := q) (hp1704 _ _ ⟨Bs.post ⟨hg, hs, hd⟩ p, p.ke 0 rfl i0, p.ou 5 3 rfl, p.ou 6 4 rfl, trivial⟩)
 rintro a k ⟨⟨hg, hs, hd⟩, i0, i3, i4, _⟩
 refine wp_seq ?_
 obtain ⟨x1700_6, hx1700_6, hr⟩ := bind_some hr
 obtain ⟨x1700_5, hx1700_5, hx1700_6⟩ := ite_bind hx1700_6
 refine cut (fun a' k' => Bs noF k0 17 a' k' ∧ (IsV x1700_6) (a'.get 2) k' ∧ True) ?_ hQ ?_
 ·intro Q1701 hQQ1701 hp1702
  refine gS 8 (_ :: _ :: _ :: _ :: _ :: _ :: _ :: _ :: []) hs (by kernel_rfl) ⟨mu rfl i4, o1 [(10, some 0)] rfl fun _ _ h n => ok_eqI rfl n.1 (cI rfl), cm 1 rfl rfl, mT rfl rfl i3, mT rfl rfl i0, gT [(13, some 3), (14, some 4)] rfl rfl fun hp _ _ h n => ok_call rfl Try.call31 (ref06_Same_ok (Gd.get n.1 hp) (Gd.get n.2.1 hp) (hx1700_5 hp)), o1 [(12, some 2), (15, some 5)] rfl fun _ _ h n => ok_pickM rfl n.1 hx1700_6 (Gd.get n.2.1) (cB rfl), cp 6 rfl rfl, trivial⟩ hQQ1701 fun b q p => ?_
  exact tail_done (k := q) (hp1702 _ _ ⟨Bs.post ⟨hg, hs, hd⟩ p, p.ou 7 2 rfl, trivial⟩)
 rintro a k ⟨⟨hg, hs, hd⟩, i2, _⟩
 refine wp_ret ?_
 obtain rfl := Option.some.inj hr
 exact retC1 rfl hd hg i2
def ref09_Right_L0 (s_ : (List Slab)) (s1713 : Int) : Option (Flow (Int) (Bool)) :=
 if (decide (s1713 < (s_.length : Int))) then
  (getI s_ s1713).bind fun x1718_2 =>
  (if (decide (x1718_2.Z0 < 0)) then
   some true
  else
   (getI s_ s1713).bind fun x1718_9 =>
   (getI s_ s1713).bind fun x1718_14 =>
   some (decide (x1718_14.Z1 ≤ x1718_9.Z0))).bind fun x1718_18 =>
  (if x1718_18 then
   some true
  else
   (getI s_ s1713).bind fun x1718_22 =>
   some (decide (4096 < x1718_22.Z1))).bind fun x1718_26 =>
  (if x1718_26 then
   some true
  else
   (getI s_ s1713).bind fun x1718_30 =>
   some ((x1718_30.Area.length : Int) == 0)).bind fun x1718_35 =>
  (if x1718_35 then
   some true
  else
   (getI s_ s1713).bind fun x1718_39 =>
   (ref06_Right x1718_39.Area).bind fun x1718_42 =>
   some (!x1718_42)).bind fun x1718_44 =>
  if x1718_44 then
   some (.ret false)
  else
   (if (decide (0 < s1713)) then
    (subI s1713 1).bind fun x1722_5 =>
    (getI s_ x1722_5).bind fun x1722_6 =>
    (getI s_ s1713).bind fun x1722_11 =>
    (if (decide (x1722_11.Z0 < x1722_6.Z1)) then
     some true
    else
     (subI s1713 1).bind fun x1722_18 =>
     (getI s_ x1722_18).bind fun x1722_19 =>
     (getI s_ s1713).bind fun x1722_24 =>
     (if (x1722_19.Z1 == x1722_24.Z0) then
      (subI s1713 1).bind fun x1722_31 =>
      (getI s_ x1722_31).bind fun x1722_32 =>
      (getI s_ s1713).bind fun x1722_37 =>
      (ref06_Same x1722_32.Area x1722_37.Area).bind fun x1722_40 =>
      some x1722_40
     else
      some false).bind fun x1722_41 =>
     some x1722_41).bind fun x1722_42 =>
    some x1722_42
   else
    some false).bind fun x1722_43 =>
   if x1722_43 then
    some (.ret false)
   else
    (addI s1713 1).bind fun x1726_1 =>
    some (.go x1726_1)
 else
  some (.ex 0 s1713)
def ref09_Right (s_ : (List Slab)) : Option (Bool) :=
 if (decide (80 < (s_.length : Int))) then
  some false
 else
  (iterL (ref09_Right_L0 s_) (s_.length + 1) 0).bind fun f1738 => match f1738 with
   | .go _ => none
   | .ex _ _ =>
    some true
   | .ret r1743 => some r1743
theorem ref09_Right_ok {k0 : K} {v0 : Value} {s_ : (List Slab)} {r : Bool} (i0 : (IsV s_) v0 k0) (hr : ref09_Right s_ = some r) :
  Calls Try.prog 15 #[v0] k0.w (Ret k0 (IsV r)) := by
 unfold ref09_Right at hr
 refine Ret.ofC ?_
 refine enterK Try.func15 rfl Try.ntmps15 (show 1 ≤ 102 by decide) fun a k hk0 hs hd ha => ?_
 obtain ⟨e0, _⟩ := ha
 replace i0 : (IsV s_) (a.get 0) k := by rw [e0, hk0]; exact i0
 have hQ : Gb.LetsOut (bodyPost Try.prog Try.f15 (RetC noF k0 (IsV r))) := letsOutC
 have hg : Chg noF k0 k := by rw [hk0]; exact Chg.refl _ k0
 refine stepL 1 (⟨some (IsV false), []⟩ :: []) rfl ⟨hg, hs, hd⟩ (by kernel_rfl) ⟨ob1 rfl fun _ _ h n => ok_assign rfl (isV_bool.2 rfl), trivial⟩ [⟨_, _⟩] (fun b q p => ⟨p.ke 0 rfl i0, trivial⟩) ?_
 rintro a k ⟨⟨hg, hs, hd⟩, i0, _⟩
 refine wp_seq ?_
 refine stepL 3 (_ :: _ :: _ :: []) rfl ⟨hg, hs, hd⟩ (by kernel_rfl) ⟨mu rfl i0, o1 [(4, some 0)] rfl fun _ _ h n => ok_len rfl rfl Try.underlying22 (IsV.rd n.1), o1 [(5, some 1)] rfl fun _ _ h n => ok_gtr rfl n.1 (cI rfl), trivial⟩ [⟨_, _⟩, ⟨_, _⟩] (fun b q p => ⟨p.ke 0 rfl i0, p.ou 2 6 rfl, trivial⟩) ?_
 rintro a k ⟨⟨hg, hs, hd⟩, i0, i6, _⟩
 refine wp_cond_split (isBool i6) (fun hc1747 => ?_) (fun hc1747 => ?_)
 ·rw [if_pos hc1747] at hr
  refine stepL 1 (⟨some (IsV false), []⟩ :: []) rfl ⟨hg, hs, hd⟩ (by kernel_rfl) ⟨ob1 rfl fun _ _ h n => ok_assign rfl (isV_bool.2 rfl), trivial⟩ [⟨_, _⟩] (fun b q p => ⟨p.ou 0 2 rfl, trivial⟩) ?_
  rintro a k ⟨⟨hg, hs, hd⟩, i2, _⟩
  refine wp_ret ?_
  obtain rfl := Option.some.inj hr
  exact retC1 rfl hd hg i2
 rw [if_neg (by rw [hc1747]; decide)] at hr
 refine wp_skip ?_
 refine wp_seq ?_
 refine stepL 1 (⟨some (IsI 0), []⟩ :: []) rfl ⟨hg, hs, hd⟩ (by kernel_rfl) ⟨aI rfl rfl, trivial⟩ [⟨_, _⟩, ⟨_, _⟩] (fun b q p => ⟨p.ke 0 rfl i0, p.ou 0 3 rfl, trivial⟩) ?_
 rintro a k ⟨⟨hg, hs, hd⟩, i0, i3, _⟩
 refine wp_block ?_
 obtain ⟨f1738, hf1738, hr⟩ := bind_some hr
 refine cutFe f1738 (fun s' a' k' => Bs noF k0 102 a' k' ∧ (IsV s_) (a'.get 0) k' ∧ (IsV s') (a'.get 3) k' ∧ True) (fun i' s' a' k' => (i' = 0 ∧ Bs noF k0 102 a' k' ∧ True)) (fun r' a' k' => bodyPost Try.prog Try.f15 (RetC noF k0 (IsV r')) .ret a' k'.w) ?_ hQ ?_ ?_ ?_
 ·intro Q1744 hQQ1744 hgo hex hret
  refine sim_loop ?_ _ _ _ _ _ hf1738 ⟨⟨hg, hs, hd⟩, i0, i3, trivial⟩ Q1744 hQQ1744 hgo hex hret
  clear hr hf1738 hgo hex hret hQQ1744 hQ hg hs hd i0 i3
  intro s1713 fl_ a k hr hS Q hQ hgo1714 hex1715 hret1716
  obtain ⟨⟨hg, hs, hd⟩, i0, i3, _⟩ := hS
  unfold ref09_Right_L0 at hr
  refine wp_seq ?_
  refine stepL 4 (_ :: _ :: _ :: _ :: []) rfl ⟨hg, hs, hd⟩ (by kernel_rfl) ⟨mu rfl i3, mu rfl i0, o1 [(8, some 1)] rfl fun _ _ h n => ok_len rfl rfl Try.underlying22 (IsV.rd n.1), o1 [(7, some 0), (9, some 2)] rfl fun _ _ h n => ok_lss rfl n.1 n.2.1, trivial⟩ [⟨_, _⟩, ⟨_, _⟩, ⟨_, _⟩] (fun b q p => ⟨p.ke 0 rfl i0, p.ke 3 rfl i3, p.ou 3 10 rfl, trivial⟩) ?_
  rintro a k ⟨⟨hg, hs, hd⟩, i0, i3, i10, _⟩
  refine wp_cond_split (isBool i10) (fun hc1735 => ?_) (fun hc1735 => ?_)
  ·rw [if_pos hc1735] at hr
   refine wp_skip ?_
   refine wp_seq ?_
   refine wp_block ?_
   refine wp_seq ?_
   refine wp_seq ?_
   obtain ⟨x1718_2, hx1718_2, hr⟩ := bind_some hr
   obtain ⟨x1718_18, hx1718_18, hr⟩ := bind_some hr
   obtain ⟨x1718_9, hx1718_9, hx1718_18⟩ := ite_bindF hx1718_18
   obtain ⟨x1718_14, hx1718_14, hx1718_18⟩ := ite_bindF hx1718_18
   obtain ⟨x1718_26, hx1718_26, hr⟩ := bind_some hr
   obtain ⟨x1718_22, hx1718_22, hx1718_26⟩ := ite_bindF hx1718_26
   obtain ⟨x1718_35, hx1718_35, hr⟩ := bind_some hr
   obtain ⟨x1718_30, hx1718_30, hx1718_35⟩ := ite_bindF hx1718_35
   obtain ⟨x1718_44, hx1718_44, hr⟩ := bind_some hr
   obtain ⟨x1718_39, hx1718_39, hx1718_44⟩ := ite_bindF hx1718_44
   obtain ⟨x1718_42, hx1718_42, hx1718_44⟩ := ite_bindF hx1718_44
   refine cut (fun a' k' => Bs noF k0 102 a' k' ∧ (IsV s_) (a'.get 0) k' ∧ (IsV s1713) (a'.get 3) k' ∧ (IsV x1718_44) (a'.get 57) k' ∧ True) ?_ hQ ?_
   ·intro Q1733 hQQ1733 hp1734
    refine region (a0 := a) (k0 := k) (n := 102) (m := 45) (⟨some (IsV s_), [(0, none)]⟩ :: ⟨some (IsV s1713), [(3, none)]⟩ :: ⟨some (IsPtr x1718_2), [(13, some 0), (14, some 1)]⟩ :: ⟨some (IsPtr x1718_2.Z0), [(15, some 2)]⟩ :: ⟨some (IsV x1718_2.Z0), [(16, some 3)]⟩ :: ⟨some (IsV (decide (x1718_2.Z0 < 0))), [(17, some 4)]⟩ :: ⟨some (IsV (decide (x1718_2.Z0 < 0))), [(18, some 5)]⟩ :: ⟨some (Gd ((decide (x1718_2.Z0 < 0)) = false) (IsV s_)), [(0, none)]⟩ :: ⟨some (Gd ((decide (x1718_2.Z0 < 0)) = false) (IsV s1713)), [(3, none)]⟩ :: ⟨some (Gd ((decide (x1718_2.Z0 < 0)) = false) (IsPtr x1718_9)), [(20, some 7), (21, some 8)]⟩ :: ⟨some (Gd ((decide (x1718_2.Z0 < 0)) = false) (IsPtr x1718_9.Z0)), [(22, some 9)]⟩ :: ⟨some (Gd ((decide (x1718_2.Z0 < 0)) = false) (IsV x1718_9.Z0)), [(23, some 10)]⟩ :: ⟨some (Gd ((decide (x1718_2.Z0 < 0)) = false) (IsV s_)), [(0, none)]⟩ :: ⟨some (Gd ((decide (x1718_2.Z0 < 0)) = false) (IsV s1713)), [(3, none)]⟩ :: ⟨some (Gd ((decide (x1718_2.Z0 < 0)) = false) (IsPtr x1718_14)), [(25, some 12), (26, some 13)]⟩ :: ⟨some (Gd ((decide (x1718_2.Z0 < 0)) = false) (IsPtr x1718_14.Z1)), [(27, some 14)]⟩ :: ⟨some (Gd ((decide (x1718_2.Z0 < 0)) = false) (IsV x1718_14.Z1)), [(28, some 15)]⟩ :: ⟨some (Gd ((decide (x1718_2.Z0 < 0)) = false) (IsV (decide (x1718_14.Z1 ≤ x1718_9.Z0)))), [(24, some 11), (29, some 16)]⟩ :: ⟨some (IsV x1718_18), [(19, some 6), (30, some 17)]⟩ :: ⟨some (IsV x1718_18), [(31, some 18)]⟩ :: ⟨some (Gd (x1718_18 = false) (IsV s_)), [(0, none)]⟩ :: ⟨some (Gd (x1718_18 = false) (IsV s1713)), [(3, none)]⟩ :: ⟨some (Gd (x1718_18 = false) (IsPtr x1718_22)), [(33, some 20), (34, some 21)]⟩ :: ⟨some (Gd (x1718_18 = false) (IsPtr x1718_22.Z1)), [(35, some 22)]⟩ :: ⟨some (Gd (x1718_18 = false) (IsV x1718_22.Z1)), [(36, some 23)]⟩ :: ⟨some (Gd (x1718_18 = false) (IsV (decide (4096 < x1718_22.Z1)))), [(37, some 24)]⟩ :: ⟨some (IsV x1718_26), [(32, some 19), (38, some 25)]⟩ :: ⟨some (IsV x1718_26), [(39, some 26)]⟩ :: ⟨some (Gd (x1718_26 = false) (IsV s_)), [(0, none)]⟩ :: ⟨some (Gd (x1718_26 = false) (IsV s1713)), [(3, none)]⟩ :: ⟨some (Gd (x1718_26 = false) (IsPtr x1718_30)), [(41, some 28), (42, some 29)]⟩ :: ⟨some (Gd (x1718_26 = false) (IsPtr x1718_30.Area)), [(43, some 30)]⟩ :: ⟨some (Gd (x1718_26 = false) (IsV x1718_30.Area)), [(44, some 31)]⟩ :: ⟨some (Gd (x1718_26 = false) (IsI (x1718_30.Area.length : Int))), [(45, some 32)]⟩ :: ⟨some (Gd (x1718_26 = false) (IsV ((x1718_30.Area.length : Int) == 0))), [(46, some 33)]⟩ :: ⟨some (IsV x1718_35), [(40, some 27), (47, some 34)]⟩ :: ⟨some (IsV x1718_35), [(48, some 35)]⟩ :: ⟨some (Gd (x1718_35 = false) (IsV s_)), [(0, none)]⟩ :: ⟨some (Gd (x1718_35 = false) (IsV s1713)), [(3, none)]⟩ :: ⟨some (Gd (x1718_35 = false) (IsPtr x1718_39)), [(50, some 37), (51, some 38)]⟩ :: ⟨some (Gd (x1718_35 = false) (IsPtr x1718_39.Area)), [(52, some 39)]⟩ :: ⟨some (Gd (x1718_35 = false) (IsV x1718_39.Area)), [(53, some 40)]⟩ :: ⟨some (Gd (x1718_35 = false) (IsV x1718_42)), [(54, some 41)]⟩ :: ⟨some (Gd (x1718_35 = false) (IsV (!x1718_42))), [(55, some 42)]⟩ :: ⟨some (IsV x1718_44), [(49, some 36), (56, some 43)]⟩ :: []) hmix hs (by kernel_rfl) ⟨ob1 rfl fun b q hk hn => ok_move rfl (up i0 hk hn.1), ob1 rfl fun b q hk hn => ok_move rfl (up i3 hk hn.1), ob1 rfl fun b q hk hn => ok_indexAddr rfl Try.underlying22 ty51 (IsV.rd hn.1) hn.2.1 hx1718_2, ob1 rfl fun b q hk hn => ok_fieldAddr rfl fo51_0 (at_Slab_0 _) hn.1, ob1 rfl fun b q hk hn => ok_load rfl ty3 hn.1, ob1 rfl fun b q hk hn => ok_lss rfl hn.1 (isV_int.2 rfl), ob1 rfl fun b q hk hn => ok_move rfl hn.1, gdF rfl rfl fun hp b q hk hn => ok_move rfl (up i0 hk hn.1), gdF rfl rfl fun hp b q hk hn => ok_move rfl (up i3 hk hn.1), gdF rfl rfl fun hp b q hk hn => ok_indexAddr rfl Try.underlying22 ty51 (IsV.rd (Gd.get hn.1 hp)) (Gd.get hn.2.1 hp) (hx1718_9 hp), gdF rfl rfl fun hp b q hk hn => ok_fieldAddr rfl fo51_0 (at_Slab_0 _) (Gd.get hn.1 hp), gdF rfl rfl fun hp b q hk hn => ok_load rfl ty3 (Gd.get hn.1 hp), gdF rfl rfl fun hp b q hk hn => ok_move rfl (up i0 hk hn.1), gdF rfl rfl fun hp b q hk hn => ok_move rfl (up i3 hk hn.1), gdF rfl rfl fun hp b q hk hn => ok_indexAddr rfl Try.underlying22 ty51 (IsV.rd (Gd.get hn.1 hp)) (Gd.get hn.2.1 hp) (hx1718_14 hp), gdF rfl rfl fun hp b q hk hn => ok_fieldAddr rfl fo51_1 (at_Slab_1 _) (Gd.get hn.1 hp), gdF rfl rfl fun hp b q hk hn => ok_load rfl ty3 (Gd.get hn.1 hp), gdF rfl rfl fun hp b q hk hn => ok_geq rfl (Gd.get hn.1 hp) (Gd.get hn.2.1 hp), ob1 rfl fun b q hk hn => ok_pickM rfl hn.1 hx1718_18 (fun _ => (isV_bool.2 rfl)) (fun hm => (Gd.get hn.2.1 hm)), ob1 rfl fun b q hk hn => ok_move rfl hn.1, gdF rfl rfl fun hp b q hk hn => ok_move rfl (up i0 hk hn.1), gdF rfl rfl fun hp b q hk hn => ok_move rfl (up i3 hk hn.1), gdF rfl rfl fun hp b q hk hn => ok_indexAddr rfl Try.underlying22 ty51 (IsV.rd (Gd.get hn.1 hp)) (Gd.get hn.2.1 hp) (hx1718_22 hp), gdF rfl rfl fun hp b q hk hn => ok_fieldAddr rfl fo51_1 (at_Slab_1 _) (Gd.get hn.1 hp), gdF rfl rfl fun hp b q hk hn => ok_load rfl ty3 (Gd.get hn.1 hp), gdF rfl rfl fun hp b q hk hn => ok_gtr rfl (Gd.get hn.1 hp) (isV_int.2 rfl), ob1 rfl fun b q hk hn => ok_pickM rfl hn.1 hx1718_26 (fun _ => (isV_bool.2 rfl)) (fun hm => (Gd.get hn.2.1 hm)), ob1 rfl fun b q hk hn => ok_move rfl hn.1, gdF rfl rfl fun hp b q hk hn => ok_move rfl (up i0 hk hn.1), gdF rfl rfl fun hp b q hk hn => ok_move rfl (up i3 hk hn.1), gdF rfl rfl fun hp b q hk hn => ok_indexAddr rfl Try.underlying22 ty51 (IsV.rd (Gd.get hn.1 hp)) (Gd.get hn.2.1 hp) (hx1718_30 hp), gdF rfl rfl fun hp b q hk hn => ok_fieldAddr rfl fo51_2 (at_Slab_2 _) (Gd.get hn.1 hp), gdF rfl rfl fun hp b q hk hn => ok_load rfl ty49 (Gd.get hn.1 hp), gdF rfl rfl fun hp b q hk hn => ok_len rfl rfl Try.underlying49 (IsV.rd (Gd.get hn.1 hp)), gdF rfl rfl fun hp b q hk hn => ok_eqI rfl (Gd.get hn.1 hp) (isV_int.2 rfl), ob1 rfl fun b q hk hn => ok_pickM rfl hn.1 hx1718_35 (fun _ => (isV_bool.2 rfl)) (fun hm => (Gd.get hn.2.1 hm)), ob1 rfl fun b q hk hn => ok_move rfl hn.1, gdF rfl rfl fun hp b q hk hn => ok_move rfl (up i0 hk hn.1), gdF rfl rfl fun hp b q hk hn => ok_move rfl (up i3 hk hn.1), gdF rfl rfl fun hp b q hk hn => ok_indexAddr rfl Try.underlying22 ty51 (IsV.rd (Gd.get hn.1 hp)) (Gd.get hn.2.1 hp) (hx1718_39 hp), gdF rfl rfl fun hp b q hk hn => ok_fieldAddr rfl fo51_2 (at_Slab_2 _) (Gd.get hn.1 hp), gdF rfl rfl fun hp b q hk hn => ok_load rfl ty49 (Gd.get hn.1 hp), gdF rfl rfl fun hp b q hk hn => ok_call rfl Try.call30 (ref06_Right_ok (Gd.get hn.1 hp) (hx1718_42 hp)), gdF rfl rfl fun hp b q hk hn => ok_not rfl (Gd.get hn.1 hp), ob1 rfl fun b q hk hn => ok_pickM rfl hn.1 hx1718_44 (fun _ => (isV_bool.2 rfl)) (fun hm => (Gd.get hn.2.1 hm)), trivial⟩ hQQ1733 fun b q p => ?_
    exact tail_done (k := q) (hp1734 _ _ ⟨Bs.post ⟨hg, hs, hd⟩ p, p.ke 0 rfl i0, p.ke 3 rfl i3, p.ou 44 57 rfl, trivial⟩)
   rintro a k ⟨⟨hg, hs, hd⟩, i0, i3, i57, _⟩
   refine wp_cond_split (isBool i57) (fun hc1732 => ?_) (fun hc1732 => ?_)
   ·rw [if_pos hc1732] at hr
    refine stepL 1 (⟨some (IsV false), []⟩ :: []) rfl ⟨hg, hs, hd⟩ (by kernel_rfl) ⟨ob1 rfl fun _ _ h n => ok_assign rfl (isV_bool.2 rfl), trivial⟩ [⟨_, _⟩] (fun b q p => ⟨p.ou 0 2 rfl, trivial⟩) ?_
    rintro a k ⟨⟨hg, hs, hd⟩, i2, _⟩
    refine wp_ret ?_
    exact hret1716 _ _ _ (Option.some.inj hr).symm (retC1 rfl hd hg i2)
   rw [if_neg (by rw [hc1732]; decide)] at hr
   refine wp_skip ?_
   refine wp_seq ?_
   obtain ⟨x1722_43, hx1722_43, hr⟩ := bind_some hr
   obtain ⟨x1722_5, hx1722_5, hx1722_43⟩ := ite_bind hx1722_43
   obtain ⟨x1722_6, hx1722_6, hx1722_43⟩ := ite_bind hx1722_43
   obtain ⟨x1722_11, hx1722_11, hx1722_43⟩ := ite_bind hx1722_43
   obtain ⟨x1722_42, hx1722_42, hx1722_43⟩ := ite_bind hx1722_43
   obtain ⟨x1722_18, hx1722_18, hx1722_42⟩ := ite_bindFP hx1722_42
   obtain ⟨x1722_19, hx1722_19, hx1722_42⟩ := ite_bindFP hx1722_42
   obtain ⟨x1722_24, hx1722_24, hx1722_42⟩ := ite_bindFP hx1722_42
   obtain ⟨x1722_41, hx1722_41, hx1722_42⟩ := ite_bindFP hx1722_42
   obtain ⟨x1722_31, hx1722_31, hx1722_41⟩ := ite_bindP hx1722_41
   obtain ⟨x1722_32, hx1722_32, hx1722_41⟩ := ite_bindP hx1722_41
   obtain ⟨x1722_37, hx1722_37, hx1722_41⟩ := ite_bindP hx1722_41
   obtain ⟨x1722_40, hx1722_40, hx1722_41⟩ := ite_bindP hx1722_41
   refine cut (fun a' k' => Bs noF k0 102 a' k' ∧ (IsV s_) (a'.get 0) k' ∧ (IsV s1713) (a'.get 3) k' ∧ (IsV x1722_43) (a'.get 101) k' ∧ True) ?_ hQ ?_
   ·intro Q1730 hQQ1730 hp1731
    refine region (a0 := a) (k0 := k) (n := 102) (m := 44) (⟨some (IsV s1713), [(3, none)]⟩ :: ⟨some (IsV (decide (0 < s1713))), [(58, some 0)]⟩ :: ⟨some (IsV (decide (0 < s1713))), [(59, some 1)]⟩ :: ⟨some (Gd ((decide (0 < s1713)) = true) (IsV s_)), [(0, none)]⟩ :: ⟨some (Gd ((decide (0 < s1713)) = true) (IsV s1713)), [(3, none)]⟩ :: ⟨some (Gd ((decide (0 < s1713)) = true) (IsV x1722_5)), [(62, some 4)]⟩ :: ⟨some (Gd ((decide (0 < s1713)) = true) (IsPtr x1722_6)), [(61, some 3), (63, some 5)]⟩ :: ⟨some (Gd ((decide (0 < s1713)) = true) (IsPtr x1722_6.Z1)), [(64, some 6)]⟩ :: ⟨some (Gd ((decide (0 < s1713)) = true) (IsV x1722_6.Z1)), [(65, some 7)]⟩ :: ⟨some (Gd ((decide (0 < s1713)) = true) (IsV s_)), [(0, none)]⟩ :: ⟨some (Gd ((decide (0 < s1713)) = true) (IsV s1713)), [(3, none)]⟩ :: ⟨some (Gd ((decide (0 < s1713)) = true) (IsPtr x1722_11)), [(67, some 9), (68, some 10)]⟩ :: ⟨some (Gd ((decide (0 < s1713)) = true) (IsPtr x1722_11.Z0)), [(69, some 11)]⟩ :: ⟨some (Gd ((decide (0 < s1713)) = true) (IsV x1722_11.Z0)), [(70, some 12)]⟩ :: ⟨some (Gd ((decide (0 < s1713)) = true) (IsV (decide (x1722_11.Z0 < x1722_6.Z1)))), [(66, some 8), (71, some 13)]⟩ :: ⟨some (Gd ((decide (0 < s1713)) = true) (IsV (decide (x1722_11.Z0 < x1722_6.Z1)))), [(72, some 14)]⟩ :: ⟨some (Gd (((decide (0 < s1713)) = true) ∧ (decide (x1722_11.Z0 < x1722_6.Z1)) = false) (IsV s_)), [(0, none)]⟩ :: ⟨some (Gd (((decide (0 < s1713)) = true) ∧ (decide (x1722_11.Z0 < x1722_6.Z1)) = false) (IsV s1713)), [(3, none)]⟩ :: ⟨some (Gd (((decide (0 < s1713)) = true) ∧ (decide (x1722_11.Z0 < x1722_6.Z1)) = false) (IsV x1722_18)), [(75, some 17)]⟩ :: ⟨some (Gd (((decide (0 < s1713)) = true) ∧ (decide (x1722_11.Z0 < x1722_6.Z1)) = false) (IsPtr x1722_19)), [(74, some 16), (76, some 18)]⟩ :: ⟨some (Gd (((decide (0 < s1713)) = true) ∧ (decide (x1722_11.Z0 < x1722_6.Z1)) = false) (IsPtr x1722_19.Z1)), [(77, some 19)]⟩ :: ⟨some (Gd (((decide (0 < s1713)) = true) ∧ (decide (x1722_11.Z0 < x1722_6.Z1)) = false) (IsV x1722_19.Z1)), [(78, some 20)]⟩ :: ⟨some (Gd (((decide (0 < s1713)) = true) ∧ (decide (x1722_11.Z0 < x1722_6.Z1)) = false) (IsV s_)), [(0, none)]⟩ :: ⟨some (Gd (((decide (0 < s1713)) = true) ∧ (decide (x1722_11.Z0 < x1722_6.Z1)) = false) (IsV s1713)), [(3, none)]⟩ :: ⟨some (Gd (((decide (0 < s1713)) = true) ∧ (decide (x1722_11.Z0 < x1722_6.Z1)) = false) (IsPtr x1722_24)), [(80, some 22), (81, some 23)]⟩ :: ⟨some (Gd (((decide (0 < s1713)) = true) ∧ (decide (x1722_11.Z0 < x1722_6.Z1)) = false) (IsPtr x1722_24.Z0)), [(82, some 24)]⟩ :: ⟨some (Gd (((decide (0 < s1713)) = true) ∧ (decide (x1722_11.Z0 < x1722_6.Z1)) = false) (IsV x1722_24.Z0)), [(83, some 25)]⟩ :: ⟨some (Gd (((decide (0 < s1713)) = true) ∧ (decide (x1722_11.Z0 < x1722_6.Z1)) = false) (IsV (x1722_19.Z1 == x1722_24.Z0))), [(79, some 21), (84, some 26)]⟩ :: ⟨some (Gd (((decide (0 < s1713)) = true) ∧ (decide (x1722_11.Z0 < x1722_6.Z1)) = false) (IsV (x1722_19.Z1 == x1722_24.Z0))), [(85, some 27)]⟩ :: ⟨some (Gd ((((decide (0 < s1713)) = true) ∧ (decide (x1722_11.Z0 < x1722_6.Z1)) = false) ∧ (x1722_19.Z1 == x1722_24.Z0) = true) (IsV s_)), [(0, none)]⟩ :: ⟨some (Gd ((((decide (0 < s1713)) = true) ∧ (decide (x1722_11.Z0 < x1722_6.Z1)) = false) ∧ (x1722_19.Z1 == x1722_24.Z0) = true) (IsV s1713)), [(3, none)]⟩ :: ⟨some (Gd ((((decide (0 < s1713)) = true) ∧ (decide (x1722_11.Z0 < x1722_6.Z1)) = false) ∧ (x1722_19.Z1 == x1722_24.Z0) = true) (IsV x1722_31)), [(88, some 30)]⟩ :: ⟨some (Gd ((((decide (0 < s1713)) = true) ∧ (decide (x1722_11.Z0 < x1722_6.Z1)) = false) ∧ (x1722_19.Z1 == x1722_24.Z0) = true) (IsPtr x1722_32)), [(87, some 29), (89, some 31)]⟩ :: ⟨some (Gd ((((decide (0 < s1713)) = true) ∧ (decide (x1722_11.Z0 < x1722_6.Z1)) = false) ∧ (x1722_19.Z1 == x1722_24.Z0) = true) (IsPtr x1722_32.Area)), [(90, some 32)]⟩ :: ⟨some (Gd ((((decide (0 < s1713)) = true) ∧ (decide (x1722_11.Z0 < x1722_6.Z1)) = false) ∧ (x1722_19.Z1 == x1722_24.Z0) = true) (IsV x1722_32.Area)), [(91, some 33)]⟩ :: ⟨some (Gd ((((decide (0 < s1713)) = true) ∧ (decide (x1722_11.Z0 < x1722_6.Z1)) = false) ∧ (x1722_19.Z1 == x1722_24.Z0) = true) (IsV s_)), [(0, none)]⟩ :: ⟨some (Gd ((((decide (0 < s1713)) = true) ∧ (decide (x1722_11.Z0 < x1722_6.Z1)) = false) ∧ (x1722_19.Z1 == x1722_24.Z0) = true) (IsV s1713)), [(3, none)]⟩ :: ⟨some (Gd ((((decide (0 < s1713)) = true) ∧ (decide (x1722_11.Z0 < x1722_6.Z1)) = false) ∧ (x1722_19.Z1 == x1722_24.Z0) = true) (IsPtr x1722_37)), [(93, some 35), (94, some 36)]⟩ :: ⟨some (Gd ((((decide (0 < s1713)) = true) ∧ (decide (x1722_11.Z0 < x1722_6.Z1)) = false) ∧ (x1722_19.Z1 == x1722_24.Z0) = true) (IsPtr x1722_37.Area)), [(95, some 37)]⟩ :: ⟨some (Gd ((((decide (0 < s1713)) = true) ∧ (decide (x1722_11.Z0 < x1722_6.Z1)) = false) ∧ (x1722_19.Z1 == x1722_24.Z0) = true) (IsV x1722_37.Area)), [(96, some 38)]⟩ :: ⟨some (Gd ((((decide (0 < s1713)) = true) ∧ (decide (x1722_11.Z0 < x1722_6.Z1)) = false) ∧ (x1722_19.Z1 == x1722_24.Z0) = true) (IsV x1722_40)), [(92, some 34), (97, some 39)]⟩ :: ⟨some (Gd (((decide (0 < s1713)) = true) ∧ (decide (x1722_11.Z0 < x1722_6.Z1)) = false) (IsV x1722_41)), [(86, some 28), (98, some 40)]⟩ :: ⟨some (Gd ((decide (0 < s1713)) = true) (IsV x1722_42)), [(73, some 15), (99, some 41)]⟩ :: ⟨some (IsV x1722_43), [(60, some 2), (100, some 42)]⟩ :: []) hmix hs (by kernel_rfl) ⟨ob1 rfl fun b q hk hn => ok_move rfl (up i3 hk hn.1), ob1 rfl fun b q hk hn => ok_gtr rfl hn.1 (isV_int.2 rfl), ob1 rfl fun b q hk hn => ok_move rfl hn.1, gdT rfl rfl fun hp b q hk hn => ok_move rfl (up i0 hk hn.1), gdT rfl rfl fun hp b q hk hn => ok_move rfl (up i3 hk hn.1), gdT rfl rfl fun hp b q hk hn => ok_sub rfl (Gd.get hn.1 hp) (isV_int.2 rfl) (hx1722_5 hp), gdT rfl rfl fun hp b q hk hn => ok_indexAddr rfl Try.underlying22 ty51 (IsV.rd (Gd.get hn.1 hp)) (Gd.get hn.2.1 hp) (hx1722_6 hp), gdT rfl rfl fun hp b q hk hn => ok_fieldAddr rfl fo51_1 (at_Slab_1 _) (Gd.get hn.1 hp), gdT rfl rfl fun hp b q hk hn => ok_load rfl ty3 (Gd.get hn.1 hp), gdT rfl rfl fun hp b q hk hn => ok_move rfl (up i0 hk hn.1), gdT rfl rfl fun hp b q hk hn => ok_move rfl (up i3 hk hn.1), gdT rfl rfl fun hp b q hk hn => ok_indexAddr rfl Try.underlying22 ty51 (IsV.rd (Gd.get hn.1 hp)) (Gd.get hn.2.1 hp) (hx1722_11 hp), gdT rfl rfl fun hp b q hk hn => ok_fieldAddr rfl fo51_0 (at_Slab_0 _) (Gd.get hn.1 hp), gdT rfl rfl fun hp b q hk hn => ok_load rfl ty3 (Gd.get hn.1 hp), gdT rfl rfl fun hp b q hk hn => ok_gtr rfl (Gd.get hn.1 hp) (Gd.get hn.2.1 hp), gdT rfl rfl fun hp b q hk hn => ok_move rfl (Gd.get hn.1 hp), gdTF rfl rfl fun hp b q hk hn => ok_move rfl (up i0 hk hn.1), gdTF rfl rfl fun hp b q hk hn => ok_move rfl (up i3 hk hn.1), gdTF rfl rfl fun hp b q hk hn => ok_sub rfl (Gd.get hn.1 hp) (isV_int.2 rfl) (hx1722_18 hp), gdTF rfl rfl fun hp b q hk hn => ok_indexAddr rfl Try.underlying22 ty51 (IsV.rd (Gd.get hn.1 hp)) (Gd.get hn.2.1 hp) (hx1722_19 hp), gdTF rfl rfl fun hp b q hk hn => ok_fieldAddr rfl fo51_1 (at_Slab_1 _) (Gd.get hn.1 hp), gdTF rfl rfl fun hp b q hk hn => ok_load rfl ty3 (Gd.get hn.1 hp), gdTF rfl rfl fun hp b q hk hn => ok_move rfl (up i0 hk hn.1), gdTF rfl rfl fun hp b q hk hn => ok_move rfl (up i3 hk hn.1), gdTF rfl rfl fun hp b q hk hn => ok_indexAddr rfl Try.underlying22 ty51 (IsV.rd (Gd.get hn.1 hp)) (Gd.get hn.2.1 hp) (hx1722_24 hp), gdTF rfl rfl fun hp b q hk hn => ok_fieldAddr rfl fo51_0 (at_Slab_0 _) (Gd.get hn.1 hp), gdTF rfl rfl fun hp b q hk hn => ok_load rfl ty3 (Gd.get hn.1 hp), gdTF rfl rfl fun hp b q hk hn => ok_eqI rfl (Gd.get hn.1 hp) (Gd.get hn.2.1 hp), gdTF rfl rfl fun hp b q hk hn => ok_move rfl (Gd.get hn.1 hp), gdTT rfl rfl fun hp b q hk hn => ok_move rfl (up i0 hk hn.1), gdTT rfl rfl fun hp b q hk hn => ok_move rfl (up i3 hk hn.1), gdTT rfl rfl fun hp b q hk hn => ok_sub rfl (Gd.get hn.1 hp) (isV_int.2 rfl) (hx1722_31 hp), gdTT rfl rfl fun hp b q hk hn => ok_indexAddr rfl Try.underlying22 ty51 (IsV.rd (Gd.get hn.1 hp)) (Gd.get hn.2.1 hp) (hx1722_32 hp), gdTT rfl rfl fun hp b q hk hn => ok_fieldAddr rfl fo51_2 (at_Slab_2 _) (Gd.get hn.1 hp), gdTT rfl rfl fun hp b q hk hn => ok_load rfl ty49 (Gd.get hn.1 hp), gdTT rfl rfl fun hp b q hk hn => ok_move rfl (up i0 hk hn.1), gdTT rfl rfl fun hp b q hk hn => ok_move rfl (up i3 hk hn.1), gdTT rfl rfl fun hp b q hk hn => ok_indexAddr rfl Try.underlying22 ty51 (IsV.rd (Gd.get hn.1 hp)) (Gd.get hn.2.1 hp) (hx1722_37 hp), gdTT rfl rfl fun hp b q hk hn => ok_fieldAddr rfl fo51_2 (at_Slab_2 _) (Gd.get hn.1 hp), gdTT rfl rfl fun hp b q hk hn => ok_load rfl ty49 (Gd.get hn.1 hp), gdTT rfl rfl fun hp b q hk hn => ok_call rfl Try.call31 (ref06_Same_ok (Gd.get hn.1 hp) (Gd.get hn.2.1 hp) (hx1722_40 hp)), gdTF rfl rfl fun hp b q hk hn => ok_pickM rfl (Gd.get hn.1 hp) (hx1722_41 hp) (fun hm => (Gd.get hn.2.1 ⟨hp, hm⟩)) (fun _ => (isV_bool.2 rfl)), gdT rfl rfl fun hp b q hk hn => ok_pickM rfl (Gd.get hn.1 hp) (hx1722_42 hp) (fun _ => (isV_bool.2 rfl)) (fun hm => (Gd.get hn.2.1 ⟨hp, hm⟩)), ob1 rfl fun b q hk hn => ok_pickM rfl hn.1 hx1722_43 (fun hm => (Gd.get hn.2.1 hm)) (fun _ => (isV_bool.2 rfl)), trivial⟩ hQQ1730 fun b q p => ?_
    exact tail_done (k := q) (hp1731 _ _ ⟨Bs.post ⟨hg, hs, hd⟩ p, p.ke 0 rfl i0, p.ke 3 rfl i3, p.ou 43 101 rfl, trivial⟩)
   rintro a k ⟨⟨hg, hs, hd⟩, i0, i3, i101, _⟩
   refine wp_cond_split (isBool i101) (fun hc1729 => ?_) (fun hc1729 => ?_)
   ·rw [if_pos hc1729] at hr
    refine stepL 1 (⟨some (IsV false), []⟩ :: []) rfl ⟨hg, hs, hd⟩ (by kernel_rfl) ⟨ob1 rfl fun _ _ h n => ok_assign rfl (isV_bool.2 rfl), trivial⟩ [⟨_, _⟩] (fun b q p => ⟨p.ou 0 2 rfl, trivial⟩) ?_
    rintro a k ⟨⟨hg, hs, hd⟩, i2, _⟩
    refine wp_ret ?_
    exact hret1716 _ _ _ (Option.some.inj hr).symm (retC1 rfl hd hg i2)
   rw [if_neg (by rw [hc1729]; decide)] at hr
   refine wp_skip ?_
   obtain ⟨x1726_1, hx1726_1, hr⟩ := bind_some hr
   refine cut (fun a' k' => Bs noF k0 102 a' k' ∧ (IsV s_) (a'.get 0) k' ∧ (IsV x1726_1) (a'.get 3) k' ∧ True) ?_ hQ ?_
   ·intro Q1727 hQQ1727 hp1728
    refine gS 3 (_ :: _ :: _ :: []) hs (by kernel_rfl) ⟨mu rfl i3, o1 [(11, some 0)] rfl fun _ _ h n => ok_add rfl n.1 (cI rfl) hx1726_1, cp 1 rfl rfl, trivial⟩ hQQ1727 fun b q p => ?_
    exact tail_done (k := q) (hp1728 _ _ ⟨Bs.post ⟨hg, hs, hd⟩ p, p.ke 0 rfl i0, p.ou 2 3 rfl, trivial⟩)
   rintro a k ⟨⟨hg, hs, hd⟩, i0, i3, _⟩
   exact hgo1714 _ _ _ (Option.some.inj hr).symm ⟨⟨hg, hs, hd⟩, i0, i3, trivial⟩
  rw [if_neg (by rw [hc1735]; decide)] at hr
  refine wp_exit ?_
  exact hex1715 _ _ _ _ (Option.some.inj hr).symm ⟨rfl, ⟨hg, hs, hd⟩, trivial⟩
 ·rintro r1743 a k rfl hR
  dsimp only at hr
  obtain rfl := Option.some.inj hr
  exact hR
 ·rintro _ _ _ rfl _
  simp at hr
 clear hf1738
 rintro _ s1739 a k rfl ⟨rfl, ⟨hg, hs, hd⟩, _⟩
 dsimp only at hr
 refine stepL 1 (⟨some (IsV true), []⟩ :: []) rfl ⟨hg, hs, hd⟩ (by kernel_rfl) ⟨ob1 rfl fun _ _ h n => ok_assign rfl (isV_bool.2 rfl), trivial⟩ [⟨_, _⟩] (fun b q p => ⟨p.ou 0 2 rfl, trivial⟩) ?_
 rintro a k ⟨⟨hg, hs, hd⟩, i2, _⟩
 refine wp_ret ?_
 obtain rfl := Option.some.inj hr
 exact retC1 rfl hd hg i2
def law11_parts (n_ : Int) : Option (Int) :=
 if (decide (n_ < 0)) then
  (subI 0 n_).bind fun x1754_1 =>
  some x1754_1
 else
  some (max n_ 1)
theorem law11_parts_ok {k0 : K} {v0 : Value} {n_ : Int} {r : Int} (i0 : (IsV n_) v0 k0) (hr : law11_parts n_ = some r) :
  Calls Try.prog 17 #[v0] k0.w (Ret k0 (IsV r)) := by
 unfold law11_parts at hr
 refine Ret.ofC ?_
 refine enterK Try.func17 rfl Try.ntmps17 (show 1 ≤ 9 by decide) fun a k hk0 hs hd ha => ?_
 obtain ⟨e0, _⟩ := ha
 replace i0 : (IsV n_) (a.get 0) k := by rw [e0, hk0]; exact i0
 have hQ : Gb.LetsOut (bodyPost Try.prog Try.f17 (RetC noF k0 (IsV r))) := letsOutC
 have hg : Chg noF k0 k := by rw [hk0]; exact Chg.refl _ k0
 refine stepL 1 (⟨some (IsI 0), []⟩ :: []) rfl ⟨hg, hs, hd⟩ (by kernel_rfl) ⟨aI rfl rfl, trivial⟩ [⟨_, _⟩] (fun b q p => ⟨p.ke 0 rfl i0, trivial⟩) ?_
 rintro a k ⟨⟨hg, hs, hd⟩, i0, _⟩
 refine wp_seq ?_
 refine stepL 2 (_ :: _ :: []) rfl ⟨hg, hs, hd⟩ (by kernel_rfl) ⟨mu rfl i0, o1 [(3, some 0)] rfl fun _ _ h n => ok_lss rfl n.1 (cI rfl), trivial⟩ [⟨_, _⟩, ⟨_, _⟩] (fun b q p => ⟨p.ke 0 rfl i0, p.ou 1 4 rfl, trivial⟩) ?_
 rintro a k ⟨⟨hg, hs, hd⟩, i0, i4, _⟩
 refine wp_cond_split (isBool i4) (fun hc1760 => ?_) (fun hc1760 => ?_)
 ·rw [if_pos hc1760] at hr
  refine wp_seq ?_
  obtain ⟨x1754_1, hx1754_1, hr⟩ := bind_some hr
  refine cut (fun a' k' => Bs noF k0 9 a' k' ∧ (IsV x1754_1) (a'.get 2) k' ∧ True) ?_ hQ ?_
  ·intro Q1755 hQQ1755 hp1756
   refine gS 3 (_ :: ⟨some (IsV x1754_1), [(5, some 0)]⟩ :: _ :: []) hs (by kernel_rfl) ⟨mu rfl i0, ob1 rfl fun _ _ h n => ok_neg rfl n.1 hx1754_1, cp 1 rfl rfl, trivial⟩ hQQ1755 fun b q p => ?_
   exact tail_done (k := q) (hp1756 _ _ ⟨Bs.post ⟨hg, hs, hd⟩ p, p.ou 2 2 rfl, trivial⟩)
  rintro a k ⟨⟨hg, hs, hd⟩, i2, _⟩
  refine wp_ret ?_
  obtain rfl := Option.some.inj hr
  exact retC1 rfl hd hg i2
 rw [if_neg (by rw [hc1760]; decide)] at hr
 refine wp_skip ?_
 refine stepL 3 (_ :: _ :: _ :: []) rfl ⟨hg, hs, hd⟩ (by kernel_rfl) ⟨mu rfl i0, o1 [(7, some 0)] rfl fun _ _ h n => ok_max2 rfl n.1 (cI rfl), cp 1 rfl rfl, trivial⟩ [⟨_, _⟩] (fun b q p => ⟨p.ou 2 2 rfl, trivial⟩) ?_
 rintro a k ⟨⟨hg, hs, hd⟩, i2, _⟩
 refine wp_ret ?_
 obtain rfl := Option.some.inj hr
 exact retC1 rfl hd hg i2
def ref09_Boxes_L1 (s_ : (List Slab)) (s1772 : (List Box) × Int) (s1778 : (List Box) × Int) : Option (Flow ((List Box) × Int) ((List Box))) :=
 (getI s_ s1772.2).bind fun x1782_3 =>
 if (decide (s1778.2 < (x1782_3.Area.length : Int))) then
  (getI s_ s1772.2).bind fun x1783_3 =>
  (getI x1783_3.Area s1778.2).bind fun x1783_7 =>
  (getI s_ s1772.2).bind fun x1783_11 =>
  (getI s_ s1772.2).bind fun x1783_16 =>
  (appI s1778.1 ([(⟨x1783_7, x1783_11.Z0, x1783_16.Z1⟩ : Box)])).bind fun x1783_21 =>
  (addI s1778.2 1).bind fun x1784_1 =>
  some (.go (x1783_21, x1784_1))
 else
  some (.ex 2 (s1778.1, s1778.2))
def ref09_Boxes_L0 (s_ : (List Slab)) (s1772 : (List Box) × Int) : Option (Flow ((List Box) × Int) ((List Box))) :=
 if (decide (s1772.2 < (s_.length : Int))) then
  (iterL (ref09_Boxes_L1 s_ s1772) ((s_.flatMap fun b => b.Area).length + 1) (s1772.1, 0)).bind fun f1792 => match f1792 with
   | .go _ => none
   | .ex _ s1793 =>
    (addI s1772.2 1).bind fun x1794_1 =>
    some (.go (s1793.1, x1794_1))
   | .ret r1797 => some (.ret r1797)
 else
  some (.ex 0 (s1772.1, s1772.2))
def ref09_Boxes (s_ : (List Slab)) : Option ((List Box)) :=
 (ref09_Right s_).bind fun x1766_1 =>
 if (!x1766_1) then
  some ([] : List Box)
 else
  (iterL (ref09_Boxes_L0 s_) (s_.length + ([] : List Box).length + 1) (([] : List Box), 0)).bind fun f1805 => match f1805 with
   | .go _ => none
   | .ex _ s1806 =>
    some s1806.1
   | .ret r1810 => some r1810
theorem ref09_Boxes_ok {k0 : K} {v0 : Value} {s_ : (List Slab)} {r : (List Box)} (i0 : (IsV s_) v0 k0) (hr : ref09_Boxes s_ = some r) :
  Calls Try.prog 18 #[v0] k0.w (Ret k0 (IsV r)) := by
 unfold ref09_Boxes at hr
 refine Ret.ofC ?_
 refine enterK Try.func18 rfl Try.ntmps18 (show 1 ≤ 48 by decide) fun a k hk0 hs hd ha => ?_
 obtain ⟨e0, _⟩ := ha
 replace i0 : (IsV s_) (a.get 0) k := by rw [e0, hk0]; exact i0
 have hQ : Gb.LetsOut (bodyPost Try.prog Try.f18 (RetC noF k0 (IsV r))) := letsOutC
 have hg : Chg noF k0 k := by rw [hk0]; exact Chg.refl _ k0
 refine stepL 1 (⟨some IsE0, []⟩ :: []) rfl ⟨hg, hs, hd⟩ (by kernel_rfl) ⟨ob1 rfl fun b q h n => ok_assign rfl isE0_nil, trivial⟩ [⟨_, _⟩] (fun b q p => ⟨p.ke 0 rfl i0, trivial⟩) ?_
 rintro a k ⟨⟨hg, hs, hd⟩, i0, _⟩
 refine wp_seq ?_
 refine wp_seq ?_
 obtain ⟨x1766_1, hx1766_1, hr⟩ := bind_some hr
 refine cut (fun a' k' => Bs noF k0 48 a' k' ∧ (IsV s_) (a'.get 0) k' ∧ (IsV (!x1766_1)) (a'.get 8) k' ∧ True) ?_ hQ ?_
 ·intro Q1817 hQQ1817 hp1818
  refine gS 3 (_ :: _ :: _ :: []) hs (by kernel_rfl) ⟨mu rfl i0, o1 [(6, some 0)] rfl fun _ _ h n => ok_call rfl Try.call15 (ref09_Right_ok n.1 hx1766_1), o1 [(7, some 1)] rfl fun _ _ h n => ok_not rfl n.1, trivial⟩ hQQ1817 fun b q p => ?_
  exact tail_done (k := q) (hp1818 _ _ ⟨Bs.post ⟨hg, hs, hd⟩ p, p.ke 0 rfl i0, p.ou 2 8 rfl, trivial⟩)
 rintro a k ⟨⟨hg, hs, hd⟩, i0, i8, _⟩
 refine wp_cond_split (isBool i8) (fun hc1816 => ?_) (fun hc1816 => ?_)
 ·rw [if_pos hc1816] at hr
  refine cutL noF k0 48 [⟨2, IsV ([] : List Box)⟩] ?_ ?_
  ·intro Q1768 hQQ1768 hp1769
   refine gS 1 (⟨some IsE0, []⟩ :: []) hs (by kernel_rfl) ⟨ob1 rfl fun b q h n => ok_assign rfl isE0_nil, trivial⟩ hQQ1768 fun b q p => ?_
   have hgq := hg.then p.grow
   have hsb := p.size.trans hs
   have hdb := p.defers.trans hd
   have j2 : IsE0 (b.get 2) q := p.ou 0 2 rfl
   replace j2 : IsV ([] : List Box) (b.get 2) q := j2.isV
   exact tail_done (k := q) (hp1769 _ _ ⟨⟨hgq, hsb, hdb⟩, j2, trivial⟩)
  rintro a k ⟨⟨hg, hs, hd⟩, i2, _⟩
  refine wp_ret ?_
  obtain rfl := Option.some.inj hr
  exact retC1 rfl hd hg i2
 rw [if_neg (by rw [hc1816]; decide)] at hr
 refine wp_skip ?_
 refine cutS (fun a' k' => Bs noF k0 48 a' k' ∧ (IsV s_) (a'.get 0) k' ∧ IsOwn 0 37 ([] : List Box) (a'.get 3) k' ∧ Lo k0 (obF (a'.get 3)) ∧ True) ?_ ?_
 ·intro Q1814 hQQ1814 hp1815
  refine gS 1 (⟨some IsE0, []⟩ :: []) hs (by kernel_rfl) ⟨ob1 rfl fun b q h n => ok_assign rfl isE0_nil, trivial⟩ hQQ1814 fun b q p => ?_
  have hgq := hg.then p.grow
  have hsb := p.size.trans hs
  have hdb := p.defers.trans hd
  have j0 := p.ke 0 rfl i0
  have j3 : IsE0 (b.get 3) q := p.ou 0 3 rfl
  have y3 : Lo k0 (obF (b.get 3)) := j3.lo
  replace j3 : IsOwn 0 37 ([] : List Box) (b.get 3) q := j3.own0
  exact tail_done (k := q) (hp1815 _ _ ⟨⟨hgq, hsb, hdb⟩, j0, j3, y3, trivial⟩)
 rintro a k ⟨⟨hg, hs, hd⟩, i0, i3, n3, _⟩
 refine wp_seq ?_
 refine cutS (fun a' k' => Bs noF k0 48 a' k' ∧ (IsV s_) (a'.get 0) k' ∧ IsOwn 0 37 ([] : List Box) (a'.get 3) k' ∧ Lo k0 (obF (a'.get 3)) ∧ (IsI 0) (a'.get 4) k' ∧ True) ?_ ?_
 ·intro Q1812 hQQ1812 hp1813
  refine gS 1 (⟨some (IsI 0), []⟩ :: []) hs (by kernel_rfl) ⟨aI rfl rfl, trivial⟩ hQQ1812 fun b q p => ?_
  exact tail_done (k := q) (hp1813 _ _ ⟨Bs.post ⟨hg, hs, hd⟩ p, p.ke 0 rfl i0, p.ke 3 rfl i3, (by rw [p.old 3 rfl]; exact n3), p.ou 0 4 rfl, trivial⟩)
 rintro a k ⟨⟨hg, hs, hd⟩, i0, i3, n3, i4, _⟩
 refine wp_block ?_
 obtain ⟨f1805, hf1805, hr⟩ := bind_some hr
 refine cutFe f1805 (fun s' a' k' => Bs noF k0 48 a' k' ∧ (IsV s_) (a'.get 0) k' ∧ IsOwn 0 37 s'.1 (a'.get 3) k' ∧ Lo k0 (obF (a'.get 3)) ∧ (IsV s'.2) (a'.get 4) k' ∧ True) (fun i' s' a' k' => (i' = 0 ∧ Bs noF k0 48 a' k' ∧ (IsV s'.1) (a'.get 3) k' ∧ True)) (fun r' a' k' => bodyPost Try.prog Try.f18 (RetC noF k0 (IsV r')) .ret a' k'.w) ?_ hQ ?_ ?_ ?_
 ·intro Q1811 hQQ1811 hgo hex hret
  refine sim_loop ?_ _ _ _ _ _ hf1805 ⟨⟨hg, hs, hd⟩, i0, i3, n3, i4, trivial⟩ Q1811 hQQ1811 hgo hex hret
  clear hr hf1805 hgo hex hret hQQ1811 hQ hg hs hd i0 i3 i4 n3
  intro s1772 fl_ a k hr hS Q hQ hgo1773 hex1774 hret1775
  obtain ⟨⟨hg, hs, hd⟩, i0, i3, n3, i4, _⟩ := hS
  unfold ref09_Boxes_L0 at hr
  refine wp_seq ?_
  refine cutS (fun a' k' => Bs noF k0 48 a' k' ∧ (IsV s_) (a'.get 0) k' ∧ IsOwn 0 37 s1772.1 (a'.get 3) k' ∧ Lo k0 (obF (a'.get 3)) ∧ (IsV s1772.2) (a'.get 4) k' ∧ (IsV (decide (s1772.2 < (s_.length : Int)))) (a'.get 12) k' ∧ True) ?_ ?_
  ·intro Q1803 hQQ1803 hp1804
   refine gS 4 (_ :: _ :: _ :: _ :: []) hs (by kernel_rfl) ⟨mu rfl i4, mu rfl i0, o1 [(10, some 1)] rfl fun _ _ h n => ok_len rfl rfl Try.underlying22 (IsV.rd n.1), o1 [(9, some 0), (11, some 2)] rfl fun _ _ h n => ok_lss rfl n.1 n.2.1, trivial⟩ hQQ1803 fun b q p => ?_
   exact tail_done (k := q) (hp1804 _ _ ⟨Bs.post ⟨hg, hs, hd⟩ p, p.ke 0 rfl i0, p.ke 3 rfl i3, (by rw [p.old 3 rfl]; exact n3), p.ke 4 rfl i4, p.ou 3 12 rfl, trivial⟩)
  rintro a k ⟨⟨hg, hs, hd⟩, i0, i3, n3, i4, i12, _⟩
  refine wp_cond_split (isBool i12) (fun hc1802 => ?_) (fun hc1802 => ?_)
  ·rw [if_pos hc1802] at hr
   refine wp_skip ?_
   refine wp_seq ?_
   refine wp_block ?_
   refine cutS (fun a' k' => Bs noF k0 48 a' k' ∧ (IsV s_) (a'.get 0) k' ∧ IsOwn 0 37 s1772.1 (a'.get 3) k' ∧ Lo k0 (obF (a'.get 3)) ∧ (IsV s1772.2) (a'.get 4) k' ∧ (IsI 0) (a'.get 5) k' ∧ True) ?_ ?_
   ·intro Q1799 hQQ1799 hp1800
    refine gS 1 (⟨some (IsI 0), []⟩ :: []) hs (by kernel_rfl) ⟨aI rfl rfl, trivial⟩ hQQ1799 fun b q p => ?_
    exact tail_done (k := q) (hp1800 _ _ ⟨Bs.post ⟨hg, hs, hd⟩ p, p.ke 0 rfl i0, p.ke 3 rfl i3, (by rw [p.old 3 rfl]; exact n3), p.ke 4 rfl i4, p.ou 0 5 rfl, trivial⟩)
   rintro a k ⟨⟨hg, hs, hd⟩, i0, i3, n3, i4, i5, _⟩
   refine wp_block ?_
   obtain ⟨f1792, hf1792, hr⟩ := bind_some hr
   refine cutFe f1792 (fun s' a' k' => Bs noF k0 48 a' k' ∧ (IsV s_) (a'.get 0) k' ∧ IsOwn 0 37 s'.1 (a'.get 3) k' ∧ Lo k0 (obF (a'.get 3)) ∧ (IsV s1772.2) (a'.get 4) k' ∧ (IsV s'.2) (a'.get 5) k' ∧ True) (fun i' s' a' k' => (i' = 2 ∧ Bs noF k0 48 a' k' ∧ (IsV s_) (a'.get 0) k' ∧ IsOwn 0 37 s'.1 (a'.get 3) k' ∧ Lo k0 (obF (a'.get 3)) ∧ (IsV s1772.2) (a'.get 4) k' ∧ True)) (fun r' a' k' => bodyPost Try.prog Try.f18 (RetC noF k0 (IsV r')) .ret a' k'.w) ?_ hQ ?_ ?_ ?_
   ·intro Q1798 hQQ1798 hgo hex hret
    refine sim_loop ?_ _ _ _ _ _ hf1792 ⟨⟨hg, hs, hd⟩, i0, i3, n3, i4, i5, trivial⟩ Q1798 hQQ1798 hgo hex hret
    clear hr hf1792 hgo hex hret hQQ1798 hQ hg hs hd i0 i3 i4 i5 n3
    intro s1778 fl_ a k hr hS Q hQ hgo1779 hex1780 hret1781
    obtain ⟨⟨hg, hs, hd⟩, i0, i3, n3, i4, i5, _⟩ := hS
    unfold ref09_Boxes_L1 at hr
    refine wp_seq ?_
    refine wp_seq ?_
    obtain ⟨x1782_3, hx1782_3, hr⟩ := bind_some hr
    refine cut (fun a' k' => Bs noF k0 48 a' k' ∧ (IsV s_) (a'.get 0) k' ∧ IsOwn 0 37 s1778.1 (a'.get 3) k' ∧ Lo k0 (obF (a'.get 3)) ∧ (IsV s1772.2) (a'.get 4) k' ∧ (IsV s1778.2) (a'.get 5) k' ∧ (IsV (decide (s1778.2 < (x1782_3.Area.length : Int)))) (a'.get 22) k' ∧ True) ?_ hQ ?_
    ·intro Q1790 hQQ1790 hp1791
     refine gS 8 (_ :: _ :: _ :: _ :: _ :: _ :: _ :: _ :: []) hs (by kernel_rfl) ⟨mu rfl i5, mu rfl i0, mu rfl i4, o1 [(16, some 1), (17, some 2)] rfl fun _ _ h n => ok_indexAddr rfl Try.underlying22 ty51 (IsV.rd n.1) n.2.1 hx1782_3, o1 [(18, some 3)] rfl fun _ _ h n => ok_fieldAddr rfl fo51_2 (at_Slab_2 _) n.1, o1 [(19, some 4)] rfl fun _ _ h n => ok_load rfl ty49 n.1, o1 [(20, some 5)] rfl fun _ _ h n => ok_len rfl rfl Try.underlying49 (IsV.rd n.1), o1 [(15, some 0), (21, some 6)] rfl fun _ _ h n => ok_lss rfl n.1 n.2.1, trivial⟩ hQQ1790 fun b q p => ?_
     exact tail_done (k := q) (hp1791 _ _ ⟨Bs.post ⟨hg, hs, hd⟩ p, p.ke 0 rfl i0, p.ke 3 rfl i3, (by rw [p.old 3 rfl]; exact n3), p.ke 4 rfl i4, p.ke 5 rfl i5, p.ou 7 22 rfl, trivial⟩)
    rintro a k ⟨⟨hg, hs, hd⟩, i0, i3, n3, i4, i5, i22, _⟩
    refine wp_cond_split (isBool i22) (fun hc1789 => ?_) (fun hc1789 => ?_)
    ·rw [if_pos hc1789] at hr
     refine wp_skip ?_
     refine wp_seq ?_
     refine wp_block ?_
     obtain ⟨x1783_3, hx1783_3, hr⟩ := bind_some hr
     obtain ⟨x1783_7, hx1783_7, hr⟩ := bind_some hr
     obtain ⟨x1783_11, hx1783_11, hr⟩ := bind_some hr
     obtain ⟨x1783_16, hx1783_16, hr⟩ := bind_some hr
     obtain ⟨x1783_21, hx1783_21, hr⟩ := bind_some hr
     refine cut (fun a' k' => Bs noF k0 48 a' k' ∧ (IsV s_) (a'.get 0) k' ∧ IsOwn 0 37 x1783_21 (a'.get 3) k' ∧ Lo k0 (obF (a'.get 3)) ∧ (IsV s1772.2) (a'.get 4) k' ∧ (IsV s1778.2) (a'.get 5) k' ∧ True) ?_ hQ ?_
     ·intro Q1787 hQQ1787 hp1788
      refine region (a0 := a) (k0 := k) (n := 48) (m := 21) (⟨some (OwnAt (a.get 3) 0 37 s1778.1), [(3, none)]⟩ :: ⟨some (IsV s_), [(0, none)]⟩ :: ⟨some (IsV s1772.2), [(4, none)]⟩ :: ⟨some (IsPtr x1783_3), [(26, some 1), (27, some 2)]⟩ :: ⟨some (IsPtr x1783_3.Area), [(28, some 3)]⟩ :: ⟨some (IsV x1783_3.Area), [(29, some 4)]⟩ :: ⟨some (IsV s1778.2), [(5, none)]⟩ :: ⟨some (IsPtr x1783_7), [(30, some 5), (31, some 6)]⟩ :: ⟨some (IsV x1783_7), [(32, some 7)]⟩ :: ⟨some (IsV s_), [(0, none)]⟩ :: ⟨some (IsV s1772.2), [(4, none)]⟩ :: ⟨some (IsPtr x1783_11), [(34, some 9), (35, some 10)]⟩ :: ⟨some (IsPtr x1783_11.Z0), [(36, some 11)]⟩ :: ⟨some (IsV x1783_11.Z0), [(37, some 12)]⟩ :: ⟨some (IsV s_), [(0, none)]⟩ :: ⟨some (IsV s1772.2), [(4, none)]⟩ :: ⟨some (IsPtr x1783_16), [(39, some 14), (40, some 15)]⟩ :: ⟨some (IsPtr x1783_16.Z1), [(41, some 16)]⟩ :: ⟨some (IsV x1783_16.Z1), [(42, some 17)]⟩ :: ⟨some (IsV (⟨x1783_7, x1783_11.Z0, x1783_16.Z1⟩ : Box)), [(33, some 8), (38, some 13), (43, some 18)]⟩ :: ⟨some (IsV (α := (List Box)) ([(⟨x1783_7, x1783_11.Z0, x1783_16.Z1⟩ : Box)])), [(44, some 19)]⟩ :: []) hmix hs (by kernel_rfl) ⟨ob1 rfl fun b q hk hn => ok_moveOA (.inl rfl) (ownAt hn.1 (up i3 hk hn.1)), ob1 rfl fun b q hk hn => ok_move rfl (up i0 hk hn.1), ob1 rfl fun b q hk hn => ok_move rfl (up i4 hk hn.1), ob1 rfl fun b q hk hn => ok_indexAddr rfl Try.underlying22 ty51 (IsV.rd hn.1) hn.2.1 hx1783_3, ob1 rfl fun b q hk hn => ok_fieldAddr rfl fo51_2 (at_Slab_2 _) hn.1, ob1 rfl fun b q hk hn => ok_load rfl ty49 hn.1, ob1 rfl fun b q hk hn => ok_move rfl (up i5 hk hn.1), ob1 rfl fun b q hk hn => ok_indexAddr rfl Try.underlying49 ty35 (IsV.rd hn.1) hn.2.1 hx1783_7, ob1 rfl fun b q hk hn => ok_load rfl ty35 hn.1, ob1 rfl fun b q hk hn => ok_move rfl (up i0 hk hn.1), ob1 rfl fun b q hk hn => ok_move rfl (up i4 hk hn.1), ob1 rfl fun b q hk hn => ok_indexAddr rfl Try.underlying22 ty51 (IsV.rd hn.1) hn.2.1 hx1783_11, ob1 rfl fun b q hk hn => ok_fieldAddr rfl fo51_0 (at_Slab_0 _) hn.1, ob1 rfl fun b q hk hn => ok_load rfl ty3 hn.1, ob1 rfl fun b q hk hn => ok_move rfl (up i0 hk hn.1), ob1 rfl fun b q hk hn => ok_move rfl (up i4 hk hn.1), ob1 rfl fun b q hk hn => ok_indexAddr rfl Try.underlying22 ty51 (IsV.rd hn.1) hn.2.1 hx1783_16, ob1 rfl fun b q hk hn => ok_fieldAddr rfl fo51_1 (at_Slab_1 _) hn.1, ob1 rfl fun b q hk hn => ok_load rfl ty3 hn.1, ob1 rfl fun b q hk hn => ok_build rfl (bld37_0_1_2 hn.1 hn.2.1 hn.2.2.1), ob1 rfl fun b q hk hn => ok_buildSlice rfl Try.underlying31 eo37 rfl (by decide) (by decide) ⟨rfl, hn.1, trivial⟩, trivial⟩ hQQ1787 fun b q p => ?_
      have hgq := hg.then p.grow
      have hsb := p.size.trans hs
      have hdb := p.defers.trans hd
      have j0 := p.ke 0 rfl i0
      have j4 := p.ke 4 rfl i4
      have j5 := p.ke 5 rfl i5
      have e25 : b.get 25 = a.get 3 := (p.ou 0 25 rfl).1
      have j25 : IsOwn 0 37 s1778.1 (b.get 25) q := (p.ou 0 25 rfl).2
      have y25 : Lo k0 (obF (b.get 25)) := by rw [e25]; exact n3
      have j45 : (IsV (α := (List Box)) ([(⟨x1783_7, x1783_11.Z0, x1783_16.Z1⟩ : Box)])) (b.get 45) q := p.ou 20 45 rfl
      have hns := j25.nshF
      refine tail_appendS (i := 21) (d := 46) rfl rfl rfl rfl (by rw [hsb]; decide) (e := 37) Try.underlying31 eo37 j25 (IsV.rd j45) hx1783_21 fun b2 q2 hsz hdf hoth hch hown hob => ?_
      have hle := hch.le hns
      have yn : Lo k0 (obF (b2.get 46)) := y25.app hgq hob
      replace j0 := Pers.pers hle j0
      replace j4 := Pers.pers hle j4
      replace j5 := Pers.pers hle j5
      replace j45 := Pers.pers hle j45
      replace hgq := hgq.step hch y25.wr
      rw [← hoth 0 (by decide)] at j0
      rw [← hoth 4 (by decide)] at j4
      rw [← hoth 5 (by decide)] at j5
      rw [← hoth 45 (by decide)] at j45
      have j46 := hown
      have y46 := yn
      replace hsb := hsz.trans hsb
      replace hdb := hdf.trans hdb
      clear hle hch hown hob hns yn hsz hdf hoth
      obtain ⟨b, hbb⟩ : ∃ b, b = b2 := ⟨b2, rfl⟩
      subst hbb
      obtain ⟨q, hqq⟩ : ∃ q, q = q2 := ⟨q2, rfl⟩
      subst hqq
      refine tail_assign (i := 22) (d := 3) rfl rfl (.inl rfl) rfl (by rw [hsb]; decide) fun b2 hsz hdf hnew hoth => ?_
      have jn : (IsOwn 0 37 x1783_21) (b2.get 3) q := by rw [hnew]; exact j46
      have yn : Lo k0 (obF (b2.get 3)) := by rw [hnew]; exact y46
      rw [← hoth 0 (by decide)] at j0
      rw [← hoth 4 (by decide)] at j4
      rw [← hoth 5 (by decide)] at j5
      rw [← hoth 45 (by decide)] at j45
      have j3 := jn
      have y3 := yn
      replace hsb := hsz.trans hsb
      replace hdb := hdf.trans hdb
      clear hsz hdf hoth
      obtain ⟨b, hbb⟩ : ∃ b, b = b2 := ⟨b2, rfl⟩
      subst hbb
      exact tail_done (k := q) (hp1788 _ _ ⟨⟨hgq, hsb, hdb⟩, j0, j3, y3, j4, j5, trivial⟩)
     rintro a k ⟨⟨hg, hs, hd⟩, i0, i3, n3, i4, i5, _⟩
     obtain ⟨x1784_1, hx1784_1, hr⟩ := bind_some hr
     refine cut (fun a' k' => Bs noF k0 48 a' k' ∧ (IsV s_) (a'.get 0) k' ∧ IsOwn 0 37 x1783_21 (a'.get 3) k' ∧ Lo k0 (obF (a'.get 3)) ∧ (IsV s1772.2) (a'.get 4) k' ∧ (IsV x1784_1) (a'.get 5) k' ∧ True) ?_ hQ ?_
     ·intro Q1785 hQQ1785 hp1786
      refine gS 3 (_ :: _ :: _ :: []) hs (by kernel_rfl) ⟨mu rfl i5, o1 [(23, some 0)] rfl fun _ _ h n => ok_add rfl n.1 (cI rfl) hx1784_1, cp 1 rfl rfl, trivial⟩ hQQ1785 fun b q p => ?_
      exact tail_done (k := q) (hp1786 _ _ ⟨Bs.post ⟨hg, hs, hd⟩ p, p.ke 0 rfl i0, p.ke 3 rfl i3, (by rw [p.old 3 rfl]; exact n3), p.ke 4 rfl i4, p.ou 2 5 rfl, trivial⟩)
     rintro a k ⟨⟨hg, hs, hd⟩, i0, i3, n3, i4, i5, _⟩
     exact hgo1779 _ _ _ (Option.some.inj hr).symm ⟨⟨hg, hs, hd⟩, i0, i3, n3, i4, i5, trivial⟩
    rw [if_neg (by rw [hc1789]; decide)] at hr
    refine wp_exit ?_
    exact hex1780 _ _ _ _ (Option.some.inj hr).symm ⟨rfl, ⟨hg, hs, hd⟩, i0, i3, n3, i4, trivial⟩
   ·rintro r1797 a k rfl hR
    dsimp only at hr
    exact hret1775 _ _ _ (Option.some.inj hr).symm hR
   ·rintro _ _ _ rfl _
    simp at hr
   clear hf1792
   rintro _ s1793 a k rfl ⟨rfl, ⟨hg, hs, hd⟩, i0, i3, n3, i4, _⟩
   dsimp only at hr
   obtain ⟨x1794_1, hx1794_1, hr⟩ := bind_some hr
   refine cut (fun a' k' => Bs noF k0 48 a' k' ∧ (IsV s_) (a'.get 0) k' ∧ IsOwn 0 37 s1793.1 (a'.get 3) k' ∧ Lo k0 (obF (a'.get 3)) ∧ (IsV x1794_1) (a'.get 4) k' ∧ True) ?_ hQ ?_
   ·intro Q1795 hQQ1795 hp1796
    refine gS 3 (_ :: _ :: _ :: []) hs (by kernel_rfl) ⟨mu rfl i4, o1 [(13, some 0)] rfl fun _ _ h n => ok_add rfl n.1 (cI rfl) hx1794_1, cp 1 rfl rfl, trivial⟩ hQQ1795 fun b q p => ?_
    exact tail_done (k := q) (hp1796 _ _ ⟨Bs.post ⟨hg, hs, hd⟩ p, p.ke 0 rfl i0, p.ke 3 rfl i3, (by rw [p.old 3 rfl]; exact n3), p.ou 2 4 rfl, trivial⟩)
   rintro a k ⟨⟨hg, hs, hd⟩, i0, i3, n3, i4, _⟩
   exact hgo1773 _ _ _ (Option.some.inj hr).symm ⟨⟨hg, hs, hd⟩, i0, i3, n3, i4, trivial⟩
  rw [if_neg (by rw [hc1802]; decide)] at hr
  refine wp_exit ?_
  obtain ⟨kk, sh1801, ii3⟩ := i3.give
  replace i3 := ii3
  replace hg := hg.hand sh1801 n3.wr
  rw [← sh1801.w]
  clear sh1801
  obtain ⟨k, hkk⟩ : ∃ k, k = kk := ⟨kk, rfl⟩
  subst hkk
  exact hex1774 _ _ _ _ (Option.some.inj hr).symm ⟨rfl, ⟨hg, hs, hd⟩, i3, trivial⟩
 ·rintro r1810 a k rfl hR
  dsimp only at hr
  obtain rfl := Option.some.inj hr
  exact hR
 ·rintro _ _ _ rfl _
  simp at hr
 clear hf1805
 rintro _ s1806 a k rfl ⟨rfl, ⟨hg, hs, hd⟩, i3, _⟩
 dsimp only at hr
 refine stepL 2 (_ :: _ :: []) rfl ⟨hg, hs, hd⟩ (by kernel_rfl) ⟨mu rfl i3, cp 0 rfl rfl, trivial⟩ [⟨_, _⟩] (fun b q p => ⟨p.ou 1 2 rfl, trivial⟩) ?_
 rintro a k ⟨⟨hg, hs, hd⟩, i2, _⟩
 refine wp_ret ?_
 obtain rfl := Option.some.inj hr
 exact retC1 rfl hd hg i2
def law11_down (n_ : Int) (by_ : Int) : Option (Int) :=
 if (decide (0 ≤ n_)) then
  (quoI n_ by_).bind fun x1823_2 =>
  some x1823_2
 else
  (subI by_ 1).bind fun x1826_1 =>
  (subI x1826_1 n_).bind fun x1826_3 =>
  (quoI x1826_3 by_).bind fun x1826_5 =>
  (subI 0 x1826_5).bind fun x1826_6 =>
  some x1826_6
theorem law11_down_ok {k0 : K} {v0 v1 : Value} {n_ : Int} {by_ : Int} {r : Int} (i0 : (IsV n_) v0 k0) (i1 : (IsV by_) v1 k0) (hr : law11_down n_ by_ = some r) :
  Calls Try.prog 19 #[v0, v1] k0.w (Ret k0 (IsV r)) := by
 unfold law11_down at hr
 refine Ret.ofC ?_
 refine enterK Try.func19 rfl Try.ntmps19 (show 2 ≤ 17 by decide) fun a k hk0 hs hd ha => ?_
 obtain ⟨e0, e1, _⟩ := ha
 replace i0 : (IsV n_) (a.get 0) k := by rw [e0, hk0]; exact i0
 replace i1 : (IsV by_) (a.get 1) k := by rw [e1, hk0]; exact i1
 have hQ : Gb.LetsOut (bodyPost Try.prog Try.f19 (RetC noF k0 (IsV r))) := letsOutC
 have hg : Chg noF k0 k := by rw [hk0]; exact Chg.refl _ k0
 refine stepL 1 (⟨some (IsI 0), []⟩ :: []) rfl ⟨hg, hs, hd⟩ (by kernel_rfl) ⟨aI rfl rfl, trivial⟩ [⟨_, _⟩, ⟨_, _⟩] (fun b q p => ⟨p.ke 0 rfl i0, p.ke 1 rfl i1, trivial⟩) ?_
 rintro a k ⟨⟨hg, hs, hd⟩, i0, i1, _⟩
 refine wp_seq ?_
 refine stepL 2 (_ :: _ :: []) rfl ⟨hg, hs, hd⟩ (by kernel_rfl) ⟨mu rfl i0, o1 [(5, some 0)] rfl fun _ _ h n => ok_geq rfl n.1 (cI rfl), trivial⟩ [⟨_, _⟩, ⟨_, _⟩, ⟨_, _⟩] (fun b q p => ⟨p.ke 0 rfl i0, p.ke 1 rfl i1, p.ou 1 6 rfl, trivial⟩) ?_
 rintro a k ⟨⟨hg, hs, hd⟩, i0, i1, i6, _⟩
 refine wp_cond_split (isBool i6) (fun hc1829 => ?_) (fun hc1829 => ?_)
 ·rw [if_pos hc1829] at hr
  refine wp_seq ?_
  obtain ⟨x1823_2, hx1823_2, hr⟩ := bind_some hr
  refine cut (fun a' k' => Bs noF k0 17 a' k' ∧ (IsV x1823_2) (a'.get 4) k' ∧ True) ?_ hQ ?_
  ·intro Q1824 hQQ1824 hp1825
   refine gS 4 (_ :: _ :: _ :: _ :: []) hs (by kernel_rfl) ⟨mu rfl i0, mu rfl i1, o1 [(7, some 0), (8, some 1)] rfl fun _ _ h n => ok_quo rfl n.1 n.2.1 hx1823_2, cp 2 rfl rfl, trivial⟩ hQQ1824 fun b q p => ?_
   exact tail_done (k := q) (hp1825 _ _ ⟨Bs.post ⟨hg, hs, hd⟩ p, p.ou 3 4 rfl, trivial⟩)
  rintro a k ⟨⟨hg, hs, hd⟩, i4, _⟩
  refine wp_ret ?_
  obtain rfl := Option.some.inj hr
  exact retC1 rfl hd hg i4
 rw [if_neg (by rw [hc1829]; decide)] at hr
 refine wp_skip ?_
 refine wp_seq ?_
 obtain ⟨x1826_1, hx1826_1, hr⟩ := bind_some hr
 obtain ⟨x1826_3, hx1826_3, hr⟩ := bind_some hr
 obtain ⟨x1826_5, hx1826_5, hr⟩ := bind_some hr
 obtain ⟨x1826_6, hx1826_6, hr⟩ := bind_some hr
 refine cut (fun a' k' => Bs noF k0 17 a' k' ∧ (IsV x1826_6) (a'.get 4) k' ∧ True) ?_ hQ ?_
 ·intro Q1827 hQQ1827 hp1828
  refine gS 8 (_ :: _ :: _ :: _ :: _ :: _ :: ⟨some (IsV x1826_6), [(15, some 5)]⟩ :: _ :: []) hs (by kernel_rfl) ⟨mu rfl i1, o1 [(10, some 0)] rfl fun _ _ h n => ok_sub rfl n.1 (cI rfl) hx1826_1, mu rfl i0, o1 [(11, some 1), (12, some 2)] rfl fun _ _ h n => ok_sub rfl n.1 n.2.1 hx1826_3, mu rfl i1, o1 [(13, some 3), (14, some 4)] rfl fun _ _ h n => ok_quo rfl n.1 n.2.1 hx1826_5, ob1 rfl fun _ _ h n => ok_neg rfl n.1 hx1826_6, cp 6 rfl rfl, trivial⟩ hQQ1827 fun b q p => ?_
  exact tail_done (k := q) (hp1828 _ _ ⟨Bs.post ⟨hg, hs, hd⟩ p, p.ou 7 4 rfl, trivial⟩)
 rintro a k ⟨⟨hg, hs, hd⟩, i4, _⟩
 refine wp_ret ?_
 obtain rfl := Option.some.inj hr
 exact retC1 rfl hd hg i4
end Go.Proofs.Ytbpecfmimgjakaa
