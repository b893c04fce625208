/- What the functions compute that the law reaches, part 6 -/
import Derived.Test.YtbpecfmimgjakaaT5
namespace Go.Proofs.Ytbpecfmimgjakaa
open Go.Gb
set_option linter.unusedVariables false
set_option linter.unusedSimpArgs false
set_option maxRecDepth 100000
def ref11_narrow (x_ : Ref11Part) (at_ : Int) (by_ : Int) (from_ : Int) (to_ : Int) : Option (Ref11Part) :=
 (if (decide (0 < by_)) then
  (subI from_ at_).bind fun x1850_4 =>
  (ref11_higher x_.Lo (⟨x1850_4, by_, false⟩ : Ref11Bound)).bind fun x1850_7 =>
  (subI to_ at_).bind fun x1851_4 =>
  (ref11_lower (({ x_ with Lo := x1850_7 }).Hi) (⟨x1851_4, by_, true⟩ : Ref11Bound)).bind fun x1851_7 =>
  some { { x_ with Lo := x1850_7 } with Hi := x1851_7 }
 else
  some x_).bind fun s1848 =>
 (if (decide (by_ < 0)) then
  (subI at_ to_).bind fun x1860_4 =>
  (subI 0 by_).bind fun x1860_6 =>
  (ref11_higher s1848.Lo (⟨x1860_4, x1860_6, true⟩ : Ref11Bound)).bind fun x1860_8 =>
  (subI at_ from_).bind fun x1861_4 =>
  (subI 0 by_).bind fun x1861_6 =>
  (ref11_lower (({ s1848 with Lo := x1860_8 }).Hi) (⟨x1861_4, x1861_6, false⟩ : Ref11Bound)).bind fun x1861_8 =>
  some { { s1848 with Lo := x1860_8 } with Hi := x1861_8 }
 else
  some s1848).bind fun s1858 =>
 some ({ s1858 with None := (s1858.None || ((by_ == 0) && ((decide (at_ < from_)) || (decide (to_ ≤ at_))))) })
theorem ref11_narrow_ok {k0 : K} {v0 v1 v2 v3 v4 : Value} {x_ : Ref11Part} {at_ : Int} {by_ : Int} {from_ : Int} {to_ : Int} {r : Ref11Part} (i0 : (IsV x_) v0 k0) (i1 : (IsV at_) v1 k0) (i2 : (IsV by_) v2 k0) (i3 : (IsV from_) v3 k0) (i4 : (IsV to_) v4 k0) (hr : ref11_narrow x_ at_ by_ from_ to_ = some r) :
  Calls Try.prog 49 #[v0, v1, v2, v3, v4] k0.w (Ret k0 (IsV r)) := by
 unfold ref11_narrow at hr
 refine Ret.ofC ?_
 refine enterK Try.func49 rfl Try.ntmps49 (show 5 ≤ 71 by decide) fun a k hk0 hs hd ha => ?_
 obtain ⟨e0, e1, e2, e3, e4, _⟩ := ha
 replace i0 : (IsV x_) (a.get 0) k := by rw [e0, hk0]; exact i0
 replace i1 : (IsV at_) (a.get 1) k := by rw [e1, hk0]; exact i1
 replace i2 : (IsV by_) (a.get 2) k := by rw [e2, hk0]; exact i2
 replace i3 : (IsV from_) (a.get 3) k := by rw [e3, hk0]; exact i3
 replace i4 : (IsV to_) (a.get 4) k := by rw [e4, hk0]; exact i4
 have hQ : Gb.LetsOut (bodyPost Try.prog Try.f49 (RetC noF k0 (IsV r))) := letsOutC
 have hg : Chg noF k0 k := by rw [hk0]; exact Chg.refl _ k0
 refine cutS (fun a' k' => Bs noF k0 71 a' k' ∧ (IsV at_) (a'.get 1) k' ∧ (IsV by_) (a'.get 2) k' ∧ (IsV from_) (a'.get 3) k' ∧ (IsV to_) (a'.get 4) k' ∧ (∃ b5, a'.get 5 = .pointer (some ⟨b5, 0, none⟩) ∧ Lo k0 (Eq b5) ∧ Gb.Box b5 x_ k' ∧ (∃ b10, a'.get 10 = .pointer (some ⟨b10, 0, none⟩) ∧ Lo k0 (Eq b10) ∧ Gb.Box b10 (⟨(⟨0, 0, false⟩ : Ref11Bound), (⟨0, 0, false⟩ : Ref11Bound), false⟩ : Ref11Part) k' ∧ Apart (Eq b5) (Eq b10) ∧ True))) ?_ ?_
 ·intro Q1879 hQQ1879 hp1880
  refine gS 1 (⟨some (IsBox k.w.heap.size x_), [(0, none)]⟩ :: []) hs (by kernel_rfl) ⟨ob1 rfl fun _ _ h n => ok_box _ h.size rfl (up i0 h n.1), trivial⟩ hQQ1879 fun b q p => ?_
  have hgq := hg.then p.grow
  have hsb := p.size.trans hs
  have hdb := p.defers.trans hd
  have j1 := p.ke 1 rfl i1
  have j2 := p.ke 2 rfl i2
  have j3 := p.ke 3 rfl i3
  have j4 := p.ke 4 rfl i4
  obtain ⟨b5, j5, x5, z5⟩ : (IsBox k.w.heap.size x_) (b.get 5) q := p.ou 0 5 rfl
  replace x5 : Lo k (Eq b5) := Lo.eq x5
  have y5 : Lo k0 (Eq b5) := x5.chg hg
  refine tail_does (i := 1) (d := 10) rfl rfl rfl (by rw [hsb]; decide) hQQ1879 (ok_alloc _ (Nat.le_refl _) rfl z78) fun b2 q2 hsz hdf hoth hgr hnew => ?_
  obtain ⟨b10, jn, xn, zn⟩ := hnew
  have v5 : Apart (Eq b5) (Eq b10) := Apart.new z5.ltF (Lo.eq xn)
  have yn : Lo k0 (Eq b10) := (Lo.eq xn).chg hgq
  replace j1 := Pers.pers hgr.le j1
  replace j2 := Pers.pers hgr.le j2
  replace j3 := Pers.pers hgr.le j3
  replace j4 := Pers.pers hgr.le j4
  replace z5 := z5.grow hgr
  replace hgq := hgq.then hgr
  rw [← hoth 1 (by decide)] at j1
  rw [← hoth 2 (by decide)] at j2
  rw [← hoth 3 (by decide)] at j3
  rw [← hoth 4 (by decide)] at j4
  rw [← hoth 5 (by decide)] at j5
  have w5_10 := v5
  have j10 := jn
  have z10 := zn
  have y10 := yn
  replace hsb := hsz.trans hsb
  replace hdb := hdf.trans hdb
  clear hgr hsz hdf hoth jn zn yn xn
  obtain ⟨b, hbb⟩ : ∃ b, b = b2 := ⟨b2, rfl⟩
  subst hbb
  obtain ⟨q, hqq⟩ : ∃ q, q = q2 := ⟨q2, rfl⟩
  subst hqq
  exact tail_done (k := q) (hp1880 _ _ ⟨⟨hgq, hsb, hdb⟩, j1, j2, j3, j4, b5, j5, y5, z5, b10, j10, y10, z10, w5_10, trivial⟩)
 rintro a k ⟨⟨hg, hs, hd⟩, i1, i2, i3, i4, b5, i5, n5, c5, b10, i10, n10, c10, d5_10, _⟩
 refine wp_seq ?_
 refine cutS (fun a' k' => Bs noF k0 71 a' k' ∧ (IsV at_) (a'.get 1) k' ∧ (IsV by_) (a'.get 2) k' ∧ (IsV from_) (a'.get 3) k' ∧ (IsV to_) (a'.get 4) k' ∧ a'.get 5 = .pointer (some ⟨b5, 0, none⟩) ∧ Lo k0 (Eq b5) ∧ Gb.Box b5 x_ k' ∧ a'.get 10 = .pointer (some ⟨b10, 0, none⟩) ∧ Lo k0 (Eq b10) ∧ Gb.Box b10 (⟨(⟨0, 0, false⟩ : Ref11Bound), (⟨0, 0, false⟩ : Ref11Bound), false⟩ : Ref11Part) k' ∧ (IsV (decide (0 < by_))) (a'.get 12) k' ∧ Apart (Eq b5) (Eq b10) ∧ True) ?_ ?_
 ·intro Q1877 hQQ1877 hp1878
  refine gS 2 (_ :: _ :: []) hs (by kernel_rfl) ⟨mu rfl i2, o1 [(11, some 0)] rfl fun _ _ h n => ok_gtr rfl n.1 (cI rfl), trivial⟩ hQQ1877 fun b q p => ?_
  exact tail_done (k := q) (hp1878 _ _ ⟨Bs.post ⟨hg, hs, hd⟩ p, p.ke 1 rfl i1, p.ke 2 rfl i2, p.ke 3 rfl i3, p.ke 4 rfl i4, upE i5 (p.old 5 rfl), n5, Gb.Box.grow c5 p.grow, upE i10 (p.old 10 rfl), n10, Gb.Box.grow c10 p.grow, p.ou 1 12 rfl, d5_10, trivial⟩)
 rintro a k ⟨⟨hg, hs, hd⟩, i1, i2, i3, i4, i5, n5, c5, i10, n10, c10, i12, d5_10, _⟩
 obtain ⟨s1848, hs1848, hr⟩ := bind_some hr
 refine cut (fun a' k' => Bs noF k0 71 a' k' ∧ (IsV at_) (a'.get 1) k' ∧ (IsV by_) (a'.get 2) k' ∧ (IsV from_) (a'.get 3) k' ∧ (IsV to_) (a'.get 4) k' ∧ a'.get 5 = .pointer (some ⟨b5, 0, none⟩) ∧ Lo k0 (Eq b5) ∧ Gb.Box b5 s1848 k' ∧ a'.get 10 = .pointer (some ⟨b10, 0, none⟩) ∧ Lo k0 (Eq b10) ∧ Gb.Box b10 (⟨(⟨0, 0, false⟩ : Ref11Bound), (⟨0, 0, false⟩ : Ref11Bound), false⟩ : Ref11Part) k' ∧ Apart (Eq b5) (Eq b10) ∧ True) ?_ hQ ?_
 ·intro Q1876 hQQ1876 hp1849
  replace hr := hs1848
  clear hQ
  have hQ := hQQ1876
  refine wp_cond_split (isBool i12) (fun hc1856 => ?_) (fun hc1856 => ?_)
  ·rw [if_pos hc1856] at hr
   refine wp_seq ?_
   obtain ⟨x1850_4, hx1850_4, hr⟩ := bind_some hr
   obtain ⟨x1850_7, hx1850_7, hr⟩ := bind_some hr
   refine cut (fun a' k' => Bs noF k0 71 a' k' ∧ (IsV at_) (a'.get 1) k' ∧ (IsV by_) (a'.get 2) k' ∧ (IsV from_) (a'.get 3) k' ∧ (IsV to_) (a'.get 4) k' ∧ a'.get 5 = .pointer (some ⟨b5, 0, none⟩) ∧ Lo k0 (Eq b5) ∧ Gb.Box b5 ({ x_ with Lo := x1850_7 }) k' ∧ a'.get 10 = .pointer (some ⟨b10, 0, none⟩) ∧ Lo k0 (Eq b10) ∧ Gb.Box b10 (⟨(⟨0, 0, false⟩ : Ref11Bound), (⟨0, 0, false⟩ : Ref11Bound), false⟩ : Ref11Part) k' ∧ Apart (Eq b5) (Eq b10) ∧ True) ?_ hQ ?_
   ·intro Q1854 hQQ1854 hp1855
    refine gS 9 (_ :: _ :: _ :: _ :: _ :: _ :: ⟨some (IsV (⟨x1850_4, by_, false⟩ : Ref11Bound)), [(17, some 4), (18, some 5)]⟩ :: _ :: _ :: []) hs (by kernel_rfl) ⟨o1 [(5, none)] rfl fun _ _ h n => ok_fieldAddr rfl fo78_0 (at_Ref11Part_0 _) ⟨_, (upE i5 n.1), (c5.grow h).at⟩, o1 [(13, some 0)] rfl fun _ _ h n => ok_load rfl ty76 n.1, mu rfl i3, mu rfl i1, o1 [(15, some 2), (16, some 3)] rfl fun _ _ h n => ok_sub rfl n.1 n.2.1 hx1850_4, mu rfl i2, ob1 rfl fun _ _ h n => ok_build rfl (bld76_0_1_2 n.1 n.2.1 (isV_bool.2 rfl)), o1 [(14, some 1), (19, some 6)] rfl fun _ _ h n => ok_call rfl Try.call74 (ref11_higher_ok n.1 n.2.1 hx1850_7), o1 [(5, none)] rfl fun _ _ h n => ok_fieldAdr rfl fo78_0 (upE i5 n.1), trivial⟩ hQQ1854 fun b q p => ?_
    have hgq := hg.then p.grow
    have hsb := p.size.trans hs
    have hdb := p.defers.trans hd
    have j1 := p.ke 1 rfl i1
    have j2 := p.ke 2 rfl i2
    have j3 := p.ke 3 rfl i3
    have j4 := p.ke 4 rfl i4
    have j5 := upE i5 (p.old 5 rfl)
    have z5 := Gb.Box.grow c5 p.grow
    have y5 := n5
    have j10 := upE i10 (p.old 10 rfl)
    have z10 := Gb.Box.grow c10 p.grow
    have y10 := n10
    have j20 : (IsV x1850_7) (b.get 20) q := p.ou 7 20 rfl
    have j21 : IsAdr b5 (0) (b.get 21) q := p.ou 8 21 rfl
    have w5_10 : Apart (Eq b5) (Eq b10) := by exact d5_10
    have hns := z5.nshF
    refine tail_storeB (i := 9) rfl rfl rfl rfl szf76 upd_F78_0 j21 z5 j20 fun q2 hch hz => ?_
    replace hgq := hgq.step hch y5.wr
    have hle := hch.le hns
    replace j1 := Pers.pers hle j1
    replace j2 := Pers.pers hle j2
    replace j3 := Pers.pers hle j3
    replace j4 := Pers.pers hle j4
    replace z10 := z10.keep hch ((w5_10.symm) _ rfl) hns
    replace j20 := Pers.pers hle j20
    replace j21 := Pers.pers hle j21
    replace z5 := hz
    clear hns hle hch
    obtain ⟨q, hqq⟩ : ∃ q, q = q2 := ⟨q2, rfl⟩
    subst hqq
    exact tail_done (k := q) (hp1855 _ _ ⟨⟨hgq, hsb, hdb⟩, j1, j2, j3, j4, j5, y5, z5, j10, y10, z10, w5_10, trivial⟩)
   rintro a k ⟨⟨hg, hs, hd⟩, i1, i2, i3, i4, i5, n5, c5, i10, n10, c10, d5_10, _⟩
   obtain ⟨x1851_4, hx1851_4, hr⟩ := bind_some hr
   obtain ⟨x1851_7, hx1851_7, hr⟩ := bind_some hr
   refine cut (fun a' k' => Bs noF k0 71 a' k' ∧ (IsV at_) (a'.get 1) k' ∧ (IsV by_) (a'.get 2) k' ∧ (IsV from_) (a'.get 3) k' ∧ (IsV to_) (a'.get 4) k' ∧ a'.get 5 = .pointer (some ⟨b5, 0, none⟩) ∧ Lo k0 (Eq b5) ∧ Gb.Box b5 ({ { x_ with Lo := x1850_7 } with Hi := x1851_7 }) k' ∧ a'.get 10 = .pointer (some ⟨b10, 0, none⟩) ∧ Lo k0 (Eq b10) ∧ Gb.Box b10 (⟨(⟨0, 0, false⟩ : Ref11Bound), (⟨0, 0, false⟩ : Ref11Bound), false⟩ : Ref11Part) k' ∧ Apart (Eq b5) (Eq b10) ∧ True) ?_ hQ ?_
   ·intro Q1852 hQQ1852 hp1853
    refine gS 9 (_ :: _ :: _ :: _ :: _ :: _ :: ⟨some (IsV (⟨x1851_4, by_, true⟩ : Ref11Bound)), [(26, some 4), (27, some 5)]⟩ :: _ :: _ :: []) hs (by kernel_rfl) ⟨o1 [(5, none)] rfl fun _ _ h n => ok_fieldAddr rfl fo78_1 (at_Ref11Part_1 _) ⟨_, (upE i5 n.1), (c5.grow h).at⟩, o1 [(22, some 0)] rfl fun _ _ h n => ok_load rfl ty76 n.1, mu rfl i4, mu rfl i1, o1 [(24, some 2), (25, some 3)] rfl fun _ _ h n => ok_sub rfl n.1 n.2.1 hx1851_4, mu rfl i2, ob1 rfl fun _ _ h n => ok_build rfl (bld76_0_1_2 n.1 n.2.1 (isV_bool.2 rfl)), o1 [(23, some 1), (28, some 6)] rfl fun _ _ h n => ok_call rfl Try.call75 (ref11_lower_ok n.1 n.2.1 hx1851_7), o1 [(5, none)] rfl fun _ _ h n => ok_fieldAdr rfl fo78_1 (upE i5 n.1), trivial⟩ hQQ1852 fun b q p => ?_
    have hgq := hg.then p.grow
    have hsb := p.size.trans hs
    have hdb := p.defers.trans hd
    have j1 := p.ke 1 rfl i1
    have j2 := p.ke 2 rfl i2
    have j3 := p.ke 3 rfl i3
    have j4 := p.ke 4 rfl i4
    have j5 := upE i5 (p.old 5 rfl)
    have z5 := Gb.Box.grow c5 p.grow
    have y5 := n5
    have j10 := upE i10 (p.old 10 rfl)
    have z10 := Gb.Box.grow c10 p.grow
    have y10 := n10
    have j29 : (IsV x1851_7) (b.get 29) q := p.ou 7 29 rfl
    have j30 : IsAdr b5 (3) (b.get 30) q := p.ou 8 30 rfl
    have w5_10 : Apart (Eq b5) (Eq b10) := by exact d5_10
    have hns := z5.nshF
    refine tail_storeB (i := 9) rfl rfl rfl rfl szf76 upd_F78_1 j30 z5 j29 fun q2 hch hz => ?_
    replace hgq := hgq.step hch y5.wr
    have hle := hch.le hns
    replace j1 := Pers.pers hle j1
    replace j2 := Pers.pers hle j2
    replace j3 := Pers.pers hle j3
    replace j4 := Pers.pers hle j4
    replace z10 := z10.keep hch ((w5_10.symm) _ rfl) hns
    replace j29 := Pers.pers hle j29
    replace j30 := Pers.pers hle j30
    replace z5 := hz
    clear hns hle hch
    obtain ⟨q, hqq⟩ : ∃ q, q = q2 := ⟨q2, rfl⟩
    subst hqq
    exact tail_done (k := q) (hp1853 _ _ ⟨⟨hgq, hsb, hdb⟩, j1, j2, j3, j4, j5, y5, z5, j10, y10, z10, w5_10, trivial⟩)
   rintro a k ⟨⟨hg, hs, hd⟩, i1, i2, i3, i4, i5, n5, c5, i10, n10, c10, d5_10, _⟩
   obtain rfl := Option.some.inj hr
   exact hp1849 _ _ ⟨⟨hg, hs, hd⟩, i1, i2, i3, i4, i5, n5, c5, i10, n10, c10, d5_10, trivial⟩
  rw [if_neg (by rw [hc1856]; decide)] at hr
  refine wp_skip ?_
  obtain rfl := Option.some.inj hr
  exact hp1849 _ _ ⟨⟨hg, hs, hd⟩, i1, i2, i3, i4, i5, n5, c5, i10, n10, c10, d5_10, trivial⟩
 clear hs1848
 rintro a k ⟨⟨hg, hs, hd⟩, i1, i2, i3, i4, i5, n5, c5, i10, n10, c10, d5_10, _⟩
 refine wp_seq ?_
 refine cutS (fun a' k' => Bs noF k0 71 a' k' ∧ (IsV at_) (a'.get 1) k' ∧ (IsV by_) (a'.get 2) k' ∧ (IsV from_) (a'.get 3) k' ∧ (IsV to_) (a'.get 4) k' ∧ a'.get 5 = .pointer (some ⟨b5, 0, none⟩) ∧ Lo k0 (Eq b5) ∧ Gb.Box b5 s1848 k' ∧ a'.get 10 = .pointer (some ⟨b10, 0, none⟩) ∧ Lo k0 (Eq b10) ∧ Gb.Box b10 (⟨(⟨0, 0, false⟩ : Ref11Bound), (⟨0, 0, false⟩ : Ref11Bound), false⟩ : Ref11Part) k' ∧ (IsV (decide (by_ < 0))) (a'.get 32) k' ∧ Apart (Eq b5) (Eq b10) ∧ True) ?_ ?_
 ·intro Q1874 hQQ1874 hp1875
  refine gS 2 (_ :: _ :: []) hs (by kernel_rfl) ⟨mu rfl i2, o1 [(31, some 0)] rfl fun _ _ h n => ok_lss rfl n.1 (cI rfl), trivial⟩ hQQ1874 fun b q p => ?_
  exact tail_done (k := q) (hp1875 _ _ ⟨Bs.post ⟨hg, hs, hd⟩ p, p.ke 1 rfl i1, p.ke 2 rfl i2, p.ke 3 rfl i3, p.ke 4 rfl i4, upE i5 (p.old 5 rfl), n5, Gb.Box.grow c5 p.grow, upE i10 (p.old 10 rfl), n10, Gb.Box.grow c10 p.grow, p.ou 1 32 rfl, d5_10, trivial⟩)
 rintro a k ⟨⟨hg, hs, hd⟩, i1, i2, i3, i4, i5, n5, c5, i10, n10, c10, i32, d5_10, _⟩
 obtain ⟨s1858, hs1858, hr⟩ := bind_some hr
 refine cut (fun a' k' => Bs noF k0 71 a' k' ∧ (IsV at_) (a'.get 1) k' ∧ (IsV by_) (a'.get 2) k' ∧ (IsV from_) (a'.get 3) k' ∧ (IsV to_) (a'.get 4) k' ∧ a'.get 5 = .pointer (some ⟨b5, 0, none⟩) ∧ Lo k0 (Eq b5) ∧ Gb.Box b5 s1858 k' ∧ a'.get 10 = .pointer (some ⟨b10, 0, none⟩) ∧ Lo k0 (Eq b10) ∧ Gb.Box b10 (⟨(⟨0, 0, false⟩ : Ref11Bound), (⟨0, 0, false⟩ : Ref11Bound), false⟩ : Ref11Part) k' ∧ Apart (Eq b5) (Eq b10) ∧ True) ?_ hQ ?_
 ·intro Q1873 hQQ1873 hp1859
  replace hr := hs1858
  clear hQ
  have hQ := hQQ1873
  refine wp_cond_split (isBool i32) (fun hc1866 => ?_) (fun hc1866 => ?_)
  ·rw [if_pos hc1866] at hr
   refine wp_seq ?_
   obtain ⟨x1860_4, hx1860_4, hr⟩ := bind_some hr
   obtain ⟨x1860_6, hx1860_6, hr⟩ := bind_some hr
   obtain ⟨x1860_8, hx1860_8, hr⟩ := bind_some hr
   refine cut (fun a' k' => Bs noF k0 71 a' k' ∧ (IsV at_) (a'.get 1) k' ∧ (IsV by_) (a'.get 2) k' ∧ (IsV from_) (a'.get 3) k' ∧ (IsV to_) (a'.get 4) k' ∧ a'.get 5 = .pointer (some ⟨b5, 0, none⟩) ∧ Lo k0 (Eq b5) ∧ Gb.Box b5 ({ s1848 with Lo := x1860_8 }) k' ∧ a'.get 10 = .pointer (some ⟨b10, 0, none⟩) ∧ Lo k0 (Eq b10) ∧ Gb.Box b10 (⟨(⟨0, 0, false⟩ : Ref11Bound), (⟨0, 0, false⟩ : Ref11Bound), false⟩ : Ref11Part) k' ∧ Apart (Eq b5) (Eq b10) ∧ True) ?_ hQ ?_
   ·intro Q1864 hQQ1864 hp1865
    refine gS 10 (_ :: _ :: _ :: _ :: _ :: _ :: ⟨some (IsV x1860_6), [(38, some 5)]⟩ :: ⟨some (IsV (⟨x1860_4, x1860_6, true⟩ : Ref11Bound)), [(37, some 4), (39, some 6)]⟩ :: _ :: _ :: []) hs (by kernel_rfl) ⟨o1 [(5, none)] rfl fun _ _ h n => ok_fieldAddr rfl fo78_0 (at_Ref11Part_0 _) ⟨_, (upE i5 n.1), (c5.grow h).at⟩, o1 [(33, some 0)] rfl fun _ _ h n => ok_load rfl ty76 n.1, mu rfl i1, mu rfl i4, o1 [(35, some 2), (36, some 3)] rfl fun _ _ h n => ok_sub rfl n.1 n.2.1 hx1860_4, mu rfl i2, ob1 rfl fun _ _ h n => ok_neg rfl n.1 hx1860_6, ob1 rfl fun _ _ h n => ok_build rfl (bld76_0_1_2 n.1 n.2.1 (isV_bool.2 rfl)), o1 [(34, some 1), (40, some 7)] rfl fun _ _ h n => ok_call rfl Try.call74 (ref11_higher_ok n.1 n.2.1 hx1860_8), o1 [(5, none)] rfl fun _ _ h n => ok_fieldAdr rfl fo78_0 (upE i5 n.1), trivial⟩ hQQ1864 fun b q p => ?_
    have hgq := hg.then p.grow
    have hsb := p.size.trans hs
    have hdb := p.defers.trans hd
    have j1 := p.ke 1 rfl i1
    have j2 := p.ke 2 rfl i2
    have j3 := p.ke 3 rfl i3
    have j4 := p.ke 4 rfl i4
    have j5 := upE i5 (p.old 5 rfl)
    have z5 := Gb.Box.grow c5 p.grow
    have y5 := n5
    have j10 := upE i10 (p.old 10 rfl)
    have z10 := Gb.Box.grow c10 p.grow
    have y10 := n10
    have j41 : (IsV x1860_8) (b.get 41) q := p.ou 8 41 rfl
    have j42 : IsAdr b5 (0) (b.get 42) q := p.ou 9 42 rfl
    have w5_10 : Apart (Eq b5) (Eq b10) := by exact d5_10
    have hns := z5.nshF
    refine tail_storeB (i := 10) rfl rfl rfl rfl szf76 upd_F78_0 j42 z5 j41 fun q2 hch hz => ?_
    replace hgq := hgq.step hch y5.wr
    have hle := hch.le hns
    replace j1 := Pers.pers hle j1
    replace j2 := Pers.pers hle j2
    replace j3 := Pers.pers hle j3
    replace j4 := Pers.pers hle j4
    replace z10 := z10.keep hch ((w5_10.symm) _ rfl) hns
    replace j41 := Pers.pers hle j41
    replace j42 := Pers.pers hle j42
    replace z5 := hz
    clear hns hle hch
    obtain ⟨q, hqq⟩ : ∃ q, q = q2 := ⟨q2, rfl⟩
    subst hqq
    exact tail_done (k := q) (hp1865 _ _ ⟨⟨hgq, hsb, hdb⟩, j1, j2, j3, j4, j5, y5, z5, j10, y10, z10, w5_10, trivial⟩)
   rintro a k ⟨⟨hg, hs, hd⟩, i1, i2, i3, i4, i5, n5, c5, i10, n10, c10, d5_10, _⟩
   obtain ⟨x1861_4, hx1861_4, hr⟩ := bind_some hr
   obtain ⟨x1861_6, hx1861_6, hr⟩ := bind_some hr
   obtain ⟨x1861_8, hx1861_8, hr⟩ := bind_some hr
   refine cut (fun a' k' => Bs noF k0 71 a' k' ∧ (IsV at_) (a'.get 1) k' ∧ (IsV by_) (a'.get 2) k' ∧ (IsV from_) (a'.get 3) k' ∧ (IsV to_) (a'.get 4) k' ∧ a'.get 5 = .pointer (some ⟨b5, 0, none⟩) ∧ Lo k0 (Eq b5) ∧ Gb.Box b5 ({ { s1848 with Lo := x1860_8 } with Hi := x1861_8 }) k' ∧ a'.get 10 = .pointer (some ⟨b10, 0, none⟩) ∧ Lo k0 (Eq b10) ∧ Gb.Box b10 (⟨(⟨0, 0, false⟩ : Ref11Bound), (⟨0, 0, false⟩ : Ref11Bound), false⟩ : Ref11Part) k' ∧ Apart (Eq b5) (Eq b10) ∧ True) ?_ hQ ?_
   ·intro Q1862 hQQ1862 hp1863
    refine gS 10 (_ :: _ :: _ :: _ :: _ :: _ :: ⟨some (IsV x1861_6), [(48, some 5)]⟩ :: ⟨some (IsV (⟨x1861_4, x1861_6, false⟩ : Ref11Bound)), [(47, some 4), (49, some 6)]⟩ :: _ :: _ :: []) hs (by kernel_rfl) ⟨o1 [(5, none)] rfl fun _ _ h n => ok_fieldAddr rfl fo78_1 (at_Ref11Part_1 _) ⟨_, (upE i5 n.1), (c5.grow h).at⟩, o1 [(43, some 0)] rfl fun _ _ h n => ok_load rfl ty76 n.1, mu rfl i1, mu rfl i3, o1 [(45, some 2), (46, some 3)] rfl fun _ _ h n => ok_sub rfl n.1 n.2.1 hx1861_4, mu rfl i2, ob1 rfl fun _ _ h n => ok_neg rfl n.1 hx1861_6, ob1 rfl fun _ _ h n => ok_build rfl (bld76_0_1_2 n.1 n.2.1 (isV_bool.2 rfl)), o1 [(44, some 1), (50, some 7)] rfl fun _ _ h n => ok_call rfl Try.call75 (ref11_lower_ok n.1 n.2.1 hx1861_8), o1 [(5, none)] rfl fun _ _ h n => ok_fieldAdr rfl fo78_1 (upE i5 n.1), trivial⟩ hQQ1862 fun b q p => ?_
    have hgq := hg.then p.grow
    have hsb := p.size.trans hs
    have hdb := p.defers.trans hd
    have j1 := p.ke 1 rfl i1
    have j2 := p.ke 2 rfl i2
    have j3 := p.ke 3 rfl i3
    have j4 := p.ke 4 rfl i4
    have j5 := upE i5 (p.old 5 rfl)
    have z5 := Gb.Box.grow c5 p.grow
    have y5 := n5
    have j10 := upE i10 (p.old 10 rfl)
    have z10 := Gb.Box.grow c10 p.grow
    have y10 := n10
    have j51 : (IsV x1861_8) (b.get 51) q := p.ou 8 51 rfl
    have j52 : IsAdr b5 (3) (b.get 52) q := p.ou 9 52 rfl
    have w5_10 : Apart (Eq b5) (Eq b10) := by exact d5_10
    have hns := z5.nshF
    refine tail_storeB (i := 10) rfl rfl rfl rfl szf76 upd_F78_1 j52 z5 j51 fun q2 hch hz => ?_
    replace hgq := hgq.step hch y5.wr
    have hle := hch.le hns
    replace j1 := Pers.pers hle j1
    replace j2 := Pers.pers hle j2
    replace j3 := Pers.pers hle j3
    replace j4 := Pers.pers hle j4
    replace z10 := z10.keep hch ((w5_10.symm) _ rfl) hns
    replace j51 := Pers.pers hle j51
    replace j52 := Pers.pers hle j52
    replace z5 := hz
    clear hns hle hch
    obtain ⟨q, hqq⟩ : ∃ q, q = q2 := ⟨q2, rfl⟩
    subst hqq
    exact tail_done (k := q) (hp1863 _ _ ⟨⟨hgq, hsb, hdb⟩, j1, j2, j3, j4, j5, y5, z5, j10, y10, z10, w5_10, trivial⟩)
   rintro a k ⟨⟨hg, hs, hd⟩, i1, i2, i3, i4, i5, n5, c5, i10, n10, c10, d5_10, _⟩
   obtain rfl := Option.some.inj hr
   exact hp1859 _ _ ⟨⟨hg, hs, hd⟩, i1, i2, i3, i4, i5, n5, c5, i10, n10, c10, d5_10, trivial⟩
  rw [if_neg (by rw [hc1866]; decide)] at hr
  refine wp_skip ?_
  obtain rfl := Option.some.inj hr
  exact hp1859 _ _ ⟨⟨hg, hs, hd⟩, i1, i2, i3, i4, i5, n5, c5, i10, n10, c10, d5_10, trivial⟩
 clear hs1858
 rintro a k ⟨⟨hg, hs, hd⟩, i1, i2, i3, i4, i5, n5, c5, i10, n10, c10, d5_10, _⟩
 refine cutS (fun a' k' => Bs noF k0 71 a' k' ∧ a'.get 5 = .pointer (some ⟨b5, 0, none⟩) ∧ Lo k0 (Eq b5) ∧ Gb.Box b5 ({ s1858 with None := (s1858.None || ((by_ == 0) && ((decide (at_ < from_)) || (decide (to_ ≤ at_))))) }) k' ∧ a'.get 10 = .pointer (some ⟨b10, 0, none⟩) ∧ Lo k0 (Eq b10) ∧ Gb.Box b10 (⟨(⟨0, 0, false⟩ : Ref11Bound), (⟨0, 0, false⟩ : Ref11Bound), false⟩ : Ref11Part) k' ∧ Apart (Eq b5) (Eq b10) ∧ True) ?_ ?_
 ·intro Q1871 hQQ1871 hp1872
  refine gS 17 (_ :: _ :: _ :: _ :: _ :: ⟨some (Gd (s1858.None = false) (IsV (by_ == 0))), [(57, some 4)]⟩ :: ⟨some (Gd ((s1858.None = false) ∧ (by_ == 0) = true) (IsV at_)), [(1, none)]⟩ :: ⟨some (Gd ((s1858.None = false) ∧ (by_ == 0) = true) (IsV from_)), [(3, none)]⟩ :: ⟨some (Gd ((s1858.None = false) ∧ (by_ == 0) = true) (IsV (decide (at_ < from_)))), [(59, some 6), (60, some 7)]⟩ :: ⟨some (Gd ((s1858.None = false) ∧ (by_ == 0) = true) (IsV (decide (at_ < from_)))), [(61, some 8)]⟩ :: ⟨some (Gd (((s1858.None = false) ∧ (by_ == 0) = true) ∧ (decide (at_ < from_)) = false) (IsV at_)), [(1, none)]⟩ :: ⟨some (Gd (((s1858.None = false) ∧ (by_ == 0) = true) ∧ (decide (at_ < from_)) = false) (IsV to_)), [(4, none)]⟩ :: ⟨some (Gd (((s1858.None = false) ∧ (by_ == 0) = true) ∧ (decide (at_ < from_)) = false) (IsV (decide (to_ ≤ at_)))), [(63, some 10), (64, some 11)]⟩ :: ⟨some (Gd ((s1858.None = false) ∧ (by_ == 0) = true) (IsV ((decide (at_ < from_)) || (decide (to_ ≤ at_))))), [(62, some 9), (65, some 12)]⟩ :: _ :: _ :: _ :: []) hs (by kernel_rfl) ⟨o1 [(5, none)] rfl fun _ _ h n => ok_fieldAddr rfl fo78_2 (at_Ref11Part_2 _) ⟨_, (upE i5 n.1), (c5.grow h).at⟩, o1 [(53, some 0)] rfl fun _ _ h n => ok_load rfl ty4 n.1, cm 1 rfl rfl, mF rfl rfl i2, gF [(56, some 3)] rfl rfl fun hp _ _ h n => ok_eqI rfl (Gd.get n.1 hp) (cI rfl), gdF rfl rfl fun hp _ _ h n => ok_move rfl (Gd.get n.1 hp), gdTT rfl rfl fun hp b q h n => ok_move rfl (up i1 h n.1), gdTT rfl rfl fun hp b q h n => ok_move rfl (up i3 h n.1), gdTT rfl rfl fun hp b q h n => ok_lss rfl (Gd.get n.1 hp) (Gd.get n.2.1 hp), gdTT rfl rfl fun hp b q h n => ok_move rfl (Gd.get n.1 hp), gdTF rfl rfl fun hp b q h n => ok_move rfl (up i1 h n.1), gdTF rfl rfl fun hp b q h n => ok_move rfl (up i4 h n.1), gdTF rfl rfl fun hp b q h n => ok_geq rfl (Gd.get n.1 hp) (Gd.get n.2.1 hp), gdTT rfl rfl fun hp b q h n => ok_pickOr rfl (Gd.get n.1 hp) (cB rfl) (fun hm => (Gd.get n.2.1 ⟨hp, hm⟩)), gF [(58, some 5), (66, some 13)] rfl rfl fun hp _ _ h n => ok_pickAnd rfl (Gd.get n.1 hp) (fun hm => (Gd.get n.2.1 ⟨hp, hm⟩)) (cB rfl), o1 [(55, some 2), (67, some 14)] rfl fun _ _ h n => ok_pickOr rfl n.1 (cB rfl) (Gd.get n.2.1), o1 [(5, none)] rfl fun _ _ h n => ok_fieldAdr rfl fo78_2 (upE i5 n.1), trivial⟩ hQQ1871 fun b q p => ?_
  have hgq := hg.then p.grow
  have hsb := p.size.trans hs
  have hdb := p.defers.trans hd
  have j5 := upE i5 (p.old 5 rfl)
  have z5 := Gb.Box.grow c5 p.grow
  have y5 := n5
  have j10 := upE i10 (p.old 10 rfl)
  have z10 := Gb.Box.grow c10 p.grow
  have y10 := n10
  have j68 : (IsV (s1858.None || ((by_ == 0) && ((decide (at_ < from_)) || (decide (to_ ≤ at_)))))) (b.get 68) q := p.ou 15 68 rfl
  have j69 : IsAdr b5 (6) (b.get 69) q := p.ou 16 69 rfl
  have w5_10 : Apart (Eq b5) (Eq b10) := by exact d5_10
  have hns := z5.nshF
  refine tail_storeB (i := 17) rfl rfl rfl rfl szf4 upd_F78_2 j69 z5 j68 fun q2 hch hz => ?_
  replace hgq := hgq.step hch y5.wr
  have hle := hch.le hns
  replace z10 := z10.keep hch ((w5_10.symm) _ rfl) hns
  replace j68 := Pers.pers hle j68
  replace j69 := Pers.pers hle j69
  replace z5 := hz
  clear hns hle hch
  obtain ⟨q, hqq⟩ : ∃ q, q = q2 := ⟨q2, rfl⟩
  subst hqq
  exact tail_done (k := q) (hp1872 _ _ ⟨⟨hgq, hsb, hdb⟩, j5, y5, z5, j10, y10, z10, w5_10, trivial⟩)
 rintro a k ⟨⟨hg, hs, hd⟩, i5, n5, c5, i10, n10, c10, d5_10, _⟩
 refine cutS (fun a' k' => Bs noF k0 71 a' k' ∧ a'.get 10 = .pointer (some ⟨b10, 0, none⟩) ∧ Lo k0 (Eq b10) ∧ Gb.Box b10 ({ s1858 with None := (s1858.None || ((by_ == 0) && ((decide (at_ < from_)) || (decide (to_ ≤ at_))))) }) k' ∧ True) ?_ ?_
 ·intro Q1869 hQQ1869 hp1870
  refine gS 1 (_ :: []) hs (by kernel_rfl) ⟨o1 [(5, none)] rfl fun _ _ h n => ok_load rfl ty78 ⟨_, (upE i5 n.1), (c5.grow h).at⟩, trivial⟩ hQQ1869 fun b q p => ?_
  have hgq := hg.then p.grow
  have hsb := p.size.trans hs
  have hdb := p.defers.trans hd
  have j10 := upE i10 (p.old 10 rfl)
  have z10 := Gb.Box.grow c10 p.grow
  have y10 := n10
  have j70 : (IsV ({ s1858 with None := (s1858.None || ((by_ == 0) && ((decide (at_ < from_)) || (decide (to_ ≤ at_))))) })) (b.get 70) q := p.ou 0 70 rfl
  have hns := z10.nshF
  refine tail_storeB (i := 1) rfl rfl rfl rfl szf78 (Upd.self (α := Ref11Part)) j10 z10 j70 fun q2 hch hz => ?_
  replace hgq := hgq.step hch y10.wr
  have hle := hch.le hns
  replace j70 := Pers.pers hle j70
  replace z10 := hz
  clear hns hle hch
  obtain ⟨q, hqq⟩ : ∃ q, q = q2 := ⟨q2, rfl⟩
  subst hqq
  exact tail_done (k := q) (hp1870 _ _ ⟨⟨hgq, hsb, hdb⟩, j10, y10, z10, trivial⟩)
 rintro a k ⟨⟨hg, hs, hd⟩, i10, n10, c10, _⟩
 refine wp_ret ?_
 obtain rfl := Option.some.inj hr
 exact retC1 rfl hd hg (resCell ty78 i10 c10)
def ref11_meets_L0 (p_ : Point3) (v_ : Point3) (most_ : Int) (x1882_1 : (List Box)) (s1884 : Int) : Option (Flow (Int) (Bool)) :=
 if (decide (s1884 < (x1882_1.length : Int))) then
  (getI x1882_1 s1884).bind fun x1890_7 =>
  (getI x1882_1 s1884).bind fun x1890_13 =>
  (ref11_narrow (⟨(⟨0, 1, true⟩ : Ref11Bound), (⟨most_, 1, true⟩ : Ref11Bound), false⟩ : Ref11Part) p_.X v_.X x1890_7.Base.X0 x1890_13.Base.X1).bind fun x1890_17 =>
  (getI x1882_1 s1884).bind fun x1891_7 =>
  (getI x1882_1 s1884).bind fun x1891_13 =>
  (ref11_narrow x1890_17 p_.Y v_.Y x1891_7.Base.Y0 x1891_13.Base.Y1).bind fun x1891_17 =>
  (getI x1882_1 s1884).bind fun x1892_7 =>
  (getI x1882_1 s1884).bind fun x1892_12 =>
  (ref11_narrow x1891_17 p_.Z v_.Z x1892_7.Z0 x1892_12.Z1).bind fun x1892_15 =>
  (ref11_less x1892_15.Lo x1892_15.Hi).bind fun x1893_4 =>
  (if (!x1893_4) then
   (ref11_less x1892_15.Hi x1892_15.Lo).bind fun x1893_11 =>
   some (!x1893_11)
  else
   some false).bind fun x1893_13 =>
  (if (!x1892_15.None) then
   (ref11_less x1892_15.Lo x1892_15.Hi).bind fun x1894_8 =>
   some (x1894_8 || ((x1893_13 && (!x1892_15.Lo.Open)) && (!x1892_15.Hi.Open)))
  else
   some false).bind fun x1894_12 =>
  if x1894_12 then
   some (.ret true)
  else
   (addI s1884 1).bind fun x1898_1 =>
   some (.go x1898_1)
 else
  some (.ex 0 s1884)
def ref11_meets (s_ : (List Slab)) (p_ : Point3) (v_ : Point3) (most_ : Int) : Option (Bool) :=
 (ref09_Boxes s_).bind fun x1882_1 =>
 (iterL (ref11_meets_L0 p_ v_ most_ x1882_1) (x1882_1.length + 1) 0).bind fun f1917 => match f1917 with
  | .go _ => none
  | .ex _ _ =>
   some false
  | .ret r1922 => some r1922
theorem ref11_meets_ok {k0 : K} {v0 v1 v2 v3 : Value} {s_ : (List Slab)} {p_ : Point3} {v_ : Point3} {most_ : Int} {r : Bool} (i0 : (IsV s_) v0 k0) (i1 : (IsV p_) v1 k0) (i2 : (IsV v_) v2 k0) (i3 : (IsV most_) v3 k0) (hr : ref11_meets s_ p_ v_ most_ = some r) :
  Calls Try.prog 28 #[v0, v1, v2, v3] k0.w (Ret k0 (IsV r)) := by
 unfold ref11_meets at hr
 refine Ret.ofC ?_
 refine enterK Try.func28 rfl Try.ntmps28 (show 4 ≤ 116 by decide) fun a k hk0 hs hd ha => ?_
 obtain ⟨e0, e1, e2, e3, _⟩ := ha
 replace i0 : (IsV s_) (a.get 0) k := by rw [e0, hk0]; exact i0
 replace i1 : (IsV p_) (a.get 1) k := by rw [e1, hk0]; exact i1
 replace i2 : (IsV v_) (a.get 2) k := by rw [e2, hk0]; exact i2
 replace i3 : (IsV most_) (a.get 3) k := by rw [e3, hk0]; exact i3
 have hQ : Gb.LetsOut (bodyPost Try.prog Try.f28 (RetC noF k0 (IsV r))) := letsOutC
 have hg : Chg noF k0 k := by rw [hk0]; exact Chg.refl _ k0
 refine stepL 3 (⟨some (IsRef p_), [(1, none)]⟩ :: ⟨some (IsRef v_), [(2, none)]⟩ :: ⟨some (IsV false), []⟩ :: []) rfl ⟨hg, hs, hd⟩ (by kernel_rfl) ⟨ob1 rfl fun _ _ h n => ok_boxR rfl (up i1 h n.1), ob1 rfl fun _ _ h n => ok_boxR rfl (up i2 h n.1), ob1 rfl fun _ _ h n => ok_assign rfl (isV_bool.2 rfl), trivial⟩ [⟨_, _⟩, ⟨_, _⟩, ⟨_, _⟩, ⟨_, _⟩] (fun b q p => ⟨p.ke 0 rfl i0, p.ke 3 rfl i3, p.ou 0 5 rfl, p.ou 1 6 rfl, trivial⟩) ?_
 rintro a k ⟨⟨hg, hs, hd⟩, i0, i3, i5, i6, _⟩
 refine wp_seq ?_
 obtain ⟨x1882_1, hx1882_1, hr⟩ := bind_some hr
 refine cut (fun a' k' => Bs noF k0 116 a' k' ∧ (IsV most_) (a'.get 3) k' ∧ (IsRef p_) (a'.get 5) k' ∧ (IsRef v_) (a'.get 6) k' ∧ (IsV x1882_1) (a'.get 9) k' ∧ True) ?_ hQ ?_
 ·intro Q1926 hQQ1926 hp1927
  refine gS 3 (_ :: _ :: _ :: []) hs (by kernel_rfl) ⟨mu rfl i0, o1 [(13, some 0)] rfl fun _ _ h n => ok_call rfl Try.call18 (ref09_Boxes_ok n.1 hx1882_1), cp 1 rfl rfl, trivial⟩ hQQ1926 fun b q p => ?_
  exact tail_done (k := q) (hp1927 _ _ ⟨Bs.post ⟨hg, hs, hd⟩ p, p.ke 3 rfl i3, p.ke 5 rfl i5, p.ke 6 rfl i6, p.ou 2 9 rfl, trivial⟩)
 rintro a k ⟨⟨hg, hs, hd⟩, i3, i5, i6, i9, _⟩
 refine wp_seq ?_
 refine stepL 1 (⟨some (IsI 0), []⟩ :: []) rfl ⟨hg, hs, hd⟩ (by kernel_rfl) ⟨aI rfl rfl, trivial⟩ [⟨_, _⟩, ⟨_, _⟩, ⟨_, _⟩, ⟨_, _⟩, ⟨_, _⟩] (fun b q p => ⟨p.ke 3 rfl i3, p.ke 5 rfl i5, p.ke 6 rfl i6, p.ke 9 rfl i9, p.ou 0 10 rfl, trivial⟩) ?_
 rintro a k ⟨⟨hg, hs, hd⟩, i3, i5, i6, i9, i10, _⟩
 refine wp_block ?_
 obtain ⟨f1917, hf1917, hr⟩ := bind_some hr
 refine cutFe f1917 (fun s' a' k' => Bs noF k0 116 a' k' ∧ (IsV most_) (a'.get 3) k' ∧ (IsRef p_) (a'.get 5) k' ∧ (IsRef v_) (a'.get 6) k' ∧ (IsV x1882_1) (a'.get 9) k' ∧ (IsV s') (a'.get 10) k' ∧ True) (fun i' s' a' k' => (i' = 0 ∧ Bs noF k0 116 a' k' ∧ True)) (fun r' a' k' => bodyPost Try.prog Try.f28 (RetC noF k0 (IsV r')) .ret a' k'.w) ?_ hQ ?_ ?_ ?_
 ·intro Q1923 hQQ1923 hgo hex hret
  refine sim_loop ?_ _ _ _ _ _ hf1917 ⟨⟨hg, hs, hd⟩, i3, i5, i6, i9, i10, trivial⟩ Q1923 hQQ1923 hgo hex hret
  clear hr hf1917 hgo hex hret hQQ1923 hQ hg hs hd i10 i3 i5 i6 i9
  intro s1884 fl_ a k hr hS Q hQ hgo1885 hex1886 hret1887
  obtain ⟨⟨hg, hs, hd⟩, i3, i5, i6, i9, i10, _⟩ := hS
  unfold ref11_meets_L0 at hr
  refine wp_seq ?_
  refine stepL 4 (_ :: _ :: _ :: _ :: []) rfl ⟨hg, hs, hd⟩ (by kernel_rfl) ⟨mu rfl i10, mu rfl i9, o1 [(16, some 1)] rfl fun _ _ h n => ok_len rfl rfl Try.underlying31 (IsV.rd n.1), o1 [(15, some 0), (17, some 2)] rfl fun _ _ h n => ok_lss rfl n.1 n.2.1, trivial⟩ [⟨_, _⟩, ⟨_, _⟩, ⟨_, _⟩, ⟨_, _⟩, ⟨_, _⟩, ⟨_, _⟩] (fun b q p => ⟨p.ke 3 rfl i3, p.ke 5 rfl i5, p.ke 6 rfl i6, p.ke 9 rfl i9, p.ke 10 rfl i10, p.ou 3 18 rfl, trivial⟩) ?_
  rintro a k ⟨⟨hg, hs, hd⟩, i3, i5, i6, i9, i10, i18, _⟩
  refine wp_cond_split (isBool i18) (fun hc1914 => ?_) (fun hc1914 => ?_)
  ·rw [if_pos hc1914] at hr
   refine wp_skip ?_
   refine wp_seq ?_
   refine wp_block ?_
   refine cutS (fun a' k' => Bs noF k0 116 a' k' ∧ (IsV most_) (a'.get 3) k' ∧ (IsRef p_) (a'.get 5) k' ∧ (IsRef v_) (a'.get 6) k' ∧ (IsV x1882_1) (a'.get 9) k' ∧ (IsV s1884) (a'.get 10) k' ∧ (∃ b11, a'.get 11 = .pointer (some ⟨b11, 0, none⟩) ∧ Lo k0 (Eq b11) ∧ Gb.Box b11 (⟨(⟨0, 1, true⟩ : Ref11Bound), (⟨most_, 1, true⟩ : Ref11Bound), false⟩ : Ref11Part) k' ∧ True)) ?_ ?_
   ·intro Q1912 hQQ1912 hp1913
    refine gS 5 (⟨some (IsV (⟨0, 1, true⟩ : Ref11Bound)), []⟩ :: _ :: ⟨some (IsV (⟨most_, 1, true⟩ : Ref11Bound)), [(22, some 1)]⟩ :: ⟨some (IsV (⟨(⟨0, 1, true⟩ : Ref11Bound), (⟨most_, 1, true⟩ : Ref11Bound), false⟩ : Ref11Part)), [(21, some 0), (23, some 2)]⟩ :: ⟨some (IsBox k.w.heap.size (⟨(⟨0, 0, false⟩ : Ref11Bound), (⟨0, 0, false⟩ : Ref11Bound), false⟩ : Ref11Part)), []⟩ :: []) hs (by kernel_rfl) ⟨ob1 rfl fun _ _ h n => ok_build rfl (bld76_0_1_2 (cI rfl) (cI rfl) (isV_bool.2 rfl)), mu rfl i3, ob1 rfl fun _ _ h n => ok_build rfl (bld76_0_1_2 n.1 (cI rfl) (isV_bool.2 rfl)), ob1 rfl fun _ _ h n => ok_build rfl (bld78_0_1 n.1 n.2.1), ob1 rfl fun _ _ h n => ok_alloc _ h.size rfl z78, trivial⟩ hQQ1912 fun b q p => ?_
    have hgq := hg.then p.grow
    have hsb := p.size.trans hs
    have hdb := p.defers.trans hd
    have j3 := p.ke 3 rfl i3
    have j5 := p.ke 5 rfl i5
    have j6 := p.ke 6 rfl i6
    have j9 := p.ke 9 rfl i9
    have j10 := p.ke 10 rfl i10
    obtain ⟨b11, j11, x11, z11⟩ : (IsBox k.w.heap.size (⟨(⟨0, 0, false⟩ : Ref11Bound), (⟨0, 0, false⟩ : Ref11Bound), false⟩ : Ref11Part)) (b.get 11) q := p.ou 4 11 rfl
    replace x11 : Lo k (Eq b11) := Lo.eq x11
    have y11 : Lo k0 (Eq b11) := x11.chg hg
    have j24 : (IsV (⟨(⟨0, 1, true⟩ : Ref11Bound), (⟨most_, 1, true⟩ : Ref11Bound), false⟩ : Ref11Part)) (b.get 24) q := p.ou 3 24 rfl
    have hns := z11.nshF
    refine tail_storeB (i := 5) rfl rfl rfl rfl szf78 (Upd.self (α := Ref11Part)) j11 z11 j24 fun q2 hch hz => ?_
    replace hgq := hgq.step hch y11.wr
    have hle := hch.le hns
    replace j3 := Pers.pers hle j3
    replace j5 := Pers.pers hle j5
    replace j6 := Pers.pers hle j6
    replace j9 := Pers.pers hle j9
    replace j10 := Pers.pers hle j10
    replace j24 := Pers.pers hle j24
    replace z11 := hz
    clear hns hle hch
    obtain ⟨q, hqq⟩ : ∃ q, q = q2 := ⟨q2, rfl⟩
    subst hqq
    exact tail_done (k := q) (hp1913 _ _ ⟨⟨hgq, hsb, hdb⟩, j3, j5, j6, j9, j10, b11, j11, y11, z11, trivial⟩)
   rintro a k ⟨⟨hg, hs, hd⟩, i3, i5, i6, i9, i10, b11, i11, n11, c11, _⟩
   refine wp_seq ?_
   obtain ⟨x1890_7, hx1890_7, hr⟩ := bind_some hr
   obtain ⟨x1890_13, hx1890_13, hr⟩ := bind_some hr
   obtain ⟨x1890_17, hx1890_17, hr⟩ := bind_some hr
   refine cut (fun a' k' => Bs noF k0 116 a' k' ∧ (IsV most_) (a'.get 3) k' ∧ (IsRef p_) (a'.get 5) k' ∧ (IsRef v_) (a'.get 6) k' ∧ (IsV x1882_1) (a'.get 9) k' ∧ (IsV s1884) (a'.get 10) k' ∧ a'.get 11 = .pointer (some ⟨b11, 0, none⟩) ∧ Lo k0 (Eq b11) ∧ Gb.Box b11 x1890_17 k' ∧ True) ?_ hQ ?_
   ·intro Q1910 hQQ1910 hp1911
    refine region (a0 := a) (k0 := k) (n := 116) (m := 18) (⟨some (IsV (⟨(⟨0, 1, true⟩ : Ref11Bound), (⟨most_, 1, true⟩ : Ref11Bound), false⟩ : Ref11Part)), [(11, none)]⟩ :: ⟨some (IsPtr p_.X), [(5, none)]⟩ :: ⟨some (IsV p_.X), [(26, some 1)]⟩ :: ⟨some (IsPtr v_.X), [(6, none)]⟩ :: ⟨some (IsV v_.X), [(28, some 3)]⟩ :: ⟨some (IsV x1882_1), [(9, none)]⟩ :: ⟨some (IsV s1884), [(10, none)]⟩ :: ⟨some (IsPtr x1890_7), [(30, some 5), (31, some 6)]⟩ :: ⟨some (IsPtr x1890_7.Base), [(32, some 7)]⟩ :: ⟨some (IsPtr x1890_7.Base.X0), [(33, some 8)]⟩ :: ⟨some (IsV x1890_7.Base.X0), [(34, some 9)]⟩ :: ⟨some (IsV x1882_1), [(9, none)]⟩ :: ⟨some (IsV s1884), [(10, none)]⟩ :: ⟨some (IsPtr x1890_13), [(36, some 11), (37, some 12)]⟩ :: ⟨some (IsPtr x1890_13.Base), [(38, some 13)]⟩ :: ⟨some (IsPtr x1890_13.Base.X1), [(39, some 14)]⟩ :: ⟨some (IsV x1890_13.Base.X1), [(40, some 15)]⟩ :: ⟨some (IsV x1890_17), [(25, some 0), (27, some 2), (29, some 4), (35, some 10), (41, some 16)]⟩ :: []) hmix hs (by kernel_rfl) ⟨ob1 rfl fun b q hk hn => ok_load rfl ty78 ⟨_, (upE i11 hn.1), (c11.grow hk).at⟩, ob1 rfl fun b q hk hn => ok_fieldAddr rfl fo24_0 (at_Point3_0 _) ((up i5 hk hn.1)).ptr, ob1 rfl fun b q hk hn => ok_load rfl ty3 hn.1, ob1 rfl fun b q hk hn => ok_fieldAddr rfl fo24_0 (at_Point3_0 _) ((up i6 hk hn.1)).ptr, ob1 rfl fun b q hk hn => ok_load rfl ty3 hn.1, ob1 rfl fun b q hk hn => ok_move rfl (up i9 hk hn.1), ob1 rfl fun b q hk hn => ok_move rfl (up i10 hk hn.1), ob1 rfl fun b q hk hn => ok_indexAddr rfl Try.underlying31 ty37 (IsV.rd hn.1) hn.2.1 hx1890_7, ob1 rfl fun b q hk hn => ok_fieldAddr rfl fo37_0 (at_Box_0 _) hn.1, ob1 rfl fun b q hk hn => ok_fieldAddr rfl fo35_0 (at_Rect_0 _) hn.1, ob1 rfl fun b q hk hn => ok_load rfl ty3 hn.1, ob1 rfl fun b q hk hn => ok_move rfl (up i9 hk hn.1), ob1 rfl fun b q hk hn => ok_move rfl (up i10 hk hn.1), ob1 rfl fun b q hk hn => ok_indexAddr rfl Try.underlying31 ty37 (IsV.rd hn.1) hn.2.1 hx1890_13, ob1 rfl fun b q hk hn => ok_fieldAddr rfl fo37_0 (at_Box_0 _) hn.1, ob1 rfl fun b q hk hn => ok_fieldAddr rfl fo35_2 (at_Rect_2 _) hn.1, ob1 rfl fun b q hk hn => ok_load rfl ty3 hn.1, ob1 rfl fun b q hk hn => ok_call rfl Try.call49 (ref11_narrow_ok hn.1 hn.2.1 hn.2.2.1 hn.2.2.2.1 hn.2.2.2.2.1 hx1890_17), trivial⟩ hQQ1910 fun b q p => ?_
    have hgq := hg.then p.grow
    have hsb := p.size.trans hs
    have hdb := p.defers.trans hd
    have j3 := p.ke 3 rfl i3
    have j5 := p.ke 5 rfl i5
    have j6 := p.ke 6 rfl i6
    have j9 := p.ke 9 rfl i9
    have j10 := p.ke 10 rfl i10
    have j11 := upE i11 (p.old 11 rfl)
    have z11 := Gb.Box.grow c11 p.grow
    have y11 := n11
    have j42 : (IsV x1890_17) (b.get 42) q := p.ou 17 42 rfl
    have hns := z11.nshF
    refine tail_storeB (i := 18) rfl rfl rfl rfl szf78 (Upd.self (α := Ref11Part)) j11 z11 j42 fun q2 hch hz => ?_
    replace hgq := hgq.step hch y11.wr
    have hle := hch.le hns
    replace j3 := Pers.pers hle j3
    replace j5 := Pers.pers hle j5
    replace j6 := Pers.pers hle j6
    replace j9 := Pers.pers hle j9
    replace j10 := Pers.pers hle j10
    replace j42 := Pers.pers hle j42
    replace z11 := hz
    clear hns hle hch
    obtain ⟨q, hqq⟩ : ∃ q, q = q2 := ⟨q2, rfl⟩
    subst hqq
    exact tail_done (k := q) (hp1911 _ _ ⟨⟨hgq, hsb, hdb⟩, j3, j5, j6, j9, j10, j11, y11, z11, trivial⟩)
   rintro a k ⟨⟨hg, hs, hd⟩, i3, i5, i6, i9, i10, i11, n11, c11, _⟩
   refine wp_seq ?_
   obtain ⟨x1891_7, hx1891_7, hr⟩ := bind_some hr
   obtain ⟨x1891_13, hx1891_13, hr⟩ := bind_some hr
   obtain ⟨x1891_17, hx1891_17, hr⟩ := bind_some hr
   refine cut (fun a' k' => Bs noF k0 116 a' k' ∧ (IsV most_) (a'.get 3) k' ∧ (IsRef p_) (a'.get 5) k' ∧ (IsRef v_) (a'.get 6) k' ∧ (IsV x1882_1) (a'.get 9) k' ∧ (IsV s1884) (a'.get 10) k' ∧ a'.get 11 = .pointer (some ⟨b11, 0, none⟩) ∧ Lo k0 (Eq b11) ∧ Gb.Box b11 x1891_17 k' ∧ True) ?_ hQ ?_
   ·intro Q1908 hQQ1908 hp1909
    refine region (a0 := a) (k0 := k) (n := 116) (m := 18) (⟨some (IsV x1890_17), [(11, none)]⟩ :: ⟨some (IsPtr p_.Y), [(5, none)]⟩ :: ⟨some (IsV p_.Y), [(44, some 1)]⟩ :: ⟨some (IsPtr v_.Y), [(6, none)]⟩ :: ⟨some (IsV v_.Y), [(46, some 3)]⟩ :: ⟨some (IsV x1882_1), [(9, none)]⟩ :: ⟨some (IsV s1884), [(10, none)]⟩ :: ⟨some (IsPtr x1891_7), [(48, some 5), (49, some 6)]⟩ :: ⟨some (IsPtr x1891_7.Base), [(50, some 7)]⟩ :: ⟨some (IsPtr x1891_7.Base.Y0), [(51, some 8)]⟩ :: ⟨some (IsV x1891_7.Base.Y0), [(52, some 9)]⟩ :: ⟨some (IsV x1882_1), [(9, none)]⟩ :: ⟨some (IsV s1884), [(10, none)]⟩ :: ⟨some (IsPtr x1891_13), [(54, some 11), (55, some 12)]⟩ :: ⟨some (IsPtr x1891_13.Base), [(56, some 13)]⟩ :: ⟨some (IsPtr x1891_13.Base.Y1), [(57, some 14)]⟩ :: ⟨some (IsV x1891_13.Base.Y1), [(58, some 15)]⟩ :: ⟨some (IsV x1891_17), [(43, some 0), (45, some 2), (47, some 4), (53, some 10), (59, some 16)]⟩ :: []) hmix hs (by kernel_rfl) ⟨ob1 rfl fun b q hk hn => ok_load rfl ty78 ⟨_, (upE i11 hn.1), (c11.grow hk).at⟩, ob1 rfl fun b q hk hn => ok_fieldAddr rfl fo24_1 (at_Point3_1 _) ((up i5 hk hn.1)).ptr, ob1 rfl fun b q hk hn => ok_load rfl ty3 hn.1, ob1 rfl fun b q hk hn => ok_fieldAddr rfl fo24_1 (at_Point3_1 _) ((up i6 hk hn.1)).ptr, ob1 rfl fun b q hk hn => ok_load rfl ty3 hn.1, ob1 rfl fun b q hk hn => ok_move rfl (up i9 hk hn.1), ob1 rfl fun b q hk hn => ok_move rfl (up i10 hk hn.1), ob1 rfl fun b q hk hn => ok_indexAddr rfl Try.underlying31 ty37 (IsV.rd hn.1) hn.2.1 hx1891_7, ob1 rfl fun b q hk hn => ok_fieldAddr rfl fo37_0 (at_Box_0 _) hn.1, ob1 rfl fun b q hk hn => ok_fieldAddr rfl fo35_1 (at_Rect_1 _) hn.1, ob1 rfl fun b q hk hn => ok_load rfl ty3 hn.1, ob1 rfl fun b q hk hn => ok_move rfl (up i9 hk hn.1), ob1 rfl fun b q hk hn => ok_move rfl (up i10 hk hn.1), ob1 rfl fun b q hk hn => ok_indexAddr rfl Try.underlying31 ty37 (IsV.rd hn.1) hn.2.1 hx1891_13, ob1 rfl fun b q hk hn => ok_fieldAddr rfl fo37_0 (at_Box_0 _) hn.1, ob1 rfl fun b q hk hn => ok_fieldAddr rfl fo35_3 (at_Rect_3 _) hn.1, ob1 rfl fun b q hk hn => ok_load rfl ty3 hn.1, ob1 rfl fun b q hk hn => ok_call rfl Try.call49 (ref11_narrow_ok hn.1 hn.2.1 hn.2.2.1 hn.2.2.2.1 hn.2.2.2.2.1 hx1891_17), trivial⟩ hQQ1908 fun b q p => ?_
    have hgq := hg.then p.grow
    have hsb := p.size.trans hs
    have hdb := p.defers.trans hd
    have j3 := p.ke 3 rfl i3
    have j5 := p.ke 5 rfl i5
    have j6 := p.ke 6 rfl i6
    have j9 := p.ke 9 rfl i9
    have j10 := p.ke 10 rfl i10
    have j11 := upE i11 (p.old 11 rfl)
    have z11 := Gb.Box.grow c11 p.grow
    have y11 := n11
    have j60 : (IsV x1891_17) (b.get 60) q := p.ou 17 60 rfl
    have hns := z11.nshF
    refine tail_storeB (i := 18) rfl rfl rfl rfl szf78 (Upd.self (α := Ref11Part)) j11 z11 j60 fun q2 hch hz => ?_
    replace hgq := hgq.step hch y11.wr
    have hle := hch.le hns
    replace j3 := Pers.pers hle j3
    replace j5 := Pers.pers hle j5
    replace j6 := Pers.pers hle j6
    replace j9 := Pers.pers hle j9
    replace j10 := Pers.pers hle j10
    replace j60 := Pers.pers hle j60
    replace z11 := hz
    clear hns hle hch
    obtain ⟨q, hqq⟩ : ∃ q, q = q2 := ⟨q2, rfl⟩
    subst hqq
    exact tail_done (k := q) (hp1909 _ _ ⟨⟨hgq, hsb, hdb⟩, j3, j5, j6, j9, j10, j11, y11, z11, trivial⟩)
   rintro a k ⟨⟨hg, hs, hd⟩, i3, i5, i6, i9, i10, i11, n11, c11, _⟩
   refine wp_seq ?_
   obtain ⟨x1892_7, hx1892_7, hr⟩ := bind_some hr
   obtain ⟨x1892_12, hx1892_12, hr⟩ := bind_some hr
   obtain ⟨x1892_15, hx1892_15, hr⟩ := bind_some hr
   refine cut (fun a' k' => Bs noF k0 116 a' k' ∧ (IsV most_) (a'.get 3) k' ∧ (IsRef p_) (a'.get 5) k' ∧ (IsRef v_) (a'.get 6) k' ∧ (IsV x1882_1) (a'.get 9) k' ∧ (IsV s1884) (a'.get 10) k' ∧ a'.get 11 = .pointer (some ⟨b11, 0, none⟩) ∧ Lo k0 (Eq b11) ∧ Gb.Box b11 x1892_15 k' ∧ True) ?_ hQ ?_
   ·intro Q1906 hQQ1906 hp1907
    refine region (a0 := a) (k0 := k) (n := 116) (m := 16) (⟨some (IsV x1891_17), [(11, none)]⟩ :: ⟨some (IsPtr p_.Z), [(5, none)]⟩ :: ⟨some (IsV p_.Z), [(62, some 1)]⟩ :: ⟨some (IsPtr v_.Z), [(6, none)]⟩ :: ⟨some (IsV v_.Z), [(64, some 3)]⟩ :: ⟨some (IsV x1882_1), [(9, none)]⟩ :: ⟨some (IsV s1884), [(10, none)]⟩ :: ⟨some (IsPtr x1892_7), [(66, some 5), (67, some 6)]⟩ :: ⟨some (IsPtr x1892_7.Z0), [(68, some 7)]⟩ :: ⟨some (IsV x1892_7.Z0), [(69, some 8)]⟩ :: ⟨some (IsV x1882_1), [(9, none)]⟩ :: ⟨some (IsV s1884), [(10, none)]⟩ :: ⟨some (IsPtr x1892_12), [(71, some 10), (72, some 11)]⟩ :: ⟨some (IsPtr x1892_12.Z1), [(73, some 12)]⟩ :: ⟨some (IsV x1892_12.Z1), [(74, some 13)]⟩ :: ⟨some (IsV x1892_15), [(61, some 0), (63, some 2), (65, some 4), (70, some 9), (75, some 14)]⟩ :: []) hmix hs (by kernel_rfl) ⟨ob1 rfl fun b q hk hn => ok_load rfl ty78 ⟨_, (upE i11 hn.1), (c11.grow hk).at⟩, ob1 rfl fun b q hk hn => ok_fieldAddr rfl fo24_2 (at_Point3_2 _) ((up i5 hk hn.1)).ptr, ob1 rfl fun b q hk hn => ok_load rfl ty3 hn.1, ob1 rfl fun b q hk hn => ok_fieldAddr rfl fo24_2 (at_Point3_2 _) ((up i6 hk hn.1)).ptr, ob1 rfl fun b q hk hn => ok_load rfl ty3 hn.1, ob1 rfl fun b q hk hn => ok_move rfl (up i9 hk hn.1), ob1 rfl fun b q hk hn => ok_move rfl (up i10 hk hn.1), ob1 rfl fun b q hk hn => ok_indexAddr rfl Try.underlying31 ty37 (IsV.rd hn.1) hn.2.1 hx1892_7, ob1 rfl fun b q hk hn => ok_fieldAddr rfl fo37_1 (at_Box_1 _) hn.1, ob1 rfl fun b q hk hn => ok_load rfl ty3 hn.1, ob1 rfl fun b q hk hn => ok_move rfl (up i9 hk hn.1), ob1 rfl fun b q hk hn => ok_move rfl (up i10 hk hn.1), ob1 rfl fun b q hk hn => ok_indexAddr rfl Try.underlying31 ty37 (IsV.rd hn.1) hn.2.1 hx1892_12, ob1 rfl fun b q hk hn => ok_fieldAddr rfl fo37_2 (at_Box_2 _) hn.1, ob1 rfl fun b q hk hn => ok_load rfl ty3 hn.1, ob1 rfl fun b q hk hn => ok_call rfl Try.call49 (ref11_narrow_ok hn.1 hn.2.1 hn.2.2.1 hn.2.2.2.1 hn.2.2.2.2.1 hx1892_15), trivial⟩ hQQ1906 fun b q p => ?_
    have hgq := hg.then p.grow
    have hsb := p.size.trans hs
    have hdb := p.defers.trans hd
    have j3 := p.ke 3 rfl i3
    have j5 := p.ke 5 rfl i5
    have j6 := p.ke 6 rfl i6
    have j9 := p.ke 9 rfl i9
    have j10 := p.ke 10 rfl i10
    have j11 := upE i11 (p.old 11 rfl)
    have z11 := Gb.Box.grow c11 p.grow
    have y11 := n11
    have j76 : (IsV x1892_15) (b.get 76) q := p.ou 15 76 rfl
    have hns := z11.nshF
    refine tail_storeB (i := 16) rfl rfl rfl rfl szf78 (Upd.self (α := Ref11Part)) j11 z11 j76 fun q2 hch hz => ?_
    replace hgq := hgq.step hch y11.wr
    have hle := hch.le hns
    replace j3 := Pers.pers hle j3
    replace j5 := Pers.pers hle j5
    replace j6 := Pers.pers hle j6
    replace j9 := Pers.pers hle j9
    replace j10 := Pers.pers hle j10
    replace j76 := Pers.pers hle j76
    replace z11 := hz
    clear hns hle hch
    obtain ⟨q, hqq⟩ : ∃ q, q = q2 := ⟨q2, rfl⟩
    subst hqq
    exact tail_done (k := q) (hp1907 _ _ ⟨⟨hgq, hsb, hdb⟩, j3, j5, j6, j9, j10, j11, y11, z11, trivial⟩)
   rintro a k ⟨⟨hg, hs, hd⟩, i3, i5, i6, i9, i10, i11, n11, c11, _⟩
   refine wp_seq ?_
   obtain ⟨x1893_4, hx1893_4, hr⟩ := bind_some hr
   obtain ⟨x1893_13, hx1893_13, hr⟩ := bind_some hr
   obtain ⟨x1893_11, hx1893_11, hx1893_13⟩ := ite_bind hx1893_13
   refine cut (fun a' k' => Bs noF k0 116 a' k' ∧ (IsV most_) (a'.get 3) k' ∧ (IsRef p_) (a'.get 5) k' ∧ (IsRef v_) (a'.get 6) k' ∧ (IsV x1882_1) (a'.get 9) k' ∧ (IsV s1884) (a'.get 10) k' ∧ a'.get 11 = .pointer (some ⟨b11, 0, none⟩) ∧ Lo k0 (Eq b11) ∧ Gb.Box b11 x1892_15 k' ∧ (IsV ((x1893_13 && (!x1892_15.Lo.Open)) && (!x1892_15.Hi.Open))) (a'.get 12) k' ∧ True) ?_ hQ ?_
   ·intro Q1904 hQQ1904 hp1905
    refine gS 27 (_ :: _ :: _ :: _ :: _ :: _ :: _ :: _ :: _ :: _ :: _ :: _ :: _ :: _ :: _ :: _ :: _ :: _ :: _ :: _ :: _ :: _ :: _ :: _ :: _ :: _ :: _ :: []) hs (by kernel_rfl) ⟨o1 [(11, none)] rfl fun _ _ h n => ok_fieldAddr rfl fo78_0 (at_Ref11Part_0 _) ⟨_, (upE i11 n.1), (c11.grow h).at⟩, o1 [(77, some 0)] rfl fun _ _ h n => ok_load rfl ty76 n.1, o1 [(11, none)] rfl fun _ _ h n => ok_fieldAddr rfl fo78_1 (at_Ref11Part_1 _) ⟨_, (upE i11 n.1), (c11.grow h).at⟩, o1 [(79, some 2)] rfl fun _ _ h n => ok_load rfl ty76 n.1, o1 [(78, some 1), (80, some 3)] rfl fun _ _ h n => ok_call rfl Try.call50 (ref11_less_ok n.1 n.2.1 hx1893_4), o1 [(81, some 4)] rfl fun _ _ h n => ok_not rfl n.1, cm 5 rfl rfl, gT [(11, none)] rfl rfl fun hp _ _ h n => ok_fieldAddr rfl fo78_1 (at_Ref11Part_1 _) ⟨_, (upE i11 n.1), (c11.grow h).at⟩, gT [(84, some 7)] rfl rfl fun hp _ _ h n => ok_load rfl ty76 (Gd.get n.1 hp), gT [(11, none)] rfl rfl fun hp _ _ h n => ok_fieldAddr rfl fo78_0 (at_Ref11Part_0 _) ⟨_, (upE i11 n.1), (c11.grow h).at⟩, gT [(86, some 9)] rfl rfl fun hp _ _ h n => ok_load rfl ty76 (Gd.get n.1 hp), gT [(85, some 8), (87, some 10)] rfl rfl fun hp _ _ h n => ok_call rfl Try.call50 (ref11_less_ok (Gd.get n.1 hp) (Gd.get n.2.1 hp) (hx1893_11 hp)), gT [(88, some 11)] rfl rfl fun hp _ _ h n => ok_not rfl (Gd.get n.1 hp), o1 [(83, some 6), (89, some 12)] rfl fun _ _ h n => ok_pickM rfl n.1 hx1893_13 (Gd.get n.2.1) (cB rfl), cm 13 rfl rfl, gT [(11, none)] rfl rfl fun hp _ _ h n => ok_fieldAddr rfl fo78_0 (at_Ref11Part_0 _) ⟨_, (upE i11 n.1), (c11.grow h).at⟩, gT [(92, some 15)] rfl rfl fun hp _ _ h n => ok_fieldAddr rfl fo76_2 (at_Ref11Bound_2 _) (Gd.get n.1 hp), gT [(93, some 16)] rfl rfl fun hp _ _ h n => ok_load rfl ty4 (Gd.get n.1 hp), gT [(94, some 17)] rfl rfl fun hp _ _ h n => ok_not rfl (Gd.get n.1 hp), o1 [(91, some 14), (95, some 18)] rfl fun _ _ h n => ok_pickAnd rfl n.1 (Gd.get n.2.1) (cB rfl), cm 19 rfl rfl, gT [(11, none)] rfl rfl fun hp _ _ h n => ok_fieldAddr rfl fo78_1 (at_Ref11Part_1 _) ⟨_, (upE i11 n.1), (c11.grow h).at⟩, gT [(98, some 21)] rfl rfl fun hp _ _ h n => ok_fieldAddr rfl fo76_2 (at_Ref11Bound_2 _) (Gd.get n.1 hp), gT [(99, some 22)] rfl rfl fun hp _ _ h n => ok_load rfl ty4 (Gd.get n.1 hp), gT [(100, some 23)] rfl rfl fun hp _ _ h n => ok_not rfl (Gd.get n.1 hp), o1 [(97, some 20), (101, some 24)] rfl fun _ _ h n => ok_pickAnd rfl n.1 (Gd.get n.2.1) (cB rfl), cp 25 rfl rfl, trivial⟩ hQQ1904 fun b q p => ?_
    exact tail_done (k := q) (hp1905 _ _ ⟨Bs.post ⟨hg, hs, hd⟩ p, p.ke 3 rfl i3, p.ke 5 rfl i5, p.ke 6 rfl i6, p.ke 9 rfl i9, p.ke 10 rfl i10, upE i11 (p.old 11 rfl), n11, Gb.Box.grow c11 p.grow, p.ou 26 12 rfl, trivial⟩)
   rintro a k ⟨⟨hg, hs, hd⟩, i3, i5, i6, i9, i10, i11, n11, c11, i12, _⟩
   refine wp_seq ?_
   obtain ⟨x1894_12, hx1894_12, hr⟩ := bind_some hr
   obtain ⟨x1894_8, hx1894_8, hx1894_12⟩ := ite_bind hx1894_12
   refine cut (fun a' k' => Bs noF k0 116 a' k' ∧ (IsV most_) (a'.get 3) k' ∧ (IsRef p_) (a'.get 5) k' ∧ (IsRef v_) (a'.get 6) k' ∧ (IsV x1882_1) (a'.get 9) k' ∧ (IsV s1884) (a'.get 10) k' ∧ (IsV x1894_12) (a'.get 115) k' ∧ True) ?_ hQ ?_
   ·intro Q1902 hQQ1902 hp1903
    refine gS 13 (_ :: _ :: _ :: _ :: _ :: _ :: _ :: _ :: _ :: ⟨some (Gd ((!x1892_15.None) = true) (IsV x1894_8)), [(111, some 8)]⟩ :: ⟨some (Gd (((!x1892_15.None) = true) ∧ x1894_8 = false) (IsV ((x1893_13 && (!x1892_15.Lo.Open)) && (!x1892_15.Hi.Open)))), [(12, none)]⟩ :: _ :: _ :: []) hs (by kernel_rfl) ⟨o1 [(11, none)] rfl fun _ _ h n => ok_fieldAddr rfl fo78_2 (at_Ref11Part_2 _) ⟨_, (upE i11 n.1), (c11.grow h).at⟩, o1 [(103, some 0)] rfl fun _ _ h n => ok_load rfl ty4 n.1, o1 [(104, some 1)] rfl fun _ _ h n => ok_not rfl n.1, cm 2 rfl rfl, gT [(11, none)] rfl rfl fun hp _ _ h n => ok_fieldAddr rfl fo78_0 (at_Ref11Part_0 _) ⟨_, (upE i11 n.1), (c11.grow h).at⟩, gT [(107, some 4)] rfl rfl fun hp _ _ h n => ok_load rfl ty76 (Gd.get n.1 hp), gT [(11, none)] rfl rfl fun hp _ _ h n => ok_fieldAddr rfl fo78_1 (at_Ref11Part_1 _) ⟨_, (upE i11 n.1), (c11.grow h).at⟩, gT [(109, some 6)] rfl rfl fun hp _ _ h n => ok_load rfl ty76 (Gd.get n.1 hp), gT [(108, some 5), (110, some 7)] rfl rfl fun hp _ _ h n => ok_call rfl Try.call50 (ref11_less_ok (Gd.get n.1 hp) (Gd.get n.2.1 hp) (hx1894_8 hp)), gdT rfl rfl fun hp _ _ h n => ok_move rfl (Gd.get n.1 hp), gdTF rfl rfl fun hp b q h n => ok_move rfl (up i12 h n.1), gT [(112, some 9), (113, some 10)] rfl rfl fun hp _ _ h n => ok_pickOr rfl (Gd.get n.1 hp) (cB rfl) (fun hm => (Gd.get n.2.1 ⟨hp, hm⟩)), o1 [(106, some 3), (114, some 11)] rfl fun _ _ h n => ok_pickM rfl n.1 hx1894_12 (Gd.get n.2.1) (cB rfl), trivial⟩ hQQ1902 fun b q p => ?_
    exact tail_done (k := q) (hp1903 _ _ ⟨Bs.post ⟨hg, hs, hd⟩ p, p.ke 3 rfl i3, p.ke 5 rfl i5, p.ke 6 rfl i6, p.ke 9 rfl i9, p.ke 10 rfl i10, p.ou 12 115 rfl, trivial⟩)
   rintro a k ⟨⟨hg, hs, hd⟩, i3, i5, i6, i9, i10, i115, _⟩
   refine wp_cond_split (isBool i115) (fun hc1901 => ?_) (fun hc1901 => ?_)
   ·rw [if_pos hc1901] at hr
    refine stepL 1 (⟨some (IsV true), []⟩ :: []) rfl ⟨hg, hs, hd⟩ (by kernel_rfl) ⟨ob1 rfl fun _ _ h n => ok_assign rfl (isV_bool.2 rfl), trivial⟩ [⟨_, _⟩] (fun b q p => ⟨p.ou 0 8 rfl, trivial⟩) ?_
    rintro a k ⟨⟨hg, hs, hd⟩, i8, _⟩
    refine wp_ret ?_
    exact hret1887 _ _ _ (Option.some.inj hr).symm (retC1 rfl hd hg i8)
   rw [if_neg (by rw [hc1901]; decide)] at hr
   refine wp_skip ?_
   obtain ⟨x1898_1, hx1898_1, hr⟩ := bind_some hr
   refine cut (fun a' k' => Bs noF k0 116 a' k' ∧ (IsV most_) (a'.get 3) k' ∧ (IsRef p_) (a'.get 5) k' ∧ (IsRef v_) (a'.get 6) k' ∧ (IsV x1882_1) (a'.get 9) k' ∧ (IsV x1898_1) (a'.get 10) k' ∧ True) ?_ hQ ?_
   ·intro Q1899 hQQ1899 hp1900
    refine gS 3 (_ :: _ :: _ :: []) hs (by kernel_rfl) ⟨mu rfl i10, o1 [(19, some 0)] rfl fun _ _ h n => ok_add rfl n.1 (cI rfl) hx1898_1, cp 1 rfl rfl, trivial⟩ hQQ1899 fun b q p => ?_
    exact tail_done (k := q) (hp1900 _ _ ⟨Bs.post ⟨hg, hs, hd⟩ p, p.ke 3 rfl i3, p.ke 5 rfl i5, p.ke 6 rfl i6, p.ke 9 rfl i9, p.ou 2 10 rfl, trivial⟩)
   rintro a k ⟨⟨hg, hs, hd⟩, i3, i5, i6, i9, i10, _⟩
   exact hgo1885 _ _ _ (Option.some.inj hr).symm ⟨⟨hg, hs, hd⟩, i3, i5, i6, i9, i10, trivial⟩
  rw [if_neg (by rw [hc1914]; decide)] at hr
  refine wp_exit ?_
  exact hex1886 _ _ _ _ (Option.some.inj hr).symm ⟨rfl, ⟨hg, hs, hd⟩, trivial⟩
 ·rintro r1922 a k rfl hR
  dsimp only at hr
  obtain rfl := Option.some.inj hr
  exact hR
 ·rintro _ _ _ rfl _
  simp at hr
 clear hf1917
 rintro _ s1918 a k rfl ⟨rfl, ⟨hg, hs, hd⟩, _⟩
 dsimp only at hr
 refine stepL 1 (⟨some (IsV false), []⟩ :: []) rfl ⟨hg, hs, hd⟩ (by kernel_rfl) ⟨ob1 rfl fun _ _ h n => ok_assign rfl (isV_bool.2 rfl), trivial⟩ [⟨_, _⟩] (fun b q p => ⟨p.ou 0 8 rfl, trivial⟩) ?_
 rintro a k ⟨⟨hg, hs, hd⟩, i8, _⟩
 refine wp_ret ?_
 obtain rfl := Option.some.inj hr
 exact retC1 rfl hd hg i8
def ref11_Blocked (s_ : (List Slab)) (p_ : Point3) (q_ : Point3) : Option (Bool) :=
 (ref11_Valid p_).bind fun x1931_1 =>
 (if (!x1931_1) then
  some true
 else
  (ref11_Valid q_).bind fun x1931_5 =>
  some (!x1931_5)).bind fun x1931_7 =>
 if x1931_7 then
  some false
 else
  (subI q_.X p_.X).bind fun x1935_6 =>
  (subI q_.Y p_.Y).bind fun x1935_11 =>
  (subI q_.Z p_.Z).bind fun x1935_16 =>
  (ref11_meets s_ p_ (⟨x1935_6, x1935_11, x1935_16⟩ : Point3) 1).bind fun x1935_18 =>
  some x1935_18
theorem ref11_Blocked_ok {k0 : K} {v0 v1 v2 : Value} {s_ : (List Slab)} {p_ : Point3} {q_ : Point3} {r : Bool} (i0 : (IsV s_) v0 k0) (i1 : (IsV p_) v1 k0) (i2 : (IsV q_) v2 k0) (hr : ref11_Blocked s_ p_ q_ = some r) :
  Calls Try.prog 12 #[v0, v1, v2] k0.w (Ret k0 (IsV r)) := by
 unfold ref11_Blocked at hr
 refine Ret.ofC ?_
 refine enterK Try.func12 rfl Try.ntmps12 (show 3 ≤ 34 by decide) fun a k hk0 hs hd ha => ?_
 obtain ⟨e0, e1, e2, _⟩ := ha
 replace i0 : (IsV s_) (a.get 0) k := by rw [e0, hk0]; exact i0
 replace i1 : (IsV p_) (a.get 1) k := by rw [e1, hk0]; exact i1
 replace i2 : (IsV q_) (a.get 2) k := by rw [e2, hk0]; exact i2
 have hQ : Gb.LetsOut (bodyPost Try.prog Try.f12 (RetC noF k0 (IsV r))) := letsOutC
 have hg : Chg noF k0 k := by rw [hk0]; exact Chg.refl _ k0
 refine stepL 3 (⟨some (IsRef p_), [(1, none)]⟩ :: ⟨some (IsRef q_), [(2, none)]⟩ :: ⟨some (IsV false), []⟩ :: []) rfl ⟨hg, hs, hd⟩ (by kernel_rfl) ⟨ob1 rfl fun _ _ h n => ok_boxR rfl (up i1 h n.1), ob1 rfl fun _ _ h n => ok_boxR rfl (up i2 h n.1), ob1 rfl fun _ _ h n => ok_assign rfl (isV_bool.2 rfl), trivial⟩ [⟨_, _⟩, ⟨_, _⟩, ⟨_, _⟩] (fun b q p => ⟨p.ke 0 rfl i0, p.ou 0 4 rfl, p.ou 1 5 rfl, trivial⟩) ?_
 rintro a k ⟨⟨hg, hs, hd⟩, i0, i4, i5, _⟩
 refine wp_seq ?_
 refine wp_seq ?_
 obtain ⟨x1931_1, hx1931_1, hr⟩ := bind_some hr
 obtain ⟨x1931_7, hx1931_7, hr⟩ := bind_some hr
 obtain ⟨x1931_5, hx1931_5, hx1931_7⟩ := ite_bindF hx1931_7
 refine cut (fun a' k' => Bs noF k0 34 a' k' ∧ (IsV s_) (a'.get 0) k' ∧ (IsRef p_) (a'.get 4) k' ∧ (IsRef q_) (a'.get 5) k' ∧ (IsV x1931_7) (a'.get 14) k' ∧ True) ?_ hQ ?_
 ·intro Q1939 hQQ1939 hp1940
  refine gS 8 (_ :: _ :: _ :: _ :: _ :: _ :: _ :: _ :: []) hs (by kernel_rfl) ⟨o1 [(4, none)] rfl fun _ _ h n => ok_load rfl ty24 ((up i4 h n.1)).ptr, o1 [(7, some 0)] rfl fun _ _ h n => ok_call rfl Try.call20 (ref11_Valid_ok n.1 hx1931_1), o1 [(8, some 1)] rfl fun _ _ h n => ok_not rfl n.1, cm 2 rfl rfl, gF [(5, none)] rfl rfl fun hp _ _ h n => ok_load rfl ty24 ((up i5 h n.1)).ptr, gF [(11, some 4)] rfl rfl fun hp _ _ h n => ok_call rfl Try.call20 (ref11_Valid_ok (Gd.get n.1 hp) (hx1931_5 hp)), gF [(12, some 5)] rfl rfl fun hp _ _ h n => ok_not rfl (Gd.get n.1 hp), o1 [(10, some 3), (13, some 6)] rfl fun _ _ h n => ok_pickM rfl n.1 hx1931_7 (cB rfl) (Gd.get n.2.1), trivial⟩ hQQ1939 fun b q p => ?_
  exact tail_done (k := q) (hp1940 _ _ ⟨Bs.post ⟨hg, hs, hd⟩ p, p.ke 0 rfl i0, p.ke 4 rfl i4, p.ke 5 rfl i5, p.ou 7 14 rfl, trivial⟩)
 rintro a k ⟨⟨hg, hs, hd⟩, i0, i4, i5, i14, _⟩
 refine wp_cond_split (isBool i14) (fun hc1938 => ?_) (fun hc1938 => ?_)
 ·rw [if_pos hc1938] at hr
  refine stepL 1 (⟨some (IsV false), []⟩ :: []) rfl ⟨hg, hs, hd⟩ (by kernel_rfl) ⟨ob1 rfl fun _ _ h n => ok_assign rfl (isV_bool.2 rfl), trivial⟩ [⟨_, _⟩] (fun b q p => ⟨p.ou 0 6 rfl, trivial⟩) ?_
  rintro a k ⟨⟨hg, hs, hd⟩, i6, _⟩
  refine wp_ret ?_
  obtain rfl := Option.some.inj hr
  exact retC1 rfl hd hg i6
 rw [if_neg (by rw [hc1938]; decide)] at hr
 refine wp_skip ?_
 refine wp_seq ?_
 obtain ⟨x1935_6, hx1935_6, hr⟩ := bind_some hr
 obtain ⟨x1935_11, hx1935_11, hr⟩ := bind_some hr
 obtain ⟨x1935_16, hx1935_16, hr⟩ := bind_some hr
 obtain ⟨x1935_18, hx1935_18, hr⟩ := bind_some hr
 refine cut (fun a' k' => Bs noF k0 34 a' k' ∧ (IsV x1935_18) (a'.get 6) k' ∧ True) ?_ hQ ?_
 ·intro Q1936 hQQ1936 hp1937
  refine gS 20 (_ :: _ :: _ :: _ :: _ :: _ :: _ :: _ :: _ :: _ :: _ :: _ :: _ :: _ :: _ :: _ :: _ :: ⟨some (IsV (⟨x1935_6, x1935_11, x1935_16⟩ : Point3)), [(21, some 6), (26, some 11), (31, some 16)]⟩ :: _ :: _ :: []) hs (by kernel_rfl) ⟨mu rfl i0, o1 [(4, none)] rfl fun _ _ h n => ok_load rfl ty24 ((up i4 h n.1)).ptr, o1 [(5, none)] rfl fun _ _ h n => ok_fieldAddr rfl fo24_0 (at_Point3_0 _) ((up i5 h n.1)).ptr, o1 [(17, some 2)] rfl fun _ _ h n => ok_load rfl ty3 n.1, o1 [(4, none)] rfl fun _ _ h n => ok_fieldAddr rfl fo24_0 (at_Point3_0 _) ((up i4 h n.1)).ptr, o1 [(19, some 4)] rfl fun _ _ h n => ok_load rfl ty3 n.1, o1 [(18, some 3), (20, some 5)] rfl fun _ _ h n => ok_sub rfl n.1 n.2.1 hx1935_6, o1 [(5, none)] rfl fun _ _ h n => ok_fieldAddr rfl fo24_1 (at_Point3_1 _) ((up i5 h n.1)).ptr, o1 [(22, some 7)] rfl fun _ _ h n => ok_load rfl ty3 n.1, o1 [(4, none)] rfl fun _ _ h n => ok_fieldAddr rfl fo24_1 (at_Point3_1 _) ((up i4 h n.1)).ptr, o1 [(24, some 9)] rfl fun _ _ h n => ok_load rfl ty3 n.1, o1 [(23, some 8), (25, some 10)] rfl fun _ _ h n => ok_sub rfl n.1 n.2.1 hx1935_11, o1 [(5, none)] rfl fun _ _ h n => ok_fieldAddr rfl fo24_2 (at_Point3_2 _) ((up i5 h n.1)).ptr, o1 [(27, some 12)] rfl fun _ _ h n => ok_load rfl ty3 n.1, o1 [(4, none)] rfl fun _ _ h n => ok_fieldAddr rfl fo24_2 (at_Point3_2 _) ((up i4 h n.1)).ptr, o1 [(29, some 14)] rfl fun _ _ h n => ok_load rfl ty3 n.1, o1 [(28, some 13), (30, some 15)] rfl fun _ _ h n => ok_sub rfl n.1 n.2.1 hx1935_16, ob1 rfl fun _ _ h n => ok_build rfl (bld24_0_1_2 n.1 n.2.1 n.2.2.1), o1 [(15, some 0), (16, some 1), (32, some 17)] rfl fun _ _ h n => ok_call rfl Try.call28 (ref11_meets_ok n.1 n.2.1 n.2.2.1 (cI rfl) hx1935_18), cp 18 rfl rfl, trivial⟩ hQQ1936 fun b q p => ?_
  exact tail_done (k := q) (hp1937 _ _ ⟨Bs.post ⟨hg, hs, hd⟩ p, p.ou 19 6 rfl, trivial⟩)
 rintro a k ⟨⟨hg, hs, hd⟩, i6, _⟩
 refine wp_ret ?_
 obtain rfl := Option.some.inj hr
 exact retC1 rfl hd hg i6
def ref11_within (n_ : Int) : Option (Bool) :=
 some ((decide ((-1048576) ≤ n_)) && (decide (n_ ≤ 1048576)))
theorem ref11_within_ok {k0 : K} {v0 : Value} {n_ : Int} {r : Bool} (i0 : (IsV n_) v0 k0) (hr : ref11_within n_ = some r) :
  Calls Try.prog 29 #[v0] k0.w (Ret k0 (IsV r)) := by
 unfold ref11_within at hr
 refine Ret.ofC ?_
 refine enterK Try.func29 rfl Try.ntmps29 (show 1 ≤ 9 by decide) fun a k hk0 hs hd ha => ?_
 obtain ⟨e0, _⟩ := ha
 replace i0 : (IsV n_) (a.get 0) k := by rw [e0, hk0]; exact i0
 have hQ : Gb.LetsOut (bodyPost Try.prog Try.f29 (RetC noF k0 (IsV r))) := letsOutC
 have hg : Chg noF k0 k := by rw [hk0]; exact Chg.refl _ k0
 refine stepL 1 (⟨some (IsV false), []⟩ :: []) rfl ⟨hg, hs, hd⟩ (by kernel_rfl) ⟨ob1 rfl fun _ _ h n => ok_assign rfl (isV_bool.2 rfl), trivial⟩ [⟨_, _⟩] (fun b q p => ⟨p.ke 0 rfl i0, trivial⟩) ?_
 rintro a k ⟨⟨hg, hs, hd⟩, i0, _⟩
 refine stepL 7 (_ :: _ :: _ :: _ :: _ :: _ :: _ :: []) rfl ⟨hg, hs, hd⟩ (by kernel_rfl) ⟨mu rfl i0, o1 [(3, some 0)] rfl fun _ _ h n => ok_geq rfl n.1 (cI rfl), cm 1 rfl rfl, mT rfl rfl i0, gT [(6, some 3)] rfl rfl fun hp _ _ h n => ok_leq rfl (Gd.get n.1 hp) (cI rfl), o1 [(5, some 2), (7, some 4)] rfl fun _ _ h n => ok_pickAnd rfl n.1 (Gd.get n.2.1) (cB rfl), cp 5 rfl rfl, trivial⟩ [⟨_, _⟩] (fun b q p => ⟨p.ou 6 2 rfl, trivial⟩) ?_
 rintro a k ⟨⟨hg, hs, hd⟩, i2, _⟩
 refine wp_ret ?_
 obtain rfl := Option.some.inj hr
 exact retC1 rfl hd hg i2
def ref11_Ray (s_ : (List Slab)) (p_ : Point3) (d_ : Point3) : Option (Bool) :=
 (ref11_Valid p_).bind fun x1950_1 =>
 (if (!x1950_1) then
  some true
 else
  (ref11_within d_.X).bind fun x1950_6 =>
  some (!x1950_6)).bind fun x1950_8 =>
 (if x1950_8 then
  some true
 else
  (ref11_within d_.Y).bind fun x1950_12 =>
  some (!x1950_12)).bind fun x1950_14 =>
 (if x1950_14 then
  some true
 else
  (ref11_within d_.Z).bind fun x1950_18 =>
  some (!x1950_18)).bind fun x1950_20 =>
 if (x1950_20 || (((d_.X == 0) && (d_.Y == 0)) && (d_.Z == 0))) then
  some false
 else
  (ref11_meets s_ p_ d_ 2097152).bind fun x1954_3 =>
  some x1954_3
theorem ref11_Ray_ok {k0 : K} {v0 v1 v2 : Value} {s_ : (List Slab)} {p_ : Point3} {d_ : Point3} {r : Bool} (i0 : (IsV s_) v0 k0) (i1 : (IsV p_) v1 k0) (i2 : (IsV d_) v2 k0) (hr : ref11_Ray s_ p_ d_ = some r) :
  Calls Try.prog 14 #[v0, v1, v2] k0.w (Ret k0 (IsV r)) := by
 unfold ref11_Ray at hr
 refine Ret.ofC ?_
 refine enterK Try.func14 rfl Try.ntmps14 (show 3 ≤ 47 by decide) fun a k hk0 hs hd ha => ?_
 obtain ⟨e0, e1, e2, _⟩ := ha
 replace i0 : (IsV s_) (a.get 0) k := by rw [e0, hk0]; exact i0
 replace i1 : (IsV p_) (a.get 1) k := by rw [e1, hk0]; exact i1
 replace i2 : (IsV d_) (a.get 2) k := by rw [e2, hk0]; exact i2
 have hQ : Gb.LetsOut (bodyPost Try.prog Try.f14 (RetC noF k0 (IsV r))) := letsOutC
 have hg : Chg noF k0 k := by rw [hk0]; exact Chg.refl _ k0
 refine stepL 3 (⟨some (IsRef p_), [(1, none)]⟩ :: ⟨some (IsRef d_), [(2, none)]⟩ :: ⟨some (IsV false), []⟩ :: []) rfl ⟨hg, hs, hd⟩ (by kernel_rfl) ⟨ob1 rfl fun _ _ h n => ok_boxR rfl (up i1 h n.1), ob1 rfl fun _ _ h n => ok_boxR rfl (up i2 h n.1), ob1 rfl fun _ _ h n => ok_assign rfl (isV_bool.2 rfl), trivial⟩ [⟨_, _⟩, ⟨_, _⟩, ⟨_, _⟩] (fun b q p => ⟨p.ke 0 rfl i0, p.ou 0 4 rfl, p.ou 1 5 rfl, trivial⟩) ?_
 rintro a k ⟨⟨hg, hs, hd⟩, i0, i4, i5, _⟩
 refine wp_seq ?_
 refine wp_seq ?_
 obtain ⟨x1950_1, hx1950_1, hr⟩ := bind_some hr
 obtain ⟨x1950_8, hx1950_8, hr⟩ := bind_some hr
 obtain ⟨x1950_6, hx1950_6, hx1950_8⟩ := ite_bindF hx1950_8
 obtain ⟨x1950_14, hx1950_14, hr⟩ := bind_some hr
 obtain ⟨x1950_12, hx1950_12, hx1950_14⟩ := ite_bindF hx1950_14
 obtain ⟨x1950_20, hx1950_20, hr⟩ := bind_some hr
 obtain ⟨x1950_18, hx1950_18, hx1950_20⟩ := ite_bindF hx1950_20
 refine cut (fun a' k' => Bs noF k0 47 a' k' ∧ (IsV s_) (a'.get 0) k' ∧ (IsRef p_) (a'.get 4) k' ∧ (IsRef d_) (a'.get 5) k' ∧ (IsV (x1950_20 || (((d_.X == 0) && (d_.Y == 0)) && (d_.Z == 0)))) (a'.get 42) k' ∧ True) ?_ hQ ?_
 ·intro Q1958 hQQ1958 hp1959
  refine gS 36 (_ :: _ :: _ :: _ :: _ :: _ :: _ :: _ :: _ :: _ :: _ :: _ :: _ :: _ :: _ :: _ :: _ :: _ :: _ :: _ :: _ :: _ :: _ :: _ :: _ :: ⟨some (Gd (x1950_20 = false) (IsV (d_.X == 0))), [(31, some 24)]⟩ :: ⟨some (Gd ((x1950_20 = false) ∧ (d_.X == 0) = true) (IsPtr d_.Y)), [(5, none)]⟩ :: ⟨some (Gd ((x1950_20 = false) ∧ (d_.X == 0) = true) (IsV d_.Y)), [(33, some 26)]⟩ :: ⟨some (Gd ((x1950_20 = false) ∧ (d_.X == 0) = true) (IsV (d_.Y == 0))), [(34, some 27)]⟩ :: _ :: ⟨some (Gd (x1950_20 = false) (IsV ((d_.X == 0) && (d_.Y == 0)))), [(36, some 29)]⟩ :: ⟨some (Gd ((x1950_20 = false) ∧ ((d_.X == 0) && (d_.Y == 0)) = true) (IsPtr d_.Z)), [(5, none)]⟩ :: ⟨some (Gd ((x1950_20 = false) ∧ ((d_.X == 0) && (d_.Y == 0)) = true) (IsV d_.Z)), [(38, some 31)]⟩ :: ⟨some (Gd ((x1950_20 = false) ∧ ((d_.X == 0) && (d_.Y == 0)) = true) (IsV (d_.Z == 0))), [(39, some 32)]⟩ :: _ :: _ :: []) hs (by kernel_rfl) ⟨o1 [(4, none)] rfl fun _ _ h n => ok_load rfl ty24 ((up i4 h n.1)).ptr, o1 [(7, some 0)] rfl fun _ _ h n => ok_call rfl Try.call20 (ref11_Valid_ok n.1 hx1950_1), o1 [(8, some 1)] rfl fun _ _ h n => ok_not rfl n.1, cm 2 rfl rfl, gF [(5, none)] rfl rfl fun hp _ _ h n => ok_fieldAddr rfl fo24_0 (at_Point3_0 _) ((up i5 h n.1)).ptr, gF [(11, some 4)] rfl rfl fun hp _ _ h n => ok_load rfl ty3 (Gd.get n.1 hp), gF [(12, some 5)] rfl rfl fun hp _ _ h n => ok_call rfl Try.call29 (ref11_within_ok (Gd.get n.1 hp) (hx1950_6 hp)), gF [(13, some 6)] rfl rfl fun hp _ _ h n => ok_not rfl (Gd.get n.1 hp), o1 [(10, some 3), (14, some 7)] rfl fun _ _ h n => ok_pickM rfl n.1 hx1950_8 (cB rfl) (Gd.get n.2.1), cm 8 rfl rfl, gF [(5, none)] rfl rfl fun hp _ _ h n => ok_fieldAddr rfl fo24_1 (at_Point3_1 _) ((up i5 h n.1)).ptr, gF [(17, some 10)] rfl rfl fun hp _ _ h n => ok_load rfl ty3 (Gd.get n.1 hp), gF [(18, some 11)] rfl rfl fun hp _ _ h n => ok_call rfl Try.call29 (ref11_within_ok (Gd.get n.1 hp) (hx1950_12 hp)), gF [(19, some 12)] rfl rfl fun hp _ _ h n => ok_not rfl (Gd.get n.1 hp), o1 [(16, some 9), (20, some 13)] rfl fun _ _ h n => ok_pickM rfl n.1 hx1950_14 (cB rfl) (Gd.get n.2.1), cm 14 rfl rfl, gF [(5, none)] rfl rfl fun hp _ _ h n => ok_fieldAddr rfl fo24_2 (at_Point3_2 _) ((up i5 h n.1)).ptr, gF [(23, some 16)] rfl rfl fun hp _ _ h n => ok_load rfl ty3 (Gd.get n.1 hp), gF [(24, some 17)] rfl rfl fun hp _ _ h n => ok_call rfl Try.call29 (ref11_within_ok (Gd.get n.1 hp) (hx1950_18 hp)), gF [(25, some 18)] rfl rfl fun hp _ _ h n => ok_not rfl (Gd.get n.1 hp), o1 [(22, some 15), (26, some 19)] rfl fun _ _ h n => ok_pickM rfl n.1 hx1950_20 (cB rfl) (Gd.get n.2.1), cm 20 rfl rfl, gF [(5, none)] rfl rfl fun hp _ _ h n => ok_fieldAddr rfl fo24_0 (at_Point3_0 _) ((up i5 h n.1)).ptr, gF [(29, some 22)] rfl rfl fun hp _ _ h n => ok_load rfl ty3 (Gd.get n.1 hp), gF [(30, some 23)] rfl rfl fun hp _ _ h n => ok_eqI rfl (Gd.get n.1 hp) (cI rfl), gdF rfl rfl fun hp _ _ h n => ok_move rfl (Gd.get n.1 hp), gdTT rfl rfl fun hp b q h n => ok_fieldAddr rfl fo24_1 (at_Point3_1 _) ((up i5 h n.1)).ptr, gdTT rfl rfl fun hp b q h n => ok_load rfl ty3 (Gd.get n.1 hp), gdTT rfl rfl fun hp b q h n => ok_eqI rfl (Gd.get n.1 hp) (cI rfl), gF [(32, some 25), (35, some 28)] rfl rfl fun hp _ _ h n => ok_pickAnd rfl (Gd.get n.1 hp) (fun hm => (Gd.get n.2.1 ⟨hp, hm⟩)) (cB rfl), gdF rfl rfl fun hp _ _ h n => ok_move rfl (Gd.get n.1 hp), gdTT rfl rfl fun hp b q h n => ok_fieldAddr rfl fo24_2 (at_Point3_2 _) ((up i5 h n.1)).ptr, gdTT rfl rfl fun hp b q h n => ok_load rfl ty3 (Gd.get n.1 hp), gdTT rfl rfl fun hp b q h n => ok_eqI rfl (Gd.get n.1 hp) (cI rfl), gF [(37, some 30), (40, some 33)] rfl rfl fun hp _ _ h n => ok_pickAnd rfl (Gd.get n.1 hp) (fun hm => (Gd.get n.2.1 ⟨hp, hm⟩)) (cB rfl), o1 [(28, some 21), (41, some 34)] rfl fun _ _ h n => ok_pickOr rfl n.1 (cB rfl) (Gd.get n.2.1), trivial⟩ hQQ1958 fun b q p => ?_
  exact tail_done (k := q) (hp1959 _ _ ⟨Bs.post ⟨hg, hs, hd⟩ p, p.ke 0 rfl i0, p.ke 4 rfl i4, p.ke 5 rfl i5, p.ou 35 42 rfl, trivial⟩)
 rintro a k ⟨⟨hg, hs, hd⟩, i0, i4, i5, i42, _⟩
 refine wp_cond_split (isBool i42) (fun hc1957 => ?_) (fun hc1957 => ?_)
 ·rw [if_pos hc1957] at hr
  refine stepL 1 (⟨some (IsV false), []⟩ :: []) rfl ⟨hg, hs, hd⟩ (by kernel_rfl) ⟨ob1 rfl fun _ _ h n => ok_assign rfl (isV_bool.2 rfl), trivial⟩ [⟨_, _⟩] (fun b q p => ⟨p.ou 0 6 rfl, trivial⟩) ?_
  rintro a k ⟨⟨hg, hs, hd⟩, i6, _⟩
  refine wp_ret ?_
  obtain rfl := Option.some.inj hr
  exact retC1 rfl hd hg i6
 rw [if_neg (by rw [hc1957]; decide)] at hr
 refine wp_skip ?_
 refine wp_seq ?_
 obtain ⟨x1954_3, hx1954_3, hr⟩ := bind_some hr
 refine cut (fun a' k' => Bs noF k0 47 a' k' ∧ (IsV x1954_3) (a'.get 6) k' ∧ True) ?_ hQ ?_
 ·intro Q1955 hQQ1955 hp1956
  refine gS 5 (_ :: _ :: _ :: _ :: _ :: []) hs (by kernel_rfl) ⟨mu rfl i0, o1 [(4, none)] rfl fun _ _ h n => ok_load rfl ty24 ((up i4 h n.1)).ptr, o1 [(5, none)] rfl fun _ _ h n => ok_load rfl ty24 ((up i5 h n.1)).ptr, o1 [(43, some 0), (44, some 1), (45, some 2)] rfl fun _ _ h n => ok_call rfl Try.call28 (ref11_meets_ok n.1 n.2.1 n.2.2.1 (cI rfl) hx1954_3), cp 3 rfl rfl, trivial⟩ hQQ1955 fun b q p => ?_
  exact tail_done (k := q) (hp1956 _ _ ⟨Bs.post ⟨hg, hs, hd⟩ p, p.ou 4 6 rfl, trivial⟩)
 rintro a k ⟨⟨hg, hs, hd⟩, i6, _⟩
 refine wp_ret ?_
 obtain rfl := Option.some.inj hr
 exact retC1 rfl hd hg i6
def law11_SightTells (s_ : (List Slab)) (p_ : Point3) (q_ : Point3) (d_ : Point3) : Option (Bool) :=
 (law11_small).bind fun x1963_0 =>
 (law11_few s_).bind fun x1964_1 =>
 if (!x1964_1) then
  some x1963_0
 else
  (if x1963_0 then
   (sight_Blocked s_ p_ q_).bind fun x1968_5 =>
   (ref11_Blocked s_ p_ q_).bind fun x1968_9 =>
   some (x1968_5 == x1968_9)
  else
   some false).bind fun x1968_11 =>
  (if x1968_11 then
   (sight_Ray s_ p_ d_).bind fun x1968_16 =>
   (ref11_Ray s_ p_ d_).bind fun x1968_20 =>
   some (x1968_16 == x1968_20)
  else
   some false).bind fun x1968_22 =>
  some x1968_22
theorem law11_SightTells_ok {k0 : K} {v0 v1 v2 v3 : Value} {s_ : (List Slab)} {p_ : Point3} {q_ : Point3} {d_ : Point3} {r : Bool} (i0 : (IsV s_) v0 k0) (i1 : (IsV p_) v1 k0) (i2 : (IsV q_) v2 k0) (i3 : (IsV d_) v3 k0) (hr : law11_SightTells s_ p_ q_ d_ = some r) :
  Calls Try.prog 3 #[v0, v1, v2, v3] k0.w (Ret k0 (IsV r)) := by
 unfold law11_SightTells at hr
 refine Ret.ofC ?_
 refine enterK Try.func3 rfl Try.ntmps3 (show 4 ≤ 38 by decide) fun a k hk0 hs hd ha => ?_
 obtain ⟨e0, e1, e2, e3, _⟩ := ha
 replace i0 : (IsV s_) (a.get 0) k := by rw [e0, hk0]; exact i0
 replace i1 : (IsV p_) (a.get 1) k := by rw [e1, hk0]; exact i1
 replace i2 : (IsV q_) (a.get 2) k := by rw [e2, hk0]; exact i2
 replace i3 : (IsV d_) (a.get 3) k := by rw [e3, hk0]; exact i3
 have hQ : Gb.LetsOut (bodyPost Try.prog Try.f3 (RetC noF k0 (IsV r))) := letsOutC
 have hg : Chg noF k0 k := by rw [hk0]; exact Chg.refl _ k0
 refine stepL 4 (⟨some (IsRef p_), [(1, none)]⟩ :: ⟨some (IsRef q_), [(2, none)]⟩ :: ⟨some (IsRef d_), [(3, none)]⟩ :: ⟨some (IsV false), []⟩ :: []) rfl ⟨hg, hs, hd⟩ (by kernel_rfl) ⟨ob1 rfl fun _ _ h n => ok_boxR rfl (up i1 h n.1), ob1 rfl fun _ _ h n => ok_boxR rfl (up i2 h n.1), ob1 rfl fun _ _ h n => ok_boxR rfl (up i3 h n.1), ob1 rfl fun _ _ h n => ok_assign rfl (isV_bool.2 rfl), trivial⟩ [⟨_, _⟩, ⟨_, _⟩, ⟨_, _⟩, ⟨_, _⟩] (fun b q p => ⟨p.ke 0 rfl i0, p.ou 0 5 rfl, p.ou 1 6 rfl, p.ou 2 7 rfl, trivial⟩) ?_
 rintro a k ⟨⟨hg, hs, hd⟩, i0, i5, i6, i7, _⟩
 refine wp_seq ?_
 obtain ⟨x1963_0, hx1963_0, hr⟩ := bind_some hr
 refine cut (fun a' k' => Bs noF k0 38 a' k' ∧ (IsV s_) (a'.get 0) k' ∧ (IsRef p_) (a'.get 5) k' ∧ (IsRef q_) (a'.get 6) k' ∧ (IsRef d_) (a'.get 7) k' ∧ (IsV x1963_0) (a'.get 9) k' ∧ True) ?_ hQ ?_
 ·intro Q1974 hQQ1974 hp1975
  refine gS 2 (_ :: _ :: []) hs (by kernel_rfl) ⟨o1 [] rfl fun _ _ h n => ok_call rfl Try.call9 (law11_small_ok hx1963_0), cp 0 rfl rfl, trivial⟩ hQQ1974 fun b q p => ?_
  exact tail_done (k := q) (hp1975 _ _ ⟨Bs.post ⟨hg, hs, hd⟩ p, p.ke 0 rfl i0, p.ke 5 rfl i5, p.ke 6 rfl i6, p.ke 7 rfl i7, p.ou 1 9 rfl, trivial⟩)
 rintro a k ⟨⟨hg, hs, hd⟩, i0, i5, i6, i7, i9, _⟩
 refine wp_seq ?_
 refine wp_seq ?_
 obtain ⟨x1964_1, hx1964_1, hr⟩ := bind_some hr
 refine cut (fun a' k' => Bs noF k0 38 a' k' ∧ (IsV s_) (a'.get 0) k' ∧ (IsRef p_) (a'.get 5) k' ∧ (IsRef q_) (a'.get 6) k' ∧ (IsRef d_) (a'.get 7) k' ∧ (IsV x1963_0) (a'.get 9) k' ∧ (IsV (!x1964_1)) (a'.get 13) k' ∧ True) ?_ hQ ?_
 ·intro Q1972 hQQ1972 hp1973
  refine gS 3 (_ :: _ :: _ :: []) hs (by kernel_rfl) ⟨mu rfl i0, o1 [(11, some 0)] rfl fun _ _ h n => ok_call rfl Try.call10 (law11_few_ok n.1 hx1964_1), o1 [(12, some 1)] rfl fun _ _ h n => ok_not rfl n.1, trivial⟩ hQQ1972 fun b q p => ?_
  exact tail_done (k := q) (hp1973 _ _ ⟨Bs.post ⟨hg, hs, hd⟩ p, p.ke 0 rfl i0, p.ke 5 rfl i5, p.ke 6 rfl i6, p.ke 7 rfl i7, p.ke 9 rfl i9, p.ou 2 13 rfl, trivial⟩)
 rintro a k ⟨⟨hg, hs, hd⟩, i0, i5, i6, i7, i9, i13, _⟩
 refine wp_cond_split (isBool i13) (fun hc1971 => ?_) (fun hc1971 => ?_)
 ·rw [if_pos hc1971] at hr
  refine stepL 2 (_ :: _ :: []) rfl ⟨hg, hs, hd⟩ (by kernel_rfl) ⟨mu rfl i9, cp 0 rfl rfl, trivial⟩ [⟨_, _⟩] (fun b q p => ⟨p.ou 1 8 rfl, trivial⟩) ?_
  rintro a k ⟨⟨hg, hs, hd⟩, i8, _⟩
  refine wp_ret ?_
  obtain rfl := Option.some.inj hr
  exact retC1 rfl hd hg i8
 rw [if_neg (by rw [hc1971]; decide)] at hr
 refine wp_skip ?_
 refine wp_seq ?_
 obtain ⟨x1968_11, hx1968_11, hr⟩ := bind_some hr
 obtain ⟨x1968_5, hx1968_5, hx1968_11⟩ := ite_bind hx1968_11
 obtain ⟨x1968_9, hx1968_9, hx1968_11⟩ := ite_bind hx1968_11
 obtain ⟨x1968_22, hx1968_22, hr⟩ := bind_some hr
 obtain ⟨x1968_16, hx1968_16, hx1968_22⟩ := ite_bind hx1968_22
 obtain ⟨x1968_20, hx1968_20, hx1968_22⟩ := ite_bind hx1968_22
 refine cut (fun a' k' => Bs noF k0 38 a' k' ∧ (IsV x1968_22) (a'.get 8) k' ∧ True) ?_ hQ ?_
 ·intro Q1969 hQQ1969 hp1970
  refine region (a0 := a) (k0 := k) (n := 38) (m := 24) (⟨some (IsV x1963_0), [(9, none)]⟩ :: ⟨some (IsV x1963_0), [(15, some 0)]⟩ :: ⟨some (Gd (x1963_0 = true) (IsV s_)), [(0, none)]⟩ :: ⟨some (Gd (x1963_0 = true) (IsV p_)), [(5, none)]⟩ :: ⟨some (Gd (x1963_0 = true) (IsV q_)), [(6, none)]⟩ :: ⟨some (Gd (x1963_0 = true) (IsV x1968_5)), [(17, some 2), (18, some 3), (19, some 4)]⟩ :: ⟨some (Gd (x1963_0 = true) (IsV s_)), [(0, none)]⟩ :: ⟨some (Gd (x1963_0 = true) (IsV p_)), [(5, none)]⟩ :: ⟨some (Gd (x1963_0 = true) (IsV q_)), [(6, none)]⟩ :: ⟨some (Gd (x1963_0 = true) (IsV x1968_9)), [(21, some 6), (22, some 7), (23, some 8)]⟩ :: ⟨some (Gd (x1963_0 = true) (IsV (x1968_5 == x1968_9))), [(20, some 5), (24, some 9)]⟩ :: ⟨some (IsV x1968_11), [(16, some 1), (25, some 10)]⟩ :: ⟨some (IsV x1968_11), [(26, some 11)]⟩ :: ⟨some (Gd (x1968_11 = true) (IsV s_)), [(0, none)]⟩ :: ⟨some (Gd (x1968_11 = true) (IsV p_)), [(5, none)]⟩ :: ⟨some (Gd (x1968_11 = true) (IsV d_)), [(7, none)]⟩ :: ⟨some (Gd (x1968_11 = true) (IsV x1968_16)), [(28, some 13), (29, some 14), (30, some 15)]⟩ :: ⟨some (Gd (x1968_11 = true) (IsV s_)), [(0, none)]⟩ :: ⟨some (Gd (x1968_11 = true) (IsV p_)), [(5, none)]⟩ :: ⟨some (Gd (x1968_11 = true) (IsV d_)), [(7, none)]⟩ :: ⟨some (Gd (x1968_11 = true) (IsV x1968_20)), [(32, some 17), (33, some 18), (34, some 19)]⟩ :: ⟨some (Gd (x1968_11 = true) (IsV (x1968_16 == x1968_20))), [(31, some 16), (35, some 20)]⟩ :: ⟨some (IsV x1968_22), [(27, some 12), (36, some 21)]⟩ :: ⟨some (IsV x1968_22), [(37, some 22)]⟩ :: []) hmix hs (by kernel_rfl) ⟨ob1 rfl fun b q hk hn => ok_move rfl (up i9 hk hn.1), ob1 rfl fun b q hk hn => ok_move rfl hn.1, gdT rfl rfl fun hp b q hk hn => ok_move rfl (up i0 hk hn.1), gdT rfl rfl fun hp b q hk hn => ok_load rfl ty24 ((up i5 hk hn.1)).ptr, gdT rfl rfl fun hp b q hk hn => ok_load rfl ty24 ((up i6 hk hn.1)).ptr, gdT rfl rfl fun hp b q hk hn => ok_call rfl Try.call11 (sight_Blocked_ok (Gd.get hn.1 hp) (Gd.get hn.2.1 hp) (Gd.get hn.2.2.1 hp) (hx1968_5 hp)), gdT rfl rfl fun hp b q hk hn => ok_move rfl (up i0 hk hn.1), gdT rfl rfl fun hp b q hk hn => ok_load rfl ty24 ((up i5 hk hn.1)).ptr, gdT rfl rfl fun hp b q hk hn => ok_load rfl ty24 ((up i6 hk hn.1)).ptr, gdT rfl rfl fun hp b q hk hn => ok_call rfl Try.call12 (ref11_Blocked_ok (Gd.get hn.1 hp) (Gd.get hn.2.1 hp) (Gd.get hn.2.2.1 hp) (hx1968_9 hp)), gdT rfl rfl fun hp b q hk hn => ok_eqB rfl Try.underlying4 (Gd.get hn.1 hp) (Gd.get hn.2.1 hp), ob1 rfl fun b q hk hn => ok_pickM rfl hn.1 hx1968_11 (fun hm => (Gd.get hn.2.1 hm)) (fun _ => (isV_bool.2 rfl)), ob1 rfl fun b q hk hn => ok_move rfl hn.1, gdT rfl rfl fun hp b q hk hn => ok_move rfl (up i0 hk hn.1), gdT rfl rfl fun hp b q hk hn => ok_load rfl ty24 ((up i5 hk hn.1)).ptr, gdT rfl rfl fun hp b q hk hn => ok_load rfl ty24 ((up i7 hk hn.1)).ptr, gdT rfl rfl fun hp b q hk hn => ok_call rfl Try.call13 (sight_Ray_ok (Gd.get hn.1 hp) (Gd.get hn.2.1 hp) (Gd.get hn.2.2.1 hp) (hx1968_16 hp)), gdT rfl rfl fun hp b q hk hn => ok_move rfl (up i0 hk hn.1), gdT rfl rfl fun hp b q hk hn => ok_load rfl ty24 ((up i5 hk hn.1)).ptr, gdT rfl rfl fun hp b q hk hn => ok_load rfl ty24 ((up i7 hk hn.1)).ptr, gdT rfl rfl fun hp b q hk hn => ok_call rfl Try.call14 (ref11_Ray_ok (Gd.get hn.1 hp) (Gd.get hn.2.1 hp) (Gd.get hn.2.2.1 hp) (hx1968_20 hp)), gdT rfl rfl fun hp b q hk hn => ok_eqB rfl Try.underlying4 (Gd.get hn.1 hp) (Gd.get hn.2.1 hp), ob1 rfl fun b q hk hn => ok_pickM rfl hn.1 hx1968_22 (fun hm => (Gd.get hn.2.1 hm)) (fun _ => (isV_bool.2 rfl)), ob1 rfl fun b q hk hn => ok_assign rfl hn.1, trivial⟩ hQQ1969 fun b q p => ?_
  exact tail_done (k := q) (hp1970 _ _ ⟨Bs.post ⟨hg, hs, hd⟩ p, p.ou 23 8 rfl, trivial⟩)
 rintro a k ⟨⟨hg, hs, hd⟩, i8, _⟩
 refine wp_ret ?_
 obtain rfl := Option.some.inj hr
 exact retC1 rfl hd hg i8
end Go.Proofs.Ytbpecfmimgjakaa
