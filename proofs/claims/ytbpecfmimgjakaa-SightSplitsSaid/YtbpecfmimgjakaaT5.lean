/- What the functions compute that the law reaches, part 5 -/
import Derived.Test.YtbpecfmimgjakaaT4
namespace Go.Proofs.Ytbpecfmimgjakaa
open Go.Gb
set_option linter.unusedVariables false
set_option linter.unusedSimpArgs false
set_option maxRecDepth 100000
def sight_meets_L0 (p_ : Point3) (v_ : Point3) (t_ : SightInterval) (x1 : (List Box)) (s1 : Int) : Option (Flow (Int) (Bool)) :=
 if (decide (s1 < (x1.length : Int))) then
  (getI x1 s1).bind fun x2 =>
  (sight_interval_narrow t_ p_.X v_.X x2.Base.X0 x2.Base.X1).bind fun x3 =>
  (sight_interval_narrow x3 p_.Y v_.Y x2.Base.Y0 x2.Base.Y1).bind fun x4 =>
  (sight_interval_narrow x4 p_.Z v_.Z x2.Z0 x2.Z1).bind fun x5 =>
  (sight_interval_empty x5).bind fun x6 =>
  if (!x6) then
   some (.ret true)
  else
   (addI s1 1).bind fun x7 =>
   some (.go x7)
 else
  some (.ex 0 s1)
def sight_meets (s_ : (List Slab)) (p_ : Point3) (v_ : Point3) (t_ : SightInterval) : Option (Bool) :=
 (solid_Boxes s_).bind fun x1 =>
 (iterL (sight_meets_L0 p_ v_ t_ x1) (x1.length + 1) 0).bind fun f1 => match f1 with
  | .go _ => none
  | .ex _ _ =>
   some false
  | .ret r1 => some r1
theorem sight_meets_ok {k0 : K} {v0 v1 v2 v3 : Value} {s_ : (List Slab)} {p_ : Point3} {v_ : Point3} {t_ : SightInterval} {r : Bool} (i0 : (IsV s_) v0 k0) (i1 : (IsV p_) v1 k0) (i2 : (IsV v_) v2 k0) (i3 : (IsV t_) v3 k0) (hr : sight_meets s_ p_ v_ t_ = some r) :
  Calls Try.prog 27 #[v0, v1, v2, v3] k0.w (Ret k0 (IsV r)) := by
 unfold sight_meets at hr
 refine Ret.ofC ?_
 refine enterK Try.func27 rfl Try.ntmps27 (show 4 ≤ 59 by decide) fun a k hk0 hs hd ha => ?_
 obtain ⟨e0, e1, e2, e3, _⟩ := ha
 replace i0 : (IsV s_) (a.get 0) k := by rw [e0, hk0]; exact i0
 replace i1 : (IsV p_) (a.get 1) k := by rw [e1, hk0]; exact i1
 replace i2 : (IsV v_) (a.get 2) k := by rw [e2, hk0]; exact i2
 replace i3 : (IsV t_) (a.get 3) k := by rw [e3, hk0]; exact i3
 have hQ : Gb.LetsOut (bodyPost Try.prog Try.f27 (RetC noF k0 (IsV r))) := letsOutC
 have hg : Chg noF k0 k := by rw [hk0]; exact Chg.refl _ k0
 refine stepL 4 (⟨some (IsRef p_), [(1, none)]⟩ :: ⟨some (IsRef v_), [(2, none)]⟩ :: ⟨some (IsRef t_), [(3, none)]⟩ :: ⟨some (IsV false), []⟩ :: []) rfl ⟨hg, hs, hd⟩ (by kernel_rfl) ⟨ob1 rfl fun _ _ h n => ok_boxR rfl (up i1 h n.1), ob1 rfl fun _ _ h n => ok_boxR rfl (up i2 h n.1), ob1 rfl fun _ _ h n => ok_boxR rfl (up i3 h n.1), ob1 rfl fun _ _ h n => ok_assign rfl (isV_bool.2 rfl), trivial⟩ [⟨_, _⟩, ⟨_, _⟩, ⟨_, _⟩, ⟨_, _⟩] (fun b q p => ⟨p.ke 0 rfl i0, p.ou 0 5 rfl, p.ou 1 6 rfl, p.ou 2 7 rfl, trivial⟩) ?_
 rintro a k ⟨⟨hg, hs, hd⟩, i0, i5, i6, i7, _⟩
 refine wp_seq ?_
 refine wp_seq ?_
 obtain ⟨x1, hx1, hr⟩ := bind_some hr
 refine cut (fun a' k' => Bs noF k0 59 a' k' ∧ (IsRef p_) (a'.get 5) k' ∧ (IsRef v_) (a'.get 6) k' ∧ (IsRef t_) (a'.get 7) k' ∧ (IsV x1) (a'.get 14) k' ∧ (IsL x1) (a'.get 15) k' ∧ (IsI 0) (a'.get 16) k' ∧ True) ?_ hQ ?_
 ·intro Q1 W1 w1
  refine gS 4 (_ :: _ :: _ :: ⟨some (IsI 0), []⟩ :: []) hs (by kernel_rfl) ⟨mu rfl i0, o1 [(13, some 0)] rfl fun _ _ h n => ok_call rfl Try.call46 (solid_Boxes_ok n.1 hx1), o1 [(14, some 1)] rfl fun _ _ h n => ok_len rfl rfl Try.underlying31 (IsV.rd n.1), ob1 rfl fun _ _ h n => ok_move rfl (cI rfl), trivial⟩ W1 fun b q p => ?_
  exact tail_done (k := q) (w1 _ _ ⟨Bs.post ⟨hg, hs, hd⟩ p, p.ke 5 rfl i5, p.ke 6 rfl i6, p.ke 7 rfl i7, p.ou 1 14 rfl, p.ou 2 15 rfl, p.ou 3 16 rfl, trivial⟩)
 rintro a k ⟨⟨hg, hs, hd⟩, i5, i6, i7, i14, i15, i16, _⟩
 refine wp_block ?_
 obtain ⟨f1, hf1, hr⟩ := bind_some hr
 refine cutFe f1 (fun s' a' k' => Bs noF k0 59 a' k' ∧ (IsRef p_) (a'.get 5) k' ∧ (IsRef v_) (a'.get 6) k' ∧ (IsRef t_) (a'.get 7) k' ∧ (IsV x1) (a'.get 14) k' ∧ (IsL x1) (a'.get 15) k' ∧ (IsV s') (a'.get 16) k' ∧ True) (fun i' s' a' k' => (i' = 0 ∧ Bs noF k0 59 a' k' ∧ True)) (fun r' a' k' => bodyPost Try.prog Try.f27 (RetC noF k0 (IsV r')) .ret a' k'.w) ?_ hQ ?_ ?_ ?_
 ·intro Q2 W2 hgo hex hret
  refine sim_loop ?_ _ _ _ _ _ hf1 ⟨⟨hg, hs, hd⟩, i5, i6, i7, i14, i15, i16, trivial⟩ Q2 W2 hgo hex hret
  clear hr hf1 hgo hex hret W2 hQ hg hs hd i14 i15 i16 i5 i6 i7
  intro s1 fl_ a k hr hS Q hQ hgo1522 hex1523 hret1524
  obtain ⟨⟨hg, hs, hd⟩, i5, i6, i7, i14, i15, i16, _⟩ := hS
  unfold sight_meets_L0 at hr
  refine stepL 1 (_ :: []) rfl ⟨hg, hs, hd⟩ (by kernel_rfl) ⟨o1 [(16, none), (15, none)] rfl fun _ _ h n => ok_lss rfl (up i16 h n.1) (up i15 h n.2.1), trivial⟩ [⟨_, _⟩, ⟨_, _⟩, ⟨_, _⟩, ⟨_, _⟩, ⟨_, _⟩, ⟨_, _⟩, ⟨_, _⟩] (fun b q p => ⟨p.ke 5 rfl i5, p.ke 6 rfl i6, p.ke 7 rfl i7, p.ke 14 rfl i14, p.ke 15 rfl i15, p.ke 16 rfl i16, p.ou 0 17 rfl, trivial⟩) ?_
  rintro a k ⟨⟨hg, hs, hd⟩, i5, i6, i7, i14, i15, i16, i17, _⟩
  refine wp_seq ?_
  refine wp_cond_split (isBool i17) (fun hc1554 => ?_) (fun hc1554 => ?_)
  ·rw [if_pos hc1554] at hr
   refine wp_skip ?_
   refine wp_seq ?_
   refine wp_block ?_
   refine wp_seq ?_
   obtain ⟨x2, hx2, hr⟩ := bind_some hr
   refine cut (fun a' k' => Bs noF k0 59 a' k' ∧ (IsRef p_) (a'.get 5) k' ∧ (IsRef v_) (a'.get 6) k' ∧ (IsRef t_) (a'.get 7) k' ∧ (IsRef x2) (a'.get 10) k' ∧ (IsV x1) (a'.get 14) k' ∧ (IsL x1) (a'.get 15) k' ∧ (IsV s1) (a'.get 16) k' ∧ True) ?_ hQ ?_
   ·intro Q3 W3 w2
    refine gS 3 (_ :: _ :: ⟨some (IsBox k.w.heap.size (⟨(⟨0, 0, 0, 0⟩ : Rect), 0, 0⟩ : Box)), []⟩ :: []) hs (by kernel_rfl) ⟨o1 [(14, none), (16, none)] rfl fun _ _ h n => ok_indexAddr rfl Try.underlying31 ty37 (IsV.rd (up i14 h n.1)) (up i16 h n.2.1) hx2, o1 [(18, some 0)] rfl fun _ _ h n => ok_load rfl ty37 n.1, ob1 rfl fun _ _ h n => ok_alloc _ h.size rfl z37, trivial⟩ W3 fun b q p => ?_
    have hgq := hg.then p.grow
    have hsb := p.size.trans hs
    have hdb := p.defers.trans hd
    have j5 := p.ke 5 rfl i5
    have j6 := p.ke 6 rfl i6
    have j7 := p.ke 7 rfl i7
    obtain ⟨b10, j10, x10, z10⟩ : (IsBox k.w.heap.size (⟨(⟨0, 0, 0, 0⟩ : Rect), 0, 0⟩ : Box)) (b.get 10) q := p.ou 2 10 rfl
    replace x10 : Lo k (Eq b10) := Lo.eq x10
    have y10 : Lo k0 (Eq b10) := x10.chg hg
    have j14 := p.ke 14 rfl i14
    have j15 := p.ke 15 rfl i15
    have j16 := p.ke 16 rfl i16
    have j19 : (IsV x2) (b.get 19) q := p.ou 1 19 rfl
    have hns := z10.nshF
    refine tail_storeB (i := 3) rfl rfl rfl rfl szf37 (Upd.self (α := Box)) j10 z10 j19 fun q2 hch hz => ?_
    replace hgq := hgq.step hch y10.wr
    have hle := hch.le hns
    replace j5 := Pers.pers hle j5
    replace j6 := Pers.pers hle j6
    replace j7 := Pers.pers hle j7
    replace j14 := Pers.pers hle j14
    replace j15 := Pers.pers hle j15
    replace j16 := Pers.pers hle j16
    replace j19 := Pers.pers hle j19
    replace z10 := hz
    clear hns hle hch
    obtain ⟨q, hqq⟩ : ∃ q, q = q2 := ⟨q2, rfl⟩
    subst hqq
    obtain ⟨q2, hsh, jn⟩ := z10.give
    replace j5 := Pers.pers hsh.le j5
    replace j6 := Pers.pers hsh.le j6
    replace j7 := Pers.pers hsh.le j7
    replace j14 := Pers.pers hsh.le j14
    replace j15 := Pers.pers hsh.le j15
    replace j16 := Pers.pers hsh.le j16
    rw [← j10] at jn
    replace j10 := jn
    replace hgq := hgq.hand hsh y10.wr
    rw [← hsh.w]
    clear hsh
    obtain ⟨q, hqq⟩ : ∃ q, q = q2 := ⟨q2, rfl⟩
    subst hqq
    exact tail_done (k := q) (w2 _ _ ⟨⟨hgq, hsb, hdb⟩, j5, j6, j7, j10, j14, j15, j16, trivial⟩)
   rintro a k ⟨⟨hg, hs, hd⟩, i5, i6, i7, i10, i14, i15, i16, _⟩
   refine cutS (fun a' k' => Bs noF k0 59 a' k' ∧ (IsRef p_) (a'.get 5) k' ∧ (IsRef v_) (a'.get 6) k' ∧ (IsRef t_) (a'.get 7) k' ∧ (IsRef x2) (a'.get 10) k' ∧ (IsV x1) (a'.get 14) k' ∧ (IsL x1) (a'.get 15) k' ∧ (IsV s1) (a'.get 16) k' ∧ (∃ b11, a'.get 11 = .pointer (some ⟨b11, 0, none⟩) ∧ Lo k0 (Eq b11) ∧ Gb.Box b11 t_ k' ∧ True)) ?_ ?_
   ·intro Q4 W4 w3
    refine gS 2 (_ :: ⟨some (IsBox k.w.heap.size (⟨(⟨0, 0, false⟩ : SightBound), (⟨0, 0, false⟩ : SightBound), false, false⟩ : SightInterval)), []⟩ :: []) hs (by kernel_rfl) ⟨o1 [(7, none)] rfl fun _ _ h n => ok_load rfl ty55 ((up i7 h n.1)).ptr, ob1 rfl fun _ _ h n => ok_alloc _ h.size rfl z55, trivial⟩ W4 fun b q p => ?_
    have hgq := hg.then p.grow
    have hsb := p.size.trans hs
    have hdb := p.defers.trans hd
    have j5 := p.ke 5 rfl i5
    have j6 := p.ke 6 rfl i6
    have j7 := p.ke 7 rfl i7
    have j10 := p.ke 10 rfl i10
    obtain ⟨b11, j11, x11, z11⟩ : (IsBox k.w.heap.size (⟨(⟨0, 0, false⟩ : SightBound), (⟨0, 0, false⟩ : SightBound), false, false⟩ : SightInterval)) (b.get 11) q := p.ou 1 11 rfl
    replace x11 : Lo k (Eq b11) := Lo.eq x11
    have y11 : Lo k0 (Eq b11) := x11.chg hg
    have j14 := p.ke 14 rfl i14
    have j15 := p.ke 15 rfl i15
    have j16 := p.ke 16 rfl i16
    have j20 : (IsV t_) (b.get 20) q := p.ou 0 20 rfl
    have hns := z11.nshF
    refine tail_storeB (i := 2) rfl rfl rfl rfl szf55 (Upd.self (α := SightInterval)) j11 z11 j20 fun q2 hch hz => ?_
    replace hgq := hgq.step hch y11.wr
    have hle := hch.le hns
    replace j5 := Pers.pers hle j5
    replace j6 := Pers.pers hle j6
    replace j7 := Pers.pers hle j7
    replace j10 := Pers.pers hle j10
    replace j14 := Pers.pers hle j14
    replace j15 := Pers.pers hle j15
    replace j16 := Pers.pers hle j16
    replace j20 := Pers.pers hle j20
    replace z11 := hz
    clear hns hle hch
    obtain ⟨q, hqq⟩ : ∃ q, q = q2 := ⟨q2, rfl⟩
    subst hqq
    exact tail_done (k := q) (w3 _ _ ⟨⟨hgq, hsb, hdb⟩, j5, j6, j7, j10, j14, j15, j16, b11, j11, y11, z11, trivial⟩)
   rintro a k ⟨⟨hg, hs, hd⟩, i5, i6, i7, i10, i14, i15, i16, b11, i11, n11, c11, _⟩
   refine cutS (fun a' k' => Bs noF k0 59 a' k' ∧ (IsRef p_) (a'.get 5) k' ∧ (IsRef v_) (a'.get 6) k' ∧ (IsRef t_) (a'.get 7) k' ∧ (IsRef x2) (a'.get 10) k' ∧ a'.get 11 = .pointer (some ⟨b11, 0, none⟩) ∧ Lo k0 (Eq b11) ∧ Gb.Box b11 t_ k' ∧ (IsMV 47 b11) (a'.get 12) k' ∧ (IsV x1) (a'.get 14) k' ∧ (IsL x1) (a'.get 15) k' ∧ (IsV s1) (a'.get 16) k' ∧ True) ?_ ?_
   ·intro Q5 W5 w4
    refine gS 2 (⟨some (IsMV 47 b11), [(11, none)]⟩ :: _ :: []) hs (by kernel_rfl) ⟨ob1 rfl fun _ _ h n => ok_makeMV rfl (upE i11 n.1), cp 0 rfl rfl, trivial⟩ W5 fun b q p => ?_
    exact tail_done (k := q) (w4 _ _ ⟨Bs.post ⟨hg, hs, hd⟩ p, p.ke 5 rfl i5, p.ke 6 rfl i6, p.ke 7 rfl i7, p.ke 10 rfl i10, upE i11 (p.old 11 rfl), n11, Gb.Box.grow c11 p.grow, p.ou 1 12 rfl, p.ke 14 rfl i14, p.ke 15 rfl i15, p.ke 16 rfl i16, trivial⟩)
   rintro a k ⟨⟨hg, hs, hd⟩, i5, i6, i7, i10, i11, n11, c11, i12, i14, i15, i16, _⟩
   refine wp_seq ?_
   obtain ⟨x3, hx3, hr⟩ := bind_some hr
   refine cut (fun a' k' => Bs noF k0 59 a' k' ∧ (IsRef p_) (a'.get 5) k' ∧ (IsRef v_) (a'.get 6) k' ∧ (IsRef t_) (a'.get 7) k' ∧ (IsRef x2) (a'.get 10) k' ∧ a'.get 11 = .pointer (some ⟨b11, 0, none⟩) ∧ Lo k0 (Eq b11) ∧ Gb.Box b11 x3 k' ∧ (IsMV 47 b11) (a'.get 12) k' ∧ (IsV x1) (a'.get 14) k' ∧ (IsL x1) (a'.get 15) k' ∧ (IsV s1) (a'.get 16) k' ∧ True) ?_ hQ ?_
   ·intro Q6 W6 w5
    refine gS 11 (_ :: _ :: _ :: _ :: _ :: _ :: _ :: _ :: _ :: _ :: _ :: []) hs (by kernel_rfl) ⟨mu rfl i12, o1 [(5, none)] rfl fun _ _ h n => ok_fieldAddr rfl fo24_0 (at_Point3_0 _) ((up i5 h n.1)).ptr, o1 [(23, some 1)] rfl fun _ _ h n => ok_load rfl ty3 n.1, o1 [(6, none)] rfl fun _ _ h n => ok_fieldAddr rfl fo24_0 (at_Point3_0 _) ((up i6 h n.1)).ptr, o1 [(25, some 3)] rfl fun _ _ h n => ok_load rfl ty3 n.1, o1 [(10, none)] rfl fun _ _ h n => ok_fieldAddr rfl fo37_0 (at_Box_0 _) ((up i10 h n.1)).ptr, o1 [(27, some 5)] rfl fun _ _ h n => ok_fieldAddr rfl fo35_0 (at_Rect_0 _) n.1, o1 [(28, some 6)] rfl fun _ _ h n => ok_load rfl ty3 n.1, o1 [(10, none)] rfl fun _ _ h n => ok_fieldAddr rfl fo37_0 (at_Box_0 _) ((up i10 h n.1)).ptr, o1 [(30, some 8)] rfl fun _ _ h n => ok_fieldAddr rfl fo35_2 (at_Rect_2 _) n.1, o1 [(31, some 9)] rfl fun _ _ h n => ok_load rfl ty3 n.1, trivial⟩ W6 fun b q p => ?_
    have hgq := hg.then p.grow
    have hsb := p.size.trans hs
    have hdb := p.defers.trans hd
    have j5 := p.ke 5 rfl i5
    have j6 := p.ke 6 rfl i6
    have j7 := p.ke 7 rfl i7
    have j10 := p.ke 10 rfl i10
    have j11 := upE i11 (p.old 11 rfl)
    have z11 := Gb.Box.grow c11 p.grow
    have y11 := n11
    have j12 := p.ke 12 rfl i12
    have j14 := p.ke 14 rfl i14
    have j15 := p.ke 15 rfl i15
    have j16 := p.ke 16 rfl i16
    have j22 : (IsMV 47 b11) (b.get 22) q := p.ou 0 22 rfl
    have j24 : (IsV p_.X) (b.get 24) q := p.ou 2 24 rfl
    have j26 : (IsV v_.X) (b.get 26) q := p.ou 4 26 rfl
    have j29 : (IsV x2.Base.X0) (b.get 29) q := p.ou 7 29 rfl
    have j32 : (IsV x2.Base.X1) (b.get 32) q := p.ou 10 32 rfl
    have hns := z11.nshF
    refine tail_callMV (F := Eq b11) (i := 11) (d := 33) rfl rfl rfl rfl (by rw [hsb]; decide) j22 Try.call47 W6 (sight_interval_narrow_ok rfl z11 j24 j26 j29 j32 hx3) fun b2 q2 hsz hdf hoth hch hres => ?_
    have hle := hch.le hns
    replace j5 := Pers.pers hle j5
    replace j6 := Pers.pers hle j6
    replace j7 := Pers.pers hle j7
    replace j10 := Pers.pers hle j10
    replace j12 := Pers.pers hle j12
    replace j14 := Pers.pers hle j14
    replace j15 := Pers.pers hle j15
    replace j16 := Pers.pers hle j16
    replace j22 := Pers.pers hle j22
    replace j24 := Pers.pers hle j24
    replace j26 := Pers.pers hle j26
    replace j29 := Pers.pers hle j29
    replace j32 := Pers.pers hle j32
    replace hgq := hgq.step hch y11.wr
    replace z11 := hres
    rw [← hoth 5 (by decide)] at j5
    rw [← hoth 6 (by decide)] at j6
    rw [← hoth 7 (by decide)] at j7
    rw [← hoth 10 (by decide)] at j10
    rw [← hoth 11 (by decide)] at j11
    rw [← hoth 12 (by decide)] at j12
    rw [← hoth 14 (by decide)] at j14
    rw [← hoth 15 (by decide)] at j15
    rw [← hoth 16 (by decide)] at j16
    rw [← hoth 22 (by decide)] at j22
    rw [← hoth 24 (by decide)] at j24
    rw [← hoth 26 (by decide)] at j26
    rw [← hoth 29 (by decide)] at j29
    rw [← hoth 32 (by decide)] at j32
    replace hsb := hsz.trans hsb
    replace hdb := hdf.trans hdb
    clear hle hch hns hsz hdf hoth hres
    obtain ⟨b, hbb⟩ : ∃ b, b = b2 := ⟨b2, rfl⟩
    subst hbb
    obtain ⟨q, hqq⟩ : ∃ q, q = q2 := ⟨q2, rfl⟩
    subst hqq
    exact tail_done (k := q) (w5 _ _ ⟨⟨hgq, hsb, hdb⟩, j5, j6, j7, j10, j11, y11, z11, j12, j14, j15, j16, trivial⟩)
   rintro a k ⟨⟨hg, hs, hd⟩, i5, i6, i7, i10, i11, n11, c11, i12, i14, i15, i16, _⟩
   refine wp_seq ?_
   obtain ⟨x4, hx4, hr⟩ := bind_some hr
   refine cut (fun a' k' => Bs noF k0 59 a' k' ∧ (IsRef p_) (a'.get 5) k' ∧ (IsRef v_) (a'.get 6) k' ∧ (IsRef t_) (a'.get 7) k' ∧ (IsRef x2) (a'.get 10) k' ∧ a'.get 11 = .pointer (some ⟨b11, 0, none⟩) ∧ Lo k0 (Eq b11) ∧ Gb.Box b11 x4 k' ∧ (IsMV 47 b11) (a'.get 12) k' ∧ (IsV x1) (a'.get 14) k' ∧ (IsL x1) (a'.get 15) k' ∧ (IsV s1) (a'.get 16) k' ∧ True) ?_ hQ ?_
   ·intro Q7 W7 w6
    refine gS 11 (_ :: _ :: _ :: _ :: _ :: _ :: _ :: _ :: _ :: _ :: _ :: []) hs (by kernel_rfl) ⟨mu rfl i12, o1 [(5, none)] rfl fun _ _ h n => ok_fieldAddr rfl fo24_1 (at_Point3_1 _) ((up i5 h n.1)).ptr, o1 [(35, some 1)] rfl fun _ _ h n => ok_load rfl ty3 n.1, o1 [(6, none)] rfl fun _ _ h n => ok_fieldAddr rfl fo24_1 (at_Point3_1 _) ((up i6 h n.1)).ptr, o1 [(37, some 3)] rfl fun _ _ h n => ok_load rfl ty3 n.1, o1 [(10, none)] rfl fun _ _ h n => ok_fieldAddr rfl fo37_0 (at_Box_0 _) ((up i10 h n.1)).ptr, o1 [(39, some 5)] rfl fun _ _ h n => ok_fieldAddr rfl fo35_1 (at_Rect_1 _) n.1, o1 [(40, some 6)] rfl fun _ _ h n => ok_load rfl ty3 n.1, o1 [(10, none)] rfl fun _ _ h n => ok_fieldAddr rfl fo37_0 (at_Box_0 _) ((up i10 h n.1)).ptr, o1 [(42, some 8)] rfl fun _ _ h n => ok_fieldAddr rfl fo35_3 (at_Rect_3 _) n.1, o1 [(43, some 9)] rfl fun _ _ h n => ok_load rfl ty3 n.1, trivial⟩ W7 fun b q p => ?_
    have hgq := hg.then p.grow
    have hsb := p.size.trans hs
    have hdb := p.defers.trans hd
    have j5 := p.ke 5 rfl i5
    have j6 := p.ke 6 rfl i6
    have j7 := p.ke 7 rfl i7
    have j10 := p.ke 10 rfl i10
    have j11 := upE i11 (p.old 11 rfl)
    have z11 := Gb.Box.grow c11 p.grow
    have y11 := n11
    have j12 := p.ke 12 rfl i12
    have j14 := p.ke 14 rfl i14
    have j15 := p.ke 15 rfl i15
    have j16 := p.ke 16 rfl i16
    have j34 : (IsMV 47 b11) (b.get 34) q := p.ou 0 34 rfl
    have j36 : (IsV p_.Y) (b.get 36) q := p.ou 2 36 rfl
    have j38 : (IsV v_.Y) (b.get 38) q := p.ou 4 38 rfl
    have j41 : (IsV x2.Base.Y0) (b.get 41) q := p.ou 7 41 rfl
    have j44 : (IsV x2.Base.Y1) (b.get 44) q := p.ou 10 44 rfl
    have hns := z11.nshF
    refine tail_callMV (F := Eq b11) (i := 11) (d := 45) rfl rfl rfl rfl (by rw [hsb]; decide) j34 Try.call47 W7 (sight_interval_narrow_ok rfl z11 j36 j38 j41 j44 hx4) fun b2 q2 hsz hdf hoth hch hres => ?_
    have hle := hch.le hns
    replace j5 := Pers.pers hle j5
    replace j6 := Pers.pers hle j6
    replace j7 := Pers.pers hle j7
    replace j10 := Pers.pers hle j10
    replace j12 := Pers.pers hle j12
    replace j14 := Pers.pers hle j14
    replace j15 := Pers.pers hle j15
    replace j16 := Pers.pers hle j16
    replace j34 := Pers.pers hle j34
    replace j36 := Pers.pers hle j36
    replace j38 := Pers.pers hle j38
    replace j41 := Pers.pers hle j41
    replace j44 := Pers.pers hle j44
    replace hgq := hgq.step hch y11.wr
    replace z11 := hres
    rw [← hoth 5 (by decide)] at j5
    rw [← hoth 6 (by decide)] at j6
    rw [← hoth 7 (by decide)] at j7
    rw [← hoth 10 (by decide)] at j10
    rw [← hoth 11 (by decide)] at j11
    rw [← hoth 12 (by decide)] at j12
    rw [← hoth 14 (by decide)] at j14
    rw [← hoth 15 (by decide)] at j15
    rw [← hoth 16 (by decide)] at j16
    rw [← hoth 34 (by decide)] at j34
    rw [← hoth 36 (by decide)] at j36
    rw [← hoth 38 (by decide)] at j38
    rw [← hoth 41 (by decide)] at j41
    rw [← hoth 44 (by decide)] at j44
    replace hsb := hsz.trans hsb
    replace hdb := hdf.trans hdb
    clear hle hch hns hsz hdf hoth hres
    obtain ⟨b, hbb⟩ : ∃ b, b = b2 := ⟨b2, rfl⟩
    subst hbb
    obtain ⟨q, hqq⟩ : ∃ q, q = q2 := ⟨q2, rfl⟩
    subst hqq
    exact tail_done (k := q) (w6 _ _ ⟨⟨hgq, hsb, hdb⟩, j5, j6, j7, j10, j11, y11, z11, j12, j14, j15, j16, trivial⟩)
   rintro a k ⟨⟨hg, hs, hd⟩, i5, i6, i7, i10, i11, n11, c11, i12, i14, i15, i16, _⟩
   refine wp_seq ?_
   obtain ⟨x5, hx5, hr⟩ := bind_some hr
   refine cut (fun a' k' => Bs noF k0 59 a' k' ∧ (IsRef p_) (a'.get 5) k' ∧ (IsRef v_) (a'.get 6) k' ∧ (IsRef t_) (a'.get 7) k' ∧ a'.get 11 = .pointer (some ⟨b11, 0, none⟩) ∧ Lo k0 (Eq b11) ∧ Gb.Box b11 x5 k' ∧ (IsV x1) (a'.get 14) k' ∧ (IsL x1) (a'.get 15) k' ∧ (IsV s1) (a'.get 16) k' ∧ True) ?_ hQ ?_
   ·intro Q8 W8 w7
    refine gS 9 (_ :: _ :: _ :: _ :: _ :: _ :: _ :: _ :: _ :: []) hs (by kernel_rfl) ⟨mu rfl i12, o1 [(5, none)] rfl fun _ _ h n => ok_fieldAddr rfl fo24_2 (at_Point3_2 _) ((up i5 h n.1)).ptr, o1 [(47, some 1)] rfl fun _ _ h n => ok_load rfl ty3 n.1, o1 [(6, none)] rfl fun _ _ h n => ok_fieldAddr rfl fo24_2 (at_Point3_2 _) ((up i6 h n.1)).ptr, o1 [(49, some 3)] rfl fun _ _ h n => ok_load rfl ty3 n.1, o1 [(10, none)] rfl fun _ _ h n => ok_fieldAddr rfl fo37_1 (at_Box_1 _) ((up i10 h n.1)).ptr, o1 [(51, some 5)] rfl fun _ _ h n => ok_load rfl ty3 n.1, o1 [(10, none)] rfl fun _ _ h n => ok_fieldAddr rfl fo37_2 (at_Box_2 _) ((up i10 h n.1)).ptr, o1 [(53, some 7)] rfl fun _ _ h n => ok_load rfl ty3 n.1, trivial⟩ W8 fun b q p => ?_
    have hgq := hg.then p.grow
    have hsb := p.size.trans hs
    have hdb := p.defers.trans hd
    have j5 := p.ke 5 rfl i5
    have j6 := p.ke 6 rfl i6
    have j7 := p.ke 7 rfl i7
    have j11 := upE i11 (p.old 11 rfl)
    have z11 := Gb.Box.grow c11 p.grow
    have y11 := n11
    have j14 := p.ke 14 rfl i14
    have j15 := p.ke 15 rfl i15
    have j16 := p.ke 16 rfl i16
    have j46 : (IsMV 47 b11) (b.get 46) q := p.ou 0 46 rfl
    have j48 : (IsV p_.Z) (b.get 48) q := p.ou 2 48 rfl
    have j50 : (IsV v_.Z) (b.get 50) q := p.ou 4 50 rfl
    have j52 : (IsV x2.Z0) (b.get 52) q := p.ou 6 52 rfl
    have j54 : (IsV x2.Z1) (b.get 54) q := p.ou 8 54 rfl
    have hns := z11.nshF
    refine tail_callMV (F := Eq b11) (i := 9) (d := 55) rfl rfl rfl rfl (by rw [hsb]; decide) j46 Try.call47 W8 (sight_interval_narrow_ok rfl z11 j48 j50 j52 j54 hx5) fun b2 q2 hsz hdf hoth hch hres => ?_
    have hle := hch.le hns
    replace j5 := Pers.pers hle j5
    replace j6 := Pers.pers hle j6
    replace j7 := Pers.pers hle j7
    replace j14 := Pers.pers hle j14
    replace j15 := Pers.pers hle j15
    replace j16 := Pers.pers hle j16
    replace j46 := Pers.pers hle j46
    replace j48 := Pers.pers hle j48
    replace j50 := Pers.pers hle j50
    replace j52 := Pers.pers hle j52
    replace j54 := Pers.pers hle j54
    replace hgq := hgq.step hch y11.wr
    replace z11 := hres
    rw [← hoth 5 (by decide)] at j5
    rw [← hoth 6 (by decide)] at j6
    rw [← hoth 7 (by decide)] at j7
    rw [← hoth 11 (by decide)] at j11
    rw [← hoth 14 (by decide)] at j14
    rw [← hoth 15 (by decide)] at j15
    rw [← hoth 16 (by decide)] at j16
    rw [← hoth 46 (by decide)] at j46
    rw [← hoth 48 (by decide)] at j48
    rw [← hoth 50 (by decide)] at j50
    rw [← hoth 52 (by decide)] at j52
    rw [← hoth 54 (by decide)] at j54
    replace hsb := hsz.trans hsb
    replace hdb := hdf.trans hdb
    clear hle hch hns hsz hdf hoth hres
    obtain ⟨b, hbb⟩ : ∃ b, b = b2 := ⟨b2, rfl⟩
    subst hbb
    obtain ⟨q, hqq⟩ : ∃ q, q = q2 := ⟨q2, rfl⟩
    subst hqq
    exact tail_done (k := q) (w7 _ _ ⟨⟨hgq, hsb, hdb⟩, j5, j6, j7, j11, y11, z11, j14, j15, j16, trivial⟩)
   rintro a k ⟨⟨hg, hs, hd⟩, i5, i6, i7, i11, n11, c11, i14, i15, i16, _⟩
   refine wp_seq ?_
   obtain ⟨x6, hx6, hr⟩ := bind_some hr
   refine cut (fun a' k' => Bs noF k0 59 a' k' ∧ (IsRef p_) (a'.get 5) k' ∧ (IsRef v_) (a'.get 6) k' ∧ (IsRef t_) (a'.get 7) k' ∧ (IsV x1) (a'.get 14) k' ∧ (IsL x1) (a'.get 15) k' ∧ (IsV s1) (a'.get 16) k' ∧ (IsV (!x6)) (a'.get 57) k' ∧ True) ?_ hQ ?_
   ·intro Q9 W9 w8
    refine regionS (a0 := a) (k0 := k) (n := 59) (m := 0) ([]) hs (by kernel_rfl) trivial W9 fun b q p => ?_
    have hgq := hg.then p.grow
    have hsb := p.size.trans hs
    have hdb := p.defers.trans hd
    have j5 := p.ke 5 rfl i5
    have j6 := p.ke 6 rfl i6
    have j7 := p.ke 7 rfl i7
    have j11 := upE i11 (p.old 11 rfl)
    have z11 := Gb.Box.grow c11 p.grow
    have y11 := n11
    have j14 := p.ke 14 rfl i14
    have j15 := p.ke 15 rfl i15
    have j16 := p.ke 16 rfl i16
    obtain ⟨q2, hsh, jn⟩ := z11.give
    replace j5 := Pers.pers hsh.le j5
    replace j6 := Pers.pers hsh.le j6
    replace j7 := Pers.pers hsh.le j7
    replace j14 := Pers.pers hsh.le j14
    replace j15 := Pers.pers hsh.le j15
    replace j16 := Pers.pers hsh.le j16
    rw [← j11] at jn
    replace j11 := jn
    replace hgq := hgq.hand hsh y11.wr
    rw [← hsh.w]
    clear hsh
    obtain ⟨q, hqq⟩ : ∃ q, q = q2 := ⟨q2, rfl⟩
    subst hqq
    refine tail_call (F := noF) (i := 0) (d := 56) rfl rfl rfl rfl (by rw [hsb]; decide) Try.call48 W9 (Ret.toC (sight_interval_empty_ok j11 hx6)) fun b2 q2 hsz hdf hoth hch hres => ?_
    have hgr := hch.grow
    replace j5 := Pers.pers hgr.le j5
    replace j6 := Pers.pers hgr.le j6
    replace j7 := Pers.pers hgr.le j7
    replace j11 := Pers.pers hgr.le j11
    replace j14 := Pers.pers hgr.le j14
    replace j15 := Pers.pers hgr.le j15
    replace j16 := Pers.pers hgr.le j16
    replace hgq := hgq.then hgr
    rw [← hoth 5 (by decide)] at j5
    rw [← hoth 6 (by decide)] at j6
    rw [← hoth 7 (by decide)] at j7
    rw [← hoth 11 (by decide)] at j11
    rw [← hoth 14 (by decide)] at j14
    rw [← hoth 15 (by decide)] at j15
    rw [← hoth 16 (by decide)] at j16
    have j56 : (IsV x6) (b2.get 56) q2 := hres
    replace hsb := hsz.trans hsb
    replace hdb := hdf.trans hdb
    clear hch hgr hres hsz hdf hoth
    obtain ⟨b, hbb⟩ : ∃ b, b = b2 := ⟨b2, rfl⟩
    subst hbb
    obtain ⟨q, hqq⟩ : ∃ q, q = q2 := ⟨q2, rfl⟩
    subst hqq
    refine tail_does (R := (IsV (!x6))) (i := 1) (d := 57) rfl rfl rfl (by rw [hsb]; decide) W9 (ok_not rfl j56) fun b2 q2 hsz hdf hoth hgr hnew => ?_
    replace j5 := Pers.pers hgr.le j5
    replace j6 := Pers.pers hgr.le j6
    replace j7 := Pers.pers hgr.le j7
    replace j11 := Pers.pers hgr.le j11
    replace j14 := Pers.pers hgr.le j14
    replace j15 := Pers.pers hgr.le j15
    replace j16 := Pers.pers hgr.le j16
    replace j56 := Pers.pers hgr.le j56
    replace hgq := hgq.then hgr
    rw [← hoth 5 (by decide)] at j5
    rw [← hoth 6 (by decide)] at j6
    rw [← hoth 7 (by decide)] at j7
    rw [← hoth 11 (by decide)] at j11
    rw [← hoth 14 (by decide)] at j14
    rw [← hoth 15 (by decide)] at j15
    rw [← hoth 16 (by decide)] at j16
    rw [← hoth 56 (by decide)] at j56
    have j57 := hnew
    replace hsb := hsz.trans hsb
    replace hdb := hdf.trans hdb
    clear hgr hsz hdf hoth hnew
    obtain ⟨b, hbb⟩ : ∃ b, b = b2 := ⟨b2, rfl⟩
    subst hbb
    obtain ⟨q, hqq⟩ : ∃ q, q = q2 := ⟨q2, rfl⟩
    subst hqq
    exact tail_done (k := q) (w8 _ _ ⟨⟨hgq, hsb, hdb⟩, j5, j6, j7, j14, j15, j16, j57, trivial⟩)
   rintro a k ⟨⟨hg, hs, hd⟩, i5, i6, i7, i14, i15, i16, i57, _⟩
   refine wp_cond_split (isBool i57) (fun hc1539 => ?_) (fun hc1539 => ?_)
   ·rw [if_pos hc1539] at hr
    refine stepL 1 (⟨some (IsV true), []⟩ :: []) rfl ⟨hg, hs, hd⟩ (by kernel_rfl) ⟨ob1 rfl fun _ _ h n => ok_assign rfl (isV_bool.2 rfl), trivial⟩ [⟨_, _⟩] (fun b q p => ⟨p.ou 0 8 rfl, trivial⟩) ?_
    rintro a k ⟨⟨hg, hs, hd⟩, i8, _⟩
    refine wp_ret ?_
    exact hret1524 _ _ _ (Option.some.inj hr).symm (retC1 rfl hd hg i8)
   rw [if_neg (by rw [hc1539]; decide)] at hr
   refine wp_skip ?_
   obtain ⟨x7, hx7, hr⟩ := bind_some hr
   refine cut (fun a' k' => Bs noF k0 59 a' k' ∧ (IsRef p_) (a'.get 5) k' ∧ (IsRef v_) (a'.get 6) k' ∧ (IsRef t_) (a'.get 7) k' ∧ (IsV x1) (a'.get 14) k' ∧ (IsL x1) (a'.get 15) k' ∧ (IsV x7) (a'.get 16) k' ∧ True) ?_ hQ ?_
   ·intro Q10 W10 w9
    refine gS 2 (_ :: _ :: []) hs (by kernel_rfl) ⟨o1 [(16, none)] rfl fun _ _ h n => ok_add rfl (up i16 h n.1) (cI rfl) hx7, cm 0 rfl rfl, trivial⟩ W10 fun b q p => ?_
    exact tail_done (k := q) (w9 _ _ ⟨Bs.post ⟨hg, hs, hd⟩ p, p.ke 5 rfl i5, p.ke 6 rfl i6, p.ke 7 rfl i7, p.ke 14 rfl i14, p.ke 15 rfl i15, p.ou 1 16 rfl, trivial⟩)
   rintro a k ⟨⟨hg, hs, hd⟩, i5, i6, i7, i14, i15, i16, _⟩
   exact hgo1522 _ _ _ (Option.some.inj hr).symm ⟨⟨hg, hs, hd⟩, i5, i6, i7, i14, i15, i16, trivial⟩
  rw [if_neg (by rw [hc1554]; decide)] at hr
  refine wp_exit ?_
  exact hex1523 _ _ _ _ (Option.some.inj hr).symm ⟨rfl, ⟨hg, hs, hd⟩, trivial⟩
 ·rintro r1 a k rfl hR
  dsimp only at hr
  obtain rfl := Option.some.inj hr
  exact hR
 ·rintro _ _ _ rfl _
  simp at hr
 clear hf1
 rintro _ s2 a k rfl ⟨rfl, ⟨hg, hs, hd⟩, _⟩
 dsimp only at hr
 refine stepL 1 (⟨some (IsV false), []⟩ :: []) rfl ⟨hg, hs, hd⟩ (by kernel_rfl) ⟨ob1 rfl fun _ _ h n => ok_assign rfl (isV_bool.2 rfl), trivial⟩ [⟨_, _⟩] (fun b q p => ⟨p.ou 0 8 rfl, trivial⟩) ?_
 rintro a k ⟨⟨hg, hs, hd⟩, i8, _⟩
 refine wp_ret ?_
 obtain rfl := Option.some.inj hr
 exact retC1 rfl hd hg i8
def sight_Blocked (s_ : (List Slab)) (p_ : Point3) (q_ : Point3) : Option (Bool) :=
 (sight_on p_).bind fun x1 =>
 (if (!x1) then
  some true
 else
  (sight_on q_).bind fun x2 =>
  some (!x2)).bind fun x3 =>
 if x3 then
  some false
 else
  (subI q_.X p_.X).bind fun x4 =>
  (subI q_.Y p_.Y).bind fun x5 =>
  (subI q_.Z p_.Z).bind fun x6 =>
  (sight_meets s_ p_ (⟨x4, x5, x6⟩ : Point3) (⟨(⟨0, 1, true⟩ : SightBound), (⟨1, 1, true⟩ : SightBound), true, false⟩ : SightInterval)).bind fun x7 =>
  some x7
theorem sight_Blocked_ok {k0 : K} {v0 v1 v2 : Value} {s_ : (List Slab)} {p_ : Point3} {q_ : Point3} {r : Bool} (i0 : (IsV s_) v0 k0) (i1 : (IsV p_) v1 k0) (i2 : (IsV q_) v2 k0) (hr : sight_Blocked s_ p_ q_ = some r) :
  Calls Try.prog 11 #[v0, v1, v2] k0.w (Ret k0 (IsV r)) := by
 unfold sight_Blocked at hr
 refine Ret.ofC ?_
 refine enterK Try.func11 rfl Try.ntmps11 (show 3 ≤ 39 by decide) fun a k hk0 hs hd ha => ?_
 obtain ⟨e0, e1, e2, _⟩ := ha
 replace i0 : (IsV s_) (a.get 0) k := by rw [e0, hk0]; exact i0
 replace i1 : (IsV p_) (a.get 1) k := by rw [e1, hk0]; exact i1
 replace i2 : (IsV q_) (a.get 2) k := by rw [e2, hk0]; exact i2
 have hQ : Gb.LetsOut (bodyPost Try.prog Try.f11 (RetC noF k0 (IsV r))) := letsOutC
 have hg : Chg noF k0 k := by rw [hk0]; exact Chg.refl _ k0
 refine stepL 3 (⟨some (IsRef p_), [(1, none)]⟩ :: ⟨some (IsRef q_), [(2, none)]⟩ :: ⟨some (IsV false), []⟩ :: []) rfl ⟨hg, hs, hd⟩ (by kernel_rfl) ⟨ob1 rfl fun _ _ h n => ok_boxR rfl (up i1 h n.1), ob1 rfl fun _ _ h n => ok_boxR rfl (up i2 h n.1), ob1 rfl fun _ _ h n => ok_assign rfl (isV_bool.2 rfl), trivial⟩ [⟨_, _⟩, ⟨_, _⟩, ⟨_, _⟩] (fun b q p => ⟨p.ke 0 rfl i0, p.ou 0 4 rfl, p.ou 1 5 rfl, trivial⟩) ?_
 rintro a k ⟨⟨hg, hs, hd⟩, i0, i4, i5, _⟩
 refine wp_seq ?_
 refine wp_seq ?_
 obtain ⟨x1, hx1, hr⟩ := bind_some hr
 obtain ⟨x2, hx2, hr⟩ := bind_some hr
 obtain ⟨x3, hx3, hx2⟩ := ite_bindF hx2
 refine cut (fun a' k' => Bs noF k0 39 a' k' ∧ (IsV s_) (a'.get 0) k' ∧ (IsRef p_) (a'.get 4) k' ∧ (IsRef q_) (a'.get 5) k' ∧ (IsV x2) (a'.get 15) k' ∧ True) ?_ hQ ?_
 ·intro Q1 W1 w1
  refine gS 8 (_ :: _ :: _ :: _ :: _ :: _ :: _ :: _ :: []) hs (by kernel_rfl) ⟨o1 [(4, none)] rfl fun _ _ h n => ok_load rfl ty24 ((up i4 h n.1)).ptr, o1 [(8, some 0)] rfl fun _ _ h n => ok_call rfl Try.call26 (sight_on_ok n.1 hx1), o1 [(9, some 1)] rfl fun _ _ h n => ok_not rfl n.1, cm 2 rfl rfl, gF [(5, none)] rfl rfl fun hp _ _ h n => ok_load rfl ty24 ((up i5 h n.1)).ptr, gF [(12, some 4)] rfl rfl fun hp _ _ h n => ok_call rfl Try.call26 (sight_on_ok (Gd.get n.1 hp) (hx3 hp)), gF [(13, some 5)] rfl rfl fun hp _ _ h n => ok_not rfl (Gd.get n.1 hp), o1 [(11, some 3), (14, some 6)] rfl fun _ _ h n => ok_pickM rfl n.1 hx2 (cB rfl) (Gd.get n.2.1), trivial⟩ W1 fun b q p => ?_
  exact tail_done (k := q) (w1 _ _ ⟨Bs.post ⟨hg, hs, hd⟩ p, p.ke 0 rfl i0, p.ke 4 rfl i4, p.ke 5 rfl i5, p.ou 7 15 rfl, trivial⟩)
 rintro a k ⟨⟨hg, hs, hd⟩, i0, i4, i5, i15, _⟩
 refine wp_cond_split (isBool i15) (fun hc1579 => ?_) (fun hc1579 => ?_)
 ·rw [if_pos hc1579] at hr
  refine stepL 1 (⟨some (IsV false), []⟩ :: []) rfl ⟨hg, hs, hd⟩ (by kernel_rfl) ⟨ob1 rfl fun _ _ h n => ok_assign rfl (isV_bool.2 rfl), trivial⟩ [⟨_, _⟩] (fun b q p => ⟨p.ou 0 6 rfl, trivial⟩) ?_
  rintro a k ⟨⟨hg, hs, hd⟩, i6, _⟩
  refine wp_ret ?_
  obtain rfl := Option.some.inj hr
  exact retC1 rfl hd hg i6
 rw [if_neg (by rw [hc1579]; decide)] at hr
 refine wp_skip ?_
 refine cutL noF k0 39 [⟨0, IsV s_⟩, ⟨4, IsRef p_⟩, ⟨5, IsRef q_⟩, ⟨7, IsRef (⟨(⟨0, 1, true⟩ : SightBound), (⟨1, 1, true⟩ : SightBound), true, false⟩ : SightInterval)⟩] ?_ ?_
 ·intro Q2 W2 w2
  refine gS 4 (⟨some (IsV (⟨0, 1, true⟩ : SightBound)), []⟩ :: ⟨some (IsV (⟨1, 1, true⟩ : SightBound)), []⟩ :: ⟨some (IsV (⟨(⟨0, 1, true⟩ : SightBound), (⟨1, 1, true⟩ : SightBound), true, false⟩ : SightInterval)), [(16, some 0), (17, some 1)]⟩ :: ⟨some (IsBox k.w.heap.size (⟨(⟨0, 0, false⟩ : SightBound), (⟨0, 0, false⟩ : SightBound), false, false⟩ : SightInterval)), []⟩ :: []) hs (by kernel_rfl) ⟨ob1 rfl fun _ _ h n => ok_build rfl (bld53_0_1_2 (cI rfl) (cI rfl) (isV_bool.2 rfl)), ob1 rfl fun _ _ h n => ok_build rfl (bld53_0_1_2 (cI rfl) (cI rfl) (isV_bool.2 rfl)), ob1 rfl fun _ _ h n => ok_build rfl (bld55_0_1_2 n.1 n.2.1 (isV_bool.2 rfl)), ob1 rfl fun _ _ h n => ok_alloc _ h.size rfl z55, trivial⟩ W2 fun b q p => ?_
  have hgq := hg.then p.grow
  have hsb := p.size.trans hs
  have hdb := p.defers.trans hd
  have j0 := p.ke 0 rfl i0
  have j4 := p.ke 4 rfl i4
  have j5 := p.ke 5 rfl i5
  obtain ⟨b7, j7, x7, z7⟩ : (IsBox k.w.heap.size (⟨(⟨0, 0, false⟩ : SightBound), (⟨0, 0, false⟩ : SightBound), false, false⟩ : SightInterval)) (b.get 7) q := p.ou 3 7 rfl
  replace x7 : Lo k (Eq b7) := Lo.eq x7
  have y7 : Lo k0 (Eq b7) := x7.chg hg
  have j18 : (IsV (⟨(⟨0, 1, true⟩ : SightBound), (⟨1, 1, true⟩ : SightBound), true, false⟩ : SightInterval)) (b.get 18) q := p.ou 2 18 rfl
  have hns := z7.nshF
  refine tail_storeB (i := 4) rfl rfl rfl rfl szf55 (Upd.self (α := SightInterval)) j7 z7 j18 fun q2 hch hz => ?_
  replace hgq := hgq.step hch y7.wr
  have hle := hch.le hns
  replace j0 := Pers.pers hle j0
  replace j4 := Pers.pers hle j4
  replace j5 := Pers.pers hle j5
  replace j18 := Pers.pers hle j18
  replace z7 := hz
  clear hns hle hch
  obtain ⟨q, hqq⟩ : ∃ q, q = q2 := ⟨q2, rfl⟩
  subst hqq
  obtain ⟨q2, hsh, jn⟩ := z7.give
  replace j0 := Pers.pers hsh.le j0
  replace j4 := Pers.pers hsh.le j4
  replace j5 := Pers.pers hsh.le j5
  rw [← j7] at jn
  replace j7 := jn
  replace hgq := hgq.hand hsh y7.wr
  rw [← hsh.w]
  clear hsh
  obtain ⟨q, hqq⟩ : ∃ q, q = q2 := ⟨q2, rfl⟩
  subst hqq
  exact tail_done (k := q) (w2 _ _ ⟨⟨hgq, hsb, hdb⟩, j0, j4, j5, j7, trivial⟩)
 rintro a k ⟨⟨hg, hs, hd⟩, i0, i4, i5, i7, _⟩
 refine wp_seq ?_
 obtain ⟨x4, hx4, hr⟩ := bind_some hr
 obtain ⟨x5, hx5, hr⟩ := bind_some hr
 obtain ⟨x6, hx6, hr⟩ := bind_some hr
 obtain ⟨x8, hx8, hr⟩ := bind_some hr
 refine cut (fun a' k' => Bs noF k0 39 a' k' ∧ (IsV x8) (a'.get 6) k' ∧ True) ?_ hQ ?_
 ·intro Q3 W3 w3
  refine gS 21 (_ :: _ :: _ :: _ :: _ :: _ :: _ :: _ :: _ :: _ :: _ :: _ :: _ :: _ :: _ :: _ :: _ :: ⟨some (IsV (⟨x4, x5, x6⟩ : Point3)), [(25, some 6), (30, some 11), (35, some 16)]⟩ :: _ :: _ :: _ :: []) hs (by kernel_rfl) ⟨mu rfl i0, o1 [(4, none)] rfl fun _ _ h n => ok_load rfl ty24 ((up i4 h n.1)).ptr, o1 [(5, none)] rfl fun _ _ h n => ok_fieldAddr rfl fo24_0 (at_Point3_0 _) ((up i5 h n.1)).ptr, o1 [(21, some 2)] rfl fun _ _ h n => ok_load rfl ty3 n.1, o1 [(4, none)] rfl fun _ _ h n => ok_fieldAddr rfl fo24_0 (at_Point3_0 _) ((up i4 h n.1)).ptr, o1 [(23, some 4)] rfl fun _ _ h n => ok_load rfl ty3 n.1, o1 [(22, some 3), (24, some 5)] rfl fun _ _ h n => ok_sub rfl n.1 n.2.1 hx4, o1 [(5, none)] rfl fun _ _ h n => ok_fieldAddr rfl fo24_1 (at_Point3_1 _) ((up i5 h n.1)).ptr, o1 [(26, some 7)] rfl fun _ _ h n => ok_load rfl ty3 n.1, o1 [(4, none)] rfl fun _ _ h n => ok_fieldAddr rfl fo24_1 (at_Point3_1 _) ((up i4 h n.1)).ptr, o1 [(28, some 9)] rfl fun _ _ h n => ok_load rfl ty3 n.1, o1 [(27, some 8), (29, some 10)] rfl fun _ _ h n => ok_sub rfl n.1 n.2.1 hx5, o1 [(5, none)] rfl fun _ _ h n => ok_fieldAddr rfl fo24_2 (at_Point3_2 _) ((up i5 h n.1)).ptr, o1 [(31, some 12)] rfl fun _ _ h n => ok_load rfl ty3 n.1, o1 [(4, none)] rfl fun _ _ h n => ok_fieldAddr rfl fo24_2 (at_Point3_2 _) ((up i4 h n.1)).ptr, o1 [(33, some 14)] rfl fun _ _ h n => ok_load rfl ty3 n.1, o1 [(32, some 13), (34, some 15)] rfl fun _ _ h n => ok_sub rfl n.1 n.2.1 hx6, ob1 rfl fun _ _ h n => ok_build rfl (bld24_0_1_2 n.1 n.2.1 n.2.2.1), o1 [(7, none)] rfl fun _ _ h n => ok_load rfl ty55 ((up i7 h n.1)).ptr, o1 [(19, some 0), (20, some 1), (36, some 17), (37, some 18)] rfl fun _ _ h n => ok_call rfl Try.call27 (sight_meets_ok n.1 n.2.1 n.2.2.1 n.2.2.2.1 hx8), cp 19 rfl rfl, trivial⟩ W3 fun b q p => ?_
  exact tail_done (k := q) (w3 _ _ ⟨Bs.post ⟨hg, hs, hd⟩ p, p.ou 20 6 rfl, trivial⟩)
 rintro a k ⟨⟨hg, hs, hd⟩, i6, _⟩
 refine wp_ret ?_
 obtain rfl := Option.some.inj hr
 exact retC1 rfl hd hg i6
def sight_Ray (s_ : (List Slab)) (p_ : Point3) (d_ : Point3) : Option (Bool) :=
 (sight_on p_).bind fun x1 =>
 if ((((!x1) || (decide (d_ = (⟨0, 0, 0⟩ : Point3)))) || (decide ((min (min d_.X d_.Y) d_.Z) < (-1048576)))) || (decide (1048576 < (max (max d_.X d_.Y) d_.Z)))) then
  some false
 else
  (sight_meets s_ p_ d_ (⟨(⟨0, 1, true⟩ : SightBound), (⟨0, 0, false⟩ : SightBound), false, false⟩ : SightInterval)).bind fun x2 =>
  some x2
theorem sight_Ray_ok {k0 : K} {v0 v1 v2 : Value} {s_ : (List Slab)} {p_ : Point3} {d_ : Point3} {r : Bool} (i0 : (IsV s_) v0 k0) (i1 : (IsV p_) v1 k0) (i2 : (IsV d_) v2 k0) (hr : sight_Ray s_ p_ d_ = some r) :
  Calls Try.prog 13 #[v0, v1, v2] k0.w (Ret k0 (IsV r)) := by
 unfold sight_Ray at hr
 refine Ret.ofC ?_
 refine enterK Try.func13 rfl Try.ntmps13 (show 3 ≤ 41 by decide) fun a k hk0 hs hd ha => ?_
 obtain ⟨e0, e1, e2, _⟩ := ha
 replace i0 : (IsV s_) (a.get 0) k := by rw [e0, hk0]; exact i0
 replace i1 : (IsV p_) (a.get 1) k := by rw [e1, hk0]; exact i1
 replace i2 : (IsV d_) (a.get 2) k := by rw [e2, hk0]; exact i2
 have hQ : Gb.LetsOut (bodyPost Try.prog Try.f13 (RetC noF k0 (IsV r))) := letsOutC
 have hg : Chg noF k0 k := by rw [hk0]; exact Chg.refl _ k0
 refine stepL 3 (⟨some (IsRef p_), [(1, none)]⟩ :: ⟨some (IsRef d_), [(2, none)]⟩ :: ⟨some (IsV false), []⟩ :: []) rfl ⟨hg, hs, hd⟩ (by kernel_rfl) ⟨ob1 rfl fun _ _ h n => ok_boxR rfl (up i1 h n.1), ob1 rfl fun _ _ h n => ok_boxR rfl (up i2 h n.1), ob1 rfl fun _ _ h n => ok_assign rfl (isV_bool.2 rfl), trivial⟩ [⟨_, _⟩, ⟨_, _⟩, ⟨_, _⟩] (fun b q p => ⟨p.ke 0 rfl i0, p.ou 0 4 rfl, p.ou 1 5 rfl, trivial⟩) ?_
 rintro a k ⟨⟨hg, hs, hd⟩, i0, i4, i5, _⟩
 refine wp_seq ?_
 refine wp_seq ?_
 obtain ⟨x1, hx1, hr⟩ := bind_some hr
 refine cut (fun a' k' => Bs noF k0 41 a' k' ∧ (IsV s_) (a'.get 0) k' ∧ (IsRef p_) (a'.get 4) k' ∧ (IsRef d_) (a'.get 5) k' ∧ (IsV ((((!x1) || (decide (d_ = (⟨0, 0, 0⟩ : Point3)))) || (decide ((min (min d_.X d_.Y) d_.Z) < (-1048576)))) || (decide (1048576 < (max (max d_.X d_.Y) d_.Z))))) (a'.get 34) k' ∧ True) ?_ hQ ?_
 ·intro Q1 W1 w1
  refine gS 28 (_ :: _ :: _ :: _ :: _ :: ⟨some (Gd ((!x1) = false) (IsV (⟨0, 0, 0⟩ : Point3))), []⟩ :: ⟨some (Gd ((!x1) = false) (IsV (decide (d_ = (⟨0, 0, 0⟩ : Point3))))), [(11, some 4), (12, some 5)]⟩ :: _ :: _ :: _ :: _ :: _ :: _ :: _ :: _ :: _ :: _ :: _ :: _ :: _ :: _ :: _ :: _ :: _ :: _ :: _ :: _ :: _ :: []) hs (by kernel_rfl) ⟨o1 [(4, none)] rfl fun _ _ h n => ok_load rfl ty24 ((up i4 h n.1)).ptr, o1 [(7, some 0)] rfl fun _ _ h n => ok_call rfl Try.call26 (sight_on_ok n.1 hx1), o1 [(8, some 1)] rfl fun _ _ h n => ok_not rfl n.1, cm 2 rfl rfl, gF [(5, none)] rfl rfl fun hp _ _ h n => ok_load rfl ty24 ((up i5 h n.1)).ptr, gdF rfl rfl fun hp _ _ h n => ok_build rfl (bld24_ ), gdF rfl rfl fun hp _ _ h n => ok_eqA rfl eq24 (Gd.get n.1 hp) (Gd.get n.2.1 hp), o1 [(10, some 3), (13, some 6)] rfl fun _ _ h n => ok_pickOr rfl n.1 (cB rfl) (Gd.get n.2.1), cm 7 rfl rfl, gF [(5, none)] rfl rfl fun hp _ _ h n => ok_fieldAddr rfl fo24_0 (at_Point3_0 _) ((up i5 h n.1)).ptr, gF [(16, some 9)] rfl rfl fun hp _ _ h n => ok_load rfl ty3 (Gd.get n.1 hp), gF [(5, none)] rfl rfl fun hp _ _ h n => ok_fieldAddr rfl fo24_1 (at_Point3_1 _) ((up i5 h n.1)).ptr, gF [(18, some 11)] rfl rfl fun hp _ _ h n => ok_load rfl ty3 (Gd.get n.1 hp), gF [(5, none)] rfl rfl fun hp _ _ h n => ok_fieldAddr rfl fo24_2 (at_Point3_2 _) ((up i5 h n.1)).ptr, gF [(20, some 13)] rfl rfl fun hp _ _ h n => ok_load rfl ty3 (Gd.get n.1 hp), gF [(17, some 10), (19, some 12), (21, some 14)] rfl rfl fun hp _ _ h n => ok_min3 rfl (Gd.get n.1 hp) (Gd.get n.2.1 hp) (Gd.get n.2.2.1 hp), gF [(22, some 15)] rfl rfl fun hp _ _ h n => ok_lss rfl (Gd.get n.1 hp) (cI rfl), o1 [(15, some 8), (23, some 16)] rfl fun _ _ h n => ok_pickOr rfl n.1 (cB rfl) (Gd.get n.2.1), cm 17 rfl rfl, gF [(5, none)] rfl rfl fun hp _ _ h n => ok_fieldAddr rfl fo24_0 (at_Point3_0 _) ((up i5 h n.1)).ptr, gF [(26, some 19)] rfl rfl fun hp _ _ h n => ok_load rfl ty3 (Gd.get n.1 hp), gF [(5, none)] rfl rfl fun hp _ _ h n => ok_fieldAddr rfl fo24_1 (at_Point3_1 _) ((up i5 h n.1)).ptr, gF [(28, some 21)] rfl rfl fun hp _ _ h n => ok_load rfl ty3 (Gd.get n.1 hp), gF [(5, none)] rfl rfl fun hp _ _ h n => ok_fieldAddr rfl fo24_2 (at_Point3_2 _) ((up i5 h n.1)).ptr, gF [(30, some 23)] rfl rfl fun hp _ _ h n => ok_load rfl ty3 (Gd.get n.1 hp), gF [(27, some 20), (29, some 22), (31, some 24)] rfl rfl fun hp _ _ h n => ok_max3 rfl (Gd.get n.1 hp) (Gd.get n.2.1 hp) (Gd.get n.2.2.1 hp), gF [(32, some 25)] rfl rfl fun hp _ _ h n => ok_gtr rfl (Gd.get n.1 hp) (cI rfl), o1 [(25, some 18), (33, some 26)] rfl fun _ _ h n => ok_pickOr rfl n.1 (cB rfl) (Gd.get n.2.1), trivial⟩ W1 fun b q p => ?_
  exact tail_done (k := q) (w1 _ _ ⟨Bs.post ⟨hg, hs, hd⟩ p, p.ke 0 rfl i0, p.ke 4 rfl i4, p.ke 5 rfl i5, p.ou 27 34 rfl, trivial⟩)
 rintro a k ⟨⟨hg, hs, hd⟩, i0, i4, i5, i34, _⟩
 refine wp_cond_split (isBool i34) (fun hc1592 => ?_) (fun hc1592 => ?_)
 ·rw [if_pos hc1592] at hr
  refine stepL 1 (⟨some (IsV false), []⟩ :: []) rfl ⟨hg, hs, hd⟩ (by kernel_rfl) ⟨ob1 rfl fun _ _ h n => ok_assign rfl (isV_bool.2 rfl), trivial⟩ [⟨_, _⟩] (fun b q p => ⟨p.ou 0 6 rfl, trivial⟩) ?_
  rintro a k ⟨⟨hg, hs, hd⟩, i6, _⟩
  refine wp_ret ?_
  obtain rfl := Option.some.inj hr
  exact retC1 rfl hd hg i6
 rw [if_neg (by rw [hc1592]; decide)] at hr
 refine wp_skip ?_
 refine wp_seq ?_
 obtain ⟨x2, hx2, hr⟩ := bind_some hr
 refine cut (fun a' k' => Bs noF k0 41 a' k' ∧ (IsV x2) (a'.get 6) k' ∧ True) ?_ hQ ?_
 ·intro Q2 W2 w2
  refine gS 7 (_ :: _ :: _ :: ⟨some (IsV (⟨0, 1, true⟩ : SightBound)), []⟩ :: ⟨some (IsV (⟨(⟨0, 1, true⟩ : SightBound), (⟨0, 0, false⟩ : SightBound), false, false⟩ : SightInterval)), [(38, some 3)]⟩ :: _ :: _ :: []) hs (by kernel_rfl) ⟨mu rfl i0, o1 [(4, none)] rfl fun _ _ h n => ok_load rfl ty24 ((up i4 h n.1)).ptr, o1 [(5, none)] rfl fun _ _ h n => ok_load rfl ty24 ((up i5 h n.1)).ptr, ob1 rfl fun _ _ h n => ok_build rfl (bld53_0_1_2 (cI rfl) (cI rfl) (isV_bool.2 rfl)), ob1 rfl fun _ _ h n => ok_build rfl (bld55_0 n.1), o1 [(35, some 0), (36, some 1), (37, some 2), (39, some 4)] rfl fun _ _ h n => ok_call rfl Try.call27 (sight_meets_ok n.1 n.2.1 n.2.2.1 n.2.2.2.1 hx2), cp 5 rfl rfl, trivial⟩ W2 fun b q p => ?_
  exact tail_done (k := q) (w2 _ _ ⟨Bs.post ⟨hg, hs, hd⟩ p, p.ou 6 6 rfl, trivial⟩)
 rintro a k ⟨⟨hg, hs, hd⟩, i6, _⟩
 refine wp_ret ?_
 obtain rfl := Option.some.inj hr
 exact retC1 rfl hd hg i6
def law11_small  : Option (Bool) :=
 (ref09_Of ([(⟨(⟨2, 0, 3, 1⟩ : Rect), 0, 1⟩ : Box)])).bind fun x1 =>
 (law11_at 0 0 0).bind fun x2 =>
 (law11_at 5 0 0).bind fun x3 =>
 (sight_Blocked x1.1 x2 x3).bind fun x4 =>
 (if x4 then
  (law11_at 0 0 0).bind fun x5 =>
  (law11_at 2 0 0).bind fun x6 =>
  (sight_Blocked x1.1 x5 x6).bind fun x7 =>
  some (!x7)
 else
  some false).bind fun x8 =>
 (if x8 then
  (law11_at 0 1 0).bind fun x9 =>
  (law11_at 5 1 0).bind fun x10 =>
  (sight_Blocked x1.1 x9 x10).bind fun x11 =>
  some (!x11)
 else
  some false).bind fun x12 =>
 (if x12 then
  (law11_at 0 0 1).bind fun x13 =>
  (law11_at 5 0 1).bind fun x14 =>
  (sight_Blocked x1.1 x13 x14).bind fun x15 =>
  some (!x15)
 else
  some false).bind fun x16 =>
 (law11_at 2 0 0).bind fun x17 =>
 (law11_at 2 0 0).bind fun x18 =>
 (sight_Blocked x1.1 x17 x18).bind fun x19 =>
 (if x19 then
  (law11_at 3 0 0).bind fun x20 =>
  (law11_at 3 5 0).bind fun x21 =>
  (sight_Blocked x1.1 x20 x21).bind fun x22 =>
  some (!x22)
 else
  some false).bind fun x23 =>
 (if (x16 && x23) then
  (law11_at 0 0 0).bind fun x24 =>
  (law11_at 1 0 0).bind fun x25 =>
  (sight_Ray x1.1 x24 x25).bind fun x26 =>
  some x26
 else
  some false).bind fun x27 =>
 (if x27 then
  (law11_at 0 0 0).bind fun x28 =>
  (law11_at (-1) 0 0).bind fun x29 =>
  (sight_Ray x1.1 x28 x29).bind fun x30 =>
  some (!x30)
 else
  some false).bind fun x31 =>
 (if x31 then
  (law11_at 0 0 0).bind fun x32 =>
  (law11_at 4 1 1).bind fun x33 =>
  (sight_Ray x1.1 x32 x33).bind fun x34 =>
  some x34
 else
  some false).bind fun x35 =>
 some x35
theorem law11_small_ok {k0 : K} {r : Bool} (hr : law11_small = some r) :
  Calls Try.prog 9 #[] k0.w (Ret k0 (IsV r)) := by
 unfold law11_small at hr
 refine Ret.ofC ?_
 refine enterK Try.func9 rfl Try.ntmps9 (show 0 ≤ 71 by decide) fun a k hk0 hs hd ha => ?_
 have hQ : Gb.LetsOut (bodyPost Try.prog Try.f9 (RetC noF k0 (IsV r))) := letsOutC
 have hg : Chg noF k0 k := by rw [hk0]; exact Chg.refl _ k0
 refine cutL noF k0 71 [] ?_ ?_
 ·intro Q1 W1 w1
  refine gS 1 (⟨some (IsV false), []⟩ :: []) hs (by kernel_rfl) ⟨ob1 rfl fun _ _ h n => ok_assign rfl (isV_bool.2 rfl), trivial⟩ W1 fun b q p => ?_
  exact tail_done (k := q) (w1 _ _ ⟨Bs.post ⟨hg, hs, hd⟩ p, trivial⟩)
 rintro a k ⟨⟨hg, hs, hd⟩, _⟩
 refine wp_seq ?_
 obtain ⟨x1, hx1, hr⟩ := bind_some hr
 refine cut (fun a' k' => Bs noF k0 71 a' k' ∧ (IsV x1.1) (a'.get 1) k' ∧ True) ?_ hQ ?_
 ·intro Q2 W2 w2
  refine gS 9 (⟨some (IsV (⟨2, 0, 3, 1⟩ : Rect)), []⟩ :: ⟨some (IsV (⟨(⟨2, 0, 3, 1⟩ : Rect), 0, 1⟩ : Box)), [(6, some 0)]⟩ :: ⟨some (IsV (α := (List Box)) ([(⟨(⟨2, 0, 3, 1⟩ : Rect), 0, 1⟩ : Box)])), [(7, some 1)]⟩ :: _ :: _ :: _ :: _ :: _ :: _ :: []) hs (by kernel_rfl) ⟨ob1 rfl fun _ _ h n => ok_build rfl (bld35_0_2_3 (cI rfl) (cI rfl) (cI rfl)), ob1 rfl fun _ _ h n => ok_build rfl (bld37_0_2 n.1 (cI rfl)), ob1 rfl fun _ _ h n => ok_buildSlice rfl Try.underlying31 eo37 rfl (by decide) (by decide) ⟨rfl, n.1, trivial⟩, o1 [(8, some 2)] rfl fun _ _ h n => ok_call rfl Try.call25 (ref09_Of_ok n.1 hx1), cm 3 rfl rfl, o1 [(5, some 4)] rfl fun _ _ h n => ok_ext2_0 rfl n.1, o1 [(5, some 4)] rfl fun _ _ h n => ok_ext2_1 rfl n.1, cp 5 rfl rfl, cp 6 rfl rfl, trivial⟩ W2 fun b q p => ?_
  exact tail_done (k := q) (w2 _ _ ⟨Bs.post ⟨hg, hs, hd⟩ p, p.ou 7 1 rfl, trivial⟩)
 rintro a k ⟨⟨hg, hs, hd⟩, i1, _⟩
 refine wp_seq ?_
 obtain ⟨x2, hx2, hr⟩ := bind_some hr
 obtain ⟨x3, hx3, hr⟩ := bind_some hr
 obtain ⟨x4, hx4, hr⟩ := bind_some hr
 obtain ⟨x5, hx5, hr⟩ := bind_some hr
 obtain ⟨x6, hx6, hx5⟩ := ite_bind hx5
 obtain ⟨x7, hx7, hx5⟩ := ite_bind hx5
 obtain ⟨x8, hx8, hx5⟩ := ite_bind hx5
 obtain ⟨x9, hx9, hr⟩ := bind_some hr
 obtain ⟨x10, hx10, hx9⟩ := ite_bind hx9
 obtain ⟨x11, hx11, hx9⟩ := ite_bind hx9
 obtain ⟨x12, hx12, hx9⟩ := ite_bind hx9
 obtain ⟨x13, hx13, hr⟩ := bind_some hr
 obtain ⟨x14, hx14, hx13⟩ := ite_bind hx13
 obtain ⟨x15, hx15, hx13⟩ := ite_bind hx13
 obtain ⟨x16, hx16, hx13⟩ := ite_bind hx13
 refine cut (fun a' k' => Bs noF k0 71 a' k' ∧ (IsV x1.1) (a'.get 1) k' ∧ (IsV x13) (a'.get 3) k' ∧ True) ?_ hQ ?_
 ·intro Q3 W3 w3
  refine gS 26 (_ :: _ :: _ :: _ :: _ :: _ :: _ :: _ :: _ :: _ :: _ :: _ :: _ :: _ :: _ :: _ :: _ :: _ :: _ :: _ :: _ :: _ :: _ :: _ :: _ :: _ :: []) hs (by kernel_rfl) ⟨mu rfl i1, o1 [] rfl fun _ _ h n => ok_call rfl Try.call16 (law11_at_ok (cI rfl) (cI rfl) (cI rfl) hx2), o1 [] rfl fun _ _ h n => ok_call rfl Try.call16 (law11_at_ok (cI rfl) (cI rfl) (cI rfl) hx3), o1 [(12, some 0), (13, some 1), (14, some 2)] rfl fun _ _ h n => ok_call rfl Try.call11 (sight_Blocked_ok n.1 n.2.1 n.2.2.1 hx4), cm 3 rfl rfl, mT rfl rfl i1, gT [] rfl rfl fun hp _ _ h n => ok_call rfl Try.call16 (law11_at_ok (cI rfl) (cI rfl) (cI rfl) (hx6 hp)), gT [] rfl rfl fun hp _ _ h n => ok_call rfl Try.call16 (law11_at_ok (cI rfl) (cI rfl) (cI rfl) (hx7 hp)), gT [(17, some 5), (18, some 6), (19, some 7)] rfl rfl fun hp _ _ h n => ok_call rfl Try.call11 (sight_Blocked_ok (Gd.get n.1 hp) (Gd.get n.2.1 hp) (Gd.get n.2.2.1 hp) (hx8 hp)), gT [(20, some 8)] rfl rfl fun hp _ _ h n => ok_not rfl (Gd.get n.1 hp), o1 [(16, some 4), (21, some 9)] rfl fun _ _ h n => ok_pickM rfl n.1 hx5 (Gd.get n.2.1) (cB rfl), cm 10 rfl rfl, mT rfl rfl i1, gT [] rfl rfl fun hp _ _ h n => ok_call rfl Try.call16 (law11_at_ok (cI rfl) (cI rfl) (cI rfl) (hx10 hp)), gT [] rfl rfl fun hp _ _ h n => ok_call rfl Try.call16 (law11_at_ok (cI rfl) (cI rfl) (cI rfl) (hx11 hp)), gT [(24, some 12), (25, some 13), (26, some 14)] rfl rfl fun hp _ _ h n => ok_call rfl Try.call11 (sight_Blocked_ok (Gd.get n.1 hp) (Gd.get n.2.1 hp) (Gd.get n.2.2.1 hp) (hx12 hp)), gT [(27, some 15)] rfl rfl fun hp _ _ h n => ok_not rfl (Gd.get n.1 hp), o1 [(23, some 11), (28, some 16)] rfl fun _ _ h n => ok_pickM rfl n.1 hx9 (Gd.get n.2.1) (cB rfl), cm 17 rfl rfl, mT rfl rfl i1, gT [] rfl rfl fun hp _ _ h n => ok_call rfl Try.call16 (law11_at_ok (cI rfl) (cI rfl) (cI rfl) (hx14 hp)), gT [] rfl rfl fun hp _ _ h n => ok_call rfl Try.call16 (law11_at_ok (cI rfl) (cI rfl) (cI rfl) (hx15 hp)), gT [(31, some 19), (32, some 20), (33, some 21)] rfl rfl fun hp _ _ h n => ok_call rfl Try.call11 (sight_Blocked_ok (Gd.get n.1 hp) (Gd.get n.2.1 hp) (Gd.get n.2.2.1 hp) (hx16 hp)), gT [(34, some 22)] rfl rfl fun hp _ _ h n => ok_not rfl (Gd.get n.1 hp), o1 [(30, some 18), (35, some 23)] rfl fun _ _ h n => ok_pickM rfl n.1 hx13 (Gd.get n.2.1) (cB rfl), cp 24 rfl rfl, trivial⟩ W3 fun b q p => ?_
  exact tail_done (k := q) (w3 _ _ ⟨Bs.post ⟨hg, hs, hd⟩ p, p.ke 1 rfl i1, p.ou 25 3 rfl, trivial⟩)
 rintro a k ⟨⟨hg, hs, hd⟩, i1, i3, _⟩
 refine wp_seq ?_
 obtain ⟨x17, hx17, hr⟩ := bind_some hr
 obtain ⟨x18, hx18, hr⟩ := bind_some hr
 obtain ⟨x19, hx19, hr⟩ := bind_some hr
 obtain ⟨x20, hx20, hr⟩ := bind_some hr
 obtain ⟨x21, hx21, hx20⟩ := ite_bind hx20
 obtain ⟨x22, hx22, hx20⟩ := ite_bind hx20
 obtain ⟨x23, hx23, hx20⟩ := ite_bind hx20
 refine cut (fun a' k' => Bs noF k0 71 a' k' ∧ (IsV x1.1) (a'.get 1) k' ∧ (IsV x13) (a'.get 3) k' ∧ (IsV x20) (a'.get 4) k' ∧ True) ?_ hQ ?_
 ·intro Q4 W4 w4
  refine gS 12 (_ :: _ :: _ :: _ :: _ :: _ :: _ :: _ :: _ :: _ :: _ :: _ :: []) hs (by kernel_rfl) ⟨mu rfl i1, o1 [] rfl fun _ _ h n => ok_call rfl Try.call16 (law11_at_ok (cI rfl) (cI rfl) (cI rfl) hx17), o1 [] rfl fun _ _ h n => ok_call rfl Try.call16 (law11_at_ok (cI rfl) (cI rfl) (cI rfl) hx18), o1 [(37, some 0), (38, some 1), (39, some 2)] rfl fun _ _ h n => ok_call rfl Try.call11 (sight_Blocked_ok n.1 n.2.1 n.2.2.1 hx19), cm 3 rfl rfl, mT rfl rfl i1, gT [] rfl rfl fun hp _ _ h n => ok_call rfl Try.call16 (law11_at_ok (cI rfl) (cI rfl) (cI rfl) (hx21 hp)), gT [] rfl rfl fun hp _ _ h n => ok_call rfl Try.call16 (law11_at_ok (cI rfl) (cI rfl) (cI rfl) (hx22 hp)), gT [(42, some 5), (43, some 6), (44, some 7)] rfl rfl fun hp _ _ h n => ok_call rfl Try.call11 (sight_Blocked_ok (Gd.get n.1 hp) (Gd.get n.2.1 hp) (Gd.get n.2.2.1 hp) (hx23 hp)), gT [(45, some 8)] rfl rfl fun hp _ _ h n => ok_not rfl (Gd.get n.1 hp), o1 [(41, some 4), (46, some 9)] rfl fun _ _ h n => ok_pickM rfl n.1 hx20 (Gd.get n.2.1) (cB rfl), cp 10 rfl rfl, trivial⟩ W4 fun b q p => ?_
  exact tail_done (k := q) (w4 _ _ ⟨Bs.post ⟨hg, hs, hd⟩ p, p.ke 1 rfl i1, p.ke 3 rfl i3, p.ou 11 4 rfl, trivial⟩)
 rintro a k ⟨⟨hg, hs, hd⟩, i1, i3, i4, _⟩
 refine wp_seq ?_
 obtain ⟨x24, hx24, hr⟩ := bind_some hr
 obtain ⟨x25, hx25, hx24⟩ := ite_bind hx24
 obtain ⟨x26, hx26, hx24⟩ := ite_bind hx24
 obtain ⟨x27, hx27, hx24⟩ := ite_bind hx24
 obtain ⟨x28, hx28, hr⟩ := bind_some hr
 obtain ⟨x29, hx29, hx28⟩ := ite_bind hx28
 obtain ⟨x30, hx30, hx28⟩ := ite_bind hx28
 obtain ⟨x31, hx31, hx28⟩ := ite_bind hx28
 obtain ⟨x32, hx32, hr⟩ := bind_some hr
 obtain ⟨x33, hx33, hx32⟩ := ite_bind hx32
 obtain ⟨x34, hx34, hx32⟩ := ite_bind hx32
 obtain ⟨x35, hx35, hx32⟩ := ite_bind hx32
 refine cut (fun a' k' => Bs noF k0 71 a' k' ∧ (IsV x32) (a'.get 0) k' ∧ True) ?_ hQ ?_
 ·intro Q5 W5 w5
  refine gS 24 (_ :: _ :: _ :: _ :: _ :: _ :: _ :: _ :: _ :: _ :: _ :: _ :: _ :: _ :: _ :: _ :: _ :: _ :: _ :: _ :: _ :: _ :: _ :: _ :: []) hs (by kernel_rfl) ⟨mu rfl i3, cm 0 rfl rfl, mT rfl rfl i4, o1 [(49, some 1), (50, some 2)] rfl fun _ _ h n => ok_pickAnd rfl n.1 (Gd.get n.2.1) (cB rfl), cm 3 rfl rfl, mT rfl rfl i1, gT [] rfl rfl fun hp _ _ h n => ok_call rfl Try.call16 (law11_at_ok (cI rfl) (cI rfl) (cI rfl) (hx25 hp)), gT [] rfl rfl fun hp _ _ h n => ok_call rfl Try.call16 (law11_at_ok (cI rfl) (cI rfl) (cI rfl) (hx26 hp)), gT [(53, some 5), (54, some 6), (55, some 7)] rfl rfl fun hp _ _ h n => ok_call rfl Try.call13 (sight_Ray_ok (Gd.get n.1 hp) (Gd.get n.2.1 hp) (Gd.get n.2.2.1 hp) (hx27 hp)), o1 [(52, some 4), (56, some 8)] rfl fun _ _ h n => ok_pickM rfl n.1 hx24 (Gd.get n.2.1) (cB rfl), cm 9 rfl rfl, mT rfl rfl i1, gT [] rfl rfl fun hp _ _ h n => ok_call rfl Try.call16 (law11_at_ok (cI rfl) (cI rfl) (cI rfl) (hx29 hp)), gT [] rfl rfl fun hp _ _ h n => ok_call rfl Try.call16 (law11_at_ok (cI rfl) (cI rfl) (cI rfl) (hx30 hp)), gT [(59, some 11), (60, some 12), (61, some 13)] rfl rfl fun hp _ _ h n => ok_call rfl Try.call13 (sight_Ray_ok (Gd.get n.1 hp) (Gd.get n.2.1 hp) (Gd.get n.2.2.1 hp) (hx31 hp)), gT [(62, some 14)] rfl rfl fun hp _ _ h n => ok_not rfl (Gd.get n.1 hp), o1 [(58, some 10), (63, some 15)] rfl fun _ _ h n => ok_pickM rfl n.1 hx28 (Gd.get n.2.1) (cB rfl), cm 16 rfl rfl, mT rfl rfl i1, gT [] rfl rfl fun hp _ _ h n => ok_call rfl Try.call16 (law11_at_ok (cI rfl) (cI rfl) (cI rfl) (hx33 hp)), gT [] rfl rfl fun hp _ _ h n => ok_call rfl Try.call16 (law11_at_ok (cI rfl) (cI rfl) (cI rfl) (hx34 hp)), gT [(66, some 18), (67, some 19), (68, some 20)] rfl rfl fun hp _ _ h n => ok_call rfl Try.call13 (sight_Ray_ok (Gd.get n.1 hp) (Gd.get n.2.1 hp) (Gd.get n.2.2.1 hp) (hx35 hp)), o1 [(65, some 17), (69, some 21)] rfl fun _ _ h n => ok_pickM rfl n.1 hx32 (Gd.get n.2.1) (cB rfl), cp 22 rfl rfl, trivial⟩ W5 fun b q p => ?_
  exact tail_done (k := q) (w5 _ _ ⟨Bs.post ⟨hg, hs, hd⟩ p, p.ou 23 0 rfl, trivial⟩)
 rintro a k ⟨⟨hg, hs, hd⟩, i0, _⟩
 refine wp_ret ?_
 obtain rfl := Option.some.inj hr
 exact retC1 rfl hd hg i0
def law11_few_L0 (s_ : (List Slab)) (s1 : Int) : Option (Flow (Int) (Bool)) :=
 if (decide (s1 < (s_.length : Int))) then
  (getI s_ s1).bind fun x1 =>
  if (decide (10 < (x1.Area.length : Int))) then
   some (.ret false)
  else
   (addI s1 1).bind fun x2 =>
   some (.go x2)
 else
  some (.ex 0 s1)
def law11_few (s_ : (List Slab)) : Option (Bool) :=
 if (decide (10 < (s_.length : Int))) then
  some false
 else
  (iterL (law11_few_L0 s_) (s_.length + 1) 0).bind fun f1 => match f1 with
   | .go _ => none
   | .ex _ _ =>
    some true
   | .ret r1 => some r1
theorem law11_few_ok {k0 : K} {v0 : Value} {s_ : (List Slab)} {r : Bool} (i0 : (IsV s_) v0 k0) (hr : law11_few s_ = some r) :
  Calls Try.prog 10 #[v0] k0.w (Ret k0 (IsV r)) := by
 unfold law11_few at hr
 refine Ret.ofC ?_
 refine enterK Try.func10 rfl Try.ntmps10 (show 1 ≤ 20 by decide) fun a k hk0 hs hd ha => ?_
 obtain ⟨e0, _⟩ := ha
 replace i0 : (IsV s_) (a.get 0) k := by rw [e0, hk0]; exact i0
 have hQ : Gb.LetsOut (bodyPost Try.prog Try.f10 (RetC noF k0 (IsV r))) := letsOutC
 have hg : Chg noF k0 k := by rw [hk0]; exact Chg.refl _ k0
 refine stepL 1 (⟨some (IsV false), []⟩ :: []) rfl ⟨hg, hs, hd⟩ (by kernel_rfl) ⟨ob1 rfl fun _ _ h n => ok_assign rfl (isV_bool.2 rfl), trivial⟩ [⟨_, _⟩] (fun b q p => ⟨p.ke 0 rfl i0, trivial⟩) ?_
 rintro a k ⟨⟨hg, hs, hd⟩, i0, _⟩
 refine wp_seq ?_
 refine stepL 3 (_ :: _ :: _ :: []) rfl ⟨hg, hs, hd⟩ (by kernel_rfl) ⟨mu rfl i0, o1 [(4, some 0)] rfl fun _ _ h n => ok_len rfl rfl Try.underlying22 (IsV.rd n.1), o1 [(5, some 1)] rfl fun _ _ h n => ok_gtr rfl n.1 (cI rfl), trivial⟩ [⟨_, _⟩, ⟨_, _⟩] (fun b q p => ⟨p.ke 0 rfl i0, p.ou 2 6 rfl, trivial⟩) ?_
 rintro a k ⟨⟨hg, hs, hd⟩, i0, i6, _⟩
 refine wp_cond_split (isBool i6) (fun hc1645 => ?_) (fun hc1645 => ?_)
 ·rw [if_pos hc1645] at hr
  refine stepL 1 (⟨some (IsV false), []⟩ :: []) rfl ⟨hg, hs, hd⟩ (by kernel_rfl) ⟨ob1 rfl fun _ _ h n => ok_assign rfl (isV_bool.2 rfl), trivial⟩ [⟨_, _⟩] (fun b q p => ⟨p.ou 0 2 rfl, trivial⟩) ?_
  rintro a k ⟨⟨hg, hs, hd⟩, i2, _⟩
  refine wp_ret ?_
  obtain rfl := Option.some.inj hr
  exact retC1 rfl hd hg i2
 rw [if_neg (by rw [hc1645]; decide)] at hr
 refine wp_skip ?_
 refine wp_seq ?_
 refine stepL 1 (⟨some (IsI 0), []⟩ :: []) rfl ⟨hg, hs, hd⟩ (by kernel_rfl) ⟨aI rfl rfl, trivial⟩ [⟨_, _⟩, ⟨_, _⟩] (fun b q p => ⟨p.ke 0 rfl i0, p.ou 0 3 rfl, trivial⟩) ?_
 rintro a k ⟨⟨hg, hs, hd⟩, i0, i3, _⟩
 refine wp_block ?_
 obtain ⟨f1, hf1, hr⟩ := bind_some hr
 refine cutFe f1 (fun s' a' k' => Bs noF k0 20 a' k' ∧ (IsV s_) (a'.get 0) k' ∧ (IsV s') (a'.get 3) k' ∧ True) (fun i' s' a' k' => (i' = 0 ∧ Bs noF k0 20 a' k' ∧ True)) (fun r' a' k' => bodyPost Try.prog Try.f10 (RetC noF k0 (IsV r')) .ret a' k'.w) ?_ hQ ?_ ?_ ?_
 ·intro Q1 W1 hgo hex hret
  refine sim_loop ?_ _ _ _ _ _ hf1 ⟨⟨hg, hs, hd⟩, i0, i3, trivial⟩ Q1 W1 hgo hex hret
  clear hr hf1 hgo hex hret W1 hQ hg hs hd i0 i3
  intro s1 fl_ a k hr hS Q hQ hgo1619 hex1620 hret1621
  obtain ⟨⟨hg, hs, hd⟩, i0, i3, _⟩ := hS
  unfold law11_few_L0 at hr
  refine wp_seq ?_
  refine stepL 4 (_ :: _ :: _ :: _ :: []) rfl ⟨hg, hs, hd⟩ (by kernel_rfl) ⟨mu rfl i3, mu rfl i0, o1 [(8, some 1)] rfl fun _ _ h n => ok_len rfl rfl Try.underlying22 (IsV.rd n.1), o1 [(7, some 0), (9, some 2)] rfl fun _ _ h n => ok_lss rfl n.1 n.2.1, trivial⟩ [⟨_, _⟩, ⟨_, _⟩, ⟨_, _⟩] (fun b q p => ⟨p.ke 0 rfl i0, p.ke 3 rfl i3, p.ou 3 10 rfl, trivial⟩) ?_
  rintro a k ⟨⟨hg, hs, hd⟩, i0, i3, i10, _⟩
  refine wp_cond_split (isBool i10) (fun hc1633 => ?_) (fun hc1633 => ?_)
  ·rw [if_pos hc1633] at hr
   refine wp_skip ?_
   refine wp_seq ?_
   refine wp_block ?_
   refine wp_seq ?_
   obtain ⟨x1, hx1, hr⟩ := bind_some hr
   refine cut (fun a' k' => Bs noF k0 20 a' k' ∧ (IsV s_) (a'.get 0) k' ∧ (IsV s1) (a'.get 3) k' ∧ (IsV (decide (10 < (x1.Area.length : Int)))) (a'.get 19) k' ∧ True) ?_ hQ ?_
   ·intro Q2 W2 w1
    refine gS 7 (_ :: _ :: _ :: _ :: _ :: _ :: _ :: []) hs (by kernel_rfl) ⟨mu rfl i0, mu rfl i3, o1 [(13, some 0), (14, some 1)] rfl fun _ _ h n => ok_indexAddr rfl Try.underlying22 ty51 (IsV.rd n.1) n.2.1 hx1, o1 [(15, some 2)] rfl fun _ _ h n => ok_fieldAddr rfl fo51_2 (at_Slab_2 _) n.1, o1 [(16, some 3)] rfl fun _ _ h n => ok_load rfl ty49 n.1, o1 [(17, some 4)] rfl fun _ _ h n => ok_len rfl rfl Try.underlying49 (IsV.rd n.1), o1 [(18, some 5)] rfl fun _ _ h n => ok_gtr rfl n.1 (cI rfl), trivial⟩ W2 fun b q p => ?_
    exact tail_done (k := q) (w1 _ _ ⟨Bs.post ⟨hg, hs, hd⟩ p, p.ke 0 rfl i0, p.ke 3 rfl i3, p.ou 6 19 rfl, trivial⟩)
   rintro a k ⟨⟨hg, hs, hd⟩, i0, i3, i19, _⟩
   refine wp_cond_split (isBool i19) (fun hc1630 => ?_) (fun hc1630 => ?_)
   ·rw [if_pos hc1630] at hr
    refine stepL 1 (⟨some (IsV false), []⟩ :: []) rfl ⟨hg, hs, hd⟩ (by kernel_rfl) ⟨ob1 rfl fun _ _ h n => ok_assign rfl (isV_bool.2 rfl), trivial⟩ [⟨_, _⟩] (fun b q p => ⟨p.ou 0 2 rfl, trivial⟩) ?_
    rintro a k ⟨⟨hg, hs, hd⟩, i2, _⟩
    refine wp_ret ?_
    exact hret1621 _ _ _ (Option.some.inj hr).symm (retC1 rfl hd hg i2)
   rw [if_neg (by rw [hc1630]; decide)] at hr
   refine wp_skip ?_
   obtain ⟨x2, hx2, hr⟩ := bind_some hr
   refine cut (fun a' k' => Bs noF k0 20 a' k' ∧ (IsV s_) (a'.get 0) k' ∧ (IsV x2) (a'.get 3) k' ∧ True) ?_ hQ ?_
   ·intro Q3 W3 w2
    refine gS 3 (_ :: _ :: _ :: []) hs (by kernel_rfl) ⟨mu rfl i3, o1 [(11, some 0)] rfl fun _ _ h n => ok_add rfl n.1 (cI rfl) hx2, cp 1 rfl rfl, trivial⟩ W3 fun b q p => ?_
    exact tail_done (k := q) (w2 _ _ ⟨Bs.post ⟨hg, hs, hd⟩ p, p.ke 0 rfl i0, p.ou 2 3 rfl, trivial⟩)
   rintro a k ⟨⟨hg, hs, hd⟩, i0, i3, _⟩
   exact hgo1619 _ _ _ (Option.some.inj hr).symm ⟨⟨hg, hs, hd⟩, i0, i3, trivial⟩
  rw [if_neg (by rw [hc1633]; decide)] at hr
  refine wp_exit ?_
  exact hex1620 _ _ _ _ (Option.some.inj hr).symm ⟨rfl, ⟨hg, hs, hd⟩, trivial⟩
 ·rintro r1 a k rfl hR
  dsimp only at hr
  obtain rfl := Option.some.inj hr
  exact hR
 ·rintro _ _ _ rfl _
  simp at hr
 clear hf1
 rintro _ s2 a k rfl ⟨rfl, ⟨hg, hs, hd⟩, _⟩
 dsimp only at hr
 refine stepL 1 (⟨some (IsV true), []⟩ :: []) rfl ⟨hg, hs, hd⟩ (by kernel_rfl) ⟨ob1 rfl fun _ _ h n => ok_assign rfl (isV_bool.2 rfl), trivial⟩ [⟨_, _⟩] (fun b q p => ⟨p.ou 0 2 rfl, trivial⟩) ?_
 rintro a k ⟨⟨hg, hs, hd⟩, i2, _⟩
 refine wp_ret ?_
 obtain rfl := Option.some.inj hr
 exact retC1 rfl hd hg i2
def ref06_Of_L0 (l_ : (List Rect)) (s1 : Int) : Option (Flow (Int) ((List Rect) × Int)) :=
 if (decide (s1 < (l_.length : Int))) then
  (getI l_ s1).bind fun x1 =>
  (ref06_RightRect x1).bind fun x2 =>
  if (!x2) then
   some (.ret (([] : List Rect), 1))
  else
   (addI s1 1).bind fun x3 =>
   some (.go x3)
 else
  some (.ex 0 s1)
def ref06_Of (l_ : (List Rect)) : Option ((List Rect) × Int) :=
 (iterL (ref06_Of_L0 l_) (l_.length + 1) 0).bind fun f1 => match f1 with
  | .go _ => none
  | .ex _ _ =>
   if (decide (400 < (l_.length : Int))) then
    some (([] : List Rect), 6)
   else
    (ref06_Form l_ ([] : List Rect) 0).bind fun x1 =>
    if (decide (200 < (x1.length : Int))) then
     some (([] : List Rect), 6)
    else
     some (x1, 0)
  | .ret r1 => some r1
theorem ref06_Of_ok {k0 : K} {v0 : Value} {l_ : (List Rect)} {r : (List Rect) × Int} (i0 : (IsV l_) v0 k0) (hr : ref06_Of l_ = some r) :
  Calls Try.prog 51 #[v0] k0.w (Ret k0 (IsTup2 (IsV r.1) (IsV r.2))) := by
 unfold ref06_Of at hr
 refine Ret.ofC ?_
 refine enterK Try.func51 rfl Try.ntmps51 (show 1 ≤ 27 by decide) fun a k hk0 hs hd ha => ?_
 obtain ⟨e0, _⟩ := ha
 replace i0 : (IsV l_) (a.get 0) k := by rw [e0, hk0]; exact i0
 have hQ : Gb.LetsOut (bodyPost Try.prog Try.f51 (RetC noF k0 (IsTup2 (IsV r.1) (IsV r.2)))) := letsOutC
 have hg : Chg noF k0 k := by rw [hk0]; exact Chg.refl _ k0
 refine stepL 2 (⟨some IsE0, []⟩ :: ⟨some (IsI 0), []⟩ :: []) rfl ⟨hg, hs, hd⟩ (by kernel_rfl) ⟨ob1 rfl fun b q h n => ok_assign rfl isE0_nil, aI rfl rfl, trivial⟩ [⟨_, _⟩] (fun b q p => ⟨p.ke 0 rfl i0, trivial⟩) ?_
 rintro a k ⟨⟨hg, hs, hd⟩, i0, _⟩
 refine wp_seq ?_
 refine stepL 1 (⟨some (IsI 0), []⟩ :: []) rfl ⟨hg, hs, hd⟩ (by kernel_rfl) ⟨aI rfl rfl, trivial⟩ [⟨_, _⟩, ⟨_, _⟩] (fun b q p => ⟨p.ke 0 rfl i0, p.ou 0 4 rfl, trivial⟩) ?_
 rintro a k ⟨⟨hg, hs, hd⟩, i0, i4, _⟩
 refine wp_block ?_
 obtain ⟨f1, hf1, hr⟩ := bind_some hr
 refine cutFe f1 (fun s' a' k' => Bs noF k0 27 a' k' ∧ (IsV l_) (a'.get 0) k' ∧ (IsV s') (a'.get 4) k' ∧ True) (fun i' s' a' k' => (i' = 0 ∧ Bs noF k0 27 a' k' ∧ (IsV l_) (a'.get 0) k' ∧ True)) (fun r' a' k' => bodyPost Try.prog Try.f51 (RetC noF k0 (IsTup2 (IsV r'.1) (IsV r'.2))) .ret a' k'.w) ?_ hQ ?_ ?_ ?_
 ·intro Q1 W1 hgo hex hret
  refine sim_loop ?_ _ _ _ _ _ hf1 ⟨⟨hg, hs, hd⟩, i0, i4, trivial⟩ Q1 W1 hgo hex hret
  clear hr hf1 hgo hex hret W1 hQ hg hs hd i0 i4
  intro s1 fl_ a k hr hS Q hQ hgo1653 hex1654 hret1655
  obtain ⟨⟨hg, hs, hd⟩, i0, i4, _⟩ := hS
  unfold ref06_Of_L0 at hr
  refine wp_seq ?_
  refine stepL 4 (_ :: _ :: _ :: _ :: []) rfl ⟨hg, hs, hd⟩ (by kernel_rfl) ⟨mu rfl i4, mu rfl i0, o1 [(7, some 1)] rfl fun _ _ h n => ok_len rfl rfl Try.underlying49 (IsV.rd n.1), o1 [(6, some 0), (8, some 2)] rfl fun _ _ h n => ok_lss rfl n.1 n.2.1, trivial⟩ [⟨_, _⟩, ⟨_, _⟩, ⟨_, _⟩] (fun b q p => ⟨p.ke 0 rfl i0, p.ke 4 rfl i4, p.ou 3 9 rfl, trivial⟩) ?_
  rintro a k ⟨⟨hg, hs, hd⟩, i0, i4, i9, _⟩
  refine wp_cond_split (isBool i9) (fun hc1667 => ?_) (fun hc1667 => ?_)
  ·rw [if_pos hc1667] at hr
   refine wp_skip ?_
   refine wp_seq ?_
   refine wp_block ?_
   refine wp_seq ?_
   obtain ⟨x1, hx1, hr⟩ := bind_some hr
   obtain ⟨x2, hx2, hr⟩ := bind_some hr
   refine cut (fun a' k' => Bs noF k0 27 a' k' ∧ (IsV l_) (a'.get 0) k' ∧ (IsV s1) (a'.get 4) k' ∧ (IsV (!x2)) (a'.get 17) k' ∧ True) ?_ hQ ?_
   ·intro Q2 W2 w1
    refine gS 6 (_ :: _ :: _ :: _ :: _ :: _ :: []) hs (by kernel_rfl) ⟨mu rfl i0, mu rfl i4, o1 [(12, some 0), (13, some 1)] rfl fun _ _ h n => ok_indexAddr rfl Try.underlying49 ty35 (IsV.rd n.1) n.2.1 hx1, o1 [(14, some 2)] rfl fun _ _ h n => ok_load rfl ty35 n.1, o1 [(15, some 3)] rfl fun _ _ h n => ok_call rfl Try.call34 (ref06_RightRect_ok n.1 hx2), o1 [(16, some 4)] rfl fun _ _ h n => ok_not rfl n.1, trivial⟩ W2 fun b q p => ?_
    exact tail_done (k := q) (w1 _ _ ⟨Bs.post ⟨hg, hs, hd⟩ p, p.ke 0 rfl i0, p.ke 4 rfl i4, p.ou 5 17 rfl, trivial⟩)
   rintro a k ⟨⟨hg, hs, hd⟩, i0, i4, i17, _⟩
   refine wp_cond_split (isBool i17) (fun hc1664 => ?_) (fun hc1664 => ?_)
   ·rw [if_pos hc1664] at hr
    refine cutL noF k0 27 [⟨2, IsV ([] : List Rect)⟩, ⟨3, IsI 1⟩] ?_ ?_
    ·intro Q3 W3 w2
     refine gS 2 (⟨some IsE0, []⟩ :: ⟨some (IsI 1), []⟩ :: []) hs (by kernel_rfl) ⟨ob1 rfl fun b q h n => ok_assign rfl isE0_nil, aI rfl rfl, trivial⟩ W3 fun b q p => ?_
     have hgq := hg.then p.grow
     have hsb := p.size.trans hs
     have hdb := p.defers.trans hd
     have j2 : IsE0 (b.get 2) q := p.ou 0 2 rfl
     have j3 : (IsI 1) (b.get 3) q := p.ou 1 3 rfl
     replace j2 : IsV ([] : List Rect) (b.get 2) q := j2.isV
     exact tail_done (k := q) (w2 _ _ ⟨⟨hgq, hsb, hdb⟩, j2, j3, trivial⟩)
    rintro a k ⟨⟨hg, hs, hd⟩, i2, i3, _⟩
    refine wp_ret ?_
    exact hret1655 _ _ _ (Option.some.inj hr).symm (retC2 rfl hd hg i2 i3)
   rw [if_neg (by rw [hc1664]; decide)] at hr
   refine wp_skip ?_
   obtain ⟨x3, hx3, hr⟩ := bind_some hr
   refine cut (fun a' k' => Bs noF k0 27 a' k' ∧ (IsV l_) (a'.get 0) k' ∧ (IsV x3) (a'.get 4) k' ∧ True) ?_ hQ ?_
   ·intro Q4 W4 w3
    refine gS 3 (_ :: _ :: _ :: []) hs (by kernel_rfl) ⟨mu rfl i4, o1 [(10, some 0)] rfl fun _ _ h n => ok_add rfl n.1 (cI rfl) hx3, cp 1 rfl rfl, trivial⟩ W4 fun b q p => ?_
    exact tail_done (k := q) (w3 _ _ ⟨Bs.post ⟨hg, hs, hd⟩ p, p.ke 0 rfl i0, p.ou 2 4 rfl, trivial⟩)
   rintro a k ⟨⟨hg, hs, hd⟩, i0, i4, _⟩
   exact hgo1653 _ _ _ (Option.some.inj hr).symm ⟨⟨hg, hs, hd⟩, i0, i4, trivial⟩
  rw [if_neg (by rw [hc1667]; decide)] at hr
  refine wp_exit ?_
  exact hex1654 _ _ _ _ (Option.some.inj hr).symm ⟨rfl, ⟨hg, hs, hd⟩, i0, trivial⟩
 ·rintro r1 a k rfl hR
  dsimp only at hr
  obtain rfl := Option.some.inj hr
  exact hR
 ·rintro _ _ _ rfl _
  simp at hr
 clear hf1
 rintro _ s2 a k rfl ⟨rfl, ⟨hg, hs, hd⟩, i0, _⟩
 dsimp only at hr
 refine wp_seq ?_
 refine stepL 3 (_ :: _ :: _ :: []) rfl ⟨hg, hs, hd⟩ (by kernel_rfl) ⟨mu rfl i0, o1 [(18, some 0)] rfl fun _ _ h n => ok_len rfl rfl Try.underlying49 (IsV.rd n.1), o1 [(19, some 1)] rfl fun _ _ h n => ok_gtr rfl n.1 (cI rfl), trivial⟩ [⟨_, _⟩, ⟨_, _⟩] (fun b q p => ⟨p.ke 0 rfl i0, p.ou 2 20 rfl, trivial⟩) ?_
 rintro a k ⟨⟨hg, hs, hd⟩, i0, i20, _⟩
 refine wp_cond_split (isBool i20) (fun hc1689 => ?_) (fun hc1689 => ?_)
 ·rw [if_pos hc1689] at hr
  refine cutL noF k0 27 [⟨2, IsV ([] : List Rect)⟩, ⟨3, IsI 6⟩] ?_ ?_
  ·intro Q5 W5 w4
   refine gS 2 (⟨some IsE0, []⟩ :: ⟨some (IsI 6), []⟩ :: []) hs (by kernel_rfl) ⟨ob1 rfl fun b q h n => ok_assign rfl isE0_nil, aI rfl rfl, trivial⟩ W5 fun b q p => ?_
   have hgq := hg.then p.grow
   have hsb := p.size.trans hs
   have hdb := p.defers.trans hd
   have j2 : IsE0 (b.get 2) q := p.ou 0 2 rfl
   have j3 : (IsI 6) (b.get 3) q := p.ou 1 3 rfl
   replace j2 : IsV ([] : List Rect) (b.get 2) q := j2.isV
   exact tail_done (k := q) (w4 _ _ ⟨⟨hgq, hsb, hdb⟩, j2, j3, trivial⟩)
  rintro a k ⟨⟨hg, hs, hd⟩, i2, i3, _⟩
  refine wp_ret ?_
  obtain rfl := Option.some.inj hr
  exact retC2 rfl hd hg i2 i3
 rw [if_neg (by rw [hc1689]; decide)] at hr
 refine wp_skip ?_
 refine wp_seq ?_
 obtain ⟨x4, hx4, hr⟩ := bind_some hr
 refine cut (fun a' k' => Bs noF k0 27 a' k' ∧ (IsV x4) (a'.get 5) k' ∧ True) ?_ hQ ?_
 ·intro Q6 W6 w5
  refine gS 3 (_ :: _ :: _ :: []) hs (by kernel_rfl) ⟨mu rfl i0, o1 [(21, some 0)] rfl fun _ _ h n => ok_call rfl Try.call44 (ref06_Form_ok n.1 (isV_list.2 (.inl ⟨rfl, rfl⟩)) (cI rfl) hx4), cp 1 rfl rfl, trivial⟩ W6 fun b q p => ?_
  exact tail_done (k := q) (w5 _ _ ⟨Bs.post ⟨hg, hs, hd⟩ p, p.ou 2 5 rfl, trivial⟩)
 rintro a k ⟨⟨hg, hs, hd⟩, i5, _⟩
 refine wp_seq ?_
 refine stepL 3 (_ :: _ :: _ :: []) rfl ⟨hg, hs, hd⟩ (by kernel_rfl) ⟨mu rfl i5, o1 [(23, some 0)] rfl fun _ _ h n => ok_len rfl rfl Try.underlying49 (IsV.rd n.1), o1 [(24, some 1)] rfl fun _ _ h n => ok_gtr rfl n.1 (cI rfl), trivial⟩ [⟨_, _⟩, ⟨_, _⟩] (fun b q p => ⟨p.ke 5 rfl i5, p.ou 2 25 rfl, trivial⟩) ?_
 rintro a k ⟨⟨hg, hs, hd⟩, i5, i25, _⟩
 refine wp_cond_split (isBool i25) (fun hc1684 => ?_) (fun hc1684 => ?_)
 ·rw [if_pos hc1684] at hr
  refine cutL noF k0 27 [⟨2, IsV ([] : List Rect)⟩, ⟨3, IsI 6⟩] ?_ ?_
  ·intro Q7 W7 w6
   refine gS 2 (⟨some IsE0, []⟩ :: ⟨some (IsI 6), []⟩ :: []) hs (by kernel_rfl) ⟨ob1 rfl fun b q h n => ok_assign rfl isE0_nil, aI rfl rfl, trivial⟩ W7 fun b q p => ?_
   have hgq := hg.then p.grow
   have hsb := p.size.trans hs
   have hdb := p.defers.trans hd
   have j2 : IsE0 (b.get 2) q := p.ou 0 2 rfl
   have j3 : (IsI 6) (b.get 3) q := p.ou 1 3 rfl
   replace j2 : IsV ([] : List Rect) (b.get 2) q := j2.isV
   exact tail_done (k := q) (w6 _ _ ⟨⟨hgq, hsb, hdb⟩, j2, j3, trivial⟩)
  rintro a k ⟨⟨hg, hs, hd⟩, i2, i3, _⟩
  refine wp_ret ?_
  obtain rfl := Option.some.inj hr
  exact retC2 rfl hd hg i2 i3
 rw [if_neg (by rw [hc1684]; decide)] at hr
 refine wp_skip ?_
 refine stepL 3 (_ :: _ :: ⟨some (IsI 0), []⟩ :: []) rfl ⟨hg, hs, hd⟩ (by kernel_rfl) ⟨mu rfl i5, cp 0 rfl rfl, aI rfl rfl, trivial⟩ [⟨_, _⟩, ⟨_, _⟩] (fun b q p => ⟨p.ou 1 2 rfl, p.ou 2 3 rfl, trivial⟩) ?_
 rintro a k ⟨⟨hg, hs, hd⟩, i2, i3, _⟩
 refine wp_ret ?_
 obtain rfl := Option.some.inj hr
 exact retC2 rfl hd hg i2 i3
def ref06_Right (a_ : (List Rect)) : Option (Bool) :=
 (ref06_Of a_).bind fun x1 =>
 (if (x1.2 == 0) then
  (ref06_Same x1.1 a_).bind fun x2 =>
  some x2
 else
  some false).bind fun x3 =>
 some x3
theorem ref06_Right_ok {k0 : K} {v0 : Value} {a_ : (List Rect)} {r : Bool} (i0 : (IsV a_) v0 k0) (hr : ref06_Right a_ = some r) :
  Calls Try.prog 30 #[v0] k0.w (Ret k0 (IsV r)) := by
 unfold ref06_Right at hr
 refine Ret.ofC ?_
 refine enterK Try.func30 rfl Try.ntmps30 (show 1 ≤ 17 by decide) fun a k hk0 hs hd ha => ?_
 obtain ⟨e0, _⟩ := ha
 replace i0 : (IsV a_) (a.get 0) k := by rw [e0, hk0]; exact i0
 have hQ : Gb.LetsOut (bodyPost Try.prog Try.f30 (RetC noF k0 (IsV r))) := letsOutC
 have hg : Chg noF k0 k := by rw [hk0]; exact Chg.refl _ k0
 refine stepL 1 (⟨some (IsV false), []⟩ :: []) rfl ⟨hg, hs, hd⟩ (by kernel_rfl) ⟨ob1 rfl fun _ _ h n => ok_assign rfl (isV_bool.2 rfl), trivial⟩ [⟨_, _⟩] (fun b q p => ⟨p.ke 0 rfl i0, trivial⟩) ?_
 rintro a k ⟨⟨hg, hs, hd⟩, i0, _⟩
 refine wp_seq ?_
 obtain ⟨x1, hx1, hr⟩ := bind_some hr
 refine cut (fun a' k' => Bs noF k0 17 a' k' ∧ (IsV a_) (a'.get 0) k' ∧ (IsV x1.1) (a'.get 3) k' ∧ (IsV x1.2) (a'.get 4) k' ∧ True) ?_ hQ ?_
 ·intro Q1 W1 w1
  refine gS 7 (_ :: _ :: _ :: _ :: _ :: _ :: _ :: []) hs (by kernel_rfl) ⟨mu rfl i0, o1 [(6, some 0)] rfl fun _ _ h n => ok_call rfl Try.call51 (ref06_Of_ok n.1 hx1), cm 1 rfl rfl, o1 [(5, some 2)] rfl fun _ _ h n => ok_ext2_0 rfl n.1, o1 [(5, some 2)] rfl fun _ _ h n => ok_ext2_1 rfl n.1, cp 3 rfl rfl, cp 4 rfl rfl, trivial⟩ W1 fun b q p => ?_
  exact tail_done (k := q) (w1 _ _ ⟨Bs.post ⟨hg, hs, hd⟩ p, p.ke 0 rfl i0, p.ou 5 3 rfl, p.ou 6 4 rfl, trivial⟩)
 rintro a k ⟨⟨hg, hs, hd⟩, i0, i3, i4, _⟩
 refine wp_seq ?_
 obtain ⟨x2, hx2, hr⟩ := bind_some hr
 obtain ⟨x3, hx3, hx2⟩ := ite_bind hx2
 refine cut (fun a' k' => Bs noF k0 17 a' k' ∧ (IsV x2) (a'.get 2) k' ∧ True) ?_ hQ ?_
 ·intro Q2 W2 w2
  refine gS 8 (_ :: _ :: _ :: _ :: _ :: _ :: _ :: _ :: []) hs (by kernel_rfl) ⟨mu rfl i4, o1 [(10, some 0)] rfl fun _ _ h n => ok_eqI rfl n.1 (cI rfl), cm 1 rfl rfl, mT rfl rfl i3, mT rfl rfl i0, gT [(13, some 3), (14, some 4)] rfl rfl fun hp _ _ h n => ok_call rfl Try.call31 (ref06_Same_ok (Gd.get n.1 hp) (Gd.get n.2.1 hp) (hx3 hp)), o1 [(12, some 2), (15, some 5)] rfl fun _ _ h n => ok_pickM rfl n.1 hx2 (Gd.get n.2.1) (cB rfl), cp 6 rfl rfl, trivial⟩ W2 fun b q p => ?_
  exact tail_done (k := q) (w2 _ _ ⟨Bs.post ⟨hg, hs, hd⟩ p, p.ou 7 2 rfl, trivial⟩)
 rintro a k ⟨⟨hg, hs, hd⟩, i2, _⟩
 refine wp_ret ?_
 obtain rfl := Option.some.inj hr
 exact retC1 rfl hd hg i2
def ref09_Right_L0 (s_ : (List Slab)) (s1 : Int) : Option (Flow (Int) (Bool)) :=
 if (decide (s1 < (s_.length : Int))) then
  (getI s_ s1).bind fun x1 =>
  (if (decide (x1.Z0 < 0)) then
   some true
  else
   (getI s_ s1).bind fun x2 =>
   (getI s_ s1).bind fun x3 =>
   some (decide (x3.Z1 ≤ x2.Z0))).bind fun x4 =>
  (if x4 then
   some true
  else
   (getI s_ s1).bind fun x5 =>
   some (decide (4096 < x5.Z1))).bind fun x6 =>
  (if x6 then
   some true
  else
   (getI s_ s1).bind fun x7 =>
   some ((x7.Area.length : Int) == 0)).bind fun x8 =>
  (if x8 then
   some true
  else
   (getI s_ s1).bind fun x9 =>
   (ref06_Right x9.Area).bind fun x10 =>
   some (!x10)).bind fun x11 =>
  if x11 then
   some (.ret false)
  else
   (if (decide (0 < s1)) then
    (subI s1 1).bind fun x12 =>
    (getI s_ x12).bind fun x13 =>
    (getI s_ s1).bind fun x14 =>
    (if (decide (x14.Z0 < x13.Z1)) then
     some true
    else
     (subI s1 1).bind fun x15 =>
     (getI s_ x15).bind fun x16 =>
     (getI s_ s1).bind fun x17 =>
     (if (x16.Z1 == x17.Z0) then
      (subI s1 1).bind fun x18 =>
      (getI s_ x18).bind fun x19 =>
      (getI s_ s1).bind fun x20 =>
      (ref06_Same x19.Area x20.Area).bind fun x21 =>
      some x21
     else
      some false).bind fun x22 =>
     some x22).bind fun x23 =>
    some x23
   else
    some false).bind fun x24 =>
   if x24 then
    some (.ret false)
   else
    (addI s1 1).bind fun x25 =>
    some (.go x25)
 else
  some (.ex 0 s1)
def ref09_Right (s_ : (List Slab)) : Option (Bool) :=
 if (decide (80 < (s_.length : Int))) then
  some false
 else
  (iterL (ref09_Right_L0 s_) (s_.length + 1) 0).bind fun f1 => match f1 with
   | .go _ => none
   | .ex _ _ =>
    some true
   | .ret r1 => some r1
theorem ref09_Right_ok {k0 : K} {v0 : Value} {s_ : (List Slab)} {r : Bool} (i0 : (IsV s_) v0 k0) (hr : ref09_Right s_ = some r) :
  Calls Try.prog 15 #[v0] k0.w (Ret k0 (IsV r)) := by
 unfold ref09_Right at hr
 refine Ret.ofC ?_
 refine enterK Try.func15 rfl Try.ntmps15 (show 1 ≤ 102 by decide) fun a k hk0 hs hd ha => ?_
 obtain ⟨e0, _⟩ := ha
 replace i0 : (IsV s_) (a.get 0) k := by rw [e0, hk0]; exact i0
 have hQ : Gb.LetsOut (bodyPost Try.prog Try.f15 (RetC noF k0 (IsV r))) := letsOutC
 have hg : Chg noF k0 k := by rw [hk0]; exact Chg.refl _ k0
 refine stepL 1 (⟨some (IsV false), []⟩ :: []) rfl ⟨hg, hs, hd⟩ (by kernel_rfl) ⟨ob1 rfl fun _ _ h n => ok_assign rfl (isV_bool.2 rfl), trivial⟩ [⟨_, _⟩] (fun b q p => ⟨p.ke 0 rfl i0, trivial⟩) ?_
 rintro a k ⟨⟨hg, hs, hd⟩, i0, _⟩
 refine wp_seq ?_
 refine stepL 3 (_ :: _ :: _ :: []) rfl ⟨hg, hs, hd⟩ (by kernel_rfl) ⟨mu rfl i0, o1 [(4, some 0)] rfl fun _ _ h n => ok_len rfl rfl Try.underlying22 (IsV.rd n.1), o1 [(5, some 1)] rfl fun _ _ h n => ok_gtr rfl n.1 (cI rfl), trivial⟩ [⟨_, _⟩, ⟨_, _⟩] (fun b q p => ⟨p.ke 0 rfl i0, p.ou 2 6 rfl, trivial⟩) ?_
 rintro a k ⟨⟨hg, hs, hd⟩, i0, i6, _⟩
 refine wp_cond_split (isBool i6) (fun hc1747 => ?_) (fun hc1747 => ?_)
 ·rw [if_pos hc1747] at hr
  refine stepL 1 (⟨some (IsV false), []⟩ :: []) rfl ⟨hg, hs, hd⟩ (by kernel_rfl) ⟨ob1 rfl fun _ _ h n => ok_assign rfl (isV_bool.2 rfl), trivial⟩ [⟨_, _⟩] (fun b q p => ⟨p.ou 0 2 rfl, trivial⟩) ?_
  rintro a k ⟨⟨hg, hs, hd⟩, i2, _⟩
  refine wp_ret ?_
  obtain rfl := Option.some.inj hr
  exact retC1 rfl hd hg i2
 rw [if_neg (by rw [hc1747]; decide)] at hr
 refine wp_skip ?_
 refine wp_seq ?_
 refine stepL 1 (⟨some (IsI 0), []⟩ :: []) rfl ⟨hg, hs, hd⟩ (by kernel_rfl) ⟨aI rfl rfl, trivial⟩ [⟨_, _⟩, ⟨_, _⟩] (fun b q p => ⟨p.ke 0 rfl i0, p.ou 0 3 rfl, trivial⟩) ?_
 rintro a k ⟨⟨hg, hs, hd⟩, i0, i3, _⟩
 refine wp_block ?_
 obtain ⟨f1, hf1, hr⟩ := bind_some hr
 refine cutFe f1 (fun s' a' k' => Bs noF k0 102 a' k' ∧ (IsV s_) (a'.get 0) k' ∧ (IsV s') (a'.get 3) k' ∧ True) (fun i' s' a' k' => (i' = 0 ∧ Bs noF k0 102 a' k' ∧ True)) (fun r' a' k' => bodyPost Try.prog Try.f15 (RetC noF k0 (IsV r')) .ret a' k'.w) ?_ hQ ?_ ?_ ?_
 ·intro Q1 W1 hgo hex hret
  refine sim_loop ?_ _ _ _ _ _ hf1 ⟨⟨hg, hs, hd⟩, i0, i3, trivial⟩ Q1 W1 hgo hex hret
  clear hr hf1 hgo hex hret W1 hQ hg hs hd i0 i3
  intro s1 fl_ a k hr hS Q hQ hgo1714 hex1715 hret1716
  obtain ⟨⟨hg, hs, hd⟩, i0, i3, _⟩ := hS
  unfold ref09_Right_L0 at hr
  refine wp_seq ?_
  refine stepL 4 (_ :: _ :: _ :: _ :: []) rfl ⟨hg, hs, hd⟩ (by kernel_rfl) ⟨mu rfl i3, mu rfl i0, o1 [(8, some 1)] rfl fun _ _ h n => ok_len rfl rfl Try.underlying22 (IsV.rd n.1), o1 [(7, some 0), (9, some 2)] rfl fun _ _ h n => ok_lss rfl n.1 n.2.1, trivial⟩ [⟨_, _⟩, ⟨_, _⟩, ⟨_, _⟩] (fun b q p => ⟨p.ke 0 rfl i0, p.ke 3 rfl i3, p.ou 3 10 rfl, trivial⟩) ?_
  rintro a k ⟨⟨hg, hs, hd⟩, i0, i3, i10, _⟩
  refine wp_cond_split (isBool i10) (fun hc1735 => ?_) (fun hc1735 => ?_)
  ·rw [if_pos hc1735] at hr
   refine wp_skip ?_
   refine wp_seq ?_
   refine wp_block ?_
   refine wp_seq ?_
   refine wp_seq ?_
   obtain ⟨x1, hx1, hr⟩ := bind_some hr
   obtain ⟨x2, hx2, hr⟩ := bind_some hr
   obtain ⟨x3, hx3, hx2⟩ := ite_bindF hx2
   obtain ⟨x4, hx4, hx2⟩ := ite_bindF hx2
   obtain ⟨x5, hx5, hr⟩ := bind_some hr
   obtain ⟨x6, hx6, hx5⟩ := ite_bindF hx5
   obtain ⟨x7, hx7, hr⟩ := bind_some hr
   obtain ⟨x8, hx8, hx7⟩ := ite_bindF hx7
   obtain ⟨x9, hx9, hr⟩ := bind_some hr
   obtain ⟨x10, hx10, hx9⟩ := ite_bindF hx9
   obtain ⟨x11, hx11, hx9⟩ := ite_bindF hx9
   refine cut (fun a' k' => Bs noF k0 102 a' k' ∧ (IsV s_) (a'.get 0) k' ∧ (IsV s1) (a'.get 3) k' ∧ (IsV x9) (a'.get 57) k' ∧ True) ?_ hQ ?_
   ·intro Q2 W2 w1
    refine region (m := 45) (_ :: _ :: _ :: _ :: _ :: _ :: _ :: _ :: _ :: _ :: _ :: _ :: _ :: _ :: _ :: _ :: _ :: _ :: _ :: _ :: _ :: _ :: _ :: _ :: _ :: _ :: _ :: _ :: _ :: _ :: _ :: _ :: _ :: _ :: _ :: _ :: _ :: _ :: _ :: _ :: _ :: _ :: _ :: _ :: _ :: []) hmix hs (by kernel_rfl) ⟨mu rfl i0, mu rfl i3, o1 [(13, some 0), (14, some 1)] rfl fun _ _ h n => ok_indexAddr rfl Try.underlying22 ty51 (IsV.rd n.1) n.2.1 hx1, o1 [(15, some 2)] rfl fun _ _ h n => ok_fieldAddr rfl fo51_0 (at_Slab_0 _) n.1, o1 [(16, some 3)] rfl fun _ _ h n => ok_load rfl ty3 n.1, o1 [(17, some 4)] rfl fun _ _ h n => ok_lss rfl n.1 (cI rfl), cm 5 rfl rfl, mF rfl rfl i0, mF rfl rfl i3, gF [(20, some 7), (21, some 8)] rfl rfl fun hp _ _ h n => ok_indexAddr rfl Try.underlying22 ty51 (IsV.rd (Gd.get n.1 hp)) (Gd.get n.2.1 hp) (hx3 hp), gF [(22, some 9)] rfl rfl fun hp _ _ h n => ok_fieldAddr rfl fo51_0 (at_Slab_0 _) (Gd.get n.1 hp), gF [(23, some 10)] rfl rfl fun hp _ _ h n => ok_load rfl ty3 (Gd.get n.1 hp), mF rfl rfl i0, mF rfl rfl i3, gF [(25, some 12), (26, some 13)] rfl rfl fun hp _ _ h n => ok_indexAddr rfl Try.underlying22 ty51 (IsV.rd (Gd.get n.1 hp)) (Gd.get n.2.1 hp) (hx4 hp), gF [(27, some 14)] rfl rfl fun hp _ _ h n => ok_fieldAddr rfl fo51_1 (at_Slab_1 _) (Gd.get n.1 hp), gF [(28, some 15)] rfl rfl fun hp _ _ h n => ok_load rfl ty3 (Gd.get n.1 hp), gF [(24, some 11), (29, some 16)] rfl rfl fun hp _ _ h n => ok_geq rfl (Gd.get n.1 hp) (Gd.get n.2.1 hp), o1 [(19, some 6), (30, some 17)] rfl fun _ _ h n => ok_pickM rfl n.1 hx2 (cB rfl) (Gd.get n.2.1), cm 18 rfl rfl, mF rfl rfl i0, mF rfl rfl i3, gF [(33, some 20), (34, some 21)] rfl rfl fun hp _ _ h n => ok_indexAddr rfl Try.underlying22 ty51 (IsV.rd (Gd.get n.1 hp)) (Gd.get n.2.1 hp) (hx6 hp), gF [(35, some 22)] rfl rfl fun hp _ _ h n => ok_fieldAddr rfl fo51_1 (at_Slab_1 _) (Gd.get n.1 hp), gF [(36, some 23)] rfl rfl fun hp _ _ h n => ok_load rfl ty3 (Gd.get n.1 hp), gF [(37, some 24)] rfl rfl fun hp _ _ h n => ok_gtr rfl (Gd.get n.1 hp) (cI rfl), o1 [(32, some 19), (38, some 25)] rfl fun _ _ h n => ok_pickM rfl n.1 hx5 (cB rfl) (Gd.get n.2.1), cm 26 rfl rfl, mF rfl rfl i0, mF rfl rfl i3, gF [(41, some 28), (42, some 29)] rfl rfl fun hp _ _ h n => ok_indexAddr rfl Try.underlying22 ty51 (IsV.rd (Gd.get n.1 hp)) (Gd.get n.2.1 hp) (hx8 hp), gF [(43, some 30)] rfl rfl fun hp _ _ h n => ok_fieldAddr rfl fo51_2 (at_Slab_2 _) (Gd.get n.1 hp), gF [(44, some 31)] rfl rfl fun hp _ _ h n => ok_load rfl ty49 (Gd.get n.1 hp), gF [(45, some 32)] rfl rfl fun hp _ _ h n => ok_len rfl rfl Try.underlying49 (IsV.rd (Gd.get n.1 hp)), gF [(46, some 33)] rfl rfl fun hp _ _ h n => ok_eqI rfl (Gd.get n.1 hp) (cI rfl), o1 [(40, some 27), (47, some 34)] rfl fun _ _ h n => ok_pickM rfl n.1 hx7 (cB rfl) (Gd.get n.2.1), cm 35 rfl rfl, mF rfl rfl i0, mF rfl rfl i3, gF [(50, some 37), (51, some 38)] rfl rfl fun hp _ _ h n => ok_indexAddr rfl Try.underlying22 ty51 (IsV.rd (Gd.get n.1 hp)) (Gd.get n.2.1 hp) (hx10 hp), gF [(52, some 39)] rfl rfl fun hp _ _ h n => ok_fieldAddr rfl fo51_2 (at_Slab_2 _) (Gd.get n.1 hp), gF [(53, some 40)] rfl rfl fun hp _ _ h n => ok_load rfl ty49 (Gd.get n.1 hp), gF [(54, some 41)] rfl rfl fun hp _ _ h n => ok_call rfl Try.call30 (ref06_Right_ok (Gd.get n.1 hp) (hx11 hp)), gF [(55, some 42)] rfl rfl fun hp _ _ h n => ok_not rfl (Gd.get n.1 hp), o1 [(49, some 36), (56, some 43)] rfl fun _ _ h n => ok_pickM rfl n.1 hx9 (cB rfl) (Gd.get n.2.1), trivial⟩ W2 fun b q p => ?_
    exact tail_done (k := q) (w1 _ _ ⟨Bs.post ⟨hg, hs, hd⟩ p, p.ke 0 rfl i0, p.ke 3 rfl i3, p.ou 44 57 rfl, trivial⟩)
   rintro a k ⟨⟨hg, hs, hd⟩, i0, i3, i57, _⟩
   refine wp_cond_split (isBool i57) (fun hc1732 => ?_) (fun hc1732 => ?_)
   ·rw [if_pos hc1732] at hr
    refine stepL 1 (⟨some (IsV false), []⟩ :: []) rfl ⟨hg, hs, hd⟩ (by kernel_rfl) ⟨ob1 rfl fun _ _ h n => ok_assign rfl (isV_bool.2 rfl), trivial⟩ [⟨_, _⟩] (fun b q p => ⟨p.ou 0 2 rfl, trivial⟩) ?_
    rintro a k ⟨⟨hg, hs, hd⟩, i2, _⟩
    refine wp_ret ?_
    exact hret1716 _ _ _ (Option.some.inj hr).symm (retC1 rfl hd hg i2)
   rw [if_neg (by rw [hc1732]; decide)] at hr
   refine wp_skip ?_
   refine wp_seq ?_
   obtain ⟨x12, hx12, hr⟩ := bind_some hr
   obtain ⟨x13, hx13, hx12⟩ := ite_bind hx12
   obtain ⟨x14, hx14, hx12⟩ := ite_bind hx12
   obtain ⟨x15, hx15, hx12⟩ := ite_bind hx12
   obtain ⟨x16, hx16, hx12⟩ := ite_bind hx12
   obtain ⟨x17, hx17, hx16⟩ := ite_bindFP hx16
   obtain ⟨x18, hx18, hx16⟩ := ite_bindFP hx16
   obtain ⟨x19, hx19, hx16⟩ := ite_bindFP hx16
   obtain ⟨x20, hx20, hx16⟩ := ite_bindFP hx16
   obtain ⟨x21, hx21, hx20⟩ := ite_bindP hx20
   obtain ⟨x22, hx22, hx20⟩ := ite_bindP hx20
   obtain ⟨x23, hx23, hx20⟩ := ite_bindP hx20
   obtain ⟨x24, hx24, hx20⟩ := ite_bindP hx20
   refine cut (fun a' k' => Bs noF k0 102 a' k' ∧ (IsV s_) (a'.get 0) k' ∧ (IsV s1) (a'.get 3) k' ∧ (IsV x12) (a'.get 101) k' ∧ True) ?_ hQ ?_
   ·intro Q3 W3 w2
    refine region (m := 44) (_ :: _ :: _ :: _ :: _ :: _ :: _ :: _ :: _ :: _ :: _ :: _ :: _ :: _ :: _ :: ⟨some (Gd ((decide (0 < s1)) = true) (IsV (decide (x15.Z0 < x14.Z1)))), [(72, some 14)]⟩ :: ⟨some (Gd (((decide (0 < s1)) = true) ∧ (decide (x15.Z0 < x14.Z1)) = false) (IsV s_)), [(0, none)]⟩ :: ⟨some (Gd (((decide (0 < s1)) = true) ∧ (decide (x15.Z0 < x14.Z1)) = false) (IsV s1)), [(3, none)]⟩ :: ⟨some (Gd (((decide (0 < s1)) = true) ∧ (decide (x15.Z0 < x14.Z1)) = false) (IsV x17)), [(75, some 17)]⟩ :: ⟨some (Gd (((decide (0 < s1)) = true) ∧ (decide (x15.Z0 < x14.Z1)) = false) (IsPtr x18)), [(74, some 16), (76, some 18)]⟩ :: ⟨some (Gd (((decide (0 < s1)) = true) ∧ (decide (x15.Z0 < x14.Z1)) = false) (IsPtr x18.Z1)), [(77, some 19)]⟩ :: ⟨some (Gd (((decide (0 < s1)) = true) ∧ (decide (x15.Z0 < x14.Z1)) = false) (IsV x18.Z1)), [(78, some 20)]⟩ :: ⟨some (Gd (((decide (0 < s1)) = true) ∧ (decide (x15.Z0 < x14.Z1)) = false) (IsV s_)), [(0, none)]⟩ :: ⟨some (Gd (((decide (0 < s1)) = true) ∧ (decide (x15.Z0 < x14.Z1)) = false) (IsV s1)), [(3, none)]⟩ :: ⟨some (Gd (((decide (0 < s1)) = true) ∧ (decide (x15.Z0 < x14.Z1)) = false) (IsPtr x19)), [(80, some 22), (81, some 23)]⟩ :: ⟨some (Gd (((decide (0 < s1)) = true) ∧ (decide (x15.Z0 < x14.Z1)) = false) (IsPtr x19.Z0)), [(82, some 24)]⟩ :: ⟨some (Gd (((decide (0 < s1)) = true) ∧ (decide (x15.Z0 < x14.Z1)) = false) (IsV x19.Z0)), [(83, some 25)]⟩ :: ⟨some (Gd (((decide (0 < s1)) = true) ∧ (decide (x15.Z0 < x14.Z1)) = false) (IsV (x18.Z1 == x19.Z0))), [(79, some 21), (84, some 26)]⟩ :: ⟨some (Gd (((decide (0 < s1)) = true) ∧ (decide (x15.Z0 < x14.Z1)) = false) (IsV (x18.Z1 == x19.Z0))), [(85, some 27)]⟩ :: ⟨some (Gd ((((decide (0 < s1)) = true) ∧ (decide (x15.Z0 < x14.Z1)) = false) ∧ (x18.Z1 == x19.Z0) = true) (IsV s_)), [(0, none)]⟩ :: ⟨some (Gd ((((decide (0 < s1)) = true) ∧ (decide (x15.Z0 < x14.Z1)) = false) ∧ (x18.Z1 == x19.Z0) = true) (IsV s1)), [(3, none)]⟩ :: ⟨some (Gd ((((decide (0 < s1)) = true) ∧ (decide (x15.Z0 < x14.Z1)) = false) ∧ (x18.Z1 == x19.Z0) = true) (IsV x21)), [(88, some 30)]⟩ :: ⟨some (Gd ((((decide (0 < s1)) = true) ∧ (decide (x15.Z0 < x14.Z1)) = false) ∧ (x18.Z1 == x19.Z0) = true) (IsPtr x22)), [(87, some 29), (89, some 31)]⟩ :: ⟨some (Gd ((((decide (0 < s1)) = true) ∧ (decide (x15.Z0 < x14.Z1)) = false) ∧ (x18.Z1 == x19.Z0) = true) (IsPtr x22.Area)), [(90, some 32)]⟩ :: ⟨some (Gd ((((decide (0 < s1)) = true) ∧ (decide (x15.Z0 < x14.Z1)) = false) ∧ (x18.Z1 == x19.Z0) = true) (IsV x22.Area)), [(91, some 33)]⟩ :: ⟨some (Gd ((((decide (0 < s1)) = true) ∧ (decide (x15.Z0 < x14.Z1)) = false) ∧ (x18.Z1 == x19.Z0) = true) (IsV s_)), [(0, none)]⟩ :: ⟨some (Gd ((((decide (0 < s1)) = true) ∧ (decide (x15.Z0 < x14.Z1)) = false) ∧ (x18.Z1 == x19.Z0) = true) (IsV s1)), [(3, none)]⟩ :: ⟨some (Gd ((((decide (0 < s1)) = true) ∧ (decide (x15.Z0 < x14.Z1)) = false) ∧ (x18.Z1 == x19.Z0) = true) (IsPtr x23)), [(93, some 35), (94, some 36)]⟩ :: ⟨some (Gd ((((decide (0 < s1)) = true) ∧ (decide (x15.Z0 < x14.Z1)) = false) ∧ (x18.Z1 == x19.Z0) = true) (IsPtr x23.Area)), [(95, some 37)]⟩ :: ⟨some (Gd ((((decide (0 < s1)) = true) ∧ (decide (x15.Z0 < x14.Z1)) = false) ∧ (x18.Z1 == x19.Z0) = true) (IsV x23.Area)), [(96, some 38)]⟩ :: ⟨some (Gd ((((decide (0 < s1)) = true) ∧ (decide (x15.Z0 < x14.Z1)) = false) ∧ (x18.Z1 == x19.Z0) = true) (IsV x24)), [(92, some 34), (97, some 39)]⟩ :: ⟨some (Gd (((decide (0 < s1)) = true) ∧ (decide (x15.Z0 < x14.Z1)) = false) (IsV x20)), [(86, some 28), (98, some 40)]⟩ :: _ :: _ :: []) hmix hs (by kernel_rfl) ⟨mu rfl i3, o1 [(58, some 0)] rfl fun _ _ h n => ok_gtr rfl n.1 (cI rfl), cm 1 rfl rfl, mT rfl rfl i0, mT rfl rfl i3, gT [(62, some 4)] rfl rfl fun hp _ _ h n => ok_sub rfl (Gd.get n.1 hp) (cI rfl) (hx13 hp), gT [(61, some 3), (63, some 5)] rfl rfl fun hp _ _ h n => ok_indexAddr rfl Try.underlying22 ty51 (IsV.rd (Gd.get n.1 hp)) (Gd.get n.2.1 hp) (hx14 hp), gT [(64, some 6)] rfl rfl fun hp _ _ h n => ok_fieldAddr rfl fo51_1 (at_Slab_1 _) (Gd.get n.1 hp), gT [(65, some 7)] rfl rfl fun hp _ _ h n => ok_load rfl ty3 (Gd.get n.1 hp), mT rfl rfl i0, mT rfl rfl i3, gT [(67, some 9), (68, some 10)] rfl rfl fun hp _ _ h n => ok_indexAddr rfl Try.underlying22 ty51 (IsV.rd (Gd.get n.1 hp)) (Gd.get n.2.1 hp) (hx15 hp), gT [(69, some 11)] rfl rfl fun hp _ _ h n => ok_fieldAddr rfl fo51_0 (at_Slab_0 _) (Gd.get n.1 hp), gT [(70, some 12)] rfl rfl fun hp _ _ h n => ok_load rfl ty3 (Gd.get n.1 hp), gT [(66, some 8), (71, some 13)] rfl rfl fun hp _ _ h n => ok_gtr rfl (Gd.get n.1 hp) (Gd.get n.2.1 hp), gdT rfl rfl fun hp _ _ h n => ok_move rfl (Gd.get n.1 hp), gdTF rfl rfl fun hp b q h n => ok_move rfl (up i0 h n.1), gdTF rfl rfl fun hp b q h n => ok_move rfl (up i3 h n.1), gdTF rfl rfl fun hp b q h n => ok_sub rfl (Gd.get n.1 hp) (cI rfl) (hx17 hp), gdTF rfl rfl fun hp b q h n => ok_indexAddr rfl Try.underlying22 ty51 (IsV.rd (Gd.get n.1 hp)) (Gd.get n.2.1 hp) (hx18 hp), gdTF rfl rfl fun hp b q h n => ok_fieldAddr rfl fo51_1 (at_Slab_1 _) (Gd.get n.1 hp), gdTF rfl rfl fun hp b q h n => ok_load rfl ty3 (Gd.get n.1 hp), gdTF rfl rfl fun hp b q h n => ok_move rfl (up i0 h n.1), gdTF rfl rfl fun hp b q h n => ok_move rfl (up i3 h n.1), gdTF rfl rfl fun hp b q h n => ok_indexAddr rfl Try.underlying22 ty51 (IsV.rd (Gd.get n.1 hp)) (Gd.get n.2.1 hp) (hx19 hp), gdTF rfl rfl fun hp b q h n => ok_fieldAddr rfl fo51_0 (at_Slab_0 _) (Gd.get n.1 hp), gdTF rfl rfl fun hp b q h n => ok_load rfl ty3 (Gd.get n.1 hp), gdTF rfl rfl fun hp b q h n => ok_eqI rfl (Gd.get n.1 hp) (Gd.get n.2.1 hp), gdTF rfl rfl fun hp b q h n => ok_move rfl (Gd.get n.1 hp), gdTT rfl rfl fun hp b q h n => ok_move rfl (up i0 h n.1), gdTT rfl rfl fun hp b q h n => ok_move rfl (up i3 h n.1), gdTT rfl rfl fun hp b q h n => ok_sub rfl (Gd.get n.1 hp) (cI rfl) (hx21 hp), gdTT rfl rfl fun hp b q h n => ok_indexAddr rfl Try.underlying22 ty51 (IsV.rd (Gd.get n.1 hp)) (Gd.get n.2.1 hp) (hx22 hp), gdTT rfl rfl fun hp b q h n => ok_fieldAddr rfl fo51_2 (at_Slab_2 _) (Gd.get n.1 hp), gdTT rfl rfl fun hp b q h n => ok_load rfl ty49 (Gd.get n.1 hp), gdTT rfl rfl fun hp b q h n => ok_move rfl (up i0 h n.1), gdTT rfl rfl fun hp b q h n => ok_move rfl (up i3 h n.1), gdTT rfl rfl fun hp b q h n => ok_indexAddr rfl Try.underlying22 ty51 (IsV.rd (Gd.get n.1 hp)) (Gd.get n.2.1 hp) (hx23 hp), gdTT rfl rfl fun hp b q h n => ok_fieldAddr rfl fo51_2 (at_Slab_2 _) (Gd.get n.1 hp), gdTT rfl rfl fun hp b q h n => ok_load rfl ty49 (Gd.get n.1 hp), gdTT rfl rfl fun hp b q h n => ok_call rfl Try.call31 (ref06_Same_ok (Gd.get n.1 hp) (Gd.get n.2.1 hp) (hx24 hp)), gdTF rfl rfl fun hp b q h n => ok_pickM rfl (Gd.get n.1 hp) (hx20 hp) (fun hm => (Gd.get n.2.1 ⟨hp, hm⟩)) (cB rfl), gT [(73, some 15), (99, some 41)] rfl rfl fun hp _ _ h n => ok_pickM rfl (Gd.get n.1 hp) (hx16 hp) (cB rfl) (fun hm => (Gd.get n.2.1 ⟨hp, hm⟩)), o1 [(60, some 2), (100, some 42)] rfl fun _ _ h n => ok_pickM rfl n.1 hx12 (Gd.get n.2.1) (cB rfl), trivial⟩ W3 fun b q p => ?_
    exact tail_done (k := q) (w2 _ _ ⟨Bs.post ⟨hg, hs, hd⟩ p, p.ke 0 rfl i0, p.ke 3 rfl i3, p.ou 43 101 rfl, trivial⟩)
   rintro a k ⟨⟨hg, hs, hd⟩, i0, i3, i101, _⟩
   refine wp_cond_split (isBool i101) (fun hc1729 => ?_) (fun hc1729 => ?_)
   ·rw [if_pos hc1729] at hr
    refine stepL 1 (⟨some (IsV false), []⟩ :: []) rfl ⟨hg, hs, hd⟩ (by kernel_rfl) ⟨ob1 rfl fun _ _ h n => ok_assign rfl (isV_bool.2 rfl), trivial⟩ [⟨_, _⟩] (fun b q p => ⟨p.ou 0 2 rfl, trivial⟩) ?_
    rintro a k ⟨⟨hg, hs, hd⟩, i2, _⟩
    refine wp_ret ?_
    exact hret1716 _ _ _ (Option.some.inj hr).symm (retC1 rfl hd hg i2)
   rw [if_neg (by rw [hc1729]; decide)] at hr
   refine wp_skip ?_
   obtain ⟨x25, hx25, hr⟩ := bind_some hr
   refine cut (fun a' k' => Bs noF k0 102 a' k' ∧ (IsV s_) (a'.get 0) k' ∧ (IsV x25) (a'.get 3) k' ∧ True) ?_ hQ ?_
   ·intro Q4 W4 w3
    refine gS 3 (_ :: _ :: _ :: []) hs (by kernel_rfl) ⟨mu rfl i3, o1 [(11, some 0)] rfl fun _ _ h n => ok_add rfl n.1 (cI rfl) hx25, cp 1 rfl rfl, trivial⟩ W4 fun b q p => ?_
    exact tail_done (k := q) (w3 _ _ ⟨Bs.post ⟨hg, hs, hd⟩ p, p.ke 0 rfl i0, p.ou 2 3 rfl, trivial⟩)
   rintro a k ⟨⟨hg, hs, hd⟩, i0, i3, _⟩
   exact hgo1714 _ _ _ (Option.some.inj hr).symm ⟨⟨hg, hs, hd⟩, i0, i3, trivial⟩
  rw [if_neg (by rw [hc1735]; decide)] at hr
  refine wp_exit ?_
  exact hex1715 _ _ _ _ (Option.some.inj hr).symm ⟨rfl, ⟨hg, hs, hd⟩, trivial⟩
 ·rintro r1 a k rfl hR
  dsimp only at hr
  obtain rfl := Option.some.inj hr
  exact hR
 ·rintro _ _ _ rfl _
  simp at hr
 clear hf1
 rintro _ s2 a k rfl ⟨rfl, ⟨hg, hs, hd⟩, _⟩
 dsimp only at hr
 refine stepL 1 (⟨some (IsV true), []⟩ :: []) rfl ⟨hg, hs, hd⟩ (by kernel_rfl) ⟨ob1 rfl fun _ _ h n => ok_assign rfl (isV_bool.2 rfl), trivial⟩ [⟨_, _⟩] (fun b q p => ⟨p.ou 0 2 rfl, trivial⟩) ?_
 rintro a k ⟨⟨hg, hs, hd⟩, i2, _⟩
 refine wp_ret ?_
 obtain rfl := Option.some.inj hr
 exact retC1 rfl hd hg i2
def ref11_Valid (p_ : Point3) : Option (Bool) :=
 some ((((((decide (0 ≤ p_.X)) && (decide (p_.X ≤ 1048576))) && (decide (0 ≤ p_.Y))) && (decide (p_.Y ≤ 1048576))) && (decide (0 ≤ p_.Z))) && (decide (p_.Z ≤ 4096)))
theorem ref11_Valid_ok {k0 : K} {v0 : Value} {p_ : Point3} {r : Bool} (i0 : (IsV p_) v0 k0) (hr : ref11_Valid p_ = some r) :
  Calls Try.prog 20 #[v0] k0.w (Ret k0 (IsV r)) := by
 unfold ref11_Valid at hr
 refine Ret.ofC ?_
 refine enterK Try.func20 rfl Try.ntmps20 (show 1 ≤ 31 by decide) fun a k hk0 hs hd ha => ?_
 obtain ⟨e0, _⟩ := ha
 replace i0 : (IsV p_) (a.get 0) k := by rw [e0, hk0]; exact i0
 have hQ : Gb.LetsOut (bodyPost Try.prog Try.f20 (RetC noF k0 (IsV r))) := letsOutC
 have hg : Chg noF k0 k := by rw [hk0]; exact Chg.refl _ k0
 refine stepL 2 (⟨some (IsRef p_), [(0, none)]⟩ :: ⟨some (IsV false), []⟩ :: []) rfl ⟨hg, hs, hd⟩ (by kernel_rfl) ⟨ob1 rfl fun _ _ h n => ok_boxR rfl (up i0 h n.1), ob1 rfl fun _ _ h n => ok_assign rfl (isV_bool.2 rfl), trivial⟩ [⟨_, _⟩] (fun b q p => ⟨p.ou 0 1 rfl, trivial⟩) ?_
 rintro a k ⟨⟨hg, hs, hd⟩, i1, _⟩
 refine stepL 29 (_ :: _ :: _ :: _ :: _ :: _ :: _ :: _ :: _ :: _ :: _ :: _ :: _ :: _ :: _ :: _ :: _ :: _ :: _ :: _ :: _ :: _ :: _ :: _ :: _ :: _ :: _ :: _ :: _ :: []) rfl ⟨hg, hs, hd⟩ (by kernel_rfl) ⟨o1 [(1, none)] rfl fun _ _ h n => ok_fieldAddr rfl fo24_0 (at_Point3_0 _) ((up i1 h n.1)).ptr, o1 [(3, some 0)] rfl fun _ _ h n => ok_load rfl ty3 n.1, o1 [(4, some 1)] rfl fun _ _ h n => ok_geq rfl n.1 (cI rfl), cm 2 rfl rfl, gT [(1, none)] rfl rfl fun hp _ _ h n => ok_fieldAddr rfl fo24_0 (at_Point3_0 _) ((up i1 h n.1)).ptr, gT [(7, some 4)] rfl rfl fun hp _ _ h n => ok_load rfl ty3 (Gd.get n.1 hp), gT [(8, some 5)] rfl rfl fun hp _ _ h n => ok_leq rfl (Gd.get n.1 hp) (cI rfl), o1 [(6, some 3), (9, some 6)] rfl fun _ _ h n => ok_pickAnd rfl n.1 (Gd.get n.2.1) (cB rfl), cm 7 rfl rfl, gT [(1, none)] rfl rfl fun hp _ _ h n => ok_fieldAddr rfl fo24_1 (at_Point3_1 _) ((up i1 h n.1)).ptr, gT [(12, some 9)] rfl rfl fun hp _ _ h n => ok_load rfl ty3 (Gd.get n.1 hp), gT [(13, some 10)] rfl rfl fun hp _ _ h n => ok_geq rfl (Gd.get n.1 hp) (cI rfl), o1 [(11, some 8), (14, some 11)] rfl fun _ _ h n => ok_pickAnd rfl n.1 (Gd.get n.2.1) (cB rfl), cm 12 rfl rfl, gT [(1, none)] rfl rfl fun hp _ _ h n => ok_fieldAddr rfl fo24_1 (at_Point3_1 _) ((up i1 h n.1)).ptr, gT [(17, some 14)] rfl rfl fun hp _ _ h n => ok_load rfl ty3 (Gd.get n.1 hp), gT [(18, some 15)] rfl rfl fun hp _ _ h n => ok_leq rfl (Gd.get n.1 hp) (cI rfl), o1 [(16, some 13), (19, some 16)] rfl fun _ _ h n => ok_pickAnd rfl n.1 (Gd.get n.2.1) (cB rfl), cm 17 rfl rfl, gT [(1, none)] rfl rfl fun hp _ _ h n => ok_fieldAddr rfl fo24_2 (at_Point3_2 _) ((up i1 h n.1)).ptr, gT [(22, some 19)] rfl rfl fun hp _ _ h n => ok_load rfl ty3 (Gd.get n.1 hp), gT [(23, some 20)] rfl rfl fun hp _ _ h n => ok_geq rfl (Gd.get n.1 hp) (cI rfl), o1 [(21, some 18), (24, some 21)] rfl fun _ _ h n => ok_pickAnd rfl n.1 (Gd.get n.2.1) (cB rfl), cm 22 rfl rfl, gT [(1, none)] rfl rfl fun hp _ _ h n => ok_fieldAddr rfl fo24_2 (at_Point3_2 _) ((up i1 h n.1)).ptr, gT [(27, some 24)] rfl rfl fun hp _ _ h n => ok_load rfl ty3 (Gd.get n.1 hp), gT [(28, some 25)] rfl rfl fun hp _ _ h n => ok_leq rfl (Gd.get n.1 hp) (cI rfl), o1 [(26, some 23), (29, some 26)] rfl fun _ _ h n => ok_pickAnd rfl n.1 (Gd.get n.2.1) (cB rfl), cp 27 rfl rfl, trivial⟩ [⟨_, _⟩] (fun b q p => ⟨p.ou 28 2 rfl, trivial⟩) ?_
 rintro a k ⟨⟨hg, hs, hd⟩, i2, _⟩
 refine wp_ret ?_
 obtain rfl := Option.some.inj hr
 exact retC1 rfl hd hg i2
def solid_at_L0 (s_ : (List Slab)) (z_ : Int) (s1 : Int) : Option (Flow (Int) ((List Rect))) :=
 if (decide (s1 < (s_.length : Int))) then
  (getI s_ s1).bind fun x1 =>
  if ((decide (x1.Z0 ≤ z_)) && (decide (z_ < x1.Z1))) then
   some (.ret x1.Area)
  else
   (addI s1 1).bind fun x2 =>
   some (.go x2)
 else
  some (.ex 0 s1)
def solid_at (s_ : (List Slab)) (z_ : Int) : Option ((List Rect)) :=
 (iterL (solid_at_L0 s_ z_) (s_.length + 1) 0).bind fun f1 => match f1 with
  | .go _ => none
  | .ex _ _ =>
   some ([] : List Rect)
  | .ret r1 => some r1
theorem solid_at_ok {k0 : K} {v0 v1 : Value} {s_ : (List Slab)} {z_ : Int} {r : (List Rect)} (i0 : (IsV s_) v0 k0) (i1 : (IsV z_) v1 k0) (hr : solid_at s_ z_ = some r) :
  Calls Try.prog 58 #[v0, v1] k0.w (Ret k0 (IsV r)) := by
 unfold solid_at at hr
 refine Ret.ofC ?_
 refine enterK Try.func58 rfl Try.ntmps58 (show 2 ≤ 26 by decide) fun a k hk0 hs hd ha => ?_
 obtain ⟨e0, e1, _⟩ := ha
 replace i0 : (IsV s_) (a.get 0) k := by rw [e0, hk0]; exact i0
 replace i1 : (IsV z_) (a.get 1) k := by rw [e1, hk0]; exact i1
 have hQ : Gb.LetsOut (bodyPost Try.prog Try.f58 (RetC noF k0 (IsV r))) := letsOutC
 have hg : Chg noF k0 k := by rw [hk0]; exact Chg.refl _ k0
 refine stepL 1 (⟨some IsE0, []⟩ :: []) rfl ⟨hg, hs, hd⟩ (by kernel_rfl) ⟨ob1 rfl fun b q h n => ok_assign rfl isE0_nil, trivial⟩ [⟨_, _⟩, ⟨_, _⟩] (fun b q p => ⟨p.ke 0 rfl i0, p.ke 1 rfl i1, trivial⟩) ?_
 rintro a k ⟨⟨hg, hs, hd⟩, i0, i1, _⟩
 refine wp_seq ?_
 refine stepL 3 (_ :: _ :: ⟨some (IsI 0), []⟩ :: []) rfl ⟨hg, hs, hd⟩ (by kernel_rfl) ⟨mu rfl i0, o1 [(7, some 0)] rfl fun _ _ h n => ok_len rfl rfl Try.underlying22 (IsV.rd n.1), ob1 rfl fun _ _ h n => ok_move rfl (cI rfl), trivial⟩ [⟨_, _⟩, ⟨_, _⟩, ⟨_, _⟩, ⟨_, _⟩] (fun b q p => ⟨p.ke 1 rfl i1, p.ou 0 7 rfl, p.ou 1 8 rfl, p.ou 2 9 rfl, trivial⟩) ?_
 rintro a k ⟨⟨hg, hs, hd⟩, i1, i7, i8, i9, _⟩
 refine wp_block ?_
 obtain ⟨f1, hf1, hr⟩ := bind_some hr
 refine cutFe f1 (fun s' a' k' => Bs noF k0 26 a' k' ∧ (IsV z_) (a'.get 1) k' ∧ (IsV s_) (a'.get 7) k' ∧ (IsL s_) (a'.get 8) k' ∧ (IsV s') (a'.get 9) k' ∧ True) (fun i' s' a' k' => (i' = 0 ∧ Bs noF k0 26 a' k' ∧ True)) (fun r' a' k' => bodyPost Try.prog Try.f58 (RetC noF k0 (IsV r')) .ret a' k'.w) ?_ hQ ?_ ?_ ?_
 ·intro Q1 W1 hgo hex hret
  refine sim_loop ?_ _ _ _ _ _ hf1 ⟨⟨hg, hs, hd⟩, i1, i7, i8, i9, trivial⟩ Q1 W1 hgo hex hret
  clear hr hf1 hgo hex hret W1 hQ hg hs hd i1 i7 i8 i9
  intro s1 fl_ a k hr hS Q hQ hgo1761 hex1762 hret1763
  obtain ⟨⟨hg, hs, hd⟩, i1, i7, i8, i9, _⟩ := hS
  unfold solid_at_L0 at hr
  refine stepL 1 (_ :: []) rfl ⟨hg, hs, hd⟩ (by kernel_rfl) ⟨o1 [(9, none), (8, none)] rfl fun _ _ h n => ok_lss rfl (up i9 h n.1) (up i8 h n.2.1), trivial⟩ [⟨_, _⟩, ⟨_, _⟩, ⟨_, _⟩, ⟨_, _⟩, ⟨_, _⟩] (fun b q p => ⟨p.ke 1 rfl i1, p.ke 7 rfl i7, p.ke 8 rfl i8, p.ke 9 rfl i9, p.ou 0 10 rfl, trivial⟩) ?_
  rintro a k ⟨⟨hg, hs, hd⟩, i1, i7, i8, i9, i10, _⟩
  refine wp_seq ?_
  refine wp_cond_split (isBool i10) (fun hc1778 => ?_) (fun hc1778 => ?_)
  ·rw [if_pos hc1778] at hr
   refine wp_skip ?_
   refine wp_seq ?_
   refine wp_block ?_
   refine wp_seq ?_
   obtain ⟨x1, hx1, hr⟩ := bind_some hr
   refine cut (fun a' k' => Bs noF k0 26 a' k' ∧ (IsV z_) (a'.get 1) k' ∧ (IsRef x1) (a'.get 6) k' ∧ (IsV s_) (a'.get 7) k' ∧ (IsL s_) (a'.get 8) k' ∧ (IsV s1) (a'.get 9) k' ∧ True) ?_ hQ ?_
   ·intro Q2 W2 w1
    refine gS 3 (_ :: _ :: ⟨some (IsBox k.w.heap.size (⟨0, 0, []⟩ : Slab)), []⟩ :: []) hs (by kernel_rfl) ⟨o1 [(7, none), (9, none)] rfl fun _ _ h n => ok_indexAddr rfl Try.underlying22 ty51 (IsV.rd (up i7 h n.1)) (up i9 h n.2.1) hx1, o1 [(11, some 0)] rfl fun _ _ h n => ok_load rfl ty51 n.1, ob1 rfl fun _ _ h n => ok_alloc _ h.size rfl z51, trivial⟩ W2 fun b q p => ?_
    have hgq := hg.then p.grow
    have hsb := p.size.trans hs
    have hdb := p.defers.trans hd
    have j1 := p.ke 1 rfl i1
    obtain ⟨b6, j6, x6, z6⟩ : (IsBox k.w.heap.size (⟨0, 0, []⟩ : Slab)) (b.get 6) q := p.ou 2 6 rfl
    replace x6 : Lo k (Eq b6) := Lo.eq x6
    have y6 : Lo k0 (Eq b6) := x6.chg hg
    have j7 := p.ke 7 rfl i7
    have j8 := p.ke 8 rfl i8
    have j9 := p.ke 9 rfl i9
    have j12 : (IsV x1) (b.get 12) q := p.ou 1 12 rfl
    have hns := z6.nshF
    refine tail_storeB (i := 3) rfl rfl rfl rfl szf51 (Upd.self (α := Slab)) j6 z6 j12 fun q2 hch hz => ?_
    replace hgq := hgq.step hch y6.wr
    have hle := hch.le hns
    replace j1 := Pers.pers hle j1
    replace j7 := Pers.pers hle j7
    replace j8 := Pers.pers hle j8
    replace j9 := Pers.pers hle j9
    replace j12 := Pers.pers hle j12
    replace z6 := hz
    clear hns hle hch
    obtain ⟨q, hqq⟩ : ∃ q, q = q2 := ⟨q2, rfl⟩
    subst hqq
    obtain ⟨q2, hsh, jn⟩ := z6.give
    replace j1 := Pers.pers hsh.le j1
    replace j7 := Pers.pers hsh.le j7
    replace j8 := Pers.pers hsh.le j8
    replace j9 := Pers.pers hsh.le j9
    rw [← j6] at jn
    replace j6 := jn
    replace hgq := hgq.hand hsh y6.wr
    rw [← hsh.w]
    clear hsh
    obtain ⟨q, hqq⟩ : ∃ q, q = q2 := ⟨q2, rfl⟩
    subst hqq
    exact tail_done (k := q) (w1 _ _ ⟨⟨hgq, hsb, hdb⟩, j1, j6, j7, j8, j9, trivial⟩)
   rintro a k ⟨⟨hg, hs, hd⟩, i1, i6, i7, i8, i9, _⟩
   refine stepL 10 (_ :: _ :: _ :: _ :: _ :: _ :: _ :: _ :: _ :: _ :: []) rfl ⟨hg, hs, hd⟩ (by kernel_rfl) ⟨o1 [(6, none)] rfl fun _ _ h n => ok_fieldAddr rfl fo51_0 (at_Slab_0 _) ((up i6 h n.1)).ptr, o1 [(13, some 0)] rfl fun _ _ h n => ok_load rfl ty3 n.1, mu rfl i1, o1 [(14, some 1), (15, some 2)] rfl fun _ _ h n => ok_leq rfl n.1 n.2.1, cm 3 rfl rfl, mT rfl rfl i1, gT [(6, none)] rfl rfl fun hp _ _ h n => ok_fieldAddr rfl fo51_1 (at_Slab_1 _) ((up i6 h n.1)).ptr, gT [(19, some 6)] rfl rfl fun hp _ _ h n => ok_load rfl ty3 (Gd.get n.1 hp), gT [(18, some 5), (20, some 7)] rfl rfl fun hp _ _ h n => ok_lss rfl (Gd.get n.1 hp) (Gd.get n.2.1 hp), o1 [(17, some 4), (21, some 8)] rfl fun _ _ h n => ok_pickAnd rfl n.1 (Gd.get n.2.1) (cB rfl), trivial⟩ [⟨_, _⟩, ⟨_, _⟩, ⟨_, _⟩, ⟨_, _⟩, ⟨_, _⟩, ⟨_, _⟩] (fun b q p => ⟨p.ke 1 rfl i1, p.ke 6 rfl i6, p.ke 7 rfl i7, p.ke 8 rfl i8, p.ke 9 rfl i9, p.ou 9 22 rfl, trivial⟩) ?_
   rintro a k ⟨⟨hg, hs, hd⟩, i1, i6, i7, i8, i9, i22, _⟩
   refine wp_cond_split (isBool i22) (fun hc1773 => ?_) (fun hc1773 => ?_)
   ·rw [if_pos hc1773] at hr
    refine stepL 3 (_ :: _ :: _ :: []) rfl ⟨hg, hs, hd⟩ (by kernel_rfl) ⟨o1 [(6, none)] rfl fun _ _ h n => ok_fieldAddr rfl fo51_2 (at_Slab_2 _) ((up i6 h n.1)).ptr, o1 [(23, some 0)] rfl fun _ _ h n => ok_load rfl ty49 n.1, cp 1 rfl rfl, trivial⟩ [⟨_, _⟩] (fun b q p => ⟨p.ou 2 4 rfl, trivial⟩) ?_
    rintro a k ⟨⟨hg, hs, hd⟩, i4, _⟩
    refine wp_ret ?_
    exact hret1763 _ _ _ (Option.some.inj hr).symm (retC1 rfl hd hg i4)
   rw [if_neg (by rw [hc1773]; decide)] at hr
   refine wp_skip ?_
   obtain ⟨x2, hx2, hr⟩ := bind_some hr
   refine cut (fun a' k' => Bs noF k0 26 a' k' ∧ (IsV z_) (a'.get 1) k' ∧ (IsV s_) (a'.get 7) k' ∧ (IsL s_) (a'.get 8) k' ∧ (IsV x2) (a'.get 9) k' ∧ True) ?_ hQ ?_
   ·intro Q3 W3 w2
    refine gS 2 (_ :: _ :: []) hs (by kernel_rfl) ⟨o1 [(9, none)] rfl fun _ _ h n => ok_add rfl (up i9 h n.1) (cI rfl) hx2, cm 0 rfl rfl, trivial⟩ W3 fun b q p => ?_
    exact tail_done (k := q) (w2 _ _ ⟨Bs.post ⟨hg, hs, hd⟩ p, p.ke 1 rfl i1, p.ke 7 rfl i7, p.ke 8 rfl i8, p.ou 1 9 rfl, trivial⟩)
   rintro a k ⟨⟨hg, hs, hd⟩, i1, i7, i8, i9, _⟩
   exact hgo1761 _ _ _ (Option.some.inj hr).symm ⟨⟨hg, hs, hd⟩, i1, i7, i8, i9, trivial⟩
  rw [if_neg (by rw [hc1778]; decide)] at hr
  refine wp_exit ?_
  exact hex1762 _ _ _ _ (Option.some.inj hr).symm ⟨rfl, ⟨hg, hs, hd⟩, trivial⟩
 ·rintro r1 a k rfl hR
  dsimp only at hr
  obtain rfl := Option.some.inj hr
  exact hR
 ·rintro _ _ _ rfl _
  simp at hr
 clear hf1
 rintro _ s2 a k rfl ⟨rfl, ⟨hg, hs, hd⟩, _⟩
 dsimp only at hr
 refine cutL noF k0 26 [⟨4, IsV ([] : List Rect)⟩] ?_ ?_
 ·intro Q4 W4 w3
  refine gS 1 (⟨some IsE0, []⟩ :: []) hs (by kernel_rfl) ⟨ob1 rfl fun b q h n => ok_assign rfl isE0_nil, trivial⟩ W4 fun b q p => ?_
  have hgq := hg.then p.grow
  have hsb := p.size.trans hs
  have hdb := p.defers.trans hd
  have j4 : IsE0 (b.get 4) q := p.ou 0 4 rfl
  replace j4 : IsV ([] : List Rect) (b.get 4) q := j4.isV
  exact tail_done (k := q) (w3 _ _ ⟨⟨hgq, hsb, hdb⟩, j4, trivial⟩)
 rintro a k ⟨⟨hg, hs, hd⟩, i4, _⟩
 refine wp_ret ?_
 obtain rfl := Option.some.inj hr
 exact retC1 rfl hd hg i4
def slices_Clone_Rect (s_ : (List Rect)) : Option ((List Rect)) :=
 (appI [] s_).bind fun x1 =>
 some x1
theorem slices_Clone_Rect_ok {k0 : K} {v0 : Value} {s_ : (List Rect)} {r : (List Rect)} (i0 : (IsV s_) v0 k0) (hr : slices_Clone_Rect s_ = some r) :
  Calls Try.prog 57 #[v0] k0.w (Ret k0 (IsV r)) := by
 unfold slices_Clone_Rect at hr
 refine Ret.ofC ?_
 refine enterK Try.func57 rfl Try.ntmps57 (show 1 ≤ 8 by decide) fun a k hk0 hs hd ha => ?_
 obtain ⟨e0, _⟩ := ha
 replace i0 : (IsV s_) (a.get 0) k := by rw [e0, hk0]; exact i0
 have hQ : Gb.LetsOut (bodyPost Try.prog Try.f57 (RetC noF k0 (IsV r))) := letsOutC
 have hg : Chg noF k0 k := by rw [hk0]; exact Chg.refl _ k0
 refine stepL 1 (⟨some IsE0, []⟩ :: []) rfl ⟨hg, hs, hd⟩ (by kernel_rfl) ⟨ob1 rfl fun b q h n => ok_assign rfl isE0_nil, trivial⟩ [⟨_, _⟩] (fun b q p => ⟨p.ke 0 rfl i0, trivial⟩) ?_
 rintro a k ⟨⟨hg, hs, hd⟩, i0, _⟩
 refine wp_seq ?_
 refine stepL 2 (_ :: ⟨some (IsNT s_), [(3, some 0)]⟩ :: []) rfl ⟨hg, hs, hd⟩ (by kernel_rfl) ⟨mu rfl i0, ob1 rfl fun _ _ h n => ok_eqNil rfl Try.underlying49 (IsV.rd n.1), trivial⟩ [⟨_, _⟩, ⟨_, _⟩] (fun b q p => ⟨p.ke 0 rfl i0, p.ou 1 4 rfl, trivial⟩) ?_
 rintro a k ⟨⟨hg, hs, hd⟩, i0, i4, _⟩
 obtain ⟨bb, hbb, hnil⟩ := i4
 refine wp_cond_split hbb (fun hc1800 => ?_) (fun hc1800 => ?_)
 ·replace hr : some ([] : List Rect) = some r := by rw [hnil hc1800] at hr; simpa [appI] using hr
  refine cutL noF k0 8 [⟨2, IsV ([] : List Rect)⟩] ?_ ?_
  ·intro Q1 W1 w1
   refine gS 1 (⟨some IsE0, []⟩ :: []) hs (by kernel_rfl) ⟨ob1 rfl fun b q h n => ok_assign rfl isE0_nil, trivial⟩ W1 fun b q p => ?_
   have hgq := hg.then p.grow
   have hsb := p.size.trans hs
   have hdb := p.defers.trans hd
   have j2 : IsE0 (b.get 2) q := p.ou 0 2 rfl
   replace j2 : IsV ([] : List Rect) (b.get 2) q := j2.isV
   exact tail_done (k := q) (w1 _ _ ⟨⟨hgq, hsb, hdb⟩, j2, trivial⟩)
  rintro a k ⟨⟨hg, hs, hd⟩, i2, _⟩
  refine wp_ret ?_
  obtain rfl := Option.some.inj hr
  exact retC1 rfl hd hg i2
 ·skip
  refine wp_skip ?_
  refine wp_seq ?_
  obtain ⟨x1, hx1, hr⟩ := bind_some hr
  refine cut (fun a' k' => Bs noF k0 8 a' k' ∧ (IsV x1) (a'.get 2) k' ∧ True) ?_ hQ ?_
  ·intro Q2 W2 w2
   refine gS 4 (⟨some IsE0, []⟩ :: _ :: ⟨some (IsV x1), [(5, some 0), (6, some 1)]⟩ :: _ :: []) hs (by kernel_rfl) ⟨ob1 rfl fun b q h n => ok_buildSlice0 rfl Try.underlying49 eo35, mu rfl i0, ob1 rfl fun _ _ h n => ok_append0V rfl Try.underlying49 eo35 n.1 (IsV.rd n.2.1) hx1, cp 2 rfl rfl, trivial⟩ W2 fun b q p => ?_
   exact tail_done (k := q) (w2 _ _ ⟨Bs.post ⟨hg, hs, hd⟩ p, p.ou 3 2 rfl, trivial⟩)
  rintro a k ⟨⟨hg, hs, hd⟩, i2, _⟩
  refine wp_ret ?_
  obtain rfl := Option.some.inj hr
  exact retC1 rfl hd hg i2
def solid_Section (s_ : (List Slab)) (z_ : Int) : Option ((List Rect)) :=
 (solid_Right s_).bind fun x1 =>
 if (!x1) then
  some ([] : List Rect)
 else
  (solid_at s_ z_).bind fun x2 =>
  (slices_Clone_Rect x2).bind fun x3 =>
  some x3
theorem solid_Section_ok {k0 : K} {v0 v1 : Value} {s_ : (List Slab)} {z_ : Int} {r : (List Rect)} (i0 : (IsV s_) v0 k0) (i1 : (IsV z_) v1 k0) (hr : solid_Section s_ z_ = some r) :
  Calls Try.prog 33 #[v0, v1] k0.w (Ret k0 (IsV r)) := by
 unfold solid_Section at hr
 refine Ret.ofC ?_
 refine enterK Try.func33 rfl Try.ntmps33 (show 2 ≤ 12 by decide) fun a k hk0 hs hd ha => ?_
 obtain ⟨e0, e1, _⟩ := ha
 replace i0 : (IsV s_) (a.get 0) k := by rw [e0, hk0]; exact i0
 replace i1 : (IsV z_) (a.get 1) k := by rw [e1, hk0]; exact i1
 have hQ : Gb.LetsOut (bodyPost Try.prog Try.f33 (RetC noF k0 (IsV r))) := letsOutC
 have hg : Chg noF k0 k := by rw [hk0]; exact Chg.refl _ k0
 refine stepL 1 (⟨some IsE0, []⟩ :: []) rfl ⟨hg, hs, hd⟩ (by kernel_rfl) ⟨ob1 rfl fun b q h n => ok_assign rfl isE0_nil, trivial⟩ [⟨_, _⟩, ⟨_, _⟩] (fun b q p => ⟨p.ke 0 rfl i0, p.ke 1 rfl i1, trivial⟩) ?_
 rintro a k ⟨⟨hg, hs, hd⟩, i0, i1, _⟩
 refine wp_seq ?_
 refine wp_seq ?_
 obtain ⟨x1, hx1, hr⟩ := bind_some hr
 refine cut (fun a' k' => Bs noF k0 12 a' k' ∧ (IsV s_) (a'.get 0) k' ∧ (IsV z_) (a'.get 1) k' ∧ (IsV (!x1)) (a'.get 7) k' ∧ True) ?_ hQ ?_
 ·intro Q1 W1 w1
  refine gS 3 (_ :: _ :: _ :: []) hs (by kernel_rfl) ⟨mu rfl i0, o1 [(5, some 0)] rfl fun _ _ h n => ok_call rfl Try.call56 (solid_Right_ok n.1 hx1), o1 [(6, some 1)] rfl fun _ _ h n => ok_not rfl n.1, trivial⟩ W1 fun b q p => ?_
  exact tail_done (k := q) (w1 _ _ ⟨Bs.post ⟨hg, hs, hd⟩ p, p.ke 0 rfl i0, p.ke 1 rfl i1, p.ou 2 7 rfl, trivial⟩)
 rintro a k ⟨⟨hg, hs, hd⟩, i0, i1, i7, _⟩
 refine wp_cond_split (isBool i7) (fun hc1813 => ?_) (fun hc1813 => ?_)
 ·rw [if_pos hc1813] at hr
  refine cutL noF k0 12 [⟨4, IsV ([] : List Rect)⟩] ?_ ?_
  ·intro Q2 W2 w2
   refine gS 1 (⟨some IsE0, []⟩ :: []) hs (by kernel_rfl) ⟨ob1 rfl fun b q h n => ok_assign rfl isE0_nil, trivial⟩ W2 fun b q p => ?_
   have hgq := hg.then p.grow
   have hsb := p.size.trans hs
   have hdb := p.defers.trans hd
   have j4 : IsE0 (b.get 4) q := p.ou 0 4 rfl
   replace j4 : IsV ([] : List Rect) (b.get 4) q := j4.isV
   exact tail_done (k := q) (w2 _ _ ⟨⟨hgq, hsb, hdb⟩, j4, trivial⟩)
  rintro a k ⟨⟨hg, hs, hd⟩, i4, _⟩
  refine wp_ret ?_
  obtain rfl := Option.some.inj hr
  exact retC1 rfl hd hg i4
 rw [if_neg (by rw [hc1813]; decide)] at hr
 refine wp_skip ?_
 refine wp_seq ?_
 obtain ⟨x2, hx2, hr⟩ := bind_some hr
 obtain ⟨x3, hx3, hr⟩ := bind_some hr
 refine cut (fun a' k' => Bs noF k0 12 a' k' ∧ (IsV x3) (a'.get 4) k' ∧ True) ?_ hQ ?_
 ·intro Q3 W3 w3
  refine gS 5 (_ :: _ :: _ :: _ :: _ :: []) hs (by kernel_rfl) ⟨mu rfl i0, mu rfl i1, o1 [(8, some 0), (9, some 1)] rfl fun _ _ h n => ok_call rfl Try.call58 (solid_at_ok n.1 n.2.1 hx2), o1 [(10, some 2)] rfl fun _ _ h n => ok_call rfl Try.call57 (slices_Clone_Rect_ok n.1 hx3), cp 3 rfl rfl, trivial⟩ W3 fun b q p => ?_
  exact tail_done (k := q) (w3 _ _ ⟨Bs.post ⟨hg, hs, hd⟩ p, p.ou 4 4 rfl, trivial⟩)
 rintro a k ⟨⟨hg, hs, hd⟩, i4, _⟩
 refine wp_ret ?_
 obtain rfl := Option.some.inj hr
 exact retC1 rfl hd hg i4
def rect_checked (r_ : Rect) : Option (Rect × Bool) :=
 (rect_Right r_).bind fun x1 =>
 if x1 then
  some (r_, true)
 else
  some ((⟨0, 0, 0, 0⟩ : Rect), false)
theorem rect_checked_ok {k0 : K} {v0 : Value} {r_ : Rect} {r : Rect × Bool} (i0 : (IsV r_) v0 k0) (hr : rect_checked r_ = some r) :
  Calls Try.prog 77 #[v0] k0.w (Ret k0 (IsTup2 (IsV r.1) (IsV r.2))) := by
 unfold rect_checked at hr
 refine Ret.ofC ?_
 refine enterK Try.func77 rfl Try.ntmps77 (show 1 ≤ 8 by decide) fun a k hk0 hs hd ha => ?_
 obtain ⟨e0, _⟩ := ha
 replace i0 : (IsV r_) (a.get 0) k := by rw [e0, hk0]; exact i0
 have hQ : Gb.LetsOut (bodyPost Try.prog Try.f77 (RetC noF k0 (IsTup2 (IsV r.1) (IsV r.2)))) := letsOutC
 have hg : Chg noF k0 k := by rw [hk0]; exact Chg.refl _ k0
 refine cutS (fun a' k' => Bs noF k0 8 a' k' ∧ (IsRef r_) (a'.get 1) k' ∧ (∃ b2, a'.get 2 = .pointer (some ⟨b2, 0, none⟩) ∧ Lo k0 (Eq b2) ∧ Gb.Box b2 (⟨0, 0, 0, 0⟩ : Rect) k' ∧ True)) ?_ ?_
 ·intro Q1 W1 w1
  refine gS 3 (⟨some (IsRef r_), [(0, none)]⟩ :: ⟨some (IsBox k.w.heap.size (⟨0, 0, 0, 0⟩ : Rect)), []⟩ :: ⟨some (IsV false), []⟩ :: []) hs (by kernel_rfl) ⟨ob1 rfl fun _ _ h n => ok_boxR rfl (up i0 h n.1), ob1 rfl fun _ _ h n => ok_alloc _ h.size rfl z35, ob1 rfl fun _ _ h n => ok_assign rfl (isV_bool.2 rfl), trivial⟩ W1 fun b q p => ?_
  have hgq := hg.then p.grow
  have hsb := p.size.trans hs
  have hdb := p.defers.trans hd
  have j1 : (IsRef r_) (b.get 1) q := p.ou 0 1 rfl
  obtain ⟨b2, j2, x2, z2⟩ : (IsBox k.w.heap.size (⟨0, 0, 0, 0⟩ : Rect)) (b.get 2) q := p.ou 1 2 rfl
  replace x2 : Lo k (Eq b2) := Lo.eq x2
  have y2 : Lo k0 (Eq b2) := x2.chg hg
  exact tail_done (k := q) (w1 _ _ ⟨⟨hgq, hsb, hdb⟩, j1, b2, j2, y2, z2, trivial⟩)
 rintro a k ⟨⟨hg, hs, hd⟩, i1, b2, i2, n2, c2, _⟩
 refine wp_seq ?_
 refine wp_seq ?_
 obtain ⟨x1, hx1, hr⟩ := bind_some hr
 refine cut (fun a' k' => Bs noF k0 8 a' k' ∧ (IsRef r_) (a'.get 1) k' ∧ a'.get 2 = .pointer (some ⟨b2, 0, none⟩) ∧ Lo k0 (Eq b2) ∧ Gb.Box b2 (⟨0, 0, 0, 0⟩ : Rect) k' ∧ (IsV x1) (a'.get 5) k' ∧ True) ?_ hQ ?_
 ·intro Q2 W2 w2
  refine gS 2 (_ :: _ :: []) hs (by kernel_rfl) ⟨o1 [(1, none)] rfl fun _ _ h n => ok_load rfl ty35 ((up i1 h n.1)).ptr, o1 [(4, some 0)] rfl fun _ _ h n => ok_call rfl Try.call35 (rect_Right_ok n.1 hx1), trivial⟩ W2 fun b q p => ?_
  exact tail_done (k := q) (w2 _ _ ⟨Bs.post ⟨hg, hs, hd⟩ p, p.ke 1 rfl i1, upE i2 (p.old 2 rfl), n2, Gb.Box.grow c2 p.grow, p.ou 1 5 rfl, trivial⟩)
 rintro a k ⟨⟨hg, hs, hd⟩, i1, i2, n2, c2, i5, _⟩
 refine wp_cond_split (isBool i5) (fun hc1826 => ?_) (fun hc1826 => ?_)
 ·rw [if_pos hc1826] at hr
  refine cutS (fun a' k' => Bs noF k0 8 a' k' ∧ a'.get 2 = .pointer (some ⟨b2, 0, none⟩) ∧ Lo k0 (Eq b2) ∧ Gb.Box b2 r_ k' ∧ (IsV true) (a'.get 3) k' ∧ True) ?_ ?_
  ·intro Q3 W3 w3
   refine gS 1 (_ :: []) hs (by kernel_rfl) ⟨o1 [(1, none)] rfl fun _ _ h n => ok_load rfl ty35 ((up i1 h n.1)).ptr, trivial⟩ W3 fun b q p => ?_
   have hgq := hg.then p.grow
   have hsb := p.size.trans hs
   have hdb := p.defers.trans hd
   have j2 := upE i2 (p.old 2 rfl)
   have z2 := Gb.Box.grow c2 p.grow
   have y2 := n2
   have j6 : (IsV r_) (b.get 6) q := p.ou 0 6 rfl
   have hns := z2.nshF
   refine tail_storeB (i := 1) rfl rfl rfl rfl szf35 (Upd.self (α := Rect)) j2 z2 j6 fun q2 hch hz => ?_
   replace hgq := hgq.step hch y2.wr
   have hle := hch.le hns
   replace j6 := Pers.pers hle j6
   replace z2 := hz
   clear hns hle hch
   obtain ⟨q, hqq⟩ : ∃ q, q = q2 := ⟨q2, rfl⟩
   subst hqq
   refine tail_assign (i := 2) (d := 3) rfl rfl (.inl rfl) rfl (by rw [hsb]; decide) fun b2 hsz hdf hnew hoth => ?_
   have jn : (IsV true) (b2.get 3) q := by rw [hnew]; exact (isV_bool.2 rfl)
   rw [← hoth 2 (by decide)] at j2
   rw [← hoth 6 (by decide)] at j6
   have j3 := jn
   replace hsb := hsz.trans hsb
   replace hdb := hdf.trans hdb
   clear hsz hdf hoth
   obtain ⟨b, hbb⟩ : ∃ b, b = b2 := ⟨b2, rfl⟩
   subst hbb
   exact tail_done (k := q) (w3 _ _ ⟨⟨hgq, hsb, hdb⟩, j2, y2, z2, j3, trivial⟩)
  rintro a k ⟨⟨hg, hs, hd⟩, i2, n2, c2, i3, _⟩
  refine wp_ret ?_
  obtain rfl := Option.some.inj hr
  exact retC2 rfl hd hg (resCell ty35 i2 c2) i3
 rw [if_neg (by rw [hc1826]; decide)] at hr
 refine wp_skip ?_
 refine cutS (fun a' k' => Bs noF k0 8 a' k' ∧ a'.get 2 = .pointer (some ⟨b2, 0, none⟩) ∧ Lo k0 (Eq b2) ∧ Gb.Box b2 (⟨0, 0, 0, 0⟩ : Rect) k' ∧ (IsV false) (a'.get 3) k' ∧ True) ?_ ?_
 ·intro Q4 W4 w4
  refine gS 1 (⟨some (IsV (⟨0, 0, 0, 0⟩ : Rect)), []⟩ :: []) hs (by kernel_rfl) ⟨ob1 rfl fun _ _ h n => ok_build rfl (bld35_ ), trivial⟩ W4 fun b q p => ?_
  have hgq := hg.then p.grow
  have hsb := p.size.trans hs
  have hdb := p.defers.trans hd
  have j2 := upE i2 (p.old 2 rfl)
  have z2 := Gb.Box.grow c2 p.grow
  have y2 := n2
  have j7 : (IsV (⟨0, 0, 0, 0⟩ : Rect)) (b.get 7) q := p.ou 0 7 rfl
  have hns := z2.nshF
  refine tail_storeB (i := 1) rfl rfl rfl rfl szf35 (Upd.self (α := Rect)) j2 z2 j7 fun q2 hch hz => ?_
  replace hgq := hgq.step hch y2.wr
  have hle := hch.le hns
  replace j7 := Pers.pers hle j7
  replace z2 := hz
  clear hns hle hch
  obtain ⟨q, hqq⟩ : ∃ q, q = q2 := ⟨q2, rfl⟩
  subst hqq
  refine tail_assign (i := 2) (d := 3) rfl rfl (.inl rfl) rfl (by rw [hsb]; decide) fun b2 hsz hdf hnew hoth => ?_
  have jn : (IsV false) (b2.get 3) q := by rw [hnew]; exact (isV_bool.2 rfl)
  rw [← hoth 2 (by decide)] at j2
  rw [← hoth 7 (by decide)] at j7
  have j3 := jn
  replace hsb := hsz.trans hsb
  replace hdb := hdf.trans hdb
  clear hsz hdf hoth
  obtain ⟨b, hbb⟩ : ∃ b, b = b2 := ⟨b2, rfl⟩
  subst hbb
  exact tail_done (k := q) (w4 _ _ ⟨⟨hgq, hsb, hdb⟩, j2, y2, z2, j3, trivial⟩)
 rintro a k ⟨⟨hg, hs, hd⟩, i2, n2, c2, i3, _⟩
 refine wp_ret ?_
 obtain rfl := Option.some.inj hr
 exact retC2 rfl hd hg (resCell ty35 i2 c2) i3
def rect_Has (r_ : Rect) (x_ : Int) (y_ : Int) : Option (Bool) :=
 (rect_checked r_).bind fun x1 =>
 some ((((decide (x1.1.X0 ≤ x_)) && (decide (x_ < x1.1.X1))) && (decide (x1.1.Y0 ≤ y_))) && (decide (y_ < x1.1.Y1)))
theorem rect_Has_ok {k0 : K} {v0 v1 v2 : Value} {r_ : Rect} {x_ : Int} {y_ : Int} {r : Bool} (i0 : (IsV r_) v0 k0) (i1 : (IsV x_) v1 k0) (i2 : (IsV y_) v2 k0) (hr : rect_Has r_ x_ y_ = some r) :
  Calls Try.prog 54 #[v0, v1, v2] k0.w (Ret k0 (IsV r)) := by
 unfold rect_Has at hr
 refine Ret.ofC ?_
 refine enterK Try.func54 rfl Try.ntmps54 (show 3 ≤ 34 by decide) fun a k hk0 hs hd ha => ?_
 obtain ⟨e0, e1, e2, _⟩ := ha
 replace i0 : (IsV r_) (a.get 0) k := by rw [e0, hk0]; exact i0
 replace i1 : (IsV x_) (a.get 1) k := by rw [e1, hk0]; exact i1
 replace i2 : (IsV y_) (a.get 2) k := by rw [e2, hk0]; exact i2
 have hQ : Gb.LetsOut (bodyPost Try.prog Try.f54 (RetC noF k0 (IsV r))) := letsOutC
 have hg : Chg noF k0 k := by rw [hk0]; exact Chg.refl _ k0
 refine cutS (fun a' k' => Bs noF k0 34 a' k' ∧ (IsV x_) (a'.get 1) k' ∧ (IsV y_) (a'.get 2) k' ∧ (∃ b3, a'.get 3 = .pointer (some ⟨b3, 0, none⟩) ∧ Lo k0 (Eq b3) ∧ Gb.Box b3 r_ k' ∧ True)) ?_ ?_
 ·intro Q1 W1 w1
  refine gS 2 (⟨some (IsBox k.w.heap.size r_), [(0, none)]⟩ :: ⟨some (IsV false), []⟩ :: []) hs (by kernel_rfl) ⟨ob1 rfl fun _ _ h n => ok_box _ h.size rfl (up i0 h n.1), ob1 rfl fun _ _ h n => ok_assign rfl (isV_bool.2 rfl), trivial⟩ W1 fun b q p => ?_
  have hgq := hg.then p.grow
  have hsb := p.size.trans hs
  have hdb := p.defers.trans hd
  have j1 := p.ke 1 rfl i1
  have j2 := p.ke 2 rfl i2
  obtain ⟨b3, j3, x3, z3⟩ : (IsBox k.w.heap.size r_) (b.get 3) q := p.ou 0 3 rfl
  replace x3 : Lo k (Eq b3) := Lo.eq x3
  have y3 : Lo k0 (Eq b3) := x3.chg hg
  exact tail_done (k := q) (w1 _ _ ⟨⟨hgq, hsb, hdb⟩, j1, j2, b3, j3, y3, z3, trivial⟩)
 rintro a k ⟨⟨hg, hs, hd⟩, i1, i2, b3, i3, n3, c3, _⟩
 refine wp_seq ?_
 obtain ⟨x1, hx1, hr⟩ := bind_some hr
 refine cut (fun a' k' => Bs noF k0 34 a' k' ∧ (IsV x_) (a'.get 1) k' ∧ (IsV y_) (a'.get 2) k' ∧ a'.get 3 = .pointer (some ⟨b3, 0, none⟩) ∧ Lo k0 (Eq b3) ∧ Gb.Box b3 x1.1 k' ∧ True) ?_ hQ ?_
 ·intro Q2 W2 w2
  refine gS 5 (_ :: _ :: _ :: _ :: _ :: []) hs (by kernel_rfl) ⟨o1 [(3, none)] rfl fun _ _ h n => ok_load rfl ty35 ⟨_, (upE i3 n.1), (c3.grow h).at⟩, o1 [(8, some 0)] rfl fun _ _ h n => ok_call rfl Try.call77 (rect_checked_ok n.1 hx1), cm 1 rfl rfl, o1 [(7, some 2)] rfl fun _ _ h n => ok_ext2_0 rfl n.1, o1 [(7, some 2)] rfl fun _ _ h n => ok_ext2_1 rfl n.1, trivial⟩ W2 fun b q p => ?_
  have hgq := hg.then p.grow
  have hsb := p.size.trans hs
  have hdb := p.defers.trans hd
  have j1 := p.ke 1 rfl i1
  have j2 := p.ke 2 rfl i2
  have j3 := upE i3 (p.old 3 rfl)
  have z3 := Gb.Box.grow c3 p.grow
  have y3 := n3
  have j10 : (IsV x1.1) (b.get 10) q := p.ou 3 10 rfl
  have hns := z3.nshF
  refine tail_storeB (i := 5) rfl rfl rfl rfl szf35 (Upd.self (α := Rect)) j3 z3 j10 fun q2 hch hz => ?_
  replace hgq := hgq.step hch y3.wr
  have hle := hch.le hns
  replace j1 := Pers.pers hle j1
  replace j2 := Pers.pers hle j2
  replace j10 := Pers.pers hle j10
  replace z3 := hz
  clear hns hle hch
  obtain ⟨q, hqq⟩ : ∃ q, q = q2 := ⟨q2, rfl⟩
  subst hqq
  exact tail_done (k := q) (w2 _ _ ⟨⟨hgq, hsb, hdb⟩, j1, j2, j3, y3, z3, trivial⟩)
 rintro a k ⟨⟨hg, hs, hd⟩, i1, i2, i3, n3, c3, _⟩
 refine stepL 23 (_ :: _ :: _ :: _ :: _ :: _ :: _ :: _ :: _ :: _ :: _ :: _ :: _ :: _ :: _ :: _ :: _ :: _ :: _ :: _ :: _ :: _ :: _ :: []) rfl ⟨hg, hs, hd⟩ (by kernel_rfl) ⟨mu rfl i1, o1 [(3, none)] rfl fun _ _ h n => ok_fieldAddr rfl fo35_0 (at_Rect_0 _) ⟨_, (upE i3 n.1), (c3.grow h).at⟩, o1 [(13, some 1)] rfl fun _ _ h n => ok_load rfl ty3 n.1, o1 [(12, some 0), (14, some 2)] rfl fun _ _ h n => ok_geq rfl n.1 n.2.1, cm 3 rfl rfl, mT rfl rfl i1, gT [(3, none)] rfl rfl fun hp _ _ h n => ok_fieldAddr rfl fo35_2 (at_Rect_2 _) ⟨_, (upE i3 n.1), (c3.grow h).at⟩, gT [(18, some 6)] rfl rfl fun hp _ _ h n => ok_load rfl ty3 (Gd.get n.1 hp), gT [(17, some 5), (19, some 7)] rfl rfl fun hp _ _ h n => ok_lss rfl (Gd.get n.1 hp) (Gd.get n.2.1 hp), o1 [(16, some 4), (20, some 8)] rfl fun _ _ h n => ok_pickAnd rfl n.1 (Gd.get n.2.1) (cB rfl), cm 9 rfl rfl, mT rfl rfl i2, gT [(3, none)] rfl rfl fun hp _ _ h n => ok_fieldAddr rfl fo35_1 (at_Rect_1 _) ⟨_, (upE i3 n.1), (c3.grow h).at⟩, gT [(24, some 12)] rfl rfl fun hp _ _ h n => ok_load rfl ty3 (Gd.get n.1 hp), gT [(23, some 11), (25, some 13)] rfl rfl fun hp _ _ h n => ok_geq rfl (Gd.get n.1 hp) (Gd.get n.2.1 hp), o1 [(22, some 10), (26, some 14)] rfl fun _ _ h n => ok_pickAnd rfl n.1 (Gd.get n.2.1) (cB rfl), cm 15 rfl rfl, mT rfl rfl i2, gT [(3, none)] rfl rfl fun hp _ _ h n => ok_fieldAddr rfl fo35_3 (at_Rect_3 _) ⟨_, (upE i3 n.1), (c3.grow h).at⟩, gT [(30, some 18)] rfl rfl fun hp _ _ h n => ok_load rfl ty3 (Gd.get n.1 hp), gT [(29, some 17), (31, some 19)] rfl rfl fun hp _ _ h n => ok_lss rfl (Gd.get n.1 hp) (Gd.get n.2.1 hp), o1 [(28, some 16), (32, some 20)] rfl fun _ _ h n => ok_pickAnd rfl n.1 (Gd.get n.2.1) (cB rfl), cp 21 rfl rfl, trivial⟩ [⟨_, _⟩] (fun b q p => ⟨p.ou 22 6 rfl, trivial⟩) ?_
 rintro a k ⟨⟨hg, hs, hd⟩, i6, _⟩
 refine wp_ret ?_
 obtain rfl := Option.some.inj hr
 exact retC1 rfl hd hg i6
def slices_IndexFunc_Rect_L0 (s_ : (List Rect)) (f_ : (Rect → Option (Bool))) (s1 : Int) : Option (Flow (Int) (Int)) :=
 if (decide (s1 < (s_.length : Int))) then
  (getI s_ s1).bind fun x1 =>
  (f_ x1).bind fun x2 =>
  if x2 then
   some (.ret s1)
  else
   (addI s1 1).bind fun x3 =>
   some (.go x3)
 else
  some (.ex 0 s1)
def slices_IndexFunc_Rect (s_ : (List Rect)) (f_ : (Rect → Option (Bool))) : Option (Int) :=
 (iterL (slices_IndexFunc_Rect_L0 s_ f_) (s_.length + 1) 0).bind fun f1 => match f1 with
  | .go _ => none
  | .ex _ _ =>
   some (-1)
  | .ret r1 => some r1
theorem slices_IndexFunc_Rect_ok {k0 : K} {v0 v1 : Value} {s_ : (List Rect)} {f_ : (Rect → Option (Bool))} {r : Int} (i0 : (IsV s_) v0 k0) (i1 : (IsFn1 Try.prog f_) v1 k0) (hr : slices_IndexFunc_Rect s_ f_ = some r) :
  Calls Try.prog 76 #[v0, v1] k0.w (Ret k0 (IsV r)) := by
 unfold slices_IndexFunc_Rect at hr
 refine Ret.ofC ?_
 refine enterK Try.func76 rfl Try.ntmps76 (show 2 ≤ 19 by decide) fun a k hk0 hs hd ha => ?_
 obtain ⟨e0, e1, _⟩ := ha
 replace i0 : (IsV s_) (a.get 0) k := by rw [e0, hk0]; exact i0
 replace i1 : (IsFn1 Try.prog f_) (a.get 1) k := by rw [e1, hk0]; exact i1
 have hQ : Gb.LetsOut (bodyPost Try.prog Try.f76 (RetC noF k0 (IsV r))) := letsOutC
 have hg : Chg noF k0 k := by rw [hk0]; exact Chg.refl _ k0
 refine stepL 1 (⟨some (IsI 0), []⟩ :: []) rfl ⟨hg, hs, hd⟩ (by kernel_rfl) ⟨aI rfl rfl, trivial⟩ [⟨_, _⟩, ⟨_, _⟩] (fun b q p => ⟨p.ke 0 rfl i0, p.ke 1 rfl i1, trivial⟩) ?_
 rintro a k ⟨⟨hg, hs, hd⟩, i0, i1, _⟩
 refine wp_seq ?_
 refine stepL 3 (_ :: _ :: ⟨some (IsI 0), []⟩ :: []) rfl ⟨hg, hs, hd⟩ (by kernel_rfl) ⟨mu rfl i0, o1 [(6, some 0)] rfl fun _ _ h n => ok_len rfl rfl Try.underlying49 (IsV.rd n.1), ob1 rfl fun _ _ h n => ok_move rfl (cI rfl), trivial⟩ [⟨_, _⟩, ⟨_, _⟩, ⟨_, _⟩, ⟨_, _⟩] (fun b q p => ⟨p.ke 0 rfl i0, p.ke 1 rfl i1, p.ou 1 7 rfl, p.ou 2 8 rfl, trivial⟩) ?_
 rintro a k ⟨⟨hg, hs, hd⟩, i0, i1, i7, i8, _⟩
 refine wp_block ?_
 obtain ⟨f1, hf1, hr⟩ := bind_some hr
 refine cutFe f1 (fun s' a' k' => Bs noF k0 19 a' k' ∧ (IsV s_) (a'.get 0) k' ∧ (IsFn1 Try.prog f_) (a'.get 1) k' ∧ (IsL s_) (a'.get 7) k' ∧ (IsV s') (a'.get 8) k' ∧ True) (fun i' s' a' k' => (i' = 0 ∧ Bs noF k0 19 a' k' ∧ True)) (fun r' a' k' => bodyPost Try.prog Try.f76 (RetC noF k0 (IsV r')) .ret a' k'.w) ?_ hQ ?_ ?_ ?_
 ·intro Q1 W1 hgo hex hret
  refine sim_loop ?_ _ _ _ _ _ hf1 ⟨⟨hg, hs, hd⟩, i0, i1, i7, i8, trivial⟩ Q1 W1 hgo hex hret
  clear hr hf1 hgo hex hret W1 hQ hg hs hd i0 i1 i7 i8
  intro s1 fl_ a k hr hS Q hQ hgo1843 hex1844 hret1845
  obtain ⟨⟨hg, hs, hd⟩, i0, i1, i7, i8, _⟩ := hS
  unfold slices_IndexFunc_Rect_L0 at hr
  refine stepL 1 (_ :: []) rfl ⟨hg, hs, hd⟩ (by kernel_rfl) ⟨o1 [(8, none), (7, none)] rfl fun _ _ h n => ok_lss rfl (up i8 h n.1) (up i7 h n.2.1), trivial⟩ [⟨_, _⟩, ⟨_, _⟩, ⟨_, _⟩, ⟨_, _⟩, ⟨_, _⟩] (fun b q p => ⟨p.ke 0 rfl i0, p.ke 1 rfl i1, p.ke 7 rfl i7, p.ke 8 rfl i8, p.ou 0 9 rfl, trivial⟩) ?_
  rintro a k ⟨⟨hg, hs, hd⟩, i0, i1, i7, i8, i9, _⟩
  refine wp_seq ?_
  refine wp_cond_split (isBool i9) (fun hc1860 => ?_) (fun hc1860 => ?_)
  ·rw [if_pos hc1860] at hr
   refine wp_skip ?_
   refine wp_seq ?_
   refine wp_block ?_
   refine stepL 2 (_ :: _ :: []) rfl ⟨hg, hs, hd⟩ (by kernel_rfl) ⟨mu rfl i8, cp 0 rfl rfl, trivial⟩ [⟨_, _⟩, ⟨_, _⟩, ⟨_, _⟩, ⟨_, _⟩, ⟨_, _⟩] (fun b q p => ⟨p.ke 0 rfl i0, p.ke 1 rfl i1, p.ou 1 5 rfl, p.ke 7 rfl i7, p.ke 8 rfl i8, trivial⟩) ?_
   rintro a k ⟨⟨hg, hs, hd⟩, i0, i1, i5, i7, i8, _⟩
   refine wp_seq ?_
   obtain ⟨x1, hx1, hr⟩ := bind_some hr
   obtain ⟨x2, hx2, hr⟩ := bind_some hr
   refine cut (fun a' k' => Bs noF k0 19 a' k' ∧ (IsV s_) (a'.get 0) k' ∧ (IsFn1 Try.prog f_) (a'.get 1) k' ∧ (IsV s1) (a'.get 5) k' ∧ (IsL s_) (a'.get 7) k' ∧ (IsV s1) (a'.get 8) k' ∧ (IsV x2) (a'.get 16) k' ∧ True) ?_ hQ ?_
   ·intro Q2 W2 w1
    refine gS 6 (_ :: _ :: _ :: _ :: _ :: ⟨some (IsV x2), [(11, some 0), (15, some 4)]⟩ :: []) hs (by kernel_rfl) ⟨mu rfl i1, mu rfl i0, mu rfl i5, o1 [(12, some 1), (13, some 2)] rfl fun _ _ h n => ok_indexAddr rfl Try.underlying49 ty35 (IsV.rd n.1) n.2.1 hx1, o1 [(14, some 3)] rfl fun _ _ h n => ok_load rfl ty35 n.1, ob1 rfl fun _ _ h n => ok_callF1 rfl n.1 n.2.1 hx2, trivial⟩ W2 fun b q p => ?_
    exact tail_done (k := q) (w1 _ _ ⟨Bs.post ⟨hg, hs, hd⟩ p, p.ke 0 rfl i0, p.ke 1 rfl i1, p.ke 5 rfl i5, p.ke 7 rfl i7, p.ke 8 rfl i8, p.ou 5 16 rfl, trivial⟩)
   rintro a k ⟨⟨hg, hs, hd⟩, i0, i1, i5, i7, i8, i16, _⟩
   refine wp_cond_split (isBool i16) (fun hc1855 => ?_) (fun hc1855 => ?_)
   ·rw [if_pos hc1855] at hr
    refine stepL 2 (_ :: _ :: []) rfl ⟨hg, hs, hd⟩ (by kernel_rfl) ⟨mu rfl i5, cp 0 rfl rfl, trivial⟩ [⟨_, _⟩] (fun b q p => ⟨p.ou 1 4 rfl, trivial⟩) ?_
    rintro a k ⟨⟨hg, hs, hd⟩, i4, _⟩
    refine wp_ret ?_
    exact hret1845 _ _ _ (Option.some.inj hr).symm (retC1 rfl hd hg i4)
   rw [if_neg (by rw [hc1855]; decide)] at hr
   refine wp_skip ?_
   obtain ⟨x3, hx3, hr⟩ := bind_some hr
   refine cut (fun a' k' => Bs noF k0 19 a' k' ∧ (IsV s_) (a'.get 0) k' ∧ (IsFn1 Try.prog f_) (a'.get 1) k' ∧ (IsL s_) (a'.get 7) k' ∧ (IsV x3) (a'.get 8) k' ∧ True) ?_ hQ ?_
   ·intro Q3 W3 w2
    refine gS 2 (_ :: _ :: []) hs (by kernel_rfl) ⟨o1 [(8, none)] rfl fun _ _ h n => ok_add rfl (up i8 h n.1) (cI rfl) hx3, cm 0 rfl rfl, trivial⟩ W3 fun b q p => ?_
    exact tail_done (k := q) (w2 _ _ ⟨Bs.post ⟨hg, hs, hd⟩ p, p.ke 0 rfl i0, p.ke 1 rfl i1, p.ke 7 rfl i7, p.ou 1 8 rfl, trivial⟩)
   rintro a k ⟨⟨hg, hs, hd⟩, i0, i1, i7, i8, _⟩
   exact hgo1843 _ _ _ (Option.some.inj hr).symm ⟨⟨hg, hs, hd⟩, i0, i1, i7, i8, trivial⟩
  rw [if_neg (by rw [hc1860]; decide)] at hr
  refine wp_exit ?_
  exact hex1844 _ _ _ _ (Option.some.inj hr).symm ⟨rfl, ⟨hg, hs, hd⟩, trivial⟩
 ·rintro r1 a k rfl hR
  dsimp only at hr
  obtain rfl := Option.some.inj hr
  exact hR
 ·rintro _ _ _ rfl _
  simp at hr
 clear hf1
 rintro _ s2 a k rfl ⟨rfl, ⟨hg, hs, hd⟩, _⟩
 dsimp only at hr
 refine stepL 1 (⟨some (IsI (-1)), []⟩ :: []) rfl ⟨hg, hs, hd⟩ (by kernel_rfl) ⟨aI rfl rfl, trivial⟩ [⟨_, _⟩] (fun b q p => ⟨p.ou 0 4 rfl, trivial⟩) ?_
 rintro a k ⟨⟨hg, hs, hd⟩, i4, _⟩
 refine wp_ret ?_
 obtain rfl := Option.some.inj hr
 exact retC1 rfl hd hg i4
def slices_ContainsFunc_Rect (s_ : (List Rect)) (f_ : (Rect → Option (Bool))) : Option (Bool) :=
 (slices_IndexFunc_Rect s_ f_).bind fun x1 =>
 some (decide (0 ≤ x1))
theorem slices_ContainsFunc_Rect_ok {k0 : K} {v0 v1 : Value} {s_ : (List Rect)} {f_ : (Rect → Option (Bool))} {r : Bool} (i0 : (IsV s_) v0 k0) (i1 : (IsFn1 Try.prog f_) v1 k0) (hr : slices_ContainsFunc_Rect s_ f_ = some r) :
  Calls Try.prog 52 #[v0, v1] k0.w (Ret k0 (IsV r)) := by
 unfold slices_ContainsFunc_Rect at hr
 refine Ret.ofC ?_
 refine enterK Try.func52 rfl Try.ntmps52 (show 2 ≤ 9 by decide) fun a k hk0 hs hd ha => ?_
 obtain ⟨e0, e1, _⟩ := ha
 replace i0 : (IsV s_) (a.get 0) k := by rw [e0, hk0]; exact i0
 replace i1 : (IsFn1 Try.prog f_) (a.get 1) k := by rw [e1, hk0]; exact i1
 have hQ : Gb.LetsOut (bodyPost Try.prog Try.f52 (RetC noF k0 (IsV r))) := letsOutC
 have hg : Chg noF k0 k := by rw [hk0]; exact Chg.refl _ k0
 refine stepL 1 (⟨some (IsV false), []⟩ :: []) rfl ⟨hg, hs, hd⟩ (by kernel_rfl) ⟨ob1 rfl fun _ _ h n => ok_assign rfl (isV_bool.2 rfl), trivial⟩ [⟨_, _⟩, ⟨_, _⟩] (fun b q p => ⟨p.ke 0 rfl i0, p.ke 1 rfl i1, trivial⟩) ?_
 rintro a k ⟨⟨hg, hs, hd⟩, i0, i1, _⟩
 refine wp_seq ?_
 obtain ⟨x1, hx1, hr⟩ := bind_some hr
 refine cut (fun a' k' => Bs noF k0 9 a' k' ∧ (IsV (decide (0 ≤ x1))) (a'.get 4) k' ∧ True) ?_ hQ ?_
 ·intro Q1 W1 w1
  refine gS 5 (_ :: _ :: _ :: _ :: _ :: []) hs (by kernel_rfl) ⟨mu rfl i0, mu rfl i1, o1 [(5, some 0), (6, some 1)] rfl fun _ _ h n => ok_call rfl Try.call76 (slices_IndexFunc_Rect_ok n.1 n.2.1 hx1), o1 [(7, some 2)] rfl fun _ _ h n => ok_geq rfl n.1 (cI rfl), cp 3 rfl rfl, trivial⟩ W1 fun b q p => ?_
  exact tail_done (k := q) (w1 _ _ ⟨Bs.post ⟨hg, hs, hd⟩ p, p.ou 4 4 rfl, trivial⟩)
 rintro a k ⟨⟨hg, hs, hd⟩, i4, _⟩
 refine wp_ret ?_
 obtain rfl := Option.some.inj hr
 exact retC1 rfl hd hg i4
def region_Has_1 (r_ : Rect) (p1_ : Int) (p2_ : Int) : Option (Bool) :=
 (rect_Has r_ p1_ p2_).bind fun x1 =>
 some x1
theorem region_Has_1_ok {k0 : K} {v0 v1 v2 : Value} {r_ : Rect} {p1_ : Int} {p2_ : Int} {r : Bool} (i0 : (IsV r_) v0 k0) (i1 : (IsRef p1_) v1 k0) (i2 : (IsRef p2_) v2 k0) (hr : region_Has_1 r_ p1_ p2_ = some r) :
  Calls Try.prog 53 #[v0, v1, v2] k0.w (Ret k0 (IsV r)) := by
 unfold region_Has_1 at hr
 refine Ret.ofC ?_
 refine enterK Try.func53 rfl Try.ntmps53 (show 3 ≤ 9 by decide) fun a k hk0 hs hd ha => ?_
 obtain ⟨e0, e1, e2, _⟩ := ha
 replace i0 : (IsV r_) (a.get 0) k := by rw [e0, hk0]; exact i0
 replace i1 : (IsRef p1_) (a.get 1) k := by rw [e1, hk0]; exact i1
 replace i2 : (IsRef p2_) (a.get 2) k := by rw [e2, hk0]; exact i2
 have hQ : Gb.LetsOut (bodyPost Try.prog Try.f53 (RetC noF k0 (IsV r))) := letsOutC
 have hg : Chg noF k0 k := by rw [hk0]; exact Chg.refl _ k0
 refine stepL 2 (⟨some (IsRef r_), [(0, none)]⟩ :: ⟨some (IsV false), []⟩ :: []) rfl ⟨hg, hs, hd⟩ (by kernel_rfl) ⟨ob1 rfl fun _ _ h n => ok_boxR rfl (up i0 h n.1), ob1 rfl fun _ _ h n => ok_assign rfl (isV_bool.2 rfl), trivial⟩ [⟨_, _⟩, ⟨_, _⟩, ⟨_, _⟩] (fun b q p => ⟨p.ke 1 rfl i1, p.ke 2 rfl i2, p.ou 0 3 rfl, trivial⟩) ?_
 rintro a k ⟨⟨hg, hs, hd⟩, i1, i2, i3, _⟩
 refine wp_seq ?_
 obtain ⟨x1, hx1, hr⟩ := bind_some hr
 refine cut (fun a' k' => Bs noF k0 9 a' k' ∧ (IsV x1) (a'.get 4) k' ∧ True) ?_ hQ ?_
 ·intro Q1 W1 w1
  refine gS 5 (_ :: _ :: _ :: _ :: _ :: []) hs (by kernel_rfl) ⟨o1 [(3, none)] rfl fun _ _ h n => ok_load rfl ty35 ((up i3 h n.1)).ptr, o1 [(1, none)] rfl fun _ _ h n => ok_load rfl ty3 ((up i1 h n.1)).ptr, o1 [(2, none)] rfl fun _ _ h n => ok_load rfl ty3 ((up i2 h n.1)).ptr, o1 [(5, some 0), (6, some 1), (7, some 2)] rfl fun _ _ h n => ok_call rfl Try.call54 (rect_Has_ok n.1 n.2.1 n.2.2.1 hx1), cp 3 rfl rfl, trivial⟩ W1 fun b q p => ?_
  exact tail_done (k := q) (w1 _ _ ⟨Bs.post ⟨hg, hs, hd⟩ p, p.ou 4 4 rfl, trivial⟩)
 rintro a k ⟨⟨hg, hs, hd⟩, i4, _⟩
 refine wp_ret ?_
 obtain rfl := Option.some.inj hr
 exact retC1 rfl hd hg i4
def region_Has (a_ : (List Rect)) (x_ : Int) (y_ : Int) : Option (Bool) :=
 (slices_ContainsFunc_Rect a_ (fun y0 => region_Has_1 y0 x_ y_)).bind fun x1 =>
 (if x1 then
  (region_Right a_).bind fun x2 =>
  some x2
 else
  some false).bind fun x3 =>
 some x3
theorem region_Has_ok {k0 : K} {v0 v1 v2 : Value} {a_ : (List Rect)} {x_ : Int} {y_ : Int} {r : Bool} (i0 : (IsV a_) v0 k0) (i1 : (IsV x_) v1 k0) (i2 : (IsV y_) v2 k0) (hr : region_Has a_ x_ y_ = some r) :
  Calls Try.prog 32 #[v0, v1, v2] k0.w (Ret k0 (IsV r)) := by
 unfold region_Has at hr
 refine Ret.ofC ?_
 refine enterK Try.func32 rfl Try.ntmps32 (show 3 ≤ 14 by decide) fun a k hk0 hs hd ha => ?_
 obtain ⟨e0, e1, e2, _⟩ := ha
 replace i0 : (IsV a_) (a.get 0) k := by rw [e0, hk0]; exact i0
 replace i1 : (IsV x_) (a.get 1) k := by rw [e1, hk0]; exact i1
 replace i2 : (IsV y_) (a.get 2) k := by rw [e2, hk0]; exact i2
 have hQ : Gb.LetsOut (bodyPost Try.prog Try.f32 (RetC noF k0 (IsV r))) := letsOutC
 have hg : Chg noF k0 k := by rw [hk0]; exact Chg.refl _ k0
 refine stepL 3 (⟨some (IsRef x_), [(1, none)]⟩ :: ⟨some (IsRef y_), [(2, none)]⟩ :: ⟨some (IsV false), []⟩ :: []) rfl ⟨hg, hs, hd⟩ (by kernel_rfl) ⟨ob1 rfl fun _ _ h n => ok_boxR rfl (up i1 h n.1), ob1 rfl fun _ _ h n => ok_boxR rfl (up i2 h n.1), ob1 rfl fun _ _ h n => ok_assign rfl (isV_bool.2 rfl), trivial⟩ [⟨_, _⟩, ⟨_, _⟩, ⟨_, _⟩] (fun b q p => ⟨p.ke 0 rfl i0, p.ou 0 4 rfl, p.ou 1 5 rfl, trivial⟩) ?_
 rintro a k ⟨⟨hg, hs, hd⟩, i0, i4, i5, _⟩
 refine wp_seq ?_
 obtain ⟨x1, hx1, hr⟩ := bind_some hr
 obtain ⟨x2, hx2, hr⟩ := bind_some hr
 obtain ⟨x3, hx3, hx2⟩ := ite_bind hx2
 refine cut (fun a' k' => Bs noF k0 14 a' k' ∧ (IsV x2) (a'.get 6) k' ∧ True) ?_ hQ ?_
 ·intro Q1 W1 w1
  refine gS 8 (_ :: ⟨some (IsFn1 Try.prog (fun y0 => region_Has_1 y0 x_ y_)), [(4, none), (5, none)]⟩ :: _ :: _ :: _ :: _ :: _ :: _ :: []) hs (by kernel_rfl) ⟨mu rfl i0, ob1 rfl fun _ _ h n => ok_makeFunc (first := []) (captured := [.tmp 4, .tmp 5]) rfl ⟨53, _, _, rfl, Try.call53, fun k9 hk9 _ _ _ hx0 hy9 => by simpa [evalT] using region_Has_1_ok hx0 (Pers.pers hk9 (up i4 h n.1)) (Pers.pers hk9 (up i5 h n.2.1)) hy9⟩, o1 [(7, some 0), (8, some 1)] rfl fun _ _ h n => ok_call rfl Try.call52 (slices_ContainsFunc_Rect_ok n.1 n.2.1 hx1), cm 2 rfl rfl, mT rfl rfl i0, gT [(11, some 4)] rfl rfl fun hp _ _ h n => ok_call rfl Try.call55 (region_Right_ok (Gd.get n.1 hp) (hx3 hp)), o1 [(10, some 3), (12, some 5)] rfl fun _ _ h n => ok_pickM rfl n.1 hx2 (Gd.get n.2.1) (cB rfl), cp 6 rfl rfl, trivial⟩ W1 fun b q p => ?_
  exact tail_done (k := q) (w1 _ _ ⟨Bs.post ⟨hg, hs, hd⟩ p, p.ou 7 6 rfl, trivial⟩)
 rintro a k ⟨⟨hg, hs, hd⟩, i6, _⟩
 refine wp_ret ?_
 obtain rfl := Option.some.inj hr
 exact retC1 rfl hd hg i6
def solid_Has (s_ : (List Slab)) (x_ : Int) (y_ : Int) (z_ : Int) : Option (Bool) :=
 (solid_Section s_ z_).bind fun x1 =>
 (region_Has x1 x_ y_).bind fun x2 =>
 some x2
theorem solid_Has_ok {k0 : K} {v0 v1 v2 v3 : Value} {s_ : (List Slab)} {x_ : Int} {y_ : Int} {z_ : Int} {r : Bool} (i0 : (IsV s_) v0 k0) (i1 : (IsV x_) v1 k0) (i2 : (IsV y_) v2 k0) (i3 : (IsV z_) v3 k0) (hr : solid_Has s_ x_ y_ z_ = some r) :
  Calls Try.prog 21 #[v0, v1, v2, v3] k0.w (Ret k0 (IsV r)) := by
 unfold solid_Has at hr
 refine Ret.ofC ?_
 refine enterK Try.func21 rfl Try.ntmps21 (show 4 ≤ 15 by decide) fun a k hk0 hs hd ha => ?_
 obtain ⟨e0, e1, e2, e3, _⟩ := ha
 replace i0 : (IsV s_) (a.get 0) k := by rw [e0, hk0]; exact i0
 replace i1 : (IsV x_) (a.get 1) k := by rw [e1, hk0]; exact i1
 replace i2 : (IsV y_) (a.get 2) k := by rw [e2, hk0]; exact i2
 replace i3 : (IsV z_) (a.get 3) k := by rw [e3, hk0]; exact i3
 have hQ : Gb.LetsOut (bodyPost Try.prog Try.f21 (RetC noF k0 (IsV r))) := letsOutC
 have hg : Chg noF k0 k := by rw [hk0]; exact Chg.refl _ k0
 refine stepL 1 (⟨some (IsV false), []⟩ :: []) rfl ⟨hg, hs, hd⟩ (by kernel_rfl) ⟨ob1 rfl fun _ _ h n => ok_assign rfl (isV_bool.2 rfl), trivial⟩ [⟨_, _⟩, ⟨_, _⟩, ⟨_, _⟩, ⟨_, _⟩] (fun b q p => ⟨p.ke 0 rfl i0, p.ke 1 rfl i1, p.ke 2 rfl i2, p.ke 3 rfl i3, trivial⟩) ?_
 rintro a k ⟨⟨hg, hs, hd⟩, i0, i1, i2, i3, _⟩
 refine wp_seq ?_
 obtain ⟨x1, hx1, hr⟩ := bind_some hr
 obtain ⟨x2, hx2, hr⟩ := bind_some hr
 refine cut (fun a' k' => Bs noF k0 15 a' k' ∧ (IsV x2) (a'.get 8) k' ∧ True) ?_ hQ ?_
 ·intro Q1 W1 w1
  refine gS 7 (_ :: _ :: _ :: _ :: _ :: _ :: _ :: []) hs (by kernel_rfl) ⟨mu rfl i0, mu rfl i3, o1 [(9, some 0), (10, some 1)] rfl fun _ _ h n => ok_call rfl Try.call33 (solid_Section_ok n.1 n.2.1 hx1), mu rfl i1, mu rfl i2, o1 [(11, some 2), (12, some 3), (13, some 4)] rfl fun _ _ h n => ok_call rfl Try.call32 (region_Has_ok n.1 n.2.1 n.2.2.1 hx2), cp 5 rfl rfl, trivial⟩ W1 fun b q p => ?_
  exact tail_done (k := q) (w1 _ _ ⟨Bs.post ⟨hg, hs, hd⟩ p, p.ou 6 8 rfl, trivial⟩)
 rintro a k ⟨⟨hg, hs, hd⟩, i8, _⟩
 refine wp_ret ?_
 obtain rfl := Option.some.inj hr
 exact retC1 rfl hd hg i8
def law11_SightSplits (s_ : (List Slab)) (p_ : Point3) (step_ : Point3) (n_ : Int) (k_ : Int) : Option (Bool) :=
 (law11_small).bind fun x1 =>
 (law11_few s_).bind fun x2 =>
 (if (!x2) then
  some true
 else
  (ref09_Right s_).bind fun x3 =>
  some (!x3)).bind fun x4 =>
 (if ((((((((((x4 || (decide (n_ < 2))) || (decide (40 < n_))) || (decide (k_ < 1))) || (decide (n_ ≤ k_))) || (decide (step_.X < (-1000)))) || (decide (1000 < step_.X))) || (decide (step_.Y < (-1000)))) || (decide (1000 < step_.Y))) || (decide (step_.Z < (-100)))) || (decide (100 < step_.Z))) then
  some true
 else
  (ref11_Valid p_).bind fun x5 =>
  some (!x5)).bind fun x6 =>
 if x6 then
  some x1
 else
  (mulI k_ step_.X).bind fun x7 =>
  (addI p_.X x7).bind fun x8 =>
  (mulI k_ step_.Y).bind fun x9 =>
  (addI p_.Y x9).bind fun x10 =>
  (mulI k_ step_.Z).bind fun x11 =>
  (addI p_.Z x11).bind fun x12 =>
  (law11_at x8 x10 x12).bind fun x13 =>
  (mulI n_ step_.X).bind fun x14 =>
  (addI p_.X x14).bind fun x15 =>
  (mulI n_ step_.Y).bind fun x16 =>
  (addI p_.Y x16).bind fun x17 =>
  (mulI n_ step_.Z).bind fun x18 =>
  (addI p_.Z x18).bind fun x19 =>
  (law11_at x15 x17 x19).bind fun x20 =>
  (ref11_Valid x20).bind fun x21 =>
  if (!x21) then
   some x1
  else
   (sight_Blocked s_ p_ x13).bind fun x22 =>
   (if x22 then
    some true
   else
    (sight_Blocked s_ x13 x20).bind fun x23 =>
    some x23).bind fun x24 =>
   (if x24 then
    some true
   else
    (solid_Has s_ x13.X x13.Y x13.Z).bind fun x25 =>
    some x25).bind fun x26 =>
   (if x1 then
    (sight_Blocked s_ p_ x20).bind fun x27 =>
    some (x27 == x26)
   else
    some false).bind fun x28 =>
   some x28
theorem law11_SightSplits_ok {k0 : K} {v0 v1 v2 v3 v4 : Value} {s_ : (List Slab)} {p_ : Point3} {step_ : Point3} {n_ : Int} {k_ : Int} {r : Bool} (i0 : (IsV s_) v0 k0) (i1 : (IsV p_) v1 k0) (i2 : (IsV step_) v2 k0) (i3 : (IsV n_) v3 k0) (i4 : (IsV k_) v4 k0) (hr : law11_SightSplits s_ p_ step_ n_ k_ = some r) :
  Calls Try.prog 5 #[v0, v1, v2, v3, v4] k0.w (Ret k0 (IsV r)) := by
 unfold law11_SightSplits at hr
 refine Ret.ofC ?_
 refine enterK Try.func5 rfl Try.ntmps5 (show 5 ≤ 154 by decide) fun a k hk0 hs hd ha => ?_
 obtain ⟨e0, e1, e2, e3, e4, _⟩ := ha
 replace i0 : (IsV s_) (a.get 0) k := by rw [e0, hk0]; exact i0
 replace i1 : (IsV p_) (a.get 1) k := by rw [e1, hk0]; exact i1
 replace i2 : (IsV step_) (a.get 2) k := by rw [e2, hk0]; exact i2
 replace i3 : (IsV n_) (a.get 3) k := by rw [e3, hk0]; exact i3
 replace i4 : (IsV k_) (a.get 4) k := by rw [e4, hk0]; exact i4
 have hQ : Gb.LetsOut (bodyPost Try.prog Try.f5 (RetC noF k0 (IsV r))) := letsOutC
 have hg : Chg noF k0 k := by rw [hk0]; exact Chg.refl _ k0
 refine stepL 3 (⟨some (IsRef p_), [(1, none)]⟩ :: ⟨some (IsRef step_), [(2, none)]⟩ :: ⟨some (IsV false), []⟩ :: []) rfl ⟨hg, hs, hd⟩ (by kernel_rfl) ⟨ob1 rfl fun _ _ h n => ok_boxR rfl (up i1 h n.1), ob1 rfl fun _ _ h n => ok_boxR rfl (up i2 h n.1), ob1 rfl fun _ _ h n => ok_assign rfl (isV_bool.2 rfl), trivial⟩ [⟨_, _⟩, ⟨_, _⟩, ⟨_, _⟩, ⟨_, _⟩, ⟨_, _⟩] (fun b q p => ⟨p.ke 0 rfl i0, p.ke 3 rfl i3, p.ke 4 rfl i4, p.ou 0 6 rfl, p.ou 1 7 rfl, trivial⟩) ?_
 rintro a k ⟨⟨hg, hs, hd⟩, i0, i3, i4, i6, i7, _⟩
 refine wp_seq ?_
 obtain ⟨x1, hx1, hr⟩ := bind_some hr
 refine cut (fun a' k' => Bs noF k0 154 a' k' ∧ (IsV s_) (a'.get 0) k' ∧ (IsV n_) (a'.get 3) k' ∧ (IsV k_) (a'.get 4) k' ∧ (IsRef p_) (a'.get 6) k' ∧ (IsRef step_) (a'.get 7) k' ∧ (IsV x1) (a'.get 11) k' ∧ True) ?_ hQ ?_
 ·intro Q1 W1 w1
  refine gS 2 (_ :: _ :: []) hs (by kernel_rfl) ⟨o1 [] rfl fun _ _ h n => ok_call rfl Try.call9 (law11_small_ok hx1), cp 0 rfl rfl, trivial⟩ W1 fun b q p => ?_
  exact tail_done (k := q) (w1 _ _ ⟨Bs.post ⟨hg, hs, hd⟩ p, p.ke 0 rfl i0, p.ke 3 rfl i3, p.ke 4 rfl i4, p.ke 6 rfl i6, p.ke 7 rfl i7, p.ou 1 11 rfl, trivial⟩)
 rintro a k ⟨⟨hg, hs, hd⟩, i0, i3, i4, i6, i7, i11, _⟩
 refine wp_seq ?_
 refine wp_seq ?_
 obtain ⟨x2, hx2, hr⟩ := bind_some hr
 obtain ⟨x3, hx3, hr⟩ := bind_some hr
 obtain ⟨x4, hx4, hx3⟩ := ite_bindF hx3
 obtain ⟨x5, hx5, hr⟩ := bind_some hr
 obtain ⟨x6, hx6, hx5⟩ := ite_bindF hx5
 refine cut (fun a' k' => Bs noF k0 154 a' k' ∧ (IsV s_) (a'.get 0) k' ∧ (IsV n_) (a'.get 3) k' ∧ (IsV k_) (a'.get 4) k' ∧ (IsRef p_) (a'.get 6) k' ∧ (IsRef step_) (a'.get 7) k' ∧ (IsV x1) (a'.get 11) k' ∧ (IsV x5) (a'.get 75) k' ∧ True) ?_ hQ ?_
 ·intro Q2 W2 w2
  refine gS 60 (_ :: _ :: _ :: _ :: _ :: _ :: _ :: _ :: _ :: _ :: _ :: _ :: _ :: _ :: _ :: _ :: _ :: _ :: _ :: _ :: _ :: _ :: _ :: _ :: _ :: _ :: _ :: _ :: _ :: _ :: _ :: _ :: _ :: _ :: _ :: _ :: _ :: _ :: _ :: _ :: _ :: _ :: _ :: _ :: _ :: _ :: _ :: _ :: _ :: _ :: _ :: _ :: _ :: _ :: _ :: _ :: _ :: _ :: _ :: _ :: []) hs (by kernel_rfl) ⟨mu rfl i0, o1 [(16, some 0)] rfl fun _ _ h n => ok_call rfl Try.call10 (law11_few_ok n.1 hx2), o1 [(17, some 1)] rfl fun _ _ h n => ok_not rfl n.1, cm 2 rfl rfl, mF rfl rfl i0, gF [(20, some 4)] rfl rfl fun hp _ _ h n => ok_call rfl Try.call15 (ref09_Right_ok (Gd.get n.1 hp) (hx4 hp)), gF [(21, some 5)] rfl rfl fun hp _ _ h n => ok_not rfl (Gd.get n.1 hp), o1 [(19, some 3), (22, some 6)] rfl fun _ _ h n => ok_pickM rfl n.1 hx3 (cB rfl) (Gd.get n.2.1), cm 7 rfl rfl, mF rfl rfl i3, gF [(25, some 9)] rfl rfl fun hp _ _ h n => ok_lss rfl (Gd.get n.1 hp) (cI rfl), o1 [(24, some 8), (26, some 10)] rfl fun _ _ h n => ok_pickOr rfl n.1 (cB rfl) (Gd.get n.2.1), cm 11 rfl rfl, mF rfl rfl i3, gF [(29, some 13)] rfl rfl fun hp _ _ h n => ok_gtr rfl (Gd.get n.1 hp) (cI rfl), o1 [(28, some 12), (30, some 14)] rfl fun _ _ h n => ok_pickOr rfl n.1 (cB rfl) (Gd.get n.2.1), cm 15 rfl rfl, mF rfl rfl i4, gF [(33, some 17)] rfl rfl fun hp _ _ h n => ok_lss rfl (Gd.get n.1 hp) (cI rfl), o1 [(32, some 16), (34, some 18)] rfl fun _ _ h n => ok_pickOr rfl n.1 (cB rfl) (Gd.get n.2.1), cm 19 rfl rfl, mF rfl rfl i4, mF rfl rfl i3, gF [(37, some 21), (38, some 22)] rfl rfl fun hp _ _ h n => ok_geq rfl (Gd.get n.1 hp) (Gd.get n.2.1 hp), o1 [(36, some 20), (39, some 23)] rfl fun _ _ h n => ok_pickOr rfl n.1 (cB rfl) (Gd.get n.2.1), cm 24 rfl rfl, gF [(7, none)] rfl rfl fun hp _ _ h n => ok_fieldAddr rfl fo24_0 (at_Point3_0 _) ((up i7 h n.1)).ptr, gF [(42, some 26)] rfl rfl fun hp _ _ h n => ok_load rfl ty3 (Gd.get n.1 hp), gF [(43, some 27)] rfl rfl fun hp _ _ h n => ok_lss rfl (Gd.get n.1 hp) (cI rfl), o1 [(41, some 25), (44, some 28)] rfl fun _ _ h n => ok_pickOr rfl n.1 (cB rfl) (Gd.get n.2.1), cm 29 rfl rfl, gF [(7, none)] rfl rfl fun hp _ _ h n => ok_fieldAddr rfl fo24_0 (at_Point3_0 _) ((up i7 h n.1)).ptr, gF [(47, some 31)] rfl rfl fun hp _ _ h n => ok_load rfl ty3 (Gd.get n.1 hp), gF [(48, some 32)] rfl rfl fun hp _ _ h n => ok_gtr rfl (Gd.get n.1 hp) (cI rfl), o1 [(46, some 30), (49, some 33)] rfl fun _ _ h n => ok_pickOr rfl n.1 (cB rfl) (Gd.get n.2.1), cm 34 rfl rfl, gF [(7, none)] rfl rfl fun hp _ _ h n => ok_fieldAddr rfl fo24_1 (at_Point3_1 _) ((up i7 h n.1)).ptr, gF [(52, some 36)] rfl rfl fun hp _ _ h n => ok_load rfl ty3 (Gd.get n.1 hp), gF [(53, some 37)] rfl rfl fun hp _ _ h n => ok_lss rfl (Gd.get n.1 hp) (cI rfl), o1 [(51, some 35), (54, some 38)] rfl fun _ _ h n => ok_pickOr rfl n.1 (cB rfl) (Gd.get n.2.1), cm 39 rfl rfl, gF [(7, none)] rfl rfl fun hp _ _ h n => ok_fieldAddr rfl fo24_1 (at_Point3_1 _) ((up i7 h n.1)).ptr, gF [(57, some 41)] rfl rfl fun hp _ _ h n => ok_load rfl ty3 (Gd.get n.1 hp), gF [(58, some 42)] rfl rfl fun hp _ _ h n => ok_gtr rfl (Gd.get n.1 hp) (cI rfl), o1 [(56, some 40), (59, some 43)] rfl fun _ _ h n => ok_pickOr rfl n.1 (cB rfl) (Gd.get n.2.1), cm 44 rfl rfl, gF [(7, none)] rfl rfl fun hp _ _ h n => ok_fieldAddr rfl fo24_2 (at_Point3_2 _) ((up i7 h n.1)).ptr, gF [(62, some 46)] rfl rfl fun hp _ _ h n => ok_load rfl ty3 (Gd.get n.1 hp), gF [(63, some 47)] rfl rfl fun hp _ _ h n => ok_lss rfl (Gd.get n.1 hp) (cI rfl), o1 [(61, some 45), (64, some 48)] rfl fun _ _ h n => ok_pickOr rfl n.1 (cB rfl) (Gd.get n.2.1), cm 49 rfl rfl, gF [(7, none)] rfl rfl fun hp _ _ h n => ok_fieldAddr rfl fo24_2 (at_Point3_2 _) ((up i7 h n.1)).ptr, gF [(67, some 51)] rfl rfl fun hp _ _ h n => ok_load rfl ty3 (Gd.get n.1 hp), gF [(68, some 52)] rfl rfl fun hp _ _ h n => ok_gtr rfl (Gd.get n.1 hp) (cI rfl), o1 [(66, some 50), (69, some 53)] rfl fun _ _ h n => ok_pickOr rfl n.1 (cB rfl) (Gd.get n.2.1), cm 54 rfl rfl, gF [(6, none)] rfl rfl fun hp _ _ h n => ok_load rfl ty24 ((up i6 h n.1)).ptr, gF [(72, some 56)] rfl rfl fun hp _ _ h n => ok_call rfl Try.call20 (ref11_Valid_ok (Gd.get n.1 hp) (hx6 hp)), gF [(73, some 57)] rfl rfl fun hp _ _ h n => ok_not rfl (Gd.get n.1 hp), o1 [(71, some 55), (74, some 58)] rfl fun _ _ h n => ok_pickM rfl n.1 hx5 (cB rfl) (Gd.get n.2.1), trivial⟩ W2 fun b q p => ?_
  exact tail_done (k := q) (w2 _ _ ⟨Bs.post ⟨hg, hs, hd⟩ p, p.ke 0 rfl i0, p.ke 3 rfl i3, p.ke 4 rfl i4, p.ke 6 rfl i6, p.ke 7 rfl i7, p.ke 11 rfl i11, p.ou 59 75 rfl, trivial⟩)
 rintro a k ⟨⟨hg, hs, hd⟩, i0, i3, i4, i6, i7, i11, i75, _⟩
 refine wp_cond_split (isBool i75) (fun hc1923 => ?_) (fun hc1923 => ?_)
 ·rw [if_pos hc1923] at hr
  refine stepL 2 (_ :: _ :: []) rfl ⟨hg, hs, hd⟩ (by kernel_rfl) ⟨mu rfl i11, cp 0 rfl rfl, trivial⟩ [⟨_, _⟩] (fun b q p => ⟨p.ou 1 10 rfl, trivial⟩) ?_
  rintro a k ⟨⟨hg, hs, hd⟩, i10, _⟩
  refine wp_ret ?_
  obtain rfl := Option.some.inj hr
  exact retC1 rfl hd hg i10
 rw [if_neg (by rw [hc1923]; decide)] at hr
 refine wp_skip ?_
 refine wp_seq ?_
 obtain ⟨x7, hx7, hr⟩ := bind_some hr
 obtain ⟨x8, hx8, hr⟩ := bind_some hr
 obtain ⟨x9, hx9, hr⟩ := bind_some hr
 obtain ⟨x10, hx10, hr⟩ := bind_some hr
 obtain ⟨x11, hx11, hr⟩ := bind_some hr
 obtain ⟨x14, hx14, hr⟩ := bind_some hr
 obtain ⟨x15, hx15, hr⟩ := bind_some hr
 refine cut (fun a' k' => Bs noF k0 154 a' k' ∧ (IsV s_) (a'.get 0) k' ∧ (IsV n_) (a'.get 3) k' ∧ (IsRef p_) (a'.get 6) k' ∧ (IsRef step_) (a'.get 7) k' ∧ (IsV x1) (a'.get 11) k' ∧ (IsRef x15) (a'.get 12) k' ∧ True) ?_ hQ ?_
 ·intro Q3 W3 w3
  refine gS 23 (_ :: _ :: _ :: _ :: _ :: _ :: _ :: _ :: _ :: _ :: _ :: _ :: _ :: _ :: _ :: _ :: _ :: _ :: _ :: _ :: _ :: _ :: ⟨some (IsBox k.w.heap.size (⟨0, 0, 0⟩ : Point3)), []⟩ :: []) hs (by kernel_rfl) ⟨o1 [(6, none)] rfl fun _ _ h n => ok_fieldAddr rfl fo24_0 (at_Point3_0 _) ((up i6 h n.1)).ptr, o1 [(77, some 0)] rfl fun _ _ h n => ok_load rfl ty3 n.1, mu rfl i4, o1 [(7, none)] rfl fun _ _ h n => ok_fieldAddr rfl fo24_0 (at_Point3_0 _) ((up i7 h n.1)).ptr, o1 [(80, some 3)] rfl fun _ _ h n => ok_load rfl ty3 n.1, o1 [(79, some 2), (81, some 4)] rfl fun _ _ h n => ok_mul rfl n.1 n.2.1 hx7, o1 [(78, some 1), (82, some 5)] rfl fun _ _ h n => ok_add rfl n.1 n.2.1 hx8, o1 [(6, none)] rfl fun _ _ h n => ok_fieldAddr rfl fo24_1 (at_Point3_1 _) ((up i6 h n.1)).ptr, o1 [(84, some 7)] rfl fun _ _ h n => ok_load rfl ty3 n.1, mu rfl i4, o1 [(7, none)] rfl fun _ _ h n => ok_fieldAddr rfl fo24_1 (at_Point3_1 _) ((up i7 h n.1)).ptr, o1 [(87, some 10)] rfl fun _ _ h n => ok_load rfl ty3 n.1, o1 [(86, some 9), (88, some 11)] rfl fun _ _ h n => ok_mul rfl n.1 n.2.1 hx9, o1 [(85, some 8), (89, some 12)] rfl fun _ _ h n => ok_add rfl n.1 n.2.1 hx10, o1 [(6, none)] rfl fun _ _ h n => ok_fieldAddr rfl fo24_2 (at_Point3_2 _) ((up i6 h n.1)).ptr, o1 [(91, some 14)] rfl fun _ _ h n => ok_load rfl ty3 n.1, mu rfl i4, o1 [(7, none)] rfl fun _ _ h n => ok_fieldAddr rfl fo24_2 (at_Point3_2 _) ((up i7 h n.1)).ptr, o1 [(94, some 17)] rfl fun _ _ h n => ok_load rfl ty3 n.1, o1 [(93, some 16), (95, some 18)] rfl fun _ _ h n => ok_mul rfl n.1 n.2.1 hx11, o1 [(92, some 15), (96, some 19)] rfl fun _ _ h n => ok_add rfl n.1 n.2.1 hx14, o1 [(83, some 6), (90, some 13), (97, some 20)] rfl fun _ _ h n => ok_call rfl Try.call16 (law11_at_ok n.1 n.2.1 n.2.2.1 hx15), ob1 rfl fun _ _ h n => ok_alloc _ h.size rfl z24, trivial⟩ W3 fun b q p => ?_
  have hgq := hg.then p.grow
  have hsb := p.size.trans hs
  have hdb := p.defers.trans hd
  have j0 := p.ke 0 rfl i0
  have j3 := p.ke 3 rfl i3
  have j6 := p.ke 6 rfl i6
  have j7 := p.ke 7 rfl i7
  have j11 := p.ke 11 rfl i11
  obtain ⟨b12, j12, x12, z12⟩ : (IsBox k.w.heap.size (⟨0, 0, 0⟩ : Point3)) (b.get 12) q := p.ou 22 12 rfl
  replace x12 : Lo k (Eq b12) := Lo.eq x12
  have y12 : Lo k0 (Eq b12) := x12.chg hg
  have j98 : (IsV x15) (b.get 98) q := p.ou 21 98 rfl
  have hns := z12.nshF
  refine tail_storeB (i := 23) rfl rfl rfl rfl szf24 (Upd.self (α := Point3)) j12 z12 j98 fun q2 hch hz => ?_
  replace hgq := hgq.step hch y12.wr
  have hle := hch.le hns
  replace j0 := Pers.pers hle j0
  replace j3 := Pers.pers hle j3
  replace j6 := Pers.pers hle j6
  replace j7 := Pers.pers hle j7
  replace j11 := Pers.pers hle j11
  replace j98 := Pers.pers hle j98
  replace z12 := hz
  clear hns hle hch
  obtain ⟨q, hqq⟩ : ∃ q, q = q2 := ⟨q2, rfl⟩
  subst hqq
  obtain ⟨q2, hsh, jn⟩ := z12.give
  replace j0 := Pers.pers hsh.le j0
  replace j3 := Pers.pers hsh.le j3
  replace j6 := Pers.pers hsh.le j6
  replace j7 := Pers.pers hsh.le j7
  replace j11 := Pers.pers hsh.le j11
  rw [← j12] at jn
  replace j12 := jn
  replace hgq := hgq.hand hsh y12.wr
  rw [← hsh.w]
  clear hsh
  obtain ⟨q, hqq⟩ : ∃ q, q = q2 := ⟨q2, rfl⟩
  subst hqq
  exact tail_done (k := q) (w3 _ _ ⟨⟨hgq, hsb, hdb⟩, j0, j3, j6, j7, j11, j12, trivial⟩)
 rintro a k ⟨⟨hg, hs, hd⟩, i0, i3, i6, i7, i11, i12, _⟩
 refine wp_seq ?_
 obtain ⟨x16, hx16, hr⟩ := bind_some hr
 obtain ⟨x17, hx17, hr⟩ := bind_some hr
 obtain ⟨x18, hx18, hr⟩ := bind_some hr
 obtain ⟨x19, hx19, hr⟩ := bind_some hr
 obtain ⟨x20, hx20, hr⟩ := bind_some hr
 obtain ⟨x21, hx21, hr⟩ := bind_some hr
 obtain ⟨x22, hx22, hr⟩ := bind_some hr
 refine cut (fun a' k' => Bs noF k0 154 a' k' ∧ (IsV s_) (a'.get 0) k' ∧ (IsRef p_) (a'.get 6) k' ∧ (IsV x1) (a'.get 11) k' ∧ (IsRef x15) (a'.get 12) k' ∧ (IsRef x22) (a'.get 13) k' ∧ True) ?_ hQ ?_
 ·intro Q4 W4 w4
  refine gS 23 (_ :: _ :: _ :: _ :: _ :: _ :: _ :: _ :: _ :: _ :: _ :: _ :: _ :: _ :: _ :: _ :: _ :: _ :: _ :: _ :: _ :: _ :: ⟨some (IsBox k.w.heap.size (⟨0, 0, 0⟩ : Point3)), []⟩ :: []) hs (by kernel_rfl) ⟨o1 [(6, none)] rfl fun _ _ h n => ok_fieldAddr rfl fo24_0 (at_Point3_0 _) ((up i6 h n.1)).ptr, o1 [(99, some 0)] rfl fun _ _ h n => ok_load rfl ty3 n.1, mu rfl i3, o1 [(7, none)] rfl fun _ _ h n => ok_fieldAddr rfl fo24_0 (at_Point3_0 _) ((up i7 h n.1)).ptr, o1 [(102, some 3)] rfl fun _ _ h n => ok_load rfl ty3 n.1, o1 [(101, some 2), (103, some 4)] rfl fun _ _ h n => ok_mul rfl n.1 n.2.1 hx16, o1 [(100, some 1), (104, some 5)] rfl fun _ _ h n => ok_add rfl n.1 n.2.1 hx17, o1 [(6, none)] rfl fun _ _ h n => ok_fieldAddr rfl fo24_1 (at_Point3_1 _) ((up i6 h n.1)).ptr, o1 [(106, some 7)] rfl fun _ _ h n => ok_load rfl ty3 n.1, mu rfl i3, o1 [(7, none)] rfl fun _ _ h n => ok_fieldAddr rfl fo24_1 (at_Point3_1 _) ((up i7 h n.1)).ptr, o1 [(109, some 10)] rfl fun _ _ h n => ok_load rfl ty3 n.1, o1 [(108, some 9), (110, some 11)] rfl fun _ _ h n => ok_mul rfl n.1 n.2.1 hx18, o1 [(107, some 8), (111, some 12)] rfl fun _ _ h n => ok_add rfl n.1 n.2.1 hx19, o1 [(6, none)] rfl fun _ _ h n => ok_fieldAddr rfl fo24_2 (at_Point3_2 _) ((up i6 h n.1)).ptr, o1 [(113, some 14)] rfl fun _ _ h n => ok_load rfl ty3 n.1, mu rfl i3, o1 [(7, none)] rfl fun _ _ h n => ok_fieldAddr rfl fo24_2 (at_Point3_2 _) ((up i7 h n.1)).ptr, o1 [(116, some 17)] rfl fun _ _ h n => ok_load rfl ty3 n.1, o1 [(115, some 16), (117, some 18)] rfl fun _ _ h n => ok_mul rfl n.1 n.2.1 hx20, o1 [(114, some 15), (118, some 19)] rfl fun _ _ h n => ok_add rfl n.1 n.2.1 hx21, o1 [(105, some 6), (112, some 13), (119, some 20)] rfl fun _ _ h n => ok_call rfl Try.call16 (law11_at_ok n.1 n.2.1 n.2.2.1 hx22), ob1 rfl fun _ _ h n => ok_alloc _ h.size rfl z24, trivial⟩ W4 fun b q p => ?_
  have hgq := hg.then p.grow
  have hsb := p.size.trans hs
  have hdb := p.defers.trans hd
  have j0 := p.ke 0 rfl i0
  have j6 := p.ke 6 rfl i6
  have j11 := p.ke 11 rfl i11
  have j12 := p.ke 12 rfl i12
  obtain ⟨b13, j13, x13, z13⟩ : (IsBox k.w.heap.size (⟨0, 0, 0⟩ : Point3)) (b.get 13) q := p.ou 22 13 rfl
  replace x13 : Lo k (Eq b13) := Lo.eq x13
  have y13 : Lo k0 (Eq b13) := x13.chg hg
  have j120 : (IsV x22) (b.get 120) q := p.ou 21 120 rfl
  have hns := z13.nshF
  refine tail_storeB (i := 23) rfl rfl rfl rfl szf24 (Upd.self (α := Point3)) j13 z13 j120 fun q2 hch hz => ?_
  replace hgq := hgq.step hch y13.wr
  have hle := hch.le hns
  replace j0 := Pers.pers hle j0
  replace j6 := Pers.pers hle j6
  replace j11 := Pers.pers hle j11
  replace j12 := Pers.pers hle j12
  replace j120 := Pers.pers hle j120
  replace z13 := hz
  clear hns hle hch
  obtain ⟨q, hqq⟩ : ∃ q, q = q2 := ⟨q2, rfl⟩
  subst hqq
  obtain ⟨q2, hsh, jn⟩ := z13.give
  replace j0 := Pers.pers hsh.le j0
  replace j6 := Pers.pers hsh.le j6
  replace j11 := Pers.pers hsh.le j11
  replace j12 := Pers.pers hsh.le j12
  rw [← j13] at jn
  replace j13 := jn
  replace hgq := hgq.hand hsh y13.wr
  rw [← hsh.w]
  clear hsh
  obtain ⟨q, hqq⟩ : ∃ q, q = q2 := ⟨q2, rfl⟩
  subst hqq
  exact tail_done (k := q) (w4 _ _ ⟨⟨hgq, hsb, hdb⟩, j0, j6, j11, j12, j13, trivial⟩)
 rintro a k ⟨⟨hg, hs, hd⟩, i0, i6, i11, i12, i13, _⟩
 refine wp_seq ?_
 refine wp_seq ?_
 obtain ⟨x23, hx23, hr⟩ := bind_some hr
 refine cut (fun a' k' => Bs noF k0 154 a' k' ∧ (IsV s_) (a'.get 0) k' ∧ (IsRef p_) (a'.get 6) k' ∧ (IsV x1) (a'.get 11) k' ∧ (IsRef x15) (a'.get 12) k' ∧ (IsRef x22) (a'.get 13) k' ∧ (IsV (!x23)) (a'.get 123) k' ∧ True) ?_ hQ ?_
 ·intro Q5 W5 w5
  refine gS 3 (_ :: _ :: _ :: []) hs (by kernel_rfl) ⟨o1 [(13, none)] rfl fun _ _ h n => ok_load rfl ty24 ((up i13 h n.1)).ptr, o1 [(121, some 0)] rfl fun _ _ h n => ok_call rfl Try.call20 (ref11_Valid_ok n.1 hx23), o1 [(122, some 1)] rfl fun _ _ h n => ok_not rfl n.1, trivial⟩ W5 fun b q p => ?_
  exact tail_done (k := q) (w5 _ _ ⟨Bs.post ⟨hg, hs, hd⟩ p, p.ke 0 rfl i0, p.ke 6 rfl i6, p.ke 11 rfl i11, p.ke 12 rfl i12, p.ke 13 rfl i13, p.ou 2 123 rfl, trivial⟩)
 rintro a k ⟨⟨hg, hs, hd⟩, i0, i6, i11, i12, i13, i123, _⟩
 refine wp_cond_split (isBool i123) (fun hc1916 => ?_) (fun hc1916 => ?_)
 ·rw [if_pos hc1916] at hr
  refine stepL 2 (_ :: _ :: []) rfl ⟨hg, hs, hd⟩ (by kernel_rfl) ⟨mu rfl i11, cp 0 rfl rfl, trivial⟩ [⟨_, _⟩] (fun b q p => ⟨p.ou 1 10 rfl, trivial⟩) ?_
  rintro a k ⟨⟨hg, hs, hd⟩, i10, _⟩
  refine wp_ret ?_
  obtain rfl := Option.some.inj hr
  exact retC1 rfl hd hg i10
 rw [if_neg (by rw [hc1916]; decide)] at hr
 refine wp_skip ?_
 refine wp_seq ?_
 obtain ⟨x24, hx24, hr⟩ := bind_some hr
 obtain ⟨x25, hx25, hr⟩ := bind_some hr
 obtain ⟨x26, hx26, hx25⟩ := ite_bindF hx25
 obtain ⟨x27, hx27, hr⟩ := bind_some hr
 obtain ⟨x28, hx28, hx27⟩ := ite_bindF hx27
 refine cut (fun a' k' => Bs noF k0 154 a' k' ∧ (IsV s_) (a'.get 0) k' ∧ (IsRef p_) (a'.get 6) k' ∧ (IsV x1) (a'.get 11) k' ∧ (IsRef x22) (a'.get 13) k' ∧ (IsV x27) (a'.get 14) k' ∧ True) ?_ hQ ?_
 ·intro Q6 W6 w6
  refine gS 21 (_ :: _ :: _ :: _ :: _ :: _ :: _ :: _ :: _ :: _ :: _ :: _ :: _ :: _ :: _ :: _ :: _ :: _ :: _ :: _ :: _ :: []) hs (by kernel_rfl) ⟨mu rfl i0, o1 [(6, none)] rfl fun _ _ h n => ok_load rfl ty24 ((up i6 h n.1)).ptr, o1 [(12, none)] rfl fun _ _ h n => ok_load rfl ty24 ((up i12 h n.1)).ptr, o1 [(125, some 0), (126, some 1), (127, some 2)] rfl fun _ _ h n => ok_call rfl Try.call11 (sight_Blocked_ok n.1 n.2.1 n.2.2.1 hx24), cm 3 rfl rfl, mF rfl rfl i0, gF [(12, none)] rfl rfl fun hp _ _ h n => ok_load rfl ty24 ((up i12 h n.1)).ptr, gF [(13, none)] rfl rfl fun hp _ _ h n => ok_load rfl ty24 ((up i13 h n.1)).ptr, gF [(130, some 5), (131, some 6), (132, some 7)] rfl rfl fun hp _ _ h n => ok_call rfl Try.call11 (sight_Blocked_ok (Gd.get n.1 hp) (Gd.get n.2.1 hp) (Gd.get n.2.2.1 hp) (hx26 hp)), o1 [(129, some 4), (133, some 8)] rfl fun _ _ h n => ok_pickM rfl n.1 hx25 (cB rfl) (Gd.get n.2.1), cm 9 rfl rfl, mF rfl rfl i0, gF [(12, none)] rfl rfl fun hp _ _ h n => ok_fieldAddr rfl fo24_0 (at_Point3_0 _) ((up i12 h n.1)).ptr, gF [(137, some 12)] rfl rfl fun hp _ _ h n => ok_load rfl ty3 (Gd.get n.1 hp), gF [(12, none)] rfl rfl fun hp _ _ h n => ok_fieldAddr rfl fo24_1 (at_Point3_1 _) ((up i12 h n.1)).ptr, gF [(139, some 14)] rfl rfl fun hp _ _ h n => ok_load rfl ty3 (Gd.get n.1 hp), gF [(12, none)] rfl rfl fun hp _ _ h n => ok_fieldAddr rfl fo24_2 (at_Point3_2 _) ((up i12 h n.1)).ptr, gF [(141, some 16)] rfl rfl fun hp _ _ h n => ok_load rfl ty3 (Gd.get n.1 hp), gF [(136, some 11), (138, some 13), (140, some 15), (142, some 17)] rfl rfl fun hp _ _ h n => ok_call rfl Try.call21 (solid_Has_ok (Gd.get n.1 hp) (Gd.get n.2.1 hp) (Gd.get n.2.2.1 hp) (Gd.get n.2.2.2.1 hp) (hx28 hp)), o1 [(135, some 10), (143, some 18)] rfl fun _ _ h n => ok_pickM rfl n.1 hx27 (cB rfl) (Gd.get n.2.1), cp 19 rfl rfl, trivial⟩ W6 fun b q p => ?_
  exact tail_done (k := q) (w6 _ _ ⟨Bs.post ⟨hg, hs, hd⟩ p, p.ke 0 rfl i0, p.ke 6 rfl i6, p.ke 11 rfl i11, p.ke 13 rfl i13, p.ou 20 14 rfl, trivial⟩)
 rintro a k ⟨⟨hg, hs, hd⟩, i0, i6, i11, i13, i14, _⟩
 refine wp_seq ?_
 obtain ⟨x29, hx29, hr⟩ := bind_some hr
 obtain ⟨x30, hx30, hx29⟩ := ite_bind hx29
 refine cut (fun a' k' => Bs noF k0 154 a' k' ∧ (IsV x29) (a'.get 10) k' ∧ True) ?_ hQ ?_
 ·intro Q7 W7 w7
  refine gS 10 (_ :: _ :: _ :: _ :: _ :: _ :: _ :: _ :: _ :: _ :: []) hs (by kernel_rfl) ⟨mu rfl i11, cm 0 rfl rfl, mT rfl rfl i0, gT [(6, none)] rfl rfl fun hp _ _ h n => ok_load rfl ty24 ((up i6 h n.1)).ptr, gT [(13, none)] rfl rfl fun hp _ _ h n => ok_load rfl ty24 ((up i13 h n.1)).ptr, gT [(147, some 2), (148, some 3), (149, some 4)] rfl rfl fun hp _ _ h n => ok_call rfl Try.call11 (sight_Blocked_ok (Gd.get n.1 hp) (Gd.get n.2.1 hp) (Gd.get n.2.2.1 hp) (hx30 hp)), mT rfl rfl i14, gT [(150, some 5), (151, some 6)] rfl rfl fun hp _ _ h n => ok_eqB rfl Try.underlying4 (Gd.get n.1 hp) (Gd.get n.2.1 hp), o1 [(146, some 1), (152, some 7)] rfl fun _ _ h n => ok_pickM rfl n.1 hx29 (Gd.get n.2.1) (cB rfl), cp 8 rfl rfl, trivial⟩ W7 fun b q p => ?_
  exact tail_done (k := q) (w7 _ _ ⟨Bs.post ⟨hg, hs, hd⟩ p, p.ou 9 10 rfl, trivial⟩)
 rintro a k ⟨⟨hg, hs, hd⟩, i10, _⟩
 refine wp_ret ?_
 obtain rfl := Option.some.inj hr
 exact retC1 rfl hd hg i10
end Go.Proofs.Ytbpecfmimgjakaa
