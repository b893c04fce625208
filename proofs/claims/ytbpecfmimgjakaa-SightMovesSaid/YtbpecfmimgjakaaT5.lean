/- What the functions compute that the law reaches, part 5 -/
import Derived.Test.YtbpecfmimgjakaaT4
namespace Go.Proofs.Ytbpecfmimgjakaa
open Go.Gb
set_option linter.unusedVariables false
set_option linter.unusedSimpArgs false
set_option maxRecDepth 100000
def sight_meets_L0 (p_ : Point3) (v_ : Point3) (t_ : SightInterval) (x1 : (List Box)) (s1 : Int) : Option (Flow (Int) (Bool)) :=
 if (decide (s1 < (x1.length : Int))) then
  (getI x1 s1).bind fun x2 =>
  (sight_interval_narrow t_ p_.X v_.X x2.Base.X0 x2.Base.X1).bind fun x3 =>
  (sight_interval_narrow x3 p_.Y v_.Y x2.Base.Y0 x2.Base.Y1).bind fun x4 =>
  (sight_interval_narrow x4 p_.Z v_.Z x2.Z0 x2.Z1).bind fun x5 =>
  (sight_interval_empty x5).bind fun x6 =>
  if (!x6) then
   some (.ret true)
  else
   (addI s1 1).bind fun x7 =>
   some (.go x7)
 else
  some (.ex 0 s1)
def sight_meets (s_ : (List Slab)) (p_ : Point3) (v_ : Point3) (t_ : SightInterval) : Option (Bool) :=
 (solid_Boxes s_).bind fun x1 =>
 (iterL (sight_meets_L0 p_ v_ t_ x1) (x1.length + 1) 0).bind fun f1 => match f1 with
  | .go _ => none
  | .ex _ _ =>
   some false
  | .ret r1 => some r1
theorem sight_meets_ok {k0 : K} {v0 v1 v2 v3 : Value} {s_ : (List Slab)} {p_ : Point3} {v_ : Point3} {t_ : SightInterval} {r : Bool} (i0 : (IsV s_) v0 k0) (i1 : (IsV p_) v1 k0) (i2 : (IsV v_) v2 k0) (i3 : (IsV t_) v3 k0) (hr : sight_meets s_ p_ v_ t_ = some r) :
  Calls Try.prog 27 #[v0, v1, v2, v3] k0.w (Ret k0 (IsV r)) := by
 unfold sight_meets at hr
 refine Ret.ofC ?_
 refine enterK Try.func27 rfl Try.ntmps27 (show 4 ≤ 59 by decide) fun a k hk0 hs hd ha => ?_
 obtain ⟨e0, e1, e2, e3, _⟩ := ha
 replace i0 : (IsV s_) (a.get 0) k := by rw [e0, hk0]; exact i0
 replace i1 : (IsV p_) (a.get 1) k := by rw [e1, hk0]; exact i1
 replace i2 : (IsV v_) (a.get 2) k := by rw [e2, hk0]; exact i2
 replace i3 : (IsV t_) (a.get 3) k := by rw [e3, hk0]; exact i3
 have hQ : Gb.LetsOut (bodyPost Try.prog Try.f27 (RetC noF k0 (IsV r))) := letsOutC
 have hg : Chg noF k0 k := by rw [hk0]; exact Chg.refl _ k0
 refine stepL 4 (⟨some (IsRef p_), [(1, none)]⟩ :: ⟨some (IsRef v_), [(2, none)]⟩ :: ⟨some (IsRef t_), [(3, none)]⟩ :: ⟨some (IsV false), []⟩ :: []) rfl ⟨hg, hs, hd⟩ (by kernel_rfl) ⟨ob1 rfl fun _ _ h n => ok_boxR rfl (up i1 h n.1), ob1 rfl fun _ _ h n => ok_boxR rfl (up i2 h n.1), ob1 rfl fun _ _ h n => ok_boxR rfl (up i3 h n.1), ob1 rfl fun _ _ h n => ok_assign rfl (isV_bool.2 rfl), trivial⟩ [⟨_, _⟩, ⟨_, _⟩, ⟨_, _⟩, ⟨_, _⟩] (fun b q p => ⟨p.ke 0 rfl i0, p.ou 0 5 rfl, p.ou 1 6 rfl, p.ou 2 7 rfl, trivial⟩) ?_
 rintro a k ⟨⟨hg, hs, hd⟩, i0, i5, i6, i7, _⟩
 refine wp_seq ?_
 refine wp_seq ?_
 obtain ⟨x1, hx1, hr⟩ := bind_some hr
 refine cut (fun a' k' => Bs noF k0 59 a' k' ∧ (IsRef p_) (a'.get 5) k' ∧ (IsRef v_) (a'.get 6) k' ∧ (IsRef t_) (a'.get 7) k' ∧ (IsV x1) (a'.get 14) k' ∧ (IsL x1) (a'.get 15) k' ∧ (IsI 0) (a'.get 16) k' ∧ True) ?_ hQ ?_
 ·intro Q1 W1 w1
  refine gS 4 (_ :: _ :: _ :: ⟨some (IsI 0), []⟩ :: []) hs (by kernel_rfl) ⟨mu rfl i0, o1 [(13, some 0)] rfl fun _ _ h n => ok_call rfl Try.call46 (solid_Boxes_ok n.1 hx1), o1 [(14, some 1)] rfl fun _ _ h n => ok_len rfl rfl Try.underlying31 (IsV.rd n.1), ob1 rfl fun _ _ h n => ok_move rfl (cI rfl), trivial⟩ W1 fun b q p => ?_
  exact tail_done (k := q) (w1 _ _ ⟨Bs.post ⟨hg, hs, hd⟩ p, p.ke 5 rfl i5, p.ke 6 rfl i6, p.ke 7 rfl i7, p.ou 1 14 rfl, p.ou 2 15 rfl, p.ou 3 16 rfl, trivial⟩)
 rintro a k ⟨⟨hg, hs, hd⟩, i5, i6, i7, i14, i15, i16, _⟩
 refine wp_block ?_
 obtain ⟨f1, hf1, hr⟩ := bind_some hr
 refine cutFe f1 (fun s' c l => Bs noF k0 59 c l ∧ IsRef p_ (c.get 5) l ∧ IsRef v_ (c.get 6) l ∧ IsRef t_ (c.get 7) l ∧ IsV x1 (c.get 14) l ∧ IsL x1 (c.get 15) l ∧ IsV s' (c.get 16) l ∧ True) (fun i' s' c l => (i' = 0 ∧ Bs noF k0 59 c l ∧ True)) (fun r' c l => bodyPost Try.prog Try.f27 (RetC noF k0 (IsV r')) .ret c l.w) ?_ hQ ?_ ?_ ?_
 ·intro Q2 W2 hgo hex hret
  refine sim_loop ?_ _ _ _ _ _ hf1 ⟨⟨hg, hs, hd⟩, i5, i6, i7, i14, i15, i16, trivial⟩ Q2 W2 hgo hex hret
  clear hr hf1 hgo hex hret W2 hQ hg hs hd i14 i15 i16 i5 i6 i7
  intro s1 fl_ a k hr hS Q hQ hgo1522 hex1523 hret1524
  obtain ⟨⟨hg, hs, hd⟩, i5, i6, i7, i14, i15, i16, _⟩ := hS
  unfold sight_meets_L0 at hr
  refine stepL 1 (_ :: []) rfl ⟨hg, hs, hd⟩ (by kernel_rfl) ⟨o1 [(16, none), (15, none)] rfl fun _ _ h n => ok_lss rfl (up i16 h n.1) (up i15 h n.2.1), trivial⟩ [⟨_, _⟩, ⟨_, _⟩, ⟨_, _⟩, ⟨_, _⟩, ⟨_, _⟩, ⟨_, _⟩, ⟨_, _⟩] (fun b q p => ⟨p.ke 5 rfl i5, p.ke 6 rfl i6, p.ke 7 rfl i7, p.ke 14 rfl i14, p.ke 15 rfl i15, p.ke 16 rfl i16, p.ou 0 17 rfl, trivial⟩) ?_
  rintro a k ⟨⟨hg, hs, hd⟩, i5, i6, i7, i14, i15, i16, i17, _⟩
  refine wp_seq ?_
  refine wp_cond_split (isBool i17) (fun hc1554 => ?_) (fun hc1554 => ?_)
  ·rw [if_pos hc1554] at hr
   refine wp_skip ?_
   refine wp_seq ?_
   refine wp_block ?_
   refine wp_seq ?_
   obtain ⟨x2, hx2, hr⟩ := bind_some hr
   refine cut (fun a' k' => Bs noF k0 59 a' k' ∧ (IsRef p_) (a'.get 5) k' ∧ (IsRef v_) (a'.get 6) k' ∧ (IsRef t_) (a'.get 7) k' ∧ (IsRef x2) (a'.get 10) k' ∧ (IsV x1) (a'.get 14) k' ∧ (IsL x1) (a'.get 15) k' ∧ (IsV s1) (a'.get 16) k' ∧ True) ?_ hQ ?_
   ·intro Q3 W3 w2
    refine gS 3 (_ :: _ :: ⟨some (IsBox k.w.heap.size (⟨(⟨0, 0, 0, 0⟩ : Rect), 0, 0⟩ : Box)), []⟩ :: []) hs (by kernel_rfl) ⟨o1 [(14, none), (16, none)] rfl fun _ _ h n => ok_indexAddr rfl Try.underlying31 ty37 (IsV.rd (up i14 h n.1)) (up i16 h n.2.1) hx2, o1 [(18, some 0)] rfl fun _ _ h n => ok_load rfl ty37 n.1, ob1 rfl fun _ _ h n => ok_alloc _ h.size rfl z37, trivial⟩ W3 fun b q p => ?_
    have hgq := hg.then p.grow
    have hsb := p.size.trans hs
    have hdb := p.defers.trans hd
    have j5 := p.ke 5 rfl i5
    have j6 := p.ke 6 rfl i6
    have j7 := p.ke 7 rfl i7
    obtain ⟨b10, j10, x10, z10⟩ : (IsBox k.w.heap.size (⟨(⟨0, 0, 0, 0⟩ : Rect), 0, 0⟩ : Box)) (b.get 10) q := p.ou 2 10 rfl
    replace x10 : Lo k (Eq b10) := Lo.eq x10
    have y10 : Lo k0 (Eq b10) := x10.chg hg
    have j14 := p.ke 14 rfl i14
    have j15 := p.ke 15 rfl i15
    have j16 := p.ke 16 rfl i16
    have j19 : (IsV x2) (b.get 19) q := p.ou 1 19 rfl
    have hns := z10.nshF
    refine tail_storeB (i := 3) rfl rfl rfl rfl szf37 (Upd.self (α := Box)) j10 z10 j19 fun q2 hch hz => ?_
    replace hgq := hgq.step hch y10.wr
    have hle := hch.le hns
    replace j5 := Pers.pers hle j5
    replace j6 := Pers.pers hle j6
    replace j7 := Pers.pers hle j7
    replace j14 := Pers.pers hle j14
    replace j15 := Pers.pers hle j15
    replace j16 := Pers.pers hle j16
    replace j19 := Pers.pers hle j19
    replace z10 := hz
    clear hns hle hch
    obtain ⟨q, hqq⟩ : ∃ q, q = q2 := ⟨q2, rfl⟩
    subst hqq
    obtain ⟨q2, hsh, jn⟩ := z10.give
    replace j5 := Pers.pers hsh.le j5
    replace j6 := Pers.pers hsh.le j6
    replace j7 := Pers.pers hsh.le j7
    replace j14 := Pers.pers hsh.le j14
    replace j15 := Pers.pers hsh.le j15
    replace j16 := Pers.pers hsh.le j16
    rw [← j10] at jn
    replace j10 := jn
    replace hgq := hgq.hand hsh y10.wr
    rw [← hsh.w]
    clear hsh
    obtain ⟨q, hqq⟩ : ∃ q, q = q2 := ⟨q2, rfl⟩
    subst hqq
    exact tail_done (k := q) (w2 _ _ ⟨⟨hgq, hsb, hdb⟩, j5, j6, j7, j10, j14, j15, j16, trivial⟩)
   rintro a k ⟨⟨hg, hs, hd⟩, i5, i6, i7, i10, i14, i15, i16, _⟩
   refine cutS (fun c l => Bs noF k0 59 c l ∧ IsRef p_ (c.get 5) l ∧ IsRef v_ (c.get 6) l ∧ IsRef t_ (c.get 7) l ∧ IsRef x2 (c.get 10) l ∧ IsV x1 (c.get 14) l ∧ IsL x1 (c.get 15) l ∧ IsV s1 (c.get 16) l ∧ (∃ b11, c.get 11 = .pointer (some ⟨b11, 0, none⟩) ∧ Lo k0 (Eq b11) ∧ Gb.Box b11 t_ l ∧ True)) ?_ ?_
   ·intro Q4 W4 w3
    refine gS 2 (_ :: ⟨some (IsBox k.w.heap.size (⟨(⟨0, 0, false⟩ : SightBound), (⟨0, 0, false⟩ : SightBound), false, false⟩ : SightInterval)), []⟩ :: []) hs (by kernel_rfl) ⟨o1 [(7, none)] rfl fun _ _ h n => ok_load rfl ty55 ((up i7 h n.1)).ptr, ob1 rfl fun _ _ h n => ok_alloc _ h.size rfl z55, trivial⟩ W4 fun b q p => ?_
    have hgq := hg.then p.grow
    have hsb := p.size.trans hs
    have hdb := p.defers.trans hd
    have j5 := p.ke 5 rfl i5
    have j6 := p.ke 6 rfl i6
    have j7 := p.ke 7 rfl i7
    have j10 := p.ke 10 rfl i10
    obtain ⟨b11, j11, x11, z11⟩ : (IsBox k.w.heap.size (⟨(⟨0, 0, false⟩ : SightBound), (⟨0, 0, false⟩ : SightBound), false, false⟩ : SightInterval)) (b.get 11) q := p.ou 1 11 rfl
    replace x11 : Lo k (Eq b11) := Lo.eq x11
    have y11 : Lo k0 (Eq b11) := x11.chg hg
    have j14 := p.ke 14 rfl i14
    have j15 := p.ke 15 rfl i15
    have j16 := p.ke 16 rfl i16
    have j20 : (IsV t_) (b.get 20) q := p.ou 0 20 rfl
    have hns := z11.nshF
    refine tail_storeB (i := 2) rfl rfl rfl rfl szf55 (Upd.self (α := SightInterval)) j11 z11 j20 fun q2 hch hz => ?_
    replace hgq := hgq.step hch y11.wr
    have hle := hch.le hns
    replace j5 := Pers.pers hle j5
    replace j6 := Pers.pers hle j6
    replace j7 := Pers.pers hle j7
    replace j10 := Pers.pers hle j10
    replace j14 := Pers.pers hle j14
    replace j15 := Pers.pers hle j15
    replace j16 := Pers.pers hle j16
    replace j20 := Pers.pers hle j20
    replace z11 := hz
    clear hns hle hch
    obtain ⟨q, hqq⟩ : ∃ q, q = q2 := ⟨q2, rfl⟩
    subst hqq
    exact tail_done (k := q) (w3 _ _ ⟨⟨hgq, hsb, hdb⟩, j5, j6, j7, j10, j14, j15, j16, b11, j11, y11, z11, trivial⟩)
   rintro a k ⟨⟨hg, hs, hd⟩, i5, i6, i7, i10, i14, i15, i16, b11, i11, n11, c11, _⟩
   refine cutS (fun c l => Bs noF k0 59 c l ∧ IsRef p_ (c.get 5) l ∧ IsRef v_ (c.get 6) l ∧ IsRef t_ (c.get 7) l ∧ IsRef x2 (c.get 10) l ∧ c.get 11 = .pointer (some ⟨b11, 0, none⟩) ∧ Lo k0 (Eq b11) ∧ Gb.Box b11 t_ l ∧ IsMV 47 b11 (c.get 12) l ∧ IsV x1 (c.get 14) l ∧ IsL x1 (c.get 15) l ∧ IsV s1 (c.get 16) l ∧ True) ?_ ?_
   ·intro Q5 W5 w4
    refine gS 2 (⟨some (IsMV 47 b11), [(11, none)]⟩ :: _ :: []) hs (by kernel_rfl) ⟨ob1 rfl fun _ _ h n => ok_makeMV rfl (upE i11 n.1), cp 0 rfl rfl, trivial⟩ W5 fun b q p => ?_
    exact tail_done (k := q) (w4 _ _ ⟨Bs.post ⟨hg, hs, hd⟩ p, p.ke 5 rfl i5, p.ke 6 rfl i6, p.ke 7 rfl i7, p.ke 10 rfl i10, upE i11 (p.old 11 rfl), n11, Gb.Box.grow c11 p.grow, p.ou 1 12 rfl, p.ke 14 rfl i14, p.ke 15 rfl i15, p.ke 16 rfl i16, trivial⟩)
   rintro a k ⟨⟨hg, hs, hd⟩, i5, i6, i7, i10, i11, n11, c11, i12, i14, i15, i16, _⟩
   refine wp_seq ?_
   obtain ⟨x3, hx3, hr⟩ := bind_some hr
   refine cut (fun a' k' => Bs noF k0 59 a' k' ∧ (IsRef p_) (a'.get 5) k' ∧ (IsRef v_) (a'.get 6) k' ∧ (IsRef t_) (a'.get 7) k' ∧ (IsRef x2) (a'.get 10) k' ∧ a'.get 11 = .pointer (some ⟨b11, 0, none⟩) ∧ Lo k0 (Eq b11) ∧ Gb.Box b11 x3 k' ∧ (IsMV 47 b11) (a'.get 12) k' ∧ (IsV x1) (a'.get 14) k' ∧ (IsL x1) (a'.get 15) k' ∧ (IsV s1) (a'.get 16) k' ∧ True) ?_ hQ ?_
   ·intro Q6 W6 w5
    refine gS 11 (_ :: _ :: _ :: _ :: _ :: _ :: _ :: _ :: _ :: _ :: _ :: []) hs (by kernel_rfl) ⟨mu rfl i12, o1 [(5, none)] rfl fun _ _ h n => ok_fieldAddr rfl fo24_0 (at_Point3_0 _) ((up i5 h n.1)).ptr, o1 [(23, some 1)] rfl fun _ _ h n => ok_load rfl ty3 n.1, o1 [(6, none)] rfl fun _ _ h n => ok_fieldAddr rfl fo24_0 (at_Point3_0 _) ((up i6 h n.1)).ptr, o1 [(25, some 3)] rfl fun _ _ h n => ok_load rfl ty3 n.1, o1 [(10, none)] rfl fun _ _ h n => ok_fieldAddr rfl fo37_0 (at_Box_0 _) ((up i10 h n.1)).ptr, o1 [(27, some 5)] rfl fun _ _ h n => ok_fieldAddr rfl fo35_0 (at_Rect_0 _) n.1, o1 [(28, some 6)] rfl fun _ _ h n => ok_load rfl ty3 n.1, o1 [(10, none)] rfl fun _ _ h n => ok_fieldAddr rfl fo37_0 (at_Box_0 _) ((up i10 h n.1)).ptr, o1 [(30, some 8)] rfl fun _ _ h n => ok_fieldAddr rfl fo35_2 (at_Rect_2 _) n.1, o1 [(31, some 9)] rfl fun _ _ h n => ok_load rfl ty3 n.1, trivial⟩ W6 fun b q p => ?_
    have hgq := hg.then p.grow
    have hsb := p.size.trans hs
    have hdb := p.defers.trans hd
    have j5 := p.ke 5 rfl i5
    have j6 := p.ke 6 rfl i6
    have j7 := p.ke 7 rfl i7
    have j10 := p.ke 10 rfl i10
    have j11 := upE i11 (p.old 11 rfl)
    have z11 := Gb.Box.grow c11 p.grow
    have y11 := n11
    have j12 := p.ke 12 rfl i12
    have j14 := p.ke 14 rfl i14
    have j15 := p.ke 15 rfl i15
    have j16 := p.ke 16 rfl i16
    have j22 : (IsMV 47 b11) (b.get 22) q := p.ou 0 22 rfl
    have j24 : (IsV p_.X) (b.get 24) q := p.ou 2 24 rfl
    have j26 : (IsV v_.X) (b.get 26) q := p.ou 4 26 rfl
    have j29 : (IsV x2.Base.X0) (b.get 29) q := p.ou 7 29 rfl
    have j32 : (IsV x2.Base.X1) (b.get 32) q := p.ou 10 32 rfl
    have hns := z11.nshF
    refine tail_callMV (F := Eq b11) (i := 11) (d := 33) rfl rfl rfl rfl (by rw [hsb]; decide) j22 Try.call47 W6 (sight_interval_narrow_ok rfl z11 j24 j26 j29 j32 hx3) fun b2 q2 hsz hdf hoth hch hres => ?_
    have hle := hch.le hns
    replace j5 := Pers.pers hle j5
    replace j6 := Pers.pers hle j6
    replace j7 := Pers.pers hle j7
    replace j10 := Pers.pers hle j10
    replace j12 := Pers.pers hle j12
    replace j14 := Pers.pers hle j14
    replace j15 := Pers.pers hle j15
    replace j16 := Pers.pers hle j16
    replace j22 := Pers.pers hle j22
    replace j24 := Pers.pers hle j24
    replace j26 := Pers.pers hle j26
    replace j29 := Pers.pers hle j29
    replace j32 := Pers.pers hle j32
    replace hgq := hgq.step hch y11.wr
    replace z11 := hres
    rw [← hoth 5 (by decide)] at j5
    rw [← hoth 6 (by decide)] at j6
    rw [← hoth 7 (by decide)] at j7
    rw [← hoth 10 (by decide)] at j10
    rw [← hoth 11 (by decide)] at j11
    rw [← hoth 12 (by decide)] at j12
    rw [← hoth 14 (by decide)] at j14
    rw [← hoth 15 (by decide)] at j15
    rw [← hoth 16 (by decide)] at j16
    rw [← hoth 22 (by decide)] at j22
    rw [← hoth 24 (by decide)] at j24
    rw [← hoth 26 (by decide)] at j26
    rw [← hoth 29 (by decide)] at j29
    rw [← hoth 32 (by decide)] at j32
    replace hsb := hsz.trans hsb
    replace hdb := hdf.trans hdb
    clear hle hch hns hsz hdf hoth hres
    obtain ⟨b, hbb⟩ : ∃ b, b = b2 := ⟨b2, rfl⟩
    subst hbb
    obtain ⟨q, hqq⟩ : ∃ q, q = q2 := ⟨q2, rfl⟩
    subst hqq
    exact tail_done (k := q) (w5 _ _ ⟨⟨hgq, hsb, hdb⟩, j5, j6, j7, j10, j11, y11, z11, j12, j14, j15, j16, trivial⟩)
   rintro a k ⟨⟨hg, hs, hd⟩, i5, i6, i7, i10, i11, n11, c11, i12, i14, i15, i16, _⟩
   refine wp_seq ?_
   obtain ⟨x4, hx4, hr⟩ := bind_some hr
   refine cut (fun a' k' => Bs noF k0 59 a' k' ∧ (IsRef p_) (a'.get 5) k' ∧ (IsRef v_) (a'.get 6) k' ∧ (IsRef t_) (a'.get 7) k' ∧ (IsRef x2) (a'.get 10) k' ∧ a'.get 11 = .pointer (some ⟨b11, 0, none⟩) ∧ Lo k0 (Eq b11) ∧ Gb.Box b11 x4 k' ∧ (IsMV 47 b11) (a'.get 12) k' ∧ (IsV x1) (a'.get 14) k' ∧ (IsL x1) (a'.get 15) k' ∧ (IsV s1) (a'.get 16) k' ∧ True) ?_ hQ ?_
   ·intro Q7 W7 w6
    refine gS 11 (_ :: _ :: _ :: _ :: _ :: _ :: _ :: _ :: _ :: _ :: _ :: []) hs (by kernel_rfl) ⟨mu rfl i12, o1 [(5, none)] rfl fun _ _ h n => ok_fieldAddr rfl fo24_1 (at_Point3_1 _) ((up i5 h n.1)).ptr, o1 [(35, some 1)] rfl fun _ _ h n => ok_load rfl ty3 n.1, o1 [(6, none)] rfl fun _ _ h n => ok_fieldAddr rfl fo24_1 (at_Point3_1 _) ((up i6 h n.1)).ptr, o1 [(37, some 3)] rfl fun _ _ h n => ok_load rfl ty3 n.1, o1 [(10, none)] rfl fun _ _ h n => ok_fieldAddr rfl fo37_0 (at_Box_0 _) ((up i10 h n.1)).ptr, o1 [(39, some 5)] rfl fun _ _ h n => ok_fieldAddr rfl fo35_1 (at_Rect_1 _) n.1, o1 [(40, some 6)] rfl fun _ _ h n => ok_load rfl ty3 n.1, o1 [(10, none)] rfl fun _ _ h n => ok_fieldAddr rfl fo37_0 (at_Box_0 _) ((up i10 h n.1)).ptr, o1 [(42, some 8)] rfl fun _ _ h n => ok_fieldAddr rfl fo35_3 (at_Rect_3 _) n.1, o1 [(43, some 9)] rfl fun _ _ h n => ok_load rfl ty3 n.1, trivial⟩ W7 fun b q p => ?_
    have hgq := hg.then p.grow
    have hsb := p.size.trans hs
    have hdb := p.defers.trans hd
    have j5 := p.ke 5 rfl i5
    have j6 := p.ke 6 rfl i6
    have j7 := p.ke 7 rfl i7
    have j10 := p.ke 10 rfl i10
    have j11 := upE i11 (p.old 11 rfl)
    have z11 := Gb.Box.grow c11 p.grow
    have y11 := n11
    have j12 := p.ke 12 rfl i12
    have j14 := p.ke 14 rfl i14
    have j15 := p.ke 15 rfl i15
    have j16 := p.ke 16 rfl i16
    have j34 : (IsMV 47 b11) (b.get 34) q := p.ou 0 34 rfl
    have j36 : (IsV p_.Y) (b.get 36) q := p.ou 2 36 rfl
    have j38 : (IsV v_.Y) (b.get 38) q := p.ou 4 38 rfl
    have j41 : (IsV x2.Base.Y0) (b.get 41) q := p.ou 7 41 rfl
    have j44 : (IsV x2.Base.Y1) (b.get 44) q := p.ou 10 44 rfl
    have hns := z11.nshF
    refine tail_callMV (F := Eq b11) (i := 11) (d := 45) rfl rfl rfl rfl (by rw [hsb]; decide) j34 Try.call47 W7 (sight_interval_narrow_ok rfl z11 j36 j38 j41 j44 hx4) fun b2 q2 hsz hdf hoth hch hres => ?_
    have hle := hch.le hns
    replace j5 := Pers.pers hle j5
    replace j6 := Pers.pers hle j6
    replace j7 := Pers.pers hle j7
    replace j10 := Pers.pers hle j10
    replace j12 := Pers.pers hle j12
    replace j14 := Pers.pers hle j14
    replace j15 := Pers.pers hle j15
    replace j16 := Pers.pers hle j16
    replace j34 := Pers.pers hle j34
    replace j36 := Pers.pers hle j36
    replace j38 := Pers.pers hle j38
    replace j41 := Pers.pers hle j41
    replace j44 := Pers.pers hle j44
    replace hgq := hgq.step hch y11.wr
    replace z11 := hres
    rw [← hoth 5 (by decide)] at j5
    rw [← hoth 6 (by decide)] at j6
    rw [← hoth 7 (by decide)] at j7
    rw [← hoth 10 (by decide)] at j10
    rw [← hoth 11 (by decide)] at j11
    rw [← hoth 12 (by decide)] at j12
    rw [← hoth 14 (by decide)] at j14
    rw [← hoth 15 (by decide)] at j15
    rw [← hoth 16 (by decide)] at j16
    rw [← hoth 34 (by decide)] at j34
    rw [← hoth 36 (by decide)] at j36
    rw [← hoth 38 (by decide)] at j38
    rw [← hoth 41 (by decide)] at j41
    rw [← hoth 44 (by decide)] at j44
    replace hsb := hsz.trans hsb
    replace hdb := hdf.trans hdb
    clear hle hch hns hsz hdf hoth hres
    obtain ⟨b, hbb⟩ : ∃ b, b = b2 := ⟨b2, rfl⟩
    subst hbb
    obtain ⟨q, hqq⟩ : ∃ q, q = q2 := ⟨q2, rfl⟩
    subst hqq
    exact tail_done (k := q) (w6 _ _ ⟨⟨hgq, hsb, hdb⟩, j5, j6, j7, j10, j11, y11, z11, j12, j14, j15, j16, trivial⟩)
   rintro a k ⟨⟨hg, hs, hd⟩, i5, i6, i7, i10, i11, n11, c11, i12, i14, i15, i16, _⟩
   refine wp_seq ?_
   obtain ⟨x5, hx5, hr⟩ := bind_some hr
   refine cut (fun a' k' => Bs noF k0 59 a' k' ∧ (IsRef p_) (a'.get 5) k' ∧ (IsRef v_) (a'.get 6) k' ∧ (IsRef t_) (a'.get 7) k' ∧ a'.get 11 = .pointer (some ⟨b11, 0, none⟩) ∧ Lo k0 (Eq b11) ∧ Gb.Box b11 x5 k' ∧ (IsV x1) (a'.get 14) k' ∧ (IsL x1) (a'.get 15) k' ∧ (IsV s1) (a'.get 16) k' ∧ True) ?_ hQ ?_
   ·intro Q8 W8 w7
    refine gS 9 (_ :: _ :: _ :: _ :: _ :: _ :: _ :: _ :: _ :: []) hs (by kernel_rfl) ⟨mu rfl i12, o1 [(5, none)] rfl fun _ _ h n => ok_fieldAddr rfl fo24_2 (at_Point3_2 _) ((up i5 h n.1)).ptr, o1 [(47, some 1)] rfl fun _ _ h n => ok_load rfl ty3 n.1, o1 [(6, none)] rfl fun _ _ h n => ok_fieldAddr rfl fo24_2 (at_Point3_2 _) ((up i6 h n.1)).ptr, o1 [(49, some 3)] rfl fun _ _ h n => ok_load rfl ty3 n.1, o1 [(10, none)] rfl fun _ _ h n => ok_fieldAddr rfl fo37_1 (at_Box_1 _) ((up i10 h n.1)).ptr, o1 [(51, some 5)] rfl fun _ _ h n => ok_load rfl ty3 n.1, o1 [(10, none)] rfl fun _ _ h n => ok_fieldAddr rfl fo37_2 (at_Box_2 _) ((up i10 h n.1)).ptr, o1 [(53, some 7)] rfl fun _ _ h n => ok_load rfl ty3 n.1, trivial⟩ W8 fun b q p => ?_
    have hgq := hg.then p.grow
    have hsb := p.size.trans hs
    have hdb := p.defers.trans hd
    have j5 := p.ke 5 rfl i5
    have j6 := p.ke 6 rfl i6
    have j7 := p.ke 7 rfl i7
    have j11 := upE i11 (p.old 11 rfl)
    have z11 := Gb.Box.grow c11 p.grow
    have y11 := n11
    have j14 := p.ke 14 rfl i14
    have j15 := p.ke 15 rfl i15
    have j16 := p.ke 16 rfl i16
    have j46 : (IsMV 47 b11) (b.get 46) q := p.ou 0 46 rfl
    have j48 : (IsV p_.Z) (b.get 48) q := p.ou 2 48 rfl
    have j50 : (IsV v_.Z) (b.get 50) q := p.ou 4 50 rfl
    have j52 : (IsV x2.Z0) (b.get 52) q := p.ou 6 52 rfl
    have j54 : (IsV x2.Z1) (b.get 54) q := p.ou 8 54 rfl
    have hns := z11.nshF
    refine tail_callMV (F := Eq b11) (i := 9) (d := 55) rfl rfl rfl rfl (by rw [hsb]; decide) j46 Try.call47 W8 (sight_interval_narrow_ok rfl z11 j48 j50 j52 j54 hx5) fun b2 q2 hsz hdf hoth hch hres => ?_
    have hle := hch.le hns
    replace j5 := Pers.pers hle j5
    replace j6 := Pers.pers hle j6
    replace j7 := Pers.pers hle j7
    replace j14 := Pers.pers hle j14
    replace j15 := Pers.pers hle j15
    replace j16 := Pers.pers hle j16
    replace j46 := Pers.pers hle j46
    replace j48 := Pers.pers hle j48
    replace j50 := Pers.pers hle j50
    replace j52 := Pers.pers hle j52
    replace j54 := Pers.pers hle j54
    replace hgq := hgq.step hch y11.wr
    replace z11 := hres
    rw [← hoth 5 (by decide)] at j5
    rw [← hoth 6 (by decide)] at j6
    rw [← hoth 7 (by decide)] at j7
    rw [← hoth 11 (by decide)] at j11
    rw [← hoth 14 (by decide)] at j14
    rw [← hoth 15 (by decide)] at j15
    rw [← hoth 16 (by decide)] at j16
    rw [← hoth 46 (by decide)] at j46
    rw [← hoth 48 (by decide)] at j48
    rw [← hoth 50 (by decide)] at j50
    rw [← hoth 52 (by decide)] at j52
    rw [← hoth 54 (by decide)] at j54
    replace hsb := hsz.trans hsb
    replace hdb := hdf.trans hdb
    clear hle hch hns hsz hdf hoth hres
    obtain ⟨b, hbb⟩ : ∃ b, b = b2 := ⟨b2, rfl⟩
    subst hbb
    obtain ⟨q, hqq⟩ : ∃ q, q = q2 := ⟨q2, rfl⟩
    subst hqq
    exact tail_done (k := q) (w7 _ _ ⟨⟨hgq, hsb, hdb⟩, j5, j6, j7, j11, y11, z11, j14, j15, j16, trivial⟩)
   rintro a k ⟨⟨hg, hs, hd⟩, i5, i6, i7, i11, n11, c11, i14, i15, i16, _⟩
   refine wp_seq ?_
   obtain ⟨x6, hx6, hr⟩ := bind_some hr
   refine cut (fun a' k' => Bs noF k0 59 a' k' ∧ (IsRef p_) (a'.get 5) k' ∧ (IsRef v_) (a'.get 6) k' ∧ (IsRef t_) (a'.get 7) k' ∧ (IsV x1) (a'.get 14) k' ∧ (IsL x1) (a'.get 15) k' ∧ (IsV s1) (a'.get 16) k' ∧ (IsV (!x6)) (a'.get 57) k' ∧ True) ?_ hQ ?_
   ·intro Q9 W9 w8
    refine regionS (a0 := a) (k0 := k) (n := 59) (m := 0) ([]) hs (by kernel_rfl) trivial W9 fun b q p => ?_
    have hgq := hg.then p.grow
    have hsb := p.size.trans hs
    have hdb := p.defers.trans hd
    have j5 := p.ke 5 rfl i5
    have j6 := p.ke 6 rfl i6
    have j7 := p.ke 7 rfl i7
    have j11 := upE i11 (p.old 11 rfl)
    have z11 := Gb.Box.grow c11 p.grow
    have y11 := n11
    have j14 := p.ke 14 rfl i14
    have j15 := p.ke 15 rfl i15
    have j16 := p.ke 16 rfl i16
    obtain ⟨q2, hsh, jn⟩ := z11.give
    replace j5 := Pers.pers hsh.le j5
    replace j6 := Pers.pers hsh.le j6
    replace j7 := Pers.pers hsh.le j7
    replace j14 := Pers.pers hsh.le j14
    replace j15 := Pers.pers hsh.le j15
    replace j16 := Pers.pers hsh.le j16
    rw [← j11] at jn
    replace j11 := jn
    replace hgq := hgq.hand hsh y11.wr
    rw [← hsh.w]
    clear hsh
    obtain ⟨q, hqq⟩ : ∃ q, q = q2 := ⟨q2, rfl⟩
    subst hqq
    refine tail_call (F := noF) (i := 0) (d := 56) rfl rfl rfl rfl (by rw [hsb]; decide) Try.call48 W9 (Ret.toC (sight_interval_empty_ok j11 hx6)) fun b2 q2 hsz hdf hoth hch hres => ?_
    have hgr := hch.grow
    replace j5 := Pers.pers hgr.le j5
    replace j6 := Pers.pers hgr.le j6
    replace j7 := Pers.pers hgr.le j7
    replace j11 := Pers.pers hgr.le j11
    replace j14 := Pers.pers hgr.le j14
    replace j15 := Pers.pers hgr.le j15
    replace j16 := Pers.pers hgr.le j16
    replace hgq := hgq.then hgr
    rw [← hoth 5 (by decide)] at j5
    rw [← hoth 6 (by decide)] at j6
    rw [← hoth 7 (by decide)] at j7
    rw [← hoth 11 (by decide)] at j11
    rw [← hoth 14 (by decide)] at j14
    rw [← hoth 15 (by decide)] at j15
    rw [← hoth 16 (by decide)] at j16
    have j56 : (IsV x6) (b2.get 56) q2 := hres
    replace hsb := hsz.trans hsb
    replace hdb := hdf.trans hdb
    clear hch hgr hres hsz hdf hoth
    obtain ⟨b, hbb⟩ : ∃ b, b = b2 := ⟨b2, rfl⟩
    subst hbb
    obtain ⟨q, hqq⟩ : ∃ q, q = q2 := ⟨q2, rfl⟩
    subst hqq
    refine tail_does (R := (IsV (!x6))) (i := 1) (d := 57) rfl rfl rfl (by rw [hsb]; decide) W9 (ok_not rfl j56) fun b2 q2 hsz hdf hoth hgr hnew => ?_
    replace j5 := Pers.pers hgr.le j5
    replace j6 := Pers.pers hgr.le j6
    replace j7 := Pers.pers hgr.le j7
    replace j11 := Pers.pers hgr.le j11
    replace j14 := Pers.pers hgr.le j14
    replace j15 := Pers.pers hgr.le j15
    replace j16 := Pers.pers hgr.le j16
    replace j56 := Pers.pers hgr.le j56
    replace hgq := hgq.then hgr
    rw [← hoth 5 (by decide)] at j5
    rw [← hoth 6 (by decide)] at j6
    rw [← hoth 7 (by decide)] at j7
    rw [← hoth 11 (by decide)] at j11
    rw [← hoth 14 (by decide)] at j14
    rw [← hoth 15 (by decide)] at j15
    rw [← hoth 16 (by decide)] at j16
    rw [← hoth 56 (by decide)] at j56
    have j57 := hnew
    replace hsb := hsz.trans hsb
    replace hdb := hdf.trans hdb
    clear hgr hsz hdf hoth hnew
    obtain ⟨b, hbb⟩ : ∃ b, b = b2 := ⟨b2, rfl⟩
    subst hbb
    obtain ⟨q, hqq⟩ : ∃ q, q = q2 := ⟨q2, rfl⟩
    subst hqq
    exact tail_done (k := q) (w8 _ _ ⟨⟨hgq, hsb, hdb⟩, j5, j6, j7, j14, j15, j16, j57, trivial⟩)
   rintro a k ⟨⟨hg, hs, hd⟩, i5, i6, i7, i14, i15, i16, i57, _⟩
   refine wp_cond_split (isBool i57) (fun hc1539 => ?_) (fun hc1539 => ?_)
   ·rw [if_pos hc1539] at hr
    refine stepL 1 (⟨some (IsV true), []⟩ :: []) rfl ⟨hg, hs, hd⟩ (by kernel_rfl) ⟨ob1 rfl fun _ _ h n => ok_assign rfl (isV_bool.2 rfl), trivial⟩ [⟨_, _⟩] (fun b q p => ⟨p.ou 0 8 rfl, trivial⟩) ?_
    rintro a k ⟨⟨hg, hs, hd⟩, i8, _⟩
    refine wp_ret ?_
    exact hret1524 _ _ _ (Option.some.inj hr).symm (retC1 rfl hd hg i8)
   rw [if_neg (by rw [hc1539]; decide)] at hr
   refine wp_skip ?_
   obtain ⟨x7, hx7, hr⟩ := bind_some hr
   refine cut (fun a' k' => Bs noF k0 59 a' k' ∧ (IsRef p_) (a'.get 5) k' ∧ (IsRef v_) (a'.get 6) k' ∧ (IsRef t_) (a'.get 7) k' ∧ (IsV x1) (a'.get 14) k' ∧ (IsL x1) (a'.get 15) k' ∧ (IsV x7) (a'.get 16) k' ∧ True) ?_ hQ ?_
   ·intro Q10 W10 w9
    refine gS 2 (_ :: _ :: []) hs (by kernel_rfl) ⟨o1 [(16, none)] rfl fun _ _ h n => ok_add rfl (up i16 h n.1) (cI rfl) hx7, cm 0 rfl rfl, trivial⟩ W10 fun b q p => ?_
    exact tail_done (k := q) (w9 _ _ ⟨Bs.post ⟨hg, hs, hd⟩ p, p.ke 5 rfl i5, p.ke 6 rfl i6, p.ke 7 rfl i7, p.ke 14 rfl i14, p.ke 15 rfl i15, p.ou 1 16 rfl, trivial⟩)
   rintro a k ⟨⟨hg, hs, hd⟩, i5, i6, i7, i14, i15, i16, _⟩
   exact hgo1522 _ _ _ (Option.some.inj hr).symm ⟨⟨hg, hs, hd⟩, i5, i6, i7, i14, i15, i16, trivial⟩
  rw [if_neg (by rw [hc1554]; decide)] at hr
  refine wp_exit ?_
  exact hex1523 _ _ _ _ (Option.some.inj hr).symm ⟨rfl, ⟨hg, hs, hd⟩, trivial⟩
 ·rintro r1 a k rfl hR
  dsimp only at hr
  obtain rfl := Option.some.inj hr
  exact hR
 ·rintro _ _ _ rfl _
  simp at hr
 clear hf1
 rintro _ s2 a k rfl ⟨rfl, ⟨hg, hs, hd⟩, _⟩
 dsimp only at hr
 refine stepL 1 (⟨some (IsV false), []⟩ :: []) rfl ⟨hg, hs, hd⟩ (by kernel_rfl) ⟨ob1 rfl fun _ _ h n => ok_assign rfl (isV_bool.2 rfl), trivial⟩ [⟨_, _⟩] (fun b q p => ⟨p.ou 0 8 rfl, trivial⟩) ?_
 rintro a k ⟨⟨hg, hs, hd⟩, i8, _⟩
 refine wp_ret ?_
 obtain rfl := Option.some.inj hr
 exact retC1 rfl hd hg i8
def sight_Blocked (s_ : (List Slab)) (p_ : Point3) (q_ : Point3) : Option (Bool) :=
 (sight_on p_).bind fun x1 =>
 (if (!x1) then
  some true
 else
  (sight_on q_).bind fun x2 =>
  some (!x2)).bind fun x3 =>
 if x3 then
  some false
 else
  (subI q_.X p_.X).bind fun x4 =>
  (subI q_.Y p_.Y).bind fun x5 =>
  (subI q_.Z p_.Z).bind fun x6 =>
  (sight_meets s_ p_ (⟨x4, x5, x6⟩ : Point3) (⟨(⟨0, 1, true⟩ : SightBound), (⟨1, 1, true⟩ : SightBound), true, false⟩ : SightInterval)).bind fun x7 =>
  some x7
theorem sight_Blocked_ok {k0 : K} {v0 v1 v2 : Value} {s_ : (List Slab)} {p_ : Point3} {q_ : Point3} {r : Bool} (i0 : (IsV s_) v0 k0) (i1 : (IsV p_) v1 k0) (i2 : (IsV q_) v2 k0) (hr : sight_Blocked s_ p_ q_ = some r) :
  Calls Try.prog 11 #[v0, v1, v2] k0.w (Ret k0 (IsV r)) := by
 unfold sight_Blocked at hr
 refine Ret.ofC ?_
 refine enterK Try.func11 rfl Try.ntmps11 (show 3 ≤ 39 by decide) fun a k hk0 hs hd ha => ?_
 obtain ⟨e0, e1, e2, _⟩ := ha
 replace i0 : (IsV s_) (a.get 0) k := by rw [e0, hk0]; exact i0
 replace i1 : (IsV p_) (a.get 1) k := by rw [e1, hk0]; exact i1
 replace i2 : (IsV q_) (a.get 2) k := by rw [e2, hk0]; exact i2
 have hQ : Gb.LetsOut (bodyPost Try.prog Try.f11 (RetC noF k0 (IsV r))) := letsOutC
 have hg : Chg noF k0 k := by rw [hk0]; exact Chg.refl _ k0
 refine stepL 3 (⟨some (IsRef p_), [(1, none)]⟩ :: ⟨some (IsRef q_), [(2, none)]⟩ :: ⟨some (IsV false), []⟩ :: []) rfl ⟨hg, hs, hd⟩ (by kernel_rfl) ⟨ob1 rfl fun _ _ h n => ok_boxR rfl (up i1 h n.1), ob1 rfl fun _ _ h n => ok_boxR rfl (up i2 h n.1), ob1 rfl fun _ _ h n => ok_assign rfl (isV_bool.2 rfl), trivial⟩ [⟨_, _⟩, ⟨_, _⟩, ⟨_, _⟩] (fun b q p => ⟨p.ke 0 rfl i0, p.ou 0 4 rfl, p.ou 1 5 rfl, trivial⟩) ?_
 rintro a k ⟨⟨hg, hs, hd⟩, i0, i4, i5, _⟩
 refine wp_seq ?_
 refine wp_seq ?_
 obtain ⟨x1, hx1, hr⟩ := bind_some hr
 obtain ⟨x2, hx2, hr⟩ := bind_some hr
 obtain ⟨x3, hx3, hx2⟩ := ite_bindF hx2
 refine cut (fun a' k' => Bs noF k0 39 a' k' ∧ (IsV s_) (a'.get 0) k' ∧ (IsRef p_) (a'.get 4) k' ∧ (IsRef q_) (a'.get 5) k' ∧ (IsV x2) (a'.get 15) k' ∧ True) ?_ hQ ?_
 ·intro Q1 W1 w1
  refine gS 8 (_ :: _ :: _ :: _ :: _ :: _ :: _ :: _ :: []) hs (by kernel_rfl) ⟨o1 [(4, none)] rfl fun _ _ h n => ok_load rfl ty24 ((up i4 h n.1)).ptr, o1 [(8, some 0)] rfl fun _ _ h n => ok_call rfl Try.call26 (sight_on_ok n.1 hx1), o1 [(9, some 1)] rfl fun _ _ h n => ok_not rfl n.1, cm 2 rfl rfl, gF [(5, none)] rfl rfl fun hp _ _ h n => ok_load rfl ty24 ((up i5 h n.1)).ptr, gF [(12, some 4)] rfl rfl fun hp _ _ h n => ok_call rfl Try.call26 (sight_on_ok (Gd.get n.1 hp) (hx3 hp)), gF [(13, some 5)] rfl rfl fun hp _ _ h n => ok_not rfl (Gd.get n.1 hp), o1 [(11, some 3), (14, some 6)] rfl fun _ _ h n => ok_pickM rfl n.1 hx2 (cB rfl) (Gd.get n.2.1), trivial⟩ W1 fun b q p => ?_
  exact tail_done (k := q) (w1 _ _ ⟨Bs.post ⟨hg, hs, hd⟩ p, p.ke 0 rfl i0, p.ke 4 rfl i4, p.ke 5 rfl i5, p.ou 7 15 rfl, trivial⟩)
 rintro a k ⟨⟨hg, hs, hd⟩, i0, i4, i5, i15, _⟩
 refine wp_cond_split (isBool i15) (fun hc1579 => ?_) (fun hc1579 => ?_)
 ·rw [if_pos hc1579] at hr
  refine stepL 1 (⟨some (IsV false), []⟩ :: []) rfl ⟨hg, hs, hd⟩ (by kernel_rfl) ⟨ob1 rfl fun _ _ h n => ok_assign rfl (isV_bool.2 rfl), trivial⟩ [⟨_, _⟩] (fun b q p => ⟨p.ou 0 6 rfl, trivial⟩) ?_
  rintro a k ⟨⟨hg, hs, hd⟩, i6, _⟩
  refine wp_ret ?_
  obtain rfl := Option.some.inj hr
  exact retC1 rfl hd hg i6
 rw [if_neg (by rw [hc1579]; decide)] at hr
 refine wp_skip ?_
 refine cutL noF k0 39 [⟨0, IsV s_⟩, ⟨4, IsRef p_⟩, ⟨5, IsRef q_⟩, ⟨7, IsRef (⟨(⟨0, 1, true⟩ : SightBound), (⟨1, 1, true⟩ : SightBound), true, false⟩ : SightInterval)⟩] ?_ ?_
 ·intro Q2 W2 w2
  refine gS 4 (⟨some (IsV (⟨0, 1, true⟩ : SightBound)), []⟩ :: ⟨some (IsV (⟨1, 1, true⟩ : SightBound)), []⟩ :: ⟨some (IsV (⟨(⟨0, 1, true⟩ : SightBound), (⟨1, 1, true⟩ : SightBound), true, false⟩ : SightInterval)), [(16, some 0), (17, some 1)]⟩ :: ⟨some (IsBox k.w.heap.size (⟨(⟨0, 0, false⟩ : SightBound), (⟨0, 0, false⟩ : SightBound), false, false⟩ : SightInterval)), []⟩ :: []) hs (by kernel_rfl) ⟨ob1 rfl fun _ _ h n => ok_build rfl (bld53_0_1_2 (cI rfl) (cI rfl) (isV_bool.2 rfl)), ob1 rfl fun _ _ h n => ok_build rfl (bld53_0_1_2 (cI rfl) (cI rfl) (isV_bool.2 rfl)), ob1 rfl fun _ _ h n => ok_build rfl (bld55_0_1_2 n.1 n.2.1 (isV_bool.2 rfl)), ob1 rfl fun _ _ h n => ok_alloc _ h.size rfl z55, trivial⟩ W2 fun b q p => ?_
  have hgq := hg.then p.grow
  have hsb := p.size.trans hs
  have hdb := p.defers.trans hd
  have j0 := p.ke 0 rfl i0
  have j4 := p.ke 4 rfl i4
  have j5 := p.ke 5 rfl i5
  obtain ⟨b7, j7, x7, z7⟩ : (IsBox k.w.heap.size (⟨(⟨0, 0, false⟩ : SightBound), (⟨0, 0, false⟩ : SightBound), false, false⟩ : SightInterval)) (b.get 7) q := p.ou 3 7 rfl
  replace x7 : Lo k (Eq b7) := Lo.eq x7
  have y7 : Lo k0 (Eq b7) := x7.chg hg
  have j18 : (IsV (⟨(⟨0, 1, true⟩ : SightBound), (⟨1, 1, true⟩ : SightBound), true, false⟩ : SightInterval)) (b.get 18) q := p.ou 2 18 rfl
  have hns := z7.nshF
  refine tail_storeB (i := 4) rfl rfl rfl rfl szf55 (Upd.self (α := SightInterval)) j7 z7 j18 fun q2 hch hz => ?_
  replace hgq := hgq.step hch y7.wr
  have hle := hch.le hns
  replace j0 := Pers.pers hle j0
  replace j4 := Pers.pers hle j4
  replace j5 := Pers.pers hle j5
  replace j18 := Pers.pers hle j18
  replace z7 := hz
  clear hns hle hch
  obtain ⟨q, hqq⟩ : ∃ q, q = q2 := ⟨q2, rfl⟩
  subst hqq
  obtain ⟨q2, hsh, jn⟩ := z7.give
  replace j0 := Pers.pers hsh.le j0
  replace j4 := Pers.pers hsh.le j4
  replace j5 := Pers.pers hsh.le j5
  rw [← j7] at jn
  replace j7 := jn
  replace hgq := hgq.hand hsh y7.wr
  rw [← hsh.w]
  clear hsh
  obtain ⟨q, hqq⟩ : ∃ q, q = q2 := ⟨q2, rfl⟩
  subst hqq
  exact tail_done (k := q) (w2 _ _ ⟨⟨hgq, hsb, hdb⟩, j0, j4, j5, j7, trivial⟩)
 rintro a k ⟨⟨hg, hs, hd⟩, i0, i4, i5, i7, _⟩
 refine wp_seq ?_
 obtain ⟨x4, hx4, hr⟩ := bind_some hr
 obtain ⟨x5, hx5, hr⟩ := bind_some hr
 obtain ⟨x6, hx6, hr⟩ := bind_some hr
 obtain ⟨x8, hx8, hr⟩ := bind_some hr
 refine cut (fun a' k' => Bs noF k0 39 a' k' ∧ (IsV x8) (a'.get 6) k' ∧ True) ?_ hQ ?_
 ·intro Q3 W3 w3
  refine gS 21 (_ :: _ :: _ :: _ :: _ :: _ :: _ :: _ :: _ :: _ :: _ :: _ :: _ :: _ :: _ :: _ :: _ :: ⟨some (IsV (⟨x4, x5, x6⟩ : Point3)), [(25, some 6), (30, some 11), (35, some 16)]⟩ :: _ :: _ :: _ :: []) hs (by kernel_rfl) ⟨mu rfl i0, o1 [(4, none)] rfl fun _ _ h n => ok_load rfl ty24 ((up i4 h n.1)).ptr, o1 [(5, none)] rfl fun _ _ h n => ok_fieldAddr rfl fo24_0 (at_Point3_0 _) ((up i5 h n.1)).ptr, o1 [(21, some 2)] rfl fun _ _ h n => ok_load rfl ty3 n.1, o1 [(4, none)] rfl fun _ _ h n => ok_fieldAddr rfl fo24_0 (at_Point3_0 _) ((up i4 h n.1)).ptr, o1 [(23, some 4)] rfl fun _ _ h n => ok_load rfl ty3 n.1, o1 [(22, some 3), (24, some 5)] rfl fun _ _ h n => ok_sub rfl n.1 n.2.1 hx4, o1 [(5, none)] rfl fun _ _ h n => ok_fieldAddr rfl fo24_1 (at_Point3_1 _) ((up i5 h n.1)).ptr, o1 [(26, some 7)] rfl fun _ _ h n => ok_load rfl ty3 n.1, o1 [(4, none)] rfl fun _ _ h n => ok_fieldAddr rfl fo24_1 (at_Point3_1 _) ((up i4 h n.1)).ptr, o1 [(28, some 9)] rfl fun _ _ h n => ok_load rfl ty3 n.1, o1 [(27, some 8), (29, some 10)] rfl fun _ _ h n => ok_sub rfl n.1 n.2.1 hx5, o1 [(5, none)] rfl fun _ _ h n => ok_fieldAddr rfl fo24_2 (at_Point3_2 _) ((up i5 h n.1)).ptr, o1 [(31, some 12)] rfl fun _ _ h n => ok_load rfl ty3 n.1, o1 [(4, none)] rfl fun _ _ h n => ok_fieldAddr rfl fo24_2 (at_Point3_2 _) ((up i4 h n.1)).ptr, o1 [(33, some 14)] rfl fun _ _ h n => ok_load rfl ty3 n.1, o1 [(32, some 13), (34, some 15)] rfl fun _ _ h n => ok_sub rfl n.1 n.2.1 hx6, ob1 rfl fun _ _ h n => ok_build rfl (bld24_0_1_2 n.1 n.2.1 n.2.2.1), o1 [(7, none)] rfl fun _ _ h n => ok_load rfl ty55 ((up i7 h n.1)).ptr, o1 [(19, some 0), (20, some 1), (36, some 17), (37, some 18)] rfl fun _ _ h n => ok_call rfl Try.call27 (sight_meets_ok n.1 n.2.1 n.2.2.1 n.2.2.2.1 hx8), cp 19 rfl rfl, trivial⟩ W3 fun b q p => ?_
  exact tail_done (k := q) (w3 _ _ ⟨Bs.post ⟨hg, hs, hd⟩ p, p.ou 20 6 rfl, trivial⟩)
 rintro a k ⟨⟨hg, hs, hd⟩, i6, _⟩
 refine wp_ret ?_
 obtain rfl := Option.some.inj hr
 exact retC1 rfl hd hg i6
def sight_Ray (s_ : (List Slab)) (p_ : Point3) (d_ : Point3) : Option (Bool) :=
 (sight_on p_).bind fun x1 =>
 if ((((!x1) || (decide (d_ = (⟨0, 0, 0⟩ : Point3)))) || (decide ((min (min d_.X d_.Y) d_.Z) < (-1048576)))) || (decide (1048576 < (max (max d_.X d_.Y) d_.Z)))) then
  some false
 else
  (sight_meets s_ p_ d_ (⟨(⟨0, 1, true⟩ : SightBound), (⟨0, 0, false⟩ : SightBound), false, false⟩ : SightInterval)).bind fun x2 =>
  some x2
theorem sight_Ray_ok {k0 : K} {v0 v1 v2 : Value} {s_ : (List Slab)} {p_ : Point3} {d_ : Point3} {r : Bool} (i0 : (IsV s_) v0 k0) (i1 : (IsV p_) v1 k0) (i2 : (IsV d_) v2 k0) (hr : sight_Ray s_ p_ d_ = some r) :
  Calls Try.prog 13 #[v0, v1, v2] k0.w (Ret k0 (IsV r)) := by
 unfold sight_Ray at hr
 refine Ret.ofC ?_
 refine enterK Try.func13 rfl Try.ntmps13 (show 3 ≤ 41 by decide) fun a k hk0 hs hd ha => ?_
 obtain ⟨e0, e1, e2, _⟩ := ha
 replace i0 : (IsV s_) (a.get 0) k := by rw [e0, hk0]; exact i0
 replace i1 : (IsV p_) (a.get 1) k := by rw [e1, hk0]; exact i1
 replace i2 : (IsV d_) (a.get 2) k := by rw [e2, hk0]; exact i2
 have hQ : Gb.LetsOut (bodyPost Try.prog Try.f13 (RetC noF k0 (IsV r))) := letsOutC
 have hg : Chg noF k0 k := by rw [hk0]; exact Chg.refl _ k0
 refine stepL 3 (⟨some (IsRef p_), [(1, none)]⟩ :: ⟨some (IsRef d_), [(2, none)]⟩ :: ⟨some (IsV false), []⟩ :: []) rfl ⟨hg, hs, hd⟩ (by kernel_rfl) ⟨ob1 rfl fun _ _ h n => ok_boxR rfl (up i1 h n.1), ob1 rfl fun _ _ h n => ok_boxR rfl (up i2 h n.1), ob1 rfl fun _ _ h n => ok_assign rfl (isV_bool.2 rfl), trivial⟩ [⟨_, _⟩, ⟨_, _⟩, ⟨_, _⟩] (fun b q p => ⟨p.ke 0 rfl i0, p.ou 0 4 rfl, p.ou 1 5 rfl, trivial⟩) ?_
 rintro a k ⟨⟨hg, hs, hd⟩, i0, i4, i5, _⟩
 refine wp_seq ?_
 refine wp_seq ?_
 obtain ⟨x1, hx1, hr⟩ := bind_some hr
 refine cut (fun a' k' => Bs noF k0 41 a' k' ∧ (IsV s_) (a'.get 0) k' ∧ (IsRef p_) (a'.get 4) k' ∧ (IsRef d_) (a'.get 5) k' ∧ (IsV ((((!x1) || (decide (d_ = (⟨0, 0, 0⟩ : Point3)))) || (decide ((min (min d_.X d_.Y) d_.Z) < (-1048576)))) || (decide (1048576 < (max (max d_.X d_.Y) d_.Z))))) (a'.get 34) k' ∧ True) ?_ hQ ?_
 ·intro Q1 W1 w1
  refine gS 28 (_ :: _ :: _ :: _ :: _ :: ⟨some (Gd ((!x1) = false) (IsV (⟨0, 0, 0⟩ : Point3))), []⟩ :: ⟨some (Gd ((!x1) = false) (IsV (decide (d_ = (⟨0, 0, 0⟩ : Point3))))), [(11, some 4), (12, some 5)]⟩ :: _ :: _ :: _ :: _ :: _ :: _ :: _ :: _ :: _ :: _ :: _ :: _ :: _ :: _ :: _ :: _ :: _ :: _ :: _ :: _ :: _ :: []) hs (by kernel_rfl) ⟨o1 [(4, none)] rfl fun _ _ h n => ok_load rfl ty24 ((up i4 h n.1)).ptr, o1 [(7, some 0)] rfl fun _ _ h n => ok_call rfl Try.call26 (sight_on_ok n.1 hx1), o1 [(8, some 1)] rfl fun _ _ h n => ok_not rfl n.1, cm 2 rfl rfl, gF [(5, none)] rfl rfl fun hp _ _ h n => ok_load rfl ty24 ((up i5 h n.1)).ptr, gdF rfl rfl fun hp _ _ h n => ok_build rfl (bld24_ ), gdF rfl rfl fun hp _ _ h n => ok_eqA rfl eq24 (Gd.get n.1 hp) (Gd.get n.2.1 hp), o1 [(10, some 3), (13, some 6)] rfl fun _ _ h n => ok_pickOr rfl n.1 (cB rfl) (Gd.get n.2.1), cm 7 rfl rfl, gF [(5, none)] rfl rfl fun hp _ _ h n => ok_fieldAddr rfl fo24_0 (at_Point3_0 _) ((up i5 h n.1)).ptr, gF [(16, some 9)] rfl rfl fun hp _ _ h n => ok_load rfl ty3 (Gd.get n.1 hp), gF [(5, none)] rfl rfl fun hp _ _ h n => ok_fieldAddr rfl fo24_1 (at_Point3_1 _) ((up i5 h n.1)).ptr, gF [(18, some 11)] rfl rfl fun hp _ _ h n => ok_load rfl ty3 (Gd.get n.1 hp), gF [(5, none)] rfl rfl fun hp _ _ h n => ok_fieldAddr rfl fo24_2 (at_Point3_2 _) ((up i5 h n.1)).ptr, gF [(20, some 13)] rfl rfl fun hp _ _ h n => ok_load rfl ty3 (Gd.get n.1 hp), gF [(17, some 10), (19, some 12), (21, some 14)] rfl rfl fun hp _ _ h n => ok_min3 rfl (Gd.get n.1 hp) (Gd.get n.2.1 hp) (Gd.get n.2.2.1 hp), gF [(22, some 15)] rfl rfl fun hp _ _ h n => ok_lss rfl (Gd.get n.1 hp) (cI rfl), o1 [(15, some 8), (23, some 16)] rfl fun _ _ h n => ok_pickOr rfl n.1 (cB rfl) (Gd.get n.2.1), cm 17 rfl rfl, gF [(5, none)] rfl rfl fun hp _ _ h n => ok_fieldAddr rfl fo24_0 (at_Point3_0 _) ((up i5 h n.1)).ptr, gF [(26, some 19)] rfl rfl fun hp _ _ h n => ok_load rfl ty3 (Gd.get n.1 hp), gF [(5, none)] rfl rfl fun hp _ _ h n => ok_fieldAddr rfl fo24_1 (at_Point3_1 _) ((up i5 h n.1)).ptr, gF [(28, some 21)] rfl rfl fun hp _ _ h n => ok_load rfl ty3 (Gd.get n.1 hp), gF [(5, none)] rfl rfl fun hp _ _ h n => ok_fieldAddr rfl fo24_2 (at_Point3_2 _) ((up i5 h n.1)).ptr, gF [(30, some 23)] rfl rfl fun hp _ _ h n => ok_load rfl ty3 (Gd.get n.1 hp), gF [(27, some 20), (29, some 22), (31, some 24)] rfl rfl fun hp _ _ h n => ok_max3 rfl (Gd.get n.1 hp) (Gd.get n.2.1 hp) (Gd.get n.2.2.1 hp), gF [(32, some 25)] rfl rfl fun hp _ _ h n => ok_gtr rfl (Gd.get n.1 hp) (cI rfl), o1 [(25, some 18), (33, some 26)] rfl fun _ _ h n => ok_pickOr rfl n.1 (cB rfl) (Gd.get n.2.1), trivial⟩ W1 fun b q p => ?_
  exact tail_done (k := q) (w1 _ _ ⟨Bs.post ⟨hg, hs, hd⟩ p, p.ke 0 rfl i0, p.ke 4 rfl i4, p.ke 5 rfl i5, p.ou 27 34 rfl, trivial⟩)
 rintro a k ⟨⟨hg, hs, hd⟩, i0, i4, i5, i34, _⟩
 refine wp_cond_split (isBool i34) (fun hc1592 => ?_) (fun hc1592 => ?_)
 ·rw [if_pos hc1592] at hr
  refine stepL 1 (⟨some (IsV false), []⟩ :: []) rfl ⟨hg, hs, hd⟩ (by kernel_rfl) ⟨ob1 rfl fun _ _ h n => ok_assign rfl (isV_bool.2 rfl), trivial⟩ [⟨_, _⟩] (fun b q p => ⟨p.ou 0 6 rfl, trivial⟩) ?_
  rintro a k ⟨⟨hg, hs, hd⟩, i6, _⟩
  refine wp_ret ?_
  obtain rfl := Option.some.inj hr
  exact retC1 rfl hd hg i6
 rw [if_neg (by rw [hc1592]; decide)] at hr
 refine wp_skip ?_
 refine wp_seq ?_
 obtain ⟨x2, hx2, hr⟩ := bind_some hr
 refine cut (fun a' k' => Bs noF k0 41 a' k' ∧ (IsV x2) (a'.get 6) k' ∧ True) ?_ hQ ?_
 ·intro Q2 W2 w2
  refine gS 7 (_ :: _ :: _ :: ⟨some (IsV (⟨0, 1, true⟩ : SightBound)), []⟩ :: ⟨some (IsV (⟨(⟨0, 1, true⟩ : SightBound), (⟨0, 0, false⟩ : SightBound), false, false⟩ : SightInterval)), [(38, some 3)]⟩ :: _ :: _ :: []) hs (by kernel_rfl) ⟨mu rfl i0, o1 [(4, none)] rfl fun _ _ h n => ok_load rfl ty24 ((up i4 h n.1)).ptr, o1 [(5, none)] rfl fun _ _ h n => ok_load rfl ty24 ((up i5 h n.1)).ptr, ob1 rfl fun _ _ h n => ok_build rfl (bld53_0_1_2 (cI rfl) (cI rfl) (isV_bool.2 rfl)), ob1 rfl fun _ _ h n => ok_build rfl (bld55_0 n.1), o1 [(35, some 0), (36, some 1), (37, some 2), (39, some 4)] rfl fun _ _ h n => ok_call rfl Try.call27 (sight_meets_ok n.1 n.2.1 n.2.2.1 n.2.2.2.1 hx2), cp 5 rfl rfl, trivial⟩ W2 fun b q p => ?_
  exact tail_done (k := q) (w2 _ _ ⟨Bs.post ⟨hg, hs, hd⟩ p, p.ou 6 6 rfl, trivial⟩)
 rintro a k ⟨⟨hg, hs, hd⟩, i6, _⟩
 refine wp_ret ?_
 obtain rfl := Option.some.inj hr
 exact retC1 rfl hd hg i6
def law11_small  : Option (Bool) :=
 (ref09_Of ([(⟨(⟨2, 0, 3, 1⟩ : Rect), 0, 1⟩ : Box)])).bind fun x1 =>
 (law11_at 0 0 0).bind fun x2 =>
 (law11_at 5 0 0).bind fun x3 =>
 (sight_Blocked x1.1 x2 x3).bind fun x4 =>
 (if x4 then
  (law11_at 0 0 0).bind fun x5 =>
  (law11_at 2 0 0).bind fun x6 =>
  (sight_Blocked x1.1 x5 x6).bind fun x7 =>
  some (!x7)
 else
  some false).bind fun x8 =>
 (if x8 then
  (law11_at 0 1 0).bind fun x9 =>
  (law11_at 5 1 0).bind fun x10 =>
  (sight_Blocked x1.1 x9 x10).bind fun x11 =>
  some (!x11)
 else
  some false).bind fun x12 =>
 (if x12 then
  (law11_at 0 0 1).bind fun x13 =>
  (law11_at 5 0 1).bind fun x14 =>
  (sight_Blocked x1.1 x13 x14).bind fun x15 =>
  some (!x15)
 else
  some false).bind fun x16 =>
 (law11_at 2 0 0).bind fun x17 =>
 (law11_at 2 0 0).bind fun x18 =>
 (sight_Blocked x1.1 x17 x18).bind fun x19 =>
 (if x19 then
  (law11_at 3 0 0).bind fun x20 =>
  (law11_at 3 5 0).bind fun x21 =>
  (sight_Blocked x1.1 x20 x21).bind fun x22 =>
  some (!x22)
 else
  some false).bind fun x23 =>
 (if (x16 && x23) then
  (law11_at 0 0 0).bind fun x24 =>
  (law11_at 1 0 0).bind fun x25 =>
  (sight_Ray x1.1 x24 x25).bind fun x26 =>
  some x26
 else
  some false).bind fun x27 =>
 (if x27 then
  (law11_at 0 0 0).bind fun x28 =>
  (law11_at (-1) 0 0).bind fun x29 =>
  (sight_Ray x1.1 x28 x29).bind fun x30 =>
  some (!x30)
 else
  some false).bind fun x31 =>
 (if x31 then
  (law11_at 0 0 0).bind fun x32 =>
  (law11_at 4 1 1).bind fun x33 =>
  (sight_Ray x1.1 x32 x33).bind fun x34 =>
  some x34
 else
  some false).bind fun x35 =>
 some x35
theorem law11_small_ok {k0 : K} {r : Bool} (hr : law11_small = some r) :
  Calls Try.prog 9 #[] k0.w (Ret k0 (IsV r)) := by
 unfold law11_small at hr
 refine Ret.ofC ?_
 refine enterK Try.func9 rfl Try.ntmps9 (show 0 ≤ 71 by decide) fun a k hk0 hs hd ha => ?_
 have hQ : Gb.LetsOut (bodyPost Try.prog Try.f9 (RetC noF k0 (IsV r))) := letsOutC
 have hg : Chg noF k0 k := by rw [hk0]; exact Chg.refl _ k0
 refine cutL noF k0 71 [] ?_ ?_
 ·intro Q1 W1 w1
  refine gS 1 (⟨some (IsV false), []⟩ :: []) hs (by kernel_rfl) ⟨ob1 rfl fun _ _ h n => ok_assign rfl (isV_bool.2 rfl), trivial⟩ W1 fun b q p => ?_
  exact tail_done (k := q) (w1 _ _ ⟨Bs.post ⟨hg, hs, hd⟩ p, trivial⟩)
 rintro a k ⟨⟨hg, hs, hd⟩, _⟩
 refine wp_seq ?_
 obtain ⟨x1, hx1, hr⟩ := bind_some hr
 refine cut (fun a' k' => Bs noF k0 71 a' k' ∧ (IsV x1.1) (a'.get 1) k' ∧ True) ?_ hQ ?_
 ·intro Q2 W2 w2
  refine gS 9 (⟨some (IsV (⟨2, 0, 3, 1⟩ : Rect)), []⟩ :: ⟨some (IsV (⟨(⟨2, 0, 3, 1⟩ : Rect), 0, 1⟩ : Box)), [(6, some 0)]⟩ :: ⟨some (IsV (α := (List Box)) ([(⟨(⟨2, 0, 3, 1⟩ : Rect), 0, 1⟩ : Box)])), [(7, some 1)]⟩ :: _ :: _ :: _ :: _ :: _ :: _ :: []) hs (by kernel_rfl) ⟨ob1 rfl fun _ _ h n => ok_build rfl (bld35_0_2_3 (cI rfl) (cI rfl) (cI rfl)), ob1 rfl fun _ _ h n => ok_build rfl (bld37_0_2 n.1 (cI rfl)), ob1 rfl fun _ _ h n => ok_buildSlice rfl Try.underlying31 eo37 rfl (by decide) (by decide) ⟨rfl, n.1, trivial⟩, o1 [(8, some 2)] rfl fun _ _ h n => ok_call rfl Try.call25 (ref09_Of_ok n.1 hx1), cm 3 rfl rfl, o1 [(5, some 4)] rfl fun _ _ h n => ok_ext2_0 rfl n.1, o1 [(5, some 4)] rfl fun _ _ h n => ok_ext2_1 rfl n.1, cp 5 rfl rfl, cp 6 rfl rfl, trivial⟩ W2 fun b q p => ?_
  exact tail_done (k := q) (w2 _ _ ⟨Bs.post ⟨hg, hs, hd⟩ p, p.ou 7 1 rfl, trivial⟩)
 rintro a k ⟨⟨hg, hs, hd⟩, i1, _⟩
 refine wp_seq ?_
 obtain ⟨x2, hx2, hr⟩ := bind_some hr
 obtain ⟨x3, hx3, hr⟩ := bind_some hr
 obtain ⟨x4, hx4, hr⟩ := bind_some hr
 obtain ⟨x5, hx5, hr⟩ := bind_some hr
 obtain ⟨x6, hx6, hx5⟩ := ite_bind hx5
 obtain ⟨x7, hx7, hx5⟩ := ite_bind hx5
 obtain ⟨x8, hx8, hx5⟩ := ite_bind hx5
 obtain ⟨x9, hx9, hr⟩ := bind_some hr
 obtain ⟨x10, hx10, hx9⟩ := ite_bind hx9
 obtain ⟨x11, hx11, hx9⟩ := ite_bind hx9
 obtain ⟨x12, hx12, hx9⟩ := ite_bind hx9
 obtain ⟨x13, hx13, hr⟩ := bind_some hr
 obtain ⟨x14, hx14, hx13⟩ := ite_bind hx13
 obtain ⟨x15, hx15, hx13⟩ := ite_bind hx13
 obtain ⟨x16, hx16, hx13⟩ := ite_bind hx13
 refine cut (fun a' k' => Bs noF k0 71 a' k' ∧ (IsV x1.1) (a'.get 1) k' ∧ (IsV x13) (a'.get 3) k' ∧ True) ?_ hQ ?_
 ·intro Q3 W3 w3
  refine gS 26 (_ :: _ :: _ :: _ :: _ :: _ :: _ :: _ :: _ :: _ :: _ :: _ :: _ :: _ :: _ :: _ :: _ :: _ :: _ :: _ :: _ :: _ :: _ :: _ :: _ :: _ :: []) hs (by kernel_rfl) ⟨mu rfl i1, o1 [] rfl fun _ _ h n => ok_call rfl Try.call16 (law11_at_ok (cI rfl) (cI rfl) (cI rfl) hx2), o1 [] rfl fun _ _ h n => ok_call rfl Try.call16 (law11_at_ok (cI rfl) (cI rfl) (cI rfl) hx3), o1 [(12, some 0), (13, some 1), (14, some 2)] rfl fun _ _ h n => ok_call rfl Try.call11 (sight_Blocked_ok n.1 n.2.1 n.2.2.1 hx4), cm 3 rfl rfl, mT rfl rfl i1, gT [] rfl rfl fun hp _ _ h n => ok_call rfl Try.call16 (law11_at_ok (cI rfl) (cI rfl) (cI rfl) (hx6 hp)), gT [] rfl rfl fun hp _ _ h n => ok_call rfl Try.call16 (law11_at_ok (cI rfl) (cI rfl) (cI rfl) (hx7 hp)), gT [(17, some 5), (18, some 6), (19, some 7)] rfl rfl fun hp _ _ h n => ok_call rfl Try.call11 (sight_Blocked_ok (Gd.get n.1 hp) (Gd.get n.2.1 hp) (Gd.get n.2.2.1 hp) (hx8 hp)), gT [(20, some 8)] rfl rfl fun hp _ _ h n => ok_not rfl (Gd.get n.1 hp), o1 [(16, some 4), (21, some 9)] rfl fun _ _ h n => ok_pickM rfl n.1 hx5 (Gd.get n.2.1) (cB rfl), cm 10 rfl rfl, mT rfl rfl i1, gT [] rfl rfl fun hp _ _ h n => ok_call rfl Try.call16 (law11_at_ok (cI rfl) (cI rfl) (cI rfl) (hx10 hp)), gT [] rfl rfl fun hp _ _ h n => ok_call rfl Try.call16 (law11_at_ok (cI rfl) (cI rfl) (cI rfl) (hx11 hp)), gT [(24, some 12), (25, some 13), (26, some 14)] rfl rfl fun hp _ _ h n => ok_call rfl Try.call11 (sight_Blocked_ok (Gd.get n.1 hp) (Gd.get n.2.1 hp) (Gd.get n.2.2.1 hp) (hx12 hp)), gT [(27, some 15)] rfl rfl fun hp _ _ h n => ok_not rfl (Gd.get n.1 hp), o1 [(23, some 11), (28, some 16)] rfl fun _ _ h n => ok_pickM rfl n.1 hx9 (Gd.get n.2.1) (cB rfl), cm 17 rfl rfl, mT rfl rfl i1, gT [] rfl rfl fun hp _ _ h n => ok_call rfl Try.call16 (law11_at_ok (cI rfl) (cI rfl) (cI rfl) (hx14 hp)), gT [] rfl rfl fun hp _ _ h n => ok_call rfl Try.call16 (law11_at_ok (cI rfl) (cI rfl) (cI rfl) (hx15 hp)), gT [(31, some 19), (32, some 20), (33, some 21)] rfl rfl fun hp _ _ h n => ok_call rfl Try.call11 (sight_Blocked_ok (Gd.get n.1 hp) (Gd.get n.2.1 hp) (Gd.get n.2.2.1 hp) (hx16 hp)), gT [(34, some 22)] rfl rfl fun hp _ _ h n => ok_not rfl (Gd.get n.1 hp), o1 [(30, some 18), (35, some 23)] rfl fun _ _ h n => ok_pickM rfl n.1 hx13 (Gd.get n.2.1) (cB rfl), cp 24 rfl rfl, trivial⟩ W3 fun b q p => ?_
  exact tail_done (k := q) (w3 _ _ ⟨Bs.post ⟨hg, hs, hd⟩ p, p.ke 1 rfl i1, p.ou 25 3 rfl, trivial⟩)
 rintro a k ⟨⟨hg, hs, hd⟩, i1, i3, _⟩
 refine wp_seq ?_
 obtain ⟨x17, hx17, hr⟩ := bind_some hr
 obtain ⟨x18, hx18, hr⟩ := bind_some hr
 obtain ⟨x19, hx19, hr⟩ := bind_some hr
 obtain ⟨x20, hx20, hr⟩ := bind_some hr
 obtain ⟨x21, hx21, hx20⟩ := ite_bind hx20
 obtain ⟨x22, hx22, hx20⟩ := ite_bind hx20
 obtain ⟨x23, hx23, hx20⟩ := ite_bind hx20
 refine cut (fun a' k' => Bs noF k0 71 a' k' ∧ (IsV x1.1) (a'.get 1) k' ∧ (IsV x13) (a'.get 3) k' ∧ (IsV x20) (a'.get 4) k' ∧ True) ?_ hQ ?_
 ·intro Q4 W4 w4
  refine gS 12 (_ :: _ :: _ :: _ :: _ :: _ :: _ :: _ :: _ :: _ :: _ :: _ :: []) hs (by kernel_rfl) ⟨mu rfl i1, o1 [] rfl fun _ _ h n => ok_call rfl Try.call16 (law11_at_ok (cI rfl) (cI rfl) (cI rfl) hx17), o1 [] rfl fun _ _ h n => ok_call rfl Try.call16 (law11_at_ok (cI rfl) (cI rfl) (cI rfl) hx18), o1 [(37, some 0), (38, some 1), (39, some 2)] rfl fun _ _ h n => ok_call rfl Try.call11 (sight_Blocked_ok n.1 n.2.1 n.2.2.1 hx19), cm 3 rfl rfl, mT rfl rfl i1, gT [] rfl rfl fun hp _ _ h n => ok_call rfl Try.call16 (law11_at_ok (cI rfl) (cI rfl) (cI rfl) (hx21 hp)), gT [] rfl rfl fun hp _ _ h n => ok_call rfl Try.call16 (law11_at_ok (cI rfl) (cI rfl) (cI rfl) (hx22 hp)), gT [(42, some 5), (43, some 6), (44, some 7)] rfl rfl fun hp _ _ h n => ok_call rfl Try.call11 (sight_Blocked_ok (Gd.get n.1 hp) (Gd.get n.2.1 hp) (Gd.get n.2.2.1 hp) (hx23 hp)), gT [(45, some 8)] rfl rfl fun hp _ _ h n => ok_not rfl (Gd.get n.1 hp), o1 [(41, some 4), (46, some 9)] rfl fun _ _ h n => ok_pickM rfl n.1 hx20 (Gd.get n.2.1) (cB rfl), cp 10 rfl rfl, trivial⟩ W4 fun b q p => ?_
  exact tail_done (k := q) (w4 _ _ ⟨Bs.post ⟨hg, hs, hd⟩ p, p.ke 1 rfl i1, p.ke 3 rfl i3, p.ou 11 4 rfl, trivial⟩)
 rintro a k ⟨⟨hg, hs, hd⟩, i1, i3, i4, _⟩
 refine wp_seq ?_
 obtain ⟨x24, hx24, hr⟩ := bind_some hr
 obtain ⟨x25, hx25, hx24⟩ := ite_bind hx24
 obtain ⟨x26, hx26, hx24⟩ := ite_bind hx24
 obtain ⟨x27, hx27, hx24⟩ := ite_bind hx24
 obtain ⟨x28, hx28, hr⟩ := bind_some hr
 obtain ⟨x29, hx29, hx28⟩ := ite_bind hx28
 obtain ⟨x30, hx30, hx28⟩ := ite_bind hx28
 obtain ⟨x31, hx31, hx28⟩ := ite_bind hx28
 obtain ⟨x32, hx32, hr⟩ := bind_some hr
 obtain ⟨x33, hx33, hx32⟩ := ite_bind hx32
 obtain ⟨x34, hx34, hx32⟩ := ite_bind hx32
 obtain ⟨x35, hx35, hx32⟩ := ite_bind hx32
 refine cut (fun a' k' => Bs noF k0 71 a' k' ∧ (IsV x32) (a'.get 0) k' ∧ True) ?_ hQ ?_
 ·intro Q5 W5 w5
  refine gS 24 (_ :: _ :: _ :: _ :: _ :: _ :: _ :: _ :: _ :: _ :: _ :: _ :: _ :: _ :: _ :: _ :: _ :: _ :: _ :: _ :: _ :: _ :: _ :: _ :: []) hs (by kernel_rfl) ⟨mu rfl i3, cm 0 rfl rfl, mT rfl rfl i4, o1 [(49, some 1), (50, some 2)] rfl fun _ _ h n => ok_pickAnd rfl n.1 (Gd.get n.2.1) (cB rfl), cm 3 rfl rfl, mT rfl rfl i1, gT [] rfl rfl fun hp _ _ h n => ok_call rfl Try.call16 (law11_at_ok (cI rfl) (cI rfl) (cI rfl) (hx25 hp)), gT [] rfl rfl fun hp _ _ h n => ok_call rfl Try.call16 (law11_at_ok (cI rfl) (cI rfl) (cI rfl) (hx26 hp)), gT [(53, some 5), (54, some 6), (55, some 7)] rfl rfl fun hp _ _ h n => ok_call rfl Try.call13 (sight_Ray_ok (Gd.get n.1 hp) (Gd.get n.2.1 hp) (Gd.get n.2.2.1 hp) (hx27 hp)), o1 [(52, some 4), (56, some 8)] rfl fun _ _ h n => ok_pickM rfl n.1 hx24 (Gd.get n.2.1) (cB rfl), cm 9 rfl rfl, mT rfl rfl i1, gT [] rfl rfl fun hp _ _ h n => ok_call rfl Try.call16 (law11_at_ok (cI rfl) (cI rfl) (cI rfl) (hx29 hp)), gT [] rfl rfl fun hp _ _ h n => ok_call rfl Try.call16 (law11_at_ok (cI rfl) (cI rfl) (cI rfl) (hx30 hp)), gT [(59, some 11), (60, some 12), (61, some 13)] rfl rfl fun hp _ _ h n => ok_call rfl Try.call13 (sight_Ray_ok (Gd.get n.1 hp) (Gd.get n.2.1 hp) (Gd.get n.2.2.1 hp) (hx31 hp)), gT [(62, some 14)] rfl rfl fun hp _ _ h n => ok_not rfl (Gd.get n.1 hp), o1 [(58, some 10), (63, some 15)] rfl fun _ _ h n => ok_pickM rfl n.1 hx28 (Gd.get n.2.1) (cB rfl), cm 16 rfl rfl, mT rfl rfl i1, gT [] rfl rfl fun hp _ _ h n => ok_call rfl Try.call16 (law11_at_ok (cI rfl) (cI rfl) (cI rfl) (hx33 hp)), gT [] rfl rfl fun hp _ _ h n => ok_call rfl Try.call16 (law11_at_ok (cI rfl) (cI rfl) (cI rfl) (hx34 hp)), gT [(66, some 18), (67, some 19), (68, some 20)] rfl rfl fun hp _ _ h n => ok_call rfl Try.call13 (sight_Ray_ok (Gd.get n.1 hp) (Gd.get n.2.1 hp) (Gd.get n.2.2.1 hp) (hx35 hp)), o1 [(65, some 17), (69, some 21)] rfl fun _ _ h n => ok_pickM rfl n.1 hx32 (Gd.get n.2.1) (cB rfl), cp 22 rfl rfl, trivial⟩ W5 fun b q p => ?_
  exact tail_done (k := q) (w5 _ _ ⟨Bs.post ⟨hg, hs, hd⟩ p, p.ou 23 0 rfl, trivial⟩)
 rintro a k ⟨⟨hg, hs, hd⟩, i0, _⟩
 refine wp_ret ?_
 obtain rfl := Option.some.inj hr
 exact retC1 rfl hd hg i0
def ref11_Valid (p_ : Point3) : Option (Bool) :=
 some ((((((decide (0 ≤ p_.X)) && (decide (p_.X ≤ 1048576))) && (decide (0 ≤ p_.Y))) && (decide (p_.Y ≤ 1048576))) && (decide (0 ≤ p_.Z))) && (decide (p_.Z ≤ 4096)))
theorem ref11_Valid_ok {k0 : K} {v0 : Value} {p_ : Point3} {r : Bool} (i0 : (IsV p_) v0 k0) (hr : ref11_Valid p_ = some r) :
  Calls Try.prog 20 #[v0] k0.w (Ret k0 (IsV r)) := by
 unfold ref11_Valid at hr
 refine Ret.ofC ?_
 refine enterK Try.func20 rfl Try.ntmps20 (show 1 ≤ 31 by decide) fun a k hk0 hs hd ha => ?_
 obtain ⟨e0, _⟩ := ha
 replace i0 : (IsV p_) (a.get 0) k := by rw [e0, hk0]; exact i0
 have hQ : Gb.LetsOut (bodyPost Try.prog Try.f20 (RetC noF k0 (IsV r))) := letsOutC
 have hg : Chg noF k0 k := by rw [hk0]; exact Chg.refl _ k0
 refine stepL 2 (⟨some (IsRef p_), [(0, none)]⟩ :: ⟨some (IsV false), []⟩ :: []) rfl ⟨hg, hs, hd⟩ (by kernel_rfl) ⟨ob1 rfl fun _ _ h n => ok_boxR rfl (up i0 h n.1), ob1 rfl fun _ _ h n => ok_assign rfl (isV_bool.2 rfl), trivial⟩ [⟨_, _⟩] (fun b q p => ⟨p.ou 0 1 rfl, trivial⟩) ?_
 rintro a k ⟨⟨hg, hs, hd⟩, i1, _⟩
 refine stepL 29 (_ :: _ :: _ :: _ :: _ :: _ :: _ :: _ :: _ :: _ :: _ :: _ :: _ :: _ :: _ :: _ :: _ :: _ :: _ :: _ :: _ :: _ :: _ :: _ :: _ :: _ :: _ :: _ :: _ :: []) rfl ⟨hg, hs, hd⟩ (by kernel_rfl) ⟨o1 [(1, none)] rfl fun _ _ h n => ok_fieldAddr rfl fo24_0 (at_Point3_0 _) ((up i1 h n.1)).ptr, o1 [(3, some 0)] rfl fun _ _ h n => ok_load rfl ty3 n.1, o1 [(4, some 1)] rfl fun _ _ h n => ok_geq rfl n.1 (cI rfl), cm 2 rfl rfl, gT [(1, none)] rfl rfl fun hp _ _ h n => ok_fieldAddr rfl fo24_0 (at_Point3_0 _) ((up i1 h n.1)).ptr, gT [(7, some 4)] rfl rfl fun hp _ _ h n => ok_load rfl ty3 (Gd.get n.1 hp), gT [(8, some 5)] rfl rfl fun hp _ _ h n => ok_leq rfl (Gd.get n.1 hp) (cI rfl), o1 [(6, some 3), (9, some 6)] rfl fun _ _ h n => ok_pickAnd rfl n.1 (Gd.get n.2.1) (cB rfl), cm 7 rfl rfl, gT [(1, none)] rfl rfl fun hp _ _ h n => ok_fieldAddr rfl fo24_1 (at_Point3_1 _) ((up i1 h n.1)).ptr, gT [(12, some 9)] rfl rfl fun hp _ _ h n => ok_load rfl ty3 (Gd.get n.1 hp), gT [(13, some 10)] rfl rfl fun hp _ _ h n => ok_geq rfl (Gd.get n.1 hp) (cI rfl), o1 [(11, some 8), (14, some 11)] rfl fun _ _ h n => ok_pickAnd rfl n.1 (Gd.get n.2.1) (cB rfl), cm 12 rfl rfl, gT [(1, none)] rfl rfl fun hp _ _ h n => ok_fieldAddr rfl fo24_1 (at_Point3_1 _) ((up i1 h n.1)).ptr, gT [(17, some 14)] rfl rfl fun hp _ _ h n => ok_load rfl ty3 (Gd.get n.1 hp), gT [(18, some 15)] rfl rfl fun hp _ _ h n => ok_leq rfl (Gd.get n.1 hp) (cI rfl), o1 [(16, some 13), (19, some 16)] rfl fun _ _ h n => ok_pickAnd rfl n.1 (Gd.get n.2.1) (cB rfl), cm 17 rfl rfl, gT [(1, none)] rfl rfl fun hp _ _ h n => ok_fieldAddr rfl fo24_2 (at_Point3_2 _) ((up i1 h n.1)).ptr, gT [(22, some 19)] rfl rfl fun hp _ _ h n => ok_load rfl ty3 (Gd.get n.1 hp), gT [(23, some 20)] rfl rfl fun hp _ _ h n => ok_geq rfl (Gd.get n.1 hp) (cI rfl), o1 [(21, some 18), (24, some 21)] rfl fun _ _ h n => ok_pickAnd rfl n.1 (Gd.get n.2.1) (cB rfl), cm 22 rfl rfl, gT [(1, none)] rfl rfl fun hp _ _ h n => ok_fieldAddr rfl fo24_2 (at_Point3_2 _) ((up i1 h n.1)).ptr, gT [(27, some 24)] rfl rfl fun hp _ _ h n => ok_load rfl ty3 (Gd.get n.1 hp), gT [(28, some 25)] rfl rfl fun hp _ _ h n => ok_leq rfl (Gd.get n.1 hp) (cI rfl), o1 [(26, some 23), (29, some 26)] rfl fun _ _ h n => ok_pickAnd rfl n.1 (Gd.get n.2.1) (cB rfl), cp 27 rfl rfl, trivial⟩ [⟨_, _⟩] (fun b q p => ⟨p.ou 28 2 rfl, trivial⟩) ?_
 rintro a k ⟨⟨hg, hs, hd⟩, i2, _⟩
 refine wp_ret ?_
 obtain rfl := Option.some.inj hr
 exact retC1 rfl hd hg i2
def solid_heights_L1 (x1 : (List Slab)) (s1 : (List Int) × Int) : Option (Flow ((List Int) × Int) ((List Int))) :=
 if (decide (s1.2 < (x1.length : Int))) then
  (getI x1 s1.2).bind fun x2 =>
  (appI s1.1 ([x2.Z0, x2.Z1])).bind fun x3 =>
  (addI s1.2 1).bind fun x4 =>
  some (.go (x3, x4))
 else
  some (.ex 2 (s1.1, s1.2))
def solid_heights_L0 (lists_ : (List (List Slab))) (s1 : (List Int) × Int) : Option (Flow ((List Int) × Int) ((List Int))) :=
 if (decide (s1.2 < (lists_.length : Int))) then
  (getI lists_ s1.2).bind fun x1 =>
  (iterL (solid_heights_L1 x1) (x1.length + 1) (s1.1, 0)).bind fun f1 => match f1 with
   | .go _ => none
   | .ex _ s2 =>
    (addI s1.2 1).bind fun x2 =>
    some (.go (s2.1, x2))
   | .ret r1 => some (.ret r1)
 else
  some (.ex 0 (s1.1, s1.2))
def solid_heights (lists_ : (List (List Slab))) : Option ((List Int)) :=
 (iterL (solid_heights_L0 lists_) (lists_.length + 1) (([] : List Int), 0)).bind fun f1 => match f1 with
  | .go _ => none
  | .ex _ s1 =>
   (sortInts s1.1).bind fun x1 =>
   (compactInts x1).bind fun x2 =>
   some x2
  | .ret r1 => some r1
theorem solid_heights_ok {k0 : K} {v0 : Value} {lists_ : (List (List Slab))} {r : (List Int)} (i0 : (IsV lists_) v0 k0) (hr : solid_heights lists_ = some r) :
  Calls Try.prog 36 #[v0] k0.w (Ret k0 (IsV r)) := by
 unfold solid_heights at hr
 refine Ret.ofC ?_
 refine enterK Try.func36 rfl Try.ntmps36 (show 1 ≤ 33 by decide) fun a k hk0 hs hd ha => ?_
 obtain ⟨e0, _⟩ := ha
 replace i0 : (IsV lists_) (a.get 0) k := by rw [e0, hk0]; exact i0
 have hQ : Gb.LetsOut (bodyPost Try.prog Try.f36 (RetC noF k0 (IsV r))) := letsOutC
 have hg : Chg noF k0 k := by rw [hk0]; exact Chg.refl _ k0
 refine stepL 1 (⟨some IsE0, []⟩ :: []) rfl ⟨hg, hs, hd⟩ (by kernel_rfl) ⟨ob1 rfl fun b q h n => ok_assign rfl isE0_nil, trivial⟩ [⟨_, _⟩] (fun b q p => ⟨p.ke 0 rfl i0, trivial⟩) ?_
 rintro a k ⟨⟨hg, hs, hd⟩, i0, _⟩
 refine cutS (fun c l => Bs noF k0 33 c l ∧ IsV lists_ (c.get 0) l ∧ IsOwn 0 3 ([] : List Int) (c.get 3) l ∧ Lo k0 (obF (c.get 3)) ∧ True) ?_ ?_
 ·intro Q1 W1 w1
  refine gS 1 (⟨some IsE0, []⟩ :: []) hs (by kernel_rfl) ⟨ob1 rfl fun b q h n => ok_assign rfl isE0_nil, trivial⟩ W1 fun b q p => ?_
  have hgq := hg.then p.grow
  have hsb := p.size.trans hs
  have hdb := p.defers.trans hd
  have j0 := p.ke 0 rfl i0
  have j3 : IsE0 (b.get 3) q := p.ou 0 3 rfl
  have y3 : Lo k0 (obF (b.get 3)) := j3.lo
  replace j3 : IsOwn 0 3 ([] : List Int) (b.get 3) q := j3.own0
  exact tail_done (k := q) (w1 _ _ ⟨⟨hgq, hsb, hdb⟩, j0, j3, y3, trivial⟩)
 rintro a k ⟨⟨hg, hs, hd⟩, i0, i3, n3, _⟩
 refine wp_seq ?_
 refine cutS (fun c l => Bs noF k0 33 c l ∧ IsOwn 0 3 ([] : List Int) (c.get 3) l ∧ Lo k0 (obF (c.get 3)) ∧ IsV lists_ (c.get 8) l ∧ IsL lists_ (c.get 9) l ∧ IsI 0 (c.get 10) l ∧ True) ?_ ?_
 ·intro Q2 W2 w2
  refine gS 3 (_ :: _ :: ⟨some (IsI 0), []⟩ :: []) hs (by kernel_rfl) ⟨mu rfl i0, o1 [(8, some 0)] rfl fun _ _ h n => ok_len rfl rfl Try.underlying84 (IsV.rd n.1), ob1 rfl fun _ _ h n => ok_move rfl (cI rfl), trivial⟩ W2 fun b q p => ?_
  exact tail_done (k := q) (w2 _ _ ⟨Bs.post ⟨hg, hs, hd⟩ p, p.ke 3 rfl i3, (by rw [p.old 3 rfl]; exact n3), p.ou 0 8 rfl, p.ou 1 9 rfl, p.ou 2 10 rfl, trivial⟩)
 rintro a k ⟨⟨hg, hs, hd⟩, i3, n3, i8, i9, i10, _⟩
 refine wp_block ?_
 obtain ⟨f1, hf1, hr⟩ := bind_some hr
 refine cutFe f1 (fun s' c l => Bs noF k0 33 c l ∧ IsOwn 0 3 s'.1 (c.get 3) l ∧ Lo k0 (obF (c.get 3)) ∧ IsV lists_ (c.get 8) l ∧ IsL lists_ (c.get 9) l ∧ IsV s'.2 (c.get 10) l ∧ True) (fun i' s' c l => (i' = 0 ∧ Bs noF k0 33 c l ∧ IsOwn 0 3 s'.1 (c.get 3) l ∧ Lo k0 (obF (c.get 3)) ∧ True)) (fun r' c l => bodyPost Try.prog Try.f36 (RetC noF k0 (IsV r')) .ret c l.w) ?_ hQ ?_ ?_ ?_
 ·intro Q3 W3 hgo hex hret
  refine sim_loop ?_ _ _ _ _ _ hf1 ⟨⟨hg, hs, hd⟩, i3, n3, i8, i9, i10, trivial⟩ Q3 W3 hgo hex hret
  clear hr hf1 hgo hex hret W3 hQ hg hs hd i10 i3 i8 i9 n3
  intro s1 fl_ a k hr hS Q hQ hgo1622 hex1623 hret1624
  obtain ⟨⟨hg, hs, hd⟩, i3, n3, i8, i9, i10, _⟩ := hS
  unfold solid_heights_L0 at hr
  refine cutS (fun c l => Bs noF k0 33 c l ∧ IsOwn 0 3 s1.1 (c.get 3) l ∧ Lo k0 (obF (c.get 3)) ∧ IsV lists_ (c.get 8) l ∧ IsL lists_ (c.get 9) l ∧ IsV s1.2 (c.get 10) l ∧ (IsV (decide (s1.2 < (lists_.length : Int)))) (c.get 11) l ∧ True) ?_ ?_
  ·intro Q4 W4 w3
   refine gS 1 (_ :: []) hs (by kernel_rfl) ⟨o1 [(10, none), (9, none)] rfl fun _ _ h n => ok_lss rfl (up i10 h n.1) (up i9 h n.2.1), trivial⟩ W4 fun b q p => ?_
   exact tail_done (k := q) (w3 _ _ ⟨Bs.post ⟨hg, hs, hd⟩ p, p.ke 3 rfl i3, (by rw [p.old 3 rfl]; exact n3), p.ke 8 rfl i8, p.ke 9 rfl i9, p.ke 10 rfl i10, p.ou 0 11 rfl, trivial⟩)
  rintro a k ⟨⟨hg, hs, hd⟩, i3, n3, i8, i9, i10, i11, _⟩
  refine wp_seq ?_
  refine wp_cond_split (isBool i11) (fun hc1656 => ?_) (fun hc1656 => ?_)
  ·rw [if_pos hc1656] at hr
   refine wp_skip ?_
   refine wp_seq ?_
   refine wp_block ?_
   refine wp_seq ?_
   obtain ⟨x1, hx1, hr⟩ := bind_some hr
   refine cut (fun a' k' => Bs noF k0 33 a' k' ∧ IsOwn 0 3 s1.1 (a'.get 3) k' ∧ Lo k0 (obF (a'.get 3)) ∧ (IsV x1) (a'.get 5) k' ∧ (IsV lists_) (a'.get 8) k' ∧ (IsL lists_) (a'.get 9) k' ∧ (IsV s1.2) (a'.get 10) k' ∧ True) ?_ hQ ?_
   ·intro Q5 W5 w4
    refine gS 3 (_ :: _ :: _ :: []) hs (by kernel_rfl) ⟨o1 [(8, none), (10, none)] rfl fun _ _ h n => ok_indexAddr rfl Try.underlying84 ty22 (IsV.rd (up i8 h n.1)) (up i10 h n.2.1) hx1, o1 [(12, some 0)] rfl fun _ _ h n => ok_load rfl ty22 n.1, cp 1 rfl rfl, trivial⟩ W5 fun b q p => ?_
    exact tail_done (k := q) (w4 _ _ ⟨Bs.post ⟨hg, hs, hd⟩ p, p.ke 3 rfl i3, (by rw [p.old 3 rfl]; exact n3), p.ou 2 5 rfl, p.ke 8 rfl i8, p.ke 9 rfl i9, p.ke 10 rfl i10, trivial⟩)
   rintro a k ⟨⟨hg, hs, hd⟩, i3, n3, i5, i8, i9, i10, _⟩
   refine cutS (fun c l => Bs noF k0 33 c l ∧ IsOwn 0 3 s1.1 (c.get 3) l ∧ Lo k0 (obF (c.get 3)) ∧ IsV lists_ (c.get 8) l ∧ IsL lists_ (c.get 9) l ∧ IsV s1.2 (c.get 10) l ∧ IsV x1 (c.get 14) l ∧ IsL x1 (c.get 15) l ∧ IsI 0 (c.get 16) l ∧ True) ?_ ?_
   ·intro Q6 W6 w5
    refine gS 3 (_ :: _ :: ⟨some (IsI 0), []⟩ :: []) hs (by kernel_rfl) ⟨mu rfl i5, o1 [(14, some 0)] rfl fun _ _ h n => ok_len rfl rfl Try.underlying22 (IsV.rd n.1), ob1 rfl fun _ _ h n => ok_move rfl (cI rfl), trivial⟩ W6 fun b q p => ?_
    exact tail_done (k := q) (w5 _ _ ⟨Bs.post ⟨hg, hs, hd⟩ p, p.ke 3 rfl i3, (by rw [p.old 3 rfl]; exact n3), p.ke 8 rfl i8, p.ke 9 rfl i9, p.ke 10 rfl i10, p.ou 0 14 rfl, p.ou 1 15 rfl, p.ou 2 16 rfl, trivial⟩)
   rintro a k ⟨⟨hg, hs, hd⟩, i3, n3, i8, i9, i10, i14, i15, i16, _⟩
   refine wp_block ?_
   obtain ⟨f2, hf2, hr⟩ := bind_some hr
   refine cutFe f2 (fun s' c l => Bs noF k0 33 c l ∧ IsOwn 0 3 s'.1 (c.get 3) l ∧ Lo k0 (obF (c.get 3)) ∧ IsV lists_ (c.get 8) l ∧ IsL lists_ (c.get 9) l ∧ IsV s1.2 (c.get 10) l ∧ IsV x1 (c.get 14) l ∧ IsL x1 (c.get 15) l ∧ IsV s'.2 (c.get 16) l ∧ True) (fun i' s' c l => (i' = 2 ∧ Bs noF k0 33 c l ∧ IsOwn 0 3 s'.1 (c.get 3) l ∧ Lo k0 (obF (c.get 3)) ∧ IsV lists_ (c.get 8) l ∧ IsL lists_ (c.get 9) l ∧ IsV s1.2 (c.get 10) l ∧ True)) (fun r' c l => bodyPost Try.prog Try.f36 (RetC noF k0 (IsV r')) .ret c l.w) ?_ hQ ?_ ?_ ?_
   ·intro Q7 W7 hgo hex hret
    refine sim_loop ?_ _ _ _ _ _ hf2 ⟨⟨hg, hs, hd⟩, i3, n3, i8, i9, i10, i14, i15, i16, trivial⟩ Q7 W7 hgo hex hret
    clear hr hf2 hgo hex hret W7 hQ hg hs hd i10 i14 i15 i16 i3 i8 i9 n3
    intro s2 fl_ a k hr hS Q hQ hgo1629 hex1630 hret1631
    obtain ⟨⟨hg, hs, hd⟩, i3, n3, i8, i9, i10, i14, i15, i16, _⟩ := hS
    unfold solid_heights_L1 at hr
    refine cutS (fun c l => Bs noF k0 33 c l ∧ IsOwn 0 3 s2.1 (c.get 3) l ∧ Lo k0 (obF (c.get 3)) ∧ IsV lists_ (c.get 8) l ∧ IsL lists_ (c.get 9) l ∧ IsV s1.2 (c.get 10) l ∧ IsV x1 (c.get 14) l ∧ IsL x1 (c.get 15) l ∧ IsV s2.2 (c.get 16) l ∧ (IsV (decide (s2.2 < (x1.length : Int)))) (c.get 17) l ∧ True) ?_ ?_
    ·intro Q8 W8 w6
     refine gS 1 (_ :: []) hs (by kernel_rfl) ⟨o1 [(16, none), (15, none)] rfl fun _ _ h n => ok_lss rfl (up i16 h n.1) (up i15 h n.2.1), trivial⟩ W8 fun b q p => ?_
     exact tail_done (k := q) (w6 _ _ ⟨Bs.post ⟨hg, hs, hd⟩ p, p.ke 3 rfl i3, (by rw [p.old 3 rfl]; exact n3), p.ke 8 rfl i8, p.ke 9 rfl i9, p.ke 10 rfl i10, p.ke 14 rfl i14, p.ke 15 rfl i15, p.ke 16 rfl i16, p.ou 0 17 rfl, trivial⟩)
    rintro a k ⟨⟨hg, hs, hd⟩, i3, n3, i8, i9, i10, i14, i15, i16, i17, _⟩
    refine wp_seq ?_
    refine wp_cond_split (isBool i17) (fun hc1642 => ?_) (fun hc1642 => ?_)
    ·rw [if_pos hc1642] at hr
     refine wp_skip ?_
     refine wp_seq ?_
     refine wp_block ?_
     refine wp_seq ?_
     obtain ⟨x2, hx2, hr⟩ := bind_some hr
     refine cut (fun a' k' => Bs noF k0 33 a' k' ∧ IsOwn 0 3 s2.1 (a'.get 3) k' ∧ Lo k0 (obF (a'.get 3)) ∧ (IsRef x2) (a'.get 7) k' ∧ (IsV lists_) (a'.get 8) k' ∧ (IsL lists_) (a'.get 9) k' ∧ (IsV s1.2) (a'.get 10) k' ∧ (IsV x1) (a'.get 14) k' ∧ (IsL x1) (a'.get 15) k' ∧ (IsV s2.2) (a'.get 16) k' ∧ True) ?_ hQ ?_
     ·intro Q9 W9 w7
      refine gS 3 (_ :: _ :: ⟨some (IsBox k.w.heap.size (⟨0, 0, []⟩ : Slab)), []⟩ :: []) hs (by kernel_rfl) ⟨o1 [(14, none), (16, none)] rfl fun _ _ h n => ok_indexAddr rfl Try.underlying22 ty51 (IsV.rd (up i14 h n.1)) (up i16 h n.2.1) hx2, o1 [(18, some 0)] rfl fun _ _ h n => ok_load rfl ty51 n.1, ob1 rfl fun _ _ h n => ok_alloc _ h.size rfl z51, trivial⟩ W9 fun b q p => ?_
      have hgq := hg.then p.grow
      have hsb := p.size.trans hs
      have hdb := p.defers.trans hd
      have j3 := p.ke 3 rfl i3
      have y3 : Lo k0 (obF (b.get 3)) := by rw [p.old 3 rfl]; exact n3
      obtain ⟨b7, j7, x7, z7⟩ : (IsBox k.w.heap.size (⟨0, 0, []⟩ : Slab)) (b.get 7) q := p.ou 2 7 rfl
      replace x7 : Lo k (Eq b7) := Lo.eq x7
      have y7 : Lo k0 (Eq b7) := x7.chg hg
      have j8 := p.ke 8 rfl i8
      have j9 := p.ke 9 rfl i9
      have j10 := p.ke 10 rfl i10
      have j14 := p.ke 14 rfl i14
      have j15 := p.ke 15 rfl i15
      have j16 := p.ke 16 rfl i16
      have j19 : (IsV x2) (b.get 19) q := p.ou 1 19 rfl
      have w3_7 : Apart (obF (b.get 3)) (Eq b7) := Apart.new (by rw [p.old 3 rfl]; exact i3.ltF) x7
      have hns := z7.nshF
      refine tail_storeB (i := 3) rfl rfl rfl rfl szf51 (Upd.self (α := Slab)) j7 z7 j19 fun q2 hch hz => ?_
      replace hgq := hgq.step hch y7.wr
      have hle := hch.le hns
      replace j3 := j3.keep hch w3_7 hns
      replace j8 := Pers.pers hle j8
      replace j9 := Pers.pers hle j9
      replace j10 := Pers.pers hle j10
      replace j14 := Pers.pers hle j14
      replace j15 := Pers.pers hle j15
      replace j16 := Pers.pers hle j16
      replace j19 := Pers.pers hle j19
      replace z7 := hz
      clear hns hle hch
      obtain ⟨q, hqq⟩ : ∃ q, q = q2 := ⟨q2, rfl⟩
      subst hqq
      obtain ⟨q2, hsh, jn⟩ := z7.give
      replace j3 := j3.handed hsh w3_7
      replace j8 := Pers.pers hsh.le j8
      replace j9 := Pers.pers hsh.le j9
      replace j10 := Pers.pers hsh.le j10
      replace j14 := Pers.pers hsh.le j14
      replace j15 := Pers.pers hsh.le j15
      replace j16 := Pers.pers hsh.le j16
      rw [← j7] at jn
      replace j7 := jn
      replace hgq := hgq.hand hsh y7.wr
      rw [← hsh.w]
      clear hsh
      obtain ⟨q, hqq⟩ : ∃ q, q = q2 := ⟨q2, rfl⟩
      subst hqq
      exact tail_done (k := q) (w7 _ _ ⟨⟨hgq, hsb, hdb⟩, j3, y3, j7, j8, j9, j10, j14, j15, j16, trivial⟩)
     rintro a k ⟨⟨hg, hs, hd⟩, i3, n3, i7, i8, i9, i10, i14, i15, i16, _⟩
     obtain ⟨x3, hx3, hr⟩ := bind_some hr
     refine cut (fun a' k' => Bs noF k0 33 a' k' ∧ IsOwn 0 3 x3 (a'.get 3) k' ∧ Lo k0 (obF (a'.get 3)) ∧ (IsV lists_) (a'.get 8) k' ∧ (IsL lists_) (a'.get 9) k' ∧ (IsV s1.2) (a'.get 10) k' ∧ (IsV x1) (a'.get 14) k' ∧ (IsL x1) (a'.get 15) k' ∧ (IsV s2.2) (a'.get 16) k' ∧ True) ?_ hQ ?_
     ·intro Q10 W10 w8
      refine gS 6 (⟨some (OwnAt (a.get 3) 0 3 s2.1), [(3, none)]⟩ :: _ :: _ :: _ :: _ :: ⟨some (IsV (α := (List Int)) ([x2.Z0, x2.Z1])), [(22, some 2), (24, some 4)]⟩ :: []) hs (by kernel_rfl) ⟨ob1 rfl fun _ _ h n => ok_moveOA (.inl rfl) (ownAt n.1 (up i3 h n.1)), o1 [(7, none)] rfl fun _ _ h n => ok_fieldAddr rfl fo51_0 (at_Slab_0 _) ((up i7 h n.1)).ptr, o1 [(21, some 1)] rfl fun _ _ h n => ok_load rfl ty3 n.1, o1 [(7, none)] rfl fun _ _ h n => ok_fieldAddr rfl fo51_1 (at_Slab_1 _) ((up i7 h n.1)).ptr, o1 [(23, some 3)] rfl fun _ _ h n => ok_load rfl ty3 n.1, ob1 rfl fun _ _ h n => ok_buildSlice rfl Try.underlying63 eo3 rfl (by decide) (by decide) ⟨rfl, n.1, rfl, n.2.1, trivial⟩, trivial⟩ W10 fun b q p => ?_
      have hgq := hg.then p.grow
      have hsb := p.size.trans hs
      have hdb := p.defers.trans hd
      have j8 := p.ke 8 rfl i8
      have j9 := p.ke 9 rfl i9
      have j10 := p.ke 10 rfl i10
      have j14 := p.ke 14 rfl i14
      have j15 := p.ke 15 rfl i15
      have j16 := p.ke 16 rfl i16
      have e20 : b.get 20 = a.get 3 := (p.ou 0 20 rfl).1
      have j20 : IsOwn 0 3 s2.1 (b.get 20) q := (p.ou 0 20 rfl).2
      have y20 : Lo k0 (obF (b.get 20)) := by rw [e20]; exact n3
      have j25 : (IsV (α := (List Int)) ([x2.Z0, x2.Z1])) (b.get 25) q := p.ou 5 25 rfl
      have hns := j20.nshF
      refine tail_appendS (i := 6) (d := 26) rfl rfl rfl rfl (by rw [hsb]; decide) (e := 3) Try.underlying63 eo3 j20 (IsV.rd j25) hx3 fun b2 q2 hsz hdf hoth hch hown hob => ?_
      have hle := hch.le hns
      have yn : Lo k0 (obF (b2.get 26)) := y20.app hgq hob
      replace j8 := Pers.pers hle j8
      replace j9 := Pers.pers hle j9
      replace j10 := Pers.pers hle j10
      replace j14 := Pers.pers hle j14
      replace j15 := Pers.pers hle j15
      replace j16 := Pers.pers hle j16
      replace j25 := Pers.pers hle j25
      replace hgq := hgq.step hch y20.wr
      rw [← hoth 8 (by decide)] at j8
      rw [← hoth 9 (by decide)] at j9
      rw [← hoth 10 (by decide)] at j10
      rw [← hoth 14 (by decide)] at j14
      rw [← hoth 15 (by decide)] at j15
      rw [← hoth 16 (by decide)] at j16
      rw [← hoth 25 (by decide)] at j25
      have j26 := hown
      have y26 := yn
      replace hsb := hsz.trans hsb
      replace hdb := hdf.trans hdb
      clear hle hch hown hob hns yn hsz hdf hoth
      obtain ⟨b, hbb⟩ : ∃ b, b = b2 := ⟨b2, rfl⟩
      subst hbb
      obtain ⟨q, hqq⟩ : ∃ q, q = q2 := ⟨q2, rfl⟩
      subst hqq
      refine tail_assign (i := 7) (d := 3) rfl rfl (.inl rfl) rfl (by rw [hsb]; decide) fun b2 hsz hdf hnew hoth => ?_
      have jn : (IsOwn 0 3 x3) (b2.get 3) q := by rw [hnew]; exact j26
      have yn : Lo k0 (obF (b2.get 3)) := by rw [hnew]; exact y26
      rw [← hoth 8 (by decide)] at j8
      rw [← hoth 9 (by decide)] at j9
      rw [← hoth 10 (by decide)] at j10
      rw [← hoth 14 (by decide)] at j14
      rw [← hoth 15 (by decide)] at j15
      rw [← hoth 16 (by decide)] at j16
      rw [← hoth 25 (by decide)] at j25
      have j3 := jn
      have y3 := yn
      replace hsb := hsz.trans hsb
      replace hdb := hdf.trans hdb
      clear hsz hdf hoth
      obtain ⟨b, hbb⟩ : ∃ b, b = b2 := ⟨b2, rfl⟩
      subst hbb
      exact tail_done (k := q) (w8 _ _ ⟨⟨hgq, hsb, hdb⟩, j3, y3, j8, j9, j10, j14, j15, j16, trivial⟩)
     rintro a k ⟨⟨hg, hs, hd⟩, i3, n3, i8, i9, i10, i14, i15, i16, _⟩
     obtain ⟨x4, hx4, hr⟩ := bind_some hr
     refine cut (fun a' k' => Bs noF k0 33 a' k' ∧ IsOwn 0 3 x3 (a'.get 3) k' ∧ Lo k0 (obF (a'.get 3)) ∧ (IsV lists_) (a'.get 8) k' ∧ (IsL lists_) (a'.get 9) k' ∧ (IsV s1.2) (a'.get 10) k' ∧ (IsV x1) (a'.get 14) k' ∧ (IsL x1) (a'.get 15) k' ∧ (IsV x4) (a'.get 16) k' ∧ True) ?_ hQ ?_
     ·intro Q11 W11 w9
      refine gS 2 (_ :: _ :: []) hs (by kernel_rfl) ⟨o1 [(16, none)] rfl fun _ _ h n => ok_add rfl (up i16 h n.1) (cI rfl) hx4, cm 0 rfl rfl, trivial⟩ W11 fun b q p => ?_
      exact tail_done (k := q) (w9 _ _ ⟨Bs.post ⟨hg, hs, hd⟩ p, p.ke 3 rfl i3, (by rw [p.old 3 rfl]; exact n3), p.ke 8 rfl i8, p.ke 9 rfl i9, p.ke 10 rfl i10, p.ke 14 rfl i14, p.ke 15 rfl i15, p.ou 1 16 rfl, trivial⟩)
     rintro a k ⟨⟨hg, hs, hd⟩, i3, n3, i8, i9, i10, i14, i15, i16, _⟩
     exact hgo1629 _ _ _ (Option.some.inj hr).symm ⟨⟨hg, hs, hd⟩, i3, n3, i8, i9, i10, i14, i15, i16, trivial⟩
    rw [if_neg (by rw [hc1642]; decide)] at hr
    refine wp_exit ?_
    exact hex1630 _ _ _ _ (Option.some.inj hr).symm ⟨rfl, ⟨hg, hs, hd⟩, i3, n3, i8, i9, i10, trivial⟩
   ·rintro r1 a k rfl hR
    dsimp only at hr
    exact hret1624 _ _ _ (Option.some.inj hr).symm hR
   ·rintro _ _ _ rfl _
    simp at hr
   clear hf2
   rintro _ s3 a k rfl ⟨rfl, ⟨hg, hs, hd⟩, i3, n3, i8, i9, i10, _⟩
   dsimp only at hr
   obtain ⟨x5, hx5, hr⟩ := bind_some hr
   refine cut (fun a' k' => Bs noF k0 33 a' k' ∧ IsOwn 0 3 s3.1 (a'.get 3) k' ∧ Lo k0 (obF (a'.get 3)) ∧ (IsV lists_) (a'.get 8) k' ∧ (IsL lists_) (a'.get 9) k' ∧ (IsV x5) (a'.get 10) k' ∧ True) ?_ hQ ?_
   ·intro Q12 W12 w10
    refine gS 2 (_ :: _ :: []) hs (by kernel_rfl) ⟨o1 [(10, none)] rfl fun _ _ h n => ok_add rfl (up i10 h n.1) (cI rfl) hx5, cm 0 rfl rfl, trivial⟩ W12 fun b q p => ?_
    exact tail_done (k := q) (w10 _ _ ⟨Bs.post ⟨hg, hs, hd⟩ p, p.ke 3 rfl i3, (by rw [p.old 3 rfl]; exact n3), p.ke 8 rfl i8, p.ke 9 rfl i9, p.ou 1 10 rfl, trivial⟩)
   rintro a k ⟨⟨hg, hs, hd⟩, i3, n3, i8, i9, i10, _⟩
   exact hgo1622 _ _ _ (Option.some.inj hr).symm ⟨⟨hg, hs, hd⟩, i3, n3, i8, i9, i10, trivial⟩
  rw [if_neg (by rw [hc1656]; decide)] at hr
  refine wp_exit ?_
  exact hex1623 _ _ _ _ (Option.some.inj hr).symm ⟨rfl, ⟨hg, hs, hd⟩, i3, n3, trivial⟩
 ·rintro r2 a k rfl hR
  dsimp only at hr
  obtain rfl := Option.some.inj hr
  exact hR
 ·rintro _ _ _ rfl _
  simp at hr
 clear hf1
 rintro _ s4 a k rfl ⟨rfl, ⟨hg, hs, hd⟩, i3, n3, _⟩
 dsimp only at hr
 refine wp_seq ?_
 obtain ⟨x6, hx6, hr⟩ := bind_some hr
 refine cut (fun a' k' => Bs noF k0 33 a' k' ∧ IsOwn 0 3 x6 (a'.get 3) k' ∧ Lo k0 (obF (a'.get 3)) ∧ True) ?_ hQ ?_
 ·intro Q13 W13 w11
  refine gS 1 (⟨some (OwnAt (a.get 3) 0 3 s4.1), [(3, none)]⟩ :: []) hs (by kernel_rfl) ⟨ob1 rfl fun _ _ h n => ok_moveOA (.inl rfl) (ownAt n.1 (up i3 h n.1)), trivial⟩ W13 fun b q p => ?_
  have hgq := hg.then p.grow
  have hsb := p.size.trans hs
  have hdb := p.defers.trans hd
  have j3 := p.ke 3 rfl i3
  have y3 : Lo k0 (obF (b.get 3)) := by rw [p.old 3 rfl]; exact n3
  have e29 : b.get 29 = a.get 3 := (p.ou 0 29 rfl).1
  have j29 : IsOwn 0 3 s4.1 (b.get 29) q := (p.ou 0 29 rfl).2
  have y29 : Lo k0 (obF (b.get 29)) := by rw [e29]; exact n3
  have hns := j29.nshF
  have eS : b.get 3 = b.get 29 := (p.old 3 rfl).trans e29.symm
  refine tail_call (F := obF (b.get 29)) (i := 1) (d := 30) rfl rfl rfl rfl (by rw [hsb]; decide) Try.call59 W13 (sortInts_ok j29 hx6) fun b2 q2 hsz hdf hoth hch hres => ?_
  have hle := hch.le hns
  replace hgq := hgq.step hch y29.wr
  replace j3 : IsOwn 0 3 x6 (b.get 3) q2 := by rw [eS]; exact hres
  clear hres eS
  rw [← hoth 3 (by decide)] at j3
  rw [← hoth 3 (by decide)] at y3
  replace hsb := hsz.trans hsb
  replace hdb := hdf.trans hdb
  clear hle hch hns hsz hdf hoth
  obtain ⟨b, hbb⟩ : ∃ b, b = b2 := ⟨b2, rfl⟩
  subst hbb
  obtain ⟨q, hqq⟩ : ∃ q, q = q2 := ⟨q2, rfl⟩
  subst hqq
  exact tail_done (k := q) (w11 _ _ ⟨⟨hgq, hsb, hdb⟩, j3, y3, trivial⟩)
 rintro a k ⟨⟨hg, hs, hd⟩, i3, n3, _⟩
 refine wp_seq ?_
 obtain ⟨x8, hx8, hr⟩ := bind_some hr
 refine cut (fun a' k' => Bs noF k0 33 a' k' ∧ IsOwn 0 3 x8 (a'.get 2) k' ∧ Lo k0 (obF (a'.get 2)) ∧ True) ?_ hQ ?_
 ·intro Q14 W14 w12
  refine gS 1 (⟨some (OwnAt (a.get 3) 0 3 x6), [(3, none)]⟩ :: []) hs (by kernel_rfl) ⟨ob1 rfl fun _ _ h n => ok_moveOA (.inl rfl) (ownAt n.1 (up i3 h n.1)), trivial⟩ W14 fun b q p => ?_
  have hgq := hg.then p.grow
  have hsb := p.size.trans hs
  have hdb := p.defers.trans hd
  have e31 : b.get 31 = a.get 3 := (p.ou 0 31 rfl).1
  have j31 : IsOwn 0 3 x6 (b.get 31) q := (p.ou 0 31 rfl).2
  have y31 : Lo k0 (obF (b.get 31)) := by rw [e31]; exact n3
  have hns := j31.nshF
  refine tail_call (F := obF (b.get 31)) (i := 1) (d := 32) rfl rfl rfl rfl (by rw [hsb]; decide) Try.call60 W14 (compactInts_ok j31 hx8) fun b2 q2 hsz hdf hoth hch hres => ?_
  have hle := hch.le hns
  obtain ⟨hown, hob⟩ := hres
  have yn : Lo k0 (obF (b2.get 32)) := y31.app hgq hob
  replace hgq := hgq.step hch y31.wr
  have j32 := hown
  have y32 := yn
  have hres := True.intro
  clear hown hob yn
  replace hsb := hsz.trans hsb
  replace hdb := hdf.trans hdb
  clear hle hch hres hns hsz hdf hoth
  obtain ⟨b, hbb⟩ : ∃ b, b = b2 := ⟨b2, rfl⟩
  subst hbb
  obtain ⟨q, hqq⟩ : ∃ q, q = q2 := ⟨q2, rfl⟩
  subst hqq
  refine tail_assign (i := 2) (d := 2) rfl rfl (.inl rfl) rfl (by rw [hsb]; decide) fun b2 hsz hdf hnew hoth => ?_
  have jn : (IsOwn 0 3 x8) (b2.get 2) q := by rw [hnew]; exact j32
  have yn : Lo k0 (obF (b2.get 2)) := by rw [hnew]; exact y32
  have j2 := jn
  have y2 := yn
  replace hsb := hsz.trans hsb
  replace hdb := hdf.trans hdb
  clear hsz hdf hoth
  obtain ⟨b, hbb⟩ : ∃ b, b = b2 := ⟨b2, rfl⟩
  subst hbb
  exact tail_done (k := q) (w12 _ _ ⟨⟨hgq, hsb, hdb⟩, j2, y2, trivial⟩)
 rintro a k ⟨⟨hg, hs, hd⟩, i2, n2, _⟩
 refine wp_ret ?_
 obtain ⟨kk, sh1663, ii2⟩ := i2.give
 replace i2 := ii2
 replace hg := hg.hand sh1663 n2.wr
 rw [← sh1663.w]
 clear sh1663
 obtain ⟨k, hkk⟩ : ∃ k, k = kk := ⟨kk, rfl⟩
 subst hkk
 obtain rfl := Option.some.inj hr
 exact retC1 rfl hd hg i2
def solid_put (out_ : (List Slab)) (x_ : Slab) : Option ((List Slab)) :=
 if ((x_.Area.length : Int) == 0) then
  some out_
 else
  (subI (out_.length : Int) 1).bind fun x1 =>
  (if (decide (0 ≤ x1)) then
   (getI out_ x1).bind fun x2 =>
   some (x2.Z1 == x_.Z0)
  else
   some false).bind fun x3 =>
  (if x3 then
   (getI out_ x1).bind fun x4 =>
   (region_Same x4.Area x_.Area).bind fun x5 =>
   some x5
  else
   some false).bind fun x6 =>
  if x6 then
   (getI out_ x1).bind fun x7 =>
   (some (out_.set (x1).toNat ({ x7 with Z1 := x_.Z1 }))).bind fun x8 =>
   some x8
  else
   (appI out_ ([x_])).bind fun x9 =>
   some x9
theorem solid_put_ok {k0 : K} {v0 v1 : Value} {out_ : (List Slab)} {x_ : Slab} {r : (List Slab)} (i0 : (IsOwn 0 51 out_) v0 k0) (i1 : (IsV x_) v1 k0) (hr : solid_put out_ x_ = some r) :
  Calls Try.prog 38 #[v0, v1] k0.w (RetC (obF v0) k0 (IsOwnW v0 k0 51 r)) := by
 unfold solid_put at hr
 refine enterK Try.func38 rfl Try.ntmps38 (show 2 ≤ 47 by decide) fun a k hk0 hs hd ha => ?_
 obtain ⟨e0, e1, _⟩ := ha
 replace i0 : (IsOwn 0 51 out_) (a.get 0) k := by rw [e0, hk0]; exact i0
 replace i1 : (IsV x_) (a.get 1) k := by rw [e1, hk0]; exact i1
 have n0 : Wr (obF v0) k0 (obF (a.get 0)) := fun b h => .inl (by rwa [e0] at h)
 have hQ : Gb.LetsOut (bodyPost Try.prog Try.f38 (RetC (obF v0) k0 (IsOwnW v0 k0 51 r))) := letsOutC
 have hg : Chg (obF v0) k0 k := by rw [hk0]; exact Chg.refl _ k0
 refine cutS (fun c l => Bs (obF v0) k0 47 c l ∧ IsOwn 0 51 out_ (c.get 0) l ∧ Wr (obF v0) k0 (obF (c.get 0)) ∧ IsRef x_ (c.get 3) l ∧ True) ?_ ?_
 ·intro Q1 W1 w1
  refine gS 2 (⟨some (IsRef x_), [(1, none)]⟩ :: ⟨some IsE0, []⟩ :: []) hs (by kernel_rfl) ⟨ob1 rfl fun _ _ h n => ok_boxR rfl (up i1 h n.1), ob1 rfl fun b q h n => ok_assign rfl isE0_nil, trivial⟩ W1 fun b q p => ?_
  exact tail_done (k := q) (w1 _ _ ⟨Bs.post ⟨hg, hs, hd⟩ p, p.ke 0 rfl i0, (by rw [p.old 0 rfl]; exact n0), p.ou 0 3 rfl, trivial⟩)
 rintro a k ⟨⟨hg, hs, hd⟩, i0, n0, i3, _⟩
 refine wp_seq ?_
 refine cutS (fun c l => Bs (obF v0) k0 47 c l ∧ IsOwn 0 51 out_ (c.get 0) l ∧ Wr (obF v0) k0 (obF (c.get 0)) ∧ IsRef x_ (c.get 3) l ∧ IsV ((x_.Area.length : Int) == 0) (c.get 9) l ∧ True) ?_ ?_
 ·intro Q2 W2 w2
  refine gS 4 (_ :: _ :: _ :: _ :: []) hs (by kernel_rfl) ⟨o1 [(3, none)] rfl fun _ _ h n => ok_fieldAddr rfl fo51_2 (at_Slab_2 _) ((up i3 h n.1)).ptr, o1 [(6, some 0)] rfl fun _ _ h n => ok_load rfl ty49 n.1, o1 [(7, some 1)] rfl fun _ _ h n => ok_len rfl rfl Try.underlying49 (IsV.rd n.1), o1 [(8, some 2)] rfl fun _ _ h n => ok_eqI rfl n.1 (cI rfl), trivial⟩ W2 fun b q p => ?_
  exact tail_done (k := q) (w2 _ _ ⟨Bs.post ⟨hg, hs, hd⟩ p, p.ke 0 rfl i0, (by rw [p.old 0 rfl]; exact n0), p.ke 3 rfl i3, p.ou 3 9 rfl, trivial⟩)
 rintro a k ⟨⟨hg, hs, hd⟩, i0, n0, i3, i9, _⟩
 refine wp_cond_split (isBool i9) (fun hc1697 => ?_) (fun hc1697 => ?_)
 ·rw [if_pos hc1697] at hr
  refine cutS (fun c l => Bs (obF v0) k0 47 c l ∧ IsOwn 0 51 out_ (c.get 4) l ∧ Wr (obF v0) k0 (obF (c.get 4)) ∧ True) ?_ ?_
  ·intro Q3 W3 w3
   refine gS 2 (⟨some (OwnAt (a.get 0) 0 51 out_), [(0, none)]⟩ :: ⟨some (OwnAt (a.get 0) 0 51 out_), [(10, some 0)]⟩ :: []) hs (by kernel_rfl) ⟨ob1 rfl fun _ _ h n => ok_moveOA (.inl rfl) (ownAt n.1 (up i0 h n.1)), ob1 rfl fun _ _ h n => ok_moveOA (.inr rfl) n.1, trivial⟩ W3 fun b q p => ?_
   have hgq := hg.then p.grow
   have hsb := p.size.trans hs
   have hdb := p.defers.trans hd
   have e4 : b.get 4 = a.get 0 := (p.ou 1 4 rfl).1
   have j4 : IsOwn 0 51 out_ (b.get 4) q := (p.ou 1 4 rfl).2
   have y4 : Wr (obF v0) k0 (obF (b.get 4)) := by rw [e4]; exact n0
   exact tail_done (k := q) (w3 _ _ ⟨⟨hgq, hsb, hdb⟩, j4, y4, trivial⟩)
  rintro a k ⟨⟨hg, hs, hd⟩, i4, n4, _⟩
  refine wp_ret ?_
  obtain rfl := Option.some.inj hr
  exact retC1 rfl hd hg (show ResOk _ _ _ (.tmp 4) (IsOwnW _ _ _ _) from ⟨i4, n4⟩)
 rw [if_neg (by rw [hc1697]; decide)] at hr
 refine wp_skip ?_
 refine wp_seq ?_
 refine wp_seq ?_
 obtain ⟨x1, hx1, hr⟩ := bind_some hr
 refine cut (fun a' k' => Bs (obF v0) k0 47 a' k' ∧ IsOwn 0 51 out_ (a'.get 0) k' ∧ Wr (obF v0) k0 (obF (a'.get 0)) ∧ (IsRef x_) (a'.get 3) k' ∧ (IsV x1) (a'.get 5) k' ∧ True) ?_ hQ ?_
 ·intro Q4 W4 w4
  refine gS 4 (⟨some (OwnAt (a.get 0) 0 51 out_), [(0, none)]⟩ :: _ :: _ :: _ :: []) hs (by kernel_rfl) ⟨ob1 rfl fun _ _ h n => ok_moveOA (.inl rfl) (ownAt n.1 (up i0 h n.1)), o1 [(11, some 0)] rfl fun _ _ h n => ok_len rfl rfl Try.underlying22 (IsOwn.rd (n.1).2), o1 [(12, some 1)] rfl fun _ _ h n => ok_sub rfl n.1 (cI rfl) hx1, cp 2 rfl rfl, trivial⟩ W4 fun b q p => ?_
  exact tail_done (k := q) (w4 _ _ ⟨Bs.post ⟨hg, hs, hd⟩ p, p.ke 0 rfl i0, (by rw [p.old 0 rfl]; exact n0), p.ke 3 rfl i3, p.ou 3 5 rfl, trivial⟩)
 rintro a k ⟨⟨hg, hs, hd⟩, i0, n0, i3, i5, _⟩
 refine wp_seq ?_
 obtain ⟨x2, hx2, hr⟩ := bind_some hr
 obtain ⟨x3, hx3, hx2⟩ := ite_bind hx2
 obtain ⟨x4, hx4, hr⟩ := bind_some hr
 obtain ⟨x5, hx5, hx4⟩ := ite_bind hx4
 obtain ⟨x6, hx6, hx4⟩ := ite_bind hx4
 refine cut (fun a' k' => Bs (obF v0) k0 47 a' k' ∧ IsOwn 0 51 out_ (a'.get 0) k' ∧ Wr (obF v0) k0 (obF (a'.get 0)) ∧ (IsRef x_) (a'.get 3) k' ∧ (IsV x1) (a'.get 5) k' ∧ (IsV x4) (a'.get 35) k' ∧ True) ?_ hQ ?_
 ·intro Q5 W5 w5
  refine region (m := 22) (_ :: _ :: _ :: ⟨some (Gd ((decide (0 ≤ x1)) = true) (OwnAt (a.get 0) 0 51 out_)), [(0, none)]⟩ :: _ :: _ :: _ :: _ :: _ :: _ :: _ :: _ :: _ :: ⟨some (Gd (x2 = true) (OwnAt (a.get 0) 0 51 out_)), [(0, none)]⟩ :: _ :: _ :: _ :: _ :: _ :: _ :: _ :: _ :: []) hmix hs (by kernel_rfl) ⟨mu rfl i5, o1 [(14, some 0)] rfl fun _ _ h n => ok_geq rfl n.1 (cI rfl), cm 1 rfl rfl, gdT rfl rfl fun hp _ _ h n => ok_moveOA (.inl rfl) (ownAt n.1 (up i0 h n.1)), mT rfl rfl i5, gT [(17, some 3), (18, some 4)] rfl rfl fun hp _ _ h n => ok_indexAddr rfl Try.underlying22 ty51 (IsOwn.rd ((Gd.get n.1 hp)).2) (Gd.get n.2.1 hp) (hx3 hp), gT [(19, some 5)] rfl rfl fun hp _ _ h n => ok_fieldAddr rfl fo51_1 (at_Slab_1 _) (Gd.get n.1 hp), gT [(20, some 6)] rfl rfl fun hp _ _ h n => ok_load rfl ty3 (Gd.get n.1 hp), gT [(3, none)] rfl rfl fun hp _ _ h n => ok_fieldAddr rfl fo51_0 (at_Slab_0 _) ((up i3 h n.1)).ptr, gT [(22, some 8)] rfl rfl fun hp _ _ h n => ok_load rfl ty3 (Gd.get n.1 hp), gT [(21, some 7), (23, some 9)] rfl rfl fun hp _ _ h n => ok_eqI rfl (Gd.get n.1 hp) (Gd.get n.2.1 hp), o1 [(16, some 2), (24, some 10)] rfl fun _ _ h n => ok_pickM rfl n.1 hx2 (Gd.get n.2.1) (cB rfl), cm 11 rfl rfl, gdT rfl rfl fun hp _ _ h n => ok_moveOA (.inl rfl) (ownAt n.1 (up i0 h n.1)), mT rfl rfl i5, gT [(27, some 13), (28, some 14)] rfl rfl fun hp _ _ h n => ok_indexAddr rfl Try.underlying22 ty51 (IsOwn.rd ((Gd.get n.1 hp)).2) (Gd.get n.2.1 hp) (hx5 hp), gT [(29, some 15)] rfl rfl fun hp _ _ h n => ok_fieldAddr rfl fo51_2 (at_Slab_2 _) (Gd.get n.1 hp), gT [(30, some 16)] rfl rfl fun hp _ _ h n => ok_load rfl ty49 (Gd.get n.1 hp), gT [(3, none)] rfl rfl fun hp _ _ h n => ok_fieldAddr rfl fo51_2 (at_Slab_2 _) ((up i3 h n.1)).ptr, gT [(32, some 18)] rfl rfl fun hp _ _ h n => ok_load rfl ty49 (Gd.get n.1 hp), gT [(31, some 17), (33, some 19)] rfl rfl fun hp _ _ h n => ok_call rfl Try.call64 (region_Same_ok (Gd.get n.1 hp) (Gd.get n.2.1 hp) (hx6 hp)), o1 [(26, some 12), (34, some 20)] rfl fun _ _ h n => ok_pickM rfl n.1 hx4 (Gd.get n.2.1) (cB rfl), trivial⟩ W5 fun b q p => ?_
  exact tail_done (k := q) (w5 _ _ ⟨Bs.post ⟨hg, hs, hd⟩ p, p.ke 0 rfl i0, (by rw [p.old 0 rfl]; exact n0), p.ke 3 rfl i3, p.ke 5 rfl i5, p.ou 21 35 rfl, trivial⟩)
 rintro a k ⟨⟨hg, hs, hd⟩, i0, n0, i3, i5, i35, _⟩
 refine wp_cond_split (isBool i35) (fun hc1692 => ?_) (fun hc1692 => ?_)
 ·rw [if_pos hc1692] at hr
  refine wp_seq ?_
  obtain ⟨x7, hx7, hr⟩ := bind_some hr
  obtain ⟨x8, hx8, hr⟩ := bind_some hr
  refine cut (fun a' k' => Bs (obF v0) k0 47 a' k' ∧ IsOwn 0 51 x8 (a'.get 0) k' ∧ Wr (obF v0) k0 (obF (a'.get 0)) ∧ True) ?_ hQ ?_
  ·intro Q6 W6 w6
   refine gS 6 (⟨some (OwnAt (a.get 0) 0 51 out_), [(0, none)]⟩ :: _ :: _ :: _ :: ⟨some (IsAdrO (a.get 0) ((x1).toNat * Enc.sz Slab)), [(36, some 0), (37, some 1)]⟩ :: _ :: []) hs (by kernel_rfl) ⟨ob1 rfl fun _ _ h n => ok_moveOA (.inl rfl) (ownAt n.1 (up i0 h n.1)), mu rfl i5, o1 [(3, none)] rfl fun _ _ h n => ok_fieldAddr rfl fo51_1 (at_Slab_1 _) ((up i3 h n.1)).ptr, o1 [(38, some 2)] rfl fun _ _ h n => ok_load rfl ty3 n.1, ob1 rfl fun _ _ h n => ok_indexO rfl Try.underlying22 ty51 n.1 n.2.1 hx7, o1 [(40, some 4)] rfl fun _ _ h n => ok_fieldAdrO rfl fo51_1 n.1, trivial⟩ W6 fun b q p => ?_
   have hgq := hg.then p.grow
   have hsb := p.size.trans hs
   have hdb := p.defers.trans hd
   have j0 := p.ke 0 rfl i0
   have y0 : Wr (obF v0) k0 (obF (b.get 0)) := by rw [p.old 0 rfl]; exact n0
   have j39 : (IsV x_.Z1) (b.get 39) q := p.ou 3 39 rfl
   have j41 : IsAdrO (a.get 0) ((x1).toNat * Enc.sz Slab + 1) (b.get 41) q := p.ou 5 41 rfl
   have eo : b.get 0 = a.get 0 := p.old 0 rfl
   have hns := j0.nshF
   refine tail_storeS (i := 6) (u := b.get 0) (m := (x1).toNat) (off := 0 + 1) rfl rfl rfl rfl szf3 upd_F51_1 (by rw [eo]; exact j41) j0 (getI_spec hx7).2.1 j39 fun q2 hch hz => ?_
   replace hgq := hgq.step hch y0
   have hle := hch.le hns
   replace j39 := Pers.pers hle j39
   replace j41 := Pers.pers hle j41
   replace j0 := hz
   rw [Option.some.inj hx8] at j0
   clear hns hle hch eo hz
   obtain ⟨q, hqq⟩ : ∃ q, q = q2 := ⟨q2, rfl⟩
   subst hqq
   exact tail_done (k := q) (w6 _ _ ⟨⟨hgq, hsb, hdb⟩, j0, y0, trivial⟩)
  rintro a k ⟨⟨hg, hs, hd⟩, i0, n0, _⟩
  refine cutS (fun c l => Bs (obF v0) k0 47 c l ∧ IsOwn 0 51 x8 (c.get 4) l ∧ Wr (obF v0) k0 (obF (c.get 4)) ∧ True) ?_ ?_
  ·intro Q7 W7 w7
   refine gS 2 (⟨some (OwnAt (a.get 0) 0 51 x8), [(0, none)]⟩ :: ⟨some (OwnAt (a.get 0) 0 51 x8), [(42, some 0)]⟩ :: []) hs (by kernel_rfl) ⟨ob1 rfl fun _ _ h n => ok_moveOA (.inl rfl) (ownAt n.1 (up i0 h n.1)), ob1 rfl fun _ _ h n => ok_moveOA (.inr rfl) n.1, trivial⟩ W7 fun b q p => ?_
   have hgq := hg.then p.grow
   have hsb := p.size.trans hs
   have hdb := p.defers.trans hd
   have e4 : b.get 4 = a.get 0 := (p.ou 1 4 rfl).1
   have j4 : IsOwn 0 51 x8 (b.get 4) q := (p.ou 1 4 rfl).2
   have y4 : Wr (obF v0) k0 (obF (b.get 4)) := by rw [e4]; exact n0
   exact tail_done (k := q) (w7 _ _ ⟨⟨hgq, hsb, hdb⟩, j4, y4, trivial⟩)
  rintro a k ⟨⟨hg, hs, hd⟩, i4, n4, _⟩
  refine wp_ret ?_
  obtain rfl := Option.some.inj hr
  exact retC1 rfl hd hg (show ResOk _ _ _ (.tmp 4) (IsOwnW _ _ _ _) from ⟨i4, n4⟩)
 rw [if_neg (by rw [hc1692]; decide)] at hr
 refine wp_skip ?_
 refine wp_seq ?_
 obtain ⟨x9, hx9, hr⟩ := bind_some hr
 refine cut (fun a' k' => Bs (obF v0) k0 47 a' k' ∧ IsOwn 0 51 x9 (a'.get 4) k' ∧ Wr (obF v0) k0 (obF (a'.get 4)) ∧ True) ?_ hQ ?_
 ·intro Q8 W8 w8
  refine gS 3 (⟨some (OwnAt (a.get 0) 0 51 out_), [(0, none)]⟩ :: _ :: ⟨some (IsV (α := (List Slab)) ([x_])), [(44, some 1)]⟩ :: []) hs (by kernel_rfl) ⟨ob1 rfl fun _ _ h n => ok_moveOA (.inl rfl) (ownAt n.1 (up i0 h n.1)), o1 [(3, none)] rfl fun _ _ h n => ok_load rfl ty51 ((up i3 h n.1)).ptr, ob1 rfl fun _ _ h n => ok_buildSlice rfl Try.underlying22 eo51 rfl (by decide) (by decide) ⟨rfl, n.1, trivial⟩, trivial⟩ W8 fun b q p => ?_
  have hgq := hg.then p.grow
  have hsb := p.size.trans hs
  have hdb := p.defers.trans hd
  have e43 : b.get 43 = a.get 0 := (p.ou 0 43 rfl).1
  have j43 : IsOwn 0 51 out_ (b.get 43) q := (p.ou 0 43 rfl).2
  have y43 : Wr (obF v0) k0 (obF (b.get 43)) := by rw [e43]; exact n0
  have j45 : (IsV (α := (List Slab)) ([x_])) (b.get 45) q := p.ou 2 45 rfl
  have hns := j43.nshF
  refine tail_appendS (i := 3) (d := 46) rfl rfl rfl rfl (by rw [hsb]; decide) (e := 51) Try.underlying22 eo51 j43 (IsV.rd j45) hx9 fun b2 q2 hsz hdf hoth hch hown hob => ?_
  have hle := hch.le hns
  have yn : Wr (obF v0) k0 (obF (b2.get 46)) := y43.app hgq hob
  replace j45 := Pers.pers hle j45
  replace hgq := hgq.step hch y43
  rw [← hoth 45 (by decide)] at j45
  have j46 := hown
  have y46 := yn
  replace hsb := hsz.trans hsb
  replace hdb := hdf.trans hdb
  clear hle hch hown hob hns yn hsz hdf hoth
  obtain ⟨b, hbb⟩ : ∃ b, b = b2 := ⟨b2, rfl⟩
  subst hbb
  obtain ⟨q, hqq⟩ : ∃ q, q = q2 := ⟨q2, rfl⟩
  subst hqq
  refine tail_assign (i := 4) (d := 4) rfl rfl (.inl rfl) rfl (by rw [hsb]; decide) fun b2 hsz hdf hnew hoth => ?_
  have jn : (IsOwn 0 51 x9) (b2.get 4) q := by rw [hnew]; exact j46
  have yn : Wr (obF v0) k0 (obF (b2.get 4)) := by rw [hnew]; exact y46
  rw [← hoth 45 (by decide)] at j45
  have j4 := jn
  have y4 := yn
  replace hsb := hsz.trans hsb
  replace hdb := hdf.trans hdb
  clear hsz hdf hoth
  obtain ⟨b, hbb⟩ : ∃ b, b = b2 := ⟨b2, rfl⟩
  subst hbb
  exact tail_done (k := q) (w8 _ _ ⟨⟨hgq, hsb, hdb⟩, j4, y4, trivial⟩)
 rintro a k ⟨⟨hg, hs, hd⟩, i4, n4, _⟩
 refine wp_ret ?_
 obtain rfl := Option.some.inj hr
 exact retC1 rfl hd hg (show ResOk _ _ _ (.tmp 4) (IsOwnW _ _ _ _) from ⟨i4, n4⟩)
def solid_fits (out_ : (List Slab)) : Option ((List Slab) × Int) :=
 if (decide (80 < (out_.length : Int))) then
  some (([] : List Slab), 6)
 else
  some (out_, 0)
theorem solid_fits_ok {k0 : K} {v0 : Value} {out_ : (List Slab)} {r : (List Slab) × Int} (i0 : (IsV out_) v0 k0) (hr : solid_fits out_ = some r) :
  Calls Try.prog 39 #[v0] k0.w (Ret k0 (IsTup2 (IsV r.1) (IsV r.2))) := by
 unfold solid_fits at hr
 refine Ret.ofC ?_
 refine enterK Try.func39 rfl Try.ntmps39 (show 1 ≤ 8 by decide) fun a k hk0 hs hd ha => ?_
 obtain ⟨e0, _⟩ := ha
 replace i0 : (IsV out_) (a.get 0) k := by rw [e0, hk0]; exact i0
 have hQ : Gb.LetsOut (bodyPost Try.prog Try.f39 (RetC noF k0 (IsTup2 (IsV r.1) (IsV r.2)))) := letsOutC
 have hg : Chg noF k0 k := by rw [hk0]; exact Chg.refl _ k0
 refine stepL 2 (⟨some IsE0, []⟩ :: ⟨some (IsI 0), []⟩ :: []) rfl ⟨hg, hs, hd⟩ (by kernel_rfl) ⟨ob1 rfl fun b q h n => ok_assign rfl isE0_nil, aI rfl rfl, trivial⟩ [⟨_, _⟩] (fun b q p => ⟨p.ke 0 rfl i0, trivial⟩) ?_
 rintro a k ⟨⟨hg, hs, hd⟩, i0, _⟩
 refine wp_seq ?_
 refine stepL 3 (_ :: _ :: _ :: []) rfl ⟨hg, hs, hd⟩ (by kernel_rfl) ⟨mu rfl i0, o1 [(4, some 0)] rfl fun _ _ h n => ok_len rfl rfl Try.underlying22 (IsV.rd n.1), o1 [(5, some 1)] rfl fun _ _ h n => ok_gtr rfl n.1 (cI rfl), trivial⟩ [⟨_, _⟩, ⟨_, _⟩] (fun b q p => ⟨p.ke 0 rfl i0, p.ou 2 6 rfl, trivial⟩) ?_
 rintro a k ⟨⟨hg, hs, hd⟩, i0, i6, _⟩
 refine wp_cond_split (isBool i6) (fun hc1710 => ?_) (fun hc1710 => ?_)
 ·rw [if_pos hc1710] at hr
  refine cutL noF k0 8 [⟨2, IsV ([] : List Slab)⟩, ⟨3, IsI 6⟩] ?_ ?_
  ·intro Q1 W1 w1
   refine gS 2 (⟨some IsE0, []⟩ :: ⟨some (IsI 6), []⟩ :: []) hs (by kernel_rfl) ⟨ob1 rfl fun b q h n => ok_assign rfl isE0_nil, aI rfl rfl, trivial⟩ W1 fun b q p => ?_
   have hgq := hg.then p.grow
   have hsb := p.size.trans hs
   have hdb := p.defers.trans hd
   have j2 : IsE0 (b.get 2) q := p.ou 0 2 rfl
   have j3 : (IsI 6) (b.get 3) q := p.ou 1 3 rfl
   replace j2 : IsV ([] : List Slab) (b.get 2) q := j2.isV
   exact tail_done (k := q) (w1 _ _ ⟨⟨hgq, hsb, hdb⟩, j2, j3, trivial⟩)
  rintro a k ⟨⟨hg, hs, hd⟩, i2, i3, _⟩
  refine wp_ret ?_
  obtain rfl := Option.some.inj hr
  exact retC2 rfl hd hg i2 i3
 rw [if_neg (by rw [hc1710]; decide)] at hr
 refine wp_skip ?_
 refine stepL 3 (_ :: _ :: ⟨some (IsI 0), []⟩ :: []) rfl ⟨hg, hs, hd⟩ (by kernel_rfl) ⟨mu rfl i0, cp 0 rfl rfl, aI rfl rfl, trivial⟩ [⟨_, _⟩, ⟨_, _⟩] (fun b q p => ⟨p.ou 1 2 rfl, p.ou 2 3 rfl, trivial⟩) ?_
 rintro a k ⟨⟨hg, hs, hd⟩, i2, i3, _⟩
 refine wp_ret ?_
 obtain rfl := Option.some.inj hr
 exact retC2 rfl hd hg i2 i3
def solid_Of_L0 (l_ : (List Box)) (s1 : (List Slab) × Int) : Option (Flow ((List Slab) × Int) ((List Slab) × Int)) :=
 if (decide (s1.2 < (l_.length : Int))) then
  (getI l_ s1.2).bind fun x1 =>
  (rect_Right x1.Base).bind fun x2 =>
  if ((((!x2) || (decide (x1.Z0 < 0))) || (decide (x1.Z1 ≤ x1.Z0))) || (decide (4096 < x1.Z1))) then
   some (.ret (([] : List Slab), 1))
  else
   (appI s1.1 ([(⟨x1.Z0, x1.Z1, []⟩ : Slab)])).bind fun x3 =>
   (addI s1.2 1).bind fun x4 =>
   some (.go (x3, x4))
 else
  some (.ex 0 (s1.1, s1.2))
def solid_Of_L2 (l_ : (List Box)) (x1 : (List Int)) (s1 : (List Slab) × Int) (s2 : (List Rect) × Int) : Option (Flow ((List Rect) × Int) ((List Slab) × Int)) :=
 if (decide (s2.2 < (l_.length : Int))) then
  (getI l_ s2.2).bind fun x2 =>
  (getI x1 s1.2).bind fun x3 =>
  (if (decide (x2.Z0 < x3)) then
   (subI s1.2 1).bind fun x4 =>
   (getI x1 x4).bind fun x5 =>
   some (decide (x5 < x2.Z1))
  else
   some false).bind fun x6 =>
  (if x6 then
   (appI s2.1 ([x2.Base])).bind fun x7 =>
   some x7
  else
   some s2.1).bind fun s3 =>
  (addI s2.2 1).bind fun x8 =>
  some (.go (s3, x8))
 else
  some (.ex 4 (s2.1, s2.2))
def solid_Of_L1 (l_ : (List Box)) (x1 : (List Int)) (s1 : (List Slab) × Int) : Option (Flow ((List Slab) × Int) ((List Slab) × Int)) :=
 if (decide (s1.2 < (x1.length : Int))) then
  (iterL (solid_Of_L2 l_ x1 s1) (l_.length + 1) (([] : List Rect), 0)).bind fun f1 => match f1 with
   | .go _ => none
   | .ex _ s2 =>
    (region_Of s2.1).bind fun x2 =>
    if (x2.2 != 0) then
     some (.ret (([] : List Slab), x2.2))
    else
     (subI s1.2 1).bind fun x3 =>
     (getI x1 x3).bind fun x4 =>
     (getI x1 s1.2).bind fun x5 =>
     (solid_put s1.1 (⟨x4, x5, x2.1⟩ : Slab)).bind fun x6 =>
     (addI s1.2 1).bind fun x7 =>
     some (.go (x6, x7))
   | .ret r1 => some (.ret r1)
 else
  some (.ex 2 (s1.1, s1.2))
def solid_Of (l_ : (List Box)) : Option ((List Slab) × Int) :=
 (iterL (solid_Of_L0 l_) (l_.length + 1) (([] : List Slab), 0)).bind fun f1 => match f1 with
  | .go _ => none
  | .ex _ s1 =>
   if (decide (200 < (l_.length : Int))) then
    some (([] : List Slab), 6)
   else
    (solid_heights ([s1.1])).bind fun x1 =>
    (iterL (solid_Of_L1 l_ x1) (l_.length + x1.length + ([] : List Slab).length + 1) (([] : List Slab), 1)).bind fun f2 => match f2 with
     | .go _ => none
     | .ex _ s2 =>
      (solid_fits s2.1).bind fun x2 =>
      some (x2.1, x2.2)
     | .ret r1 => some r1
  | .ret r2 => some r2
theorem solid_Of_ok {k0 : K} {v0 : Value} {l_ : (List Box)} {r : (List Slab) × Int} (i0 : (IsV l_) v0 k0) (hr : solid_Of l_ = some r) :
  Calls Try.prog 23 #[v0] k0.w (Ret k0 (IsTup2 (IsV r.1) (IsV r.2))) := by
 unfold solid_Of at hr
 refine Ret.ofC ?_
 refine enterK Try.func23 rfl Try.ntmps23 (show 1 ≤ 117 by decide) fun a k hk0 hs hd ha => ?_
 obtain ⟨e0, _⟩ := ha
 replace i0 : (IsV l_) (a.get 0) k := by rw [e0, hk0]; exact i0
 have hQ : Gb.LetsOut (bodyPost Try.prog Try.f23 (RetC noF k0 (IsTup2 (IsV r.1) (IsV r.2)))) := letsOutC
 have hg : Chg noF k0 k := by rw [hk0]; exact Chg.refl _ k0
 refine stepL 2 (⟨some IsE0, []⟩ :: ⟨some (IsI 0), []⟩ :: []) rfl ⟨hg, hs, hd⟩ (by kernel_rfl) ⟨ob1 rfl fun b q h n => ok_assign rfl isE0_nil, aI rfl rfl, trivial⟩ [⟨_, _⟩] (fun b q p => ⟨p.ke 0 rfl i0, trivial⟩) ?_
 rintro a k ⟨⟨hg, hs, hd⟩, i0, _⟩
 refine cutS (fun c l => Bs noF k0 117 c l ∧ IsV l_ (c.get 0) l ∧ IsOwn 0 51 ([] : List Slab) (c.get 4) l ∧ Lo k0 (obF (c.get 4)) ∧ True) ?_ ?_
 ·intro Q1 W1 w1
  refine gS 1 (⟨some IsE0, []⟩ :: []) hs (by kernel_rfl) ⟨ob1 rfl fun b q h n => ok_assign rfl isE0_nil, trivial⟩ W1 fun b q p => ?_
  have hgq := hg.then p.grow
  have hsb := p.size.trans hs
  have hdb := p.defers.trans hd
  have j0 := p.ke 0 rfl i0
  have j4 : IsE0 (b.get 4) q := p.ou 0 4 rfl
  have y4 : Lo k0 (obF (b.get 4)) := j4.lo
  replace j4 : IsOwn 0 51 ([] : List Slab) (b.get 4) q := j4.own0
  exact tail_done (k := q) (w1 _ _ ⟨⟨hgq, hsb, hdb⟩, j0, j4, y4, trivial⟩)
 rintro a k ⟨⟨hg, hs, hd⟩, i0, i4, n4, _⟩
 refine wp_seq ?_
 refine cutS (fun c l => Bs noF k0 117 c l ∧ IsV l_ (c.get 0) l ∧ IsOwn 0 51 ([] : List Slab) (c.get 4) l ∧ Lo k0 (obF (c.get 4)) ∧ IsV l_ (c.get 15) l ∧ IsL l_ (c.get 16) l ∧ IsI 0 (c.get 17) l ∧ True) ?_ ?_
 ·intro Q2 W2 w2
  refine gS 3 (_ :: _ :: ⟨some (IsI 0), []⟩ :: []) hs (by kernel_rfl) ⟨mu rfl i0, o1 [(15, some 0)] rfl fun _ _ h n => ok_len rfl rfl Try.underlying31 (IsV.rd n.1), ob1 rfl fun _ _ h n => ok_move rfl (cI rfl), trivial⟩ W2 fun b q p => ?_
  exact tail_done (k := q) (w2 _ _ ⟨Bs.post ⟨hg, hs, hd⟩ p, p.ke 0 rfl i0, p.ke 4 rfl i4, (by rw [p.old 4 rfl]; exact n4), p.ou 0 15 rfl, p.ou 1 16 rfl, p.ou 2 17 rfl, trivial⟩)
 rintro a k ⟨⟨hg, hs, hd⟩, i0, i4, n4, i15, i16, i17, _⟩
 refine wp_block ?_
 obtain ⟨f1, hf1, hr⟩ := bind_some hr
 refine cutFe f1 (fun s' c l => Bs noF k0 117 c l ∧ IsV l_ (c.get 0) l ∧ IsOwn 0 51 s'.1 (c.get 4) l ∧ Lo k0 (obF (c.get 4)) ∧ IsV l_ (c.get 15) l ∧ IsL l_ (c.get 16) l ∧ IsV s'.2 (c.get 17) l ∧ True) (fun i' s' c l => (i' = 0 ∧ Bs noF k0 117 c l ∧ IsV l_ (c.get 0) l ∧ IsV s'.1 (c.get 4) l ∧ True)) (fun r' c l => bodyPost Try.prog Try.f23 (RetC noF k0 (IsTup2 (IsV r'.1) (IsV r'.2))) .ret c l.w) ?_ hQ ?_ ?_ ?_
 ·intro Q3 W3 hgo hex hret
  refine sim_loop ?_ _ _ _ _ _ hf1 ⟨⟨hg, hs, hd⟩, i0, i4, n4, i15, i16, i17, trivial⟩ Q3 W3 hgo hex hret
  clear hr hf1 hgo hex hret W3 hQ hg hs hd i0 i15 i16 i17 i4 n4
  intro s1 fl_ a k hr hS Q hQ hgo1719 hex1720 hret1721
  obtain ⟨⟨hg, hs, hd⟩, i0, i4, n4, i15, i16, i17, _⟩ := hS
  unfold solid_Of_L0 at hr
  refine cutS (fun c l => Bs noF k0 117 c l ∧ IsV l_ (c.get 0) l ∧ IsOwn 0 51 s1.1 (c.get 4) l ∧ Lo k0 (obF (c.get 4)) ∧ IsV l_ (c.get 15) l ∧ IsL l_ (c.get 16) l ∧ IsV s1.2 (c.get 17) l ∧ (IsV (decide (s1.2 < (l_.length : Int)))) (c.get 18) l ∧ True) ?_ ?_
  ·intro Q4 W4 w3
   refine gS 1 (_ :: []) hs (by kernel_rfl) ⟨o1 [(17, none), (16, none)] rfl fun _ _ h n => ok_lss rfl (up i17 h n.1) (up i16 h n.2.1), trivial⟩ W4 fun b q p => ?_
   exact tail_done (k := q) (w3 _ _ ⟨Bs.post ⟨hg, hs, hd⟩ p, p.ke 0 rfl i0, p.ke 4 rfl i4, (by rw [p.old 4 rfl]; exact n4), p.ke 15 rfl i15, p.ke 16 rfl i16, p.ke 17 rfl i17, p.ou 0 18 rfl, trivial⟩)
  rintro a k ⟨⟨hg, hs, hd⟩, i0, i4, n4, i15, i16, i17, i18, _⟩
  refine wp_seq ?_
  refine wp_cond_split (isBool i18) (fun hc1740 => ?_) (fun hc1740 => ?_)
  ·rw [if_pos hc1740] at hr
   refine wp_skip ?_
   refine wp_seq ?_
   refine wp_block ?_
   refine wp_seq ?_
   obtain ⟨x1, hx1, hr⟩ := bind_some hr
   refine cut (fun a' k' => Bs noF k0 117 a' k' ∧ (IsV l_) (a'.get 0) k' ∧ IsOwn 0 51 s1.1 (a'.get 4) k' ∧ Lo k0 (obF (a'.get 4)) ∧ (IsRef x1) (a'.get 6) k' ∧ (IsV l_) (a'.get 15) k' ∧ (IsL l_) (a'.get 16) k' ∧ (IsV s1.2) (a'.get 17) k' ∧ True) ?_ hQ ?_
   ·intro Q5 W5 w4
    refine gS 3 (_ :: _ :: ⟨some (IsBox k.w.heap.size (⟨(⟨0, 0, 0, 0⟩ : Rect), 0, 0⟩ : Box)), []⟩ :: []) hs (by kernel_rfl) ⟨o1 [(15, none), (17, none)] rfl fun _ _ h n => ok_indexAddr rfl Try.underlying31 ty37 (IsV.rd (up i15 h n.1)) (up i17 h n.2.1) hx1, o1 [(19, some 0)] rfl fun _ _ h n => ok_load rfl ty37 n.1, ob1 rfl fun _ _ h n => ok_alloc _ h.size rfl z37, trivial⟩ W5 fun b q p => ?_
    have hgq := hg.then p.grow
    have hsb := p.size.trans hs
    have hdb := p.defers.trans hd
    have j0 := p.ke 0 rfl i0
    have j4 := p.ke 4 rfl i4
    have y4 : Lo k0 (obF (b.get 4)) := by rw [p.old 4 rfl]; exact n4
    obtain ⟨b6, j6, x6, z6⟩ : (IsBox k.w.heap.size (⟨(⟨0, 0, 0, 0⟩ : Rect), 0, 0⟩ : Box)) (b.get 6) q := p.ou 2 6 rfl
    replace x6 : Lo k (Eq b6) := Lo.eq x6
    have y6 : Lo k0 (Eq b6) := x6.chg hg
    have j15 := p.ke 15 rfl i15
    have j16 := p.ke 16 rfl i16
    have j17 := p.ke 17 rfl i17
    have j20 : (IsV x1) (b.get 20) q := p.ou 1 20 rfl
    have w4_6 : Apart (obF (b.get 4)) (Eq b6) := Apart.new (by rw [p.old 4 rfl]; exact i4.ltF) x6
    have hns := z6.nshF
    refine tail_storeB (i := 3) rfl rfl rfl rfl szf37 (Upd.self (α := Box)) j6 z6 j20 fun q2 hch hz => ?_
    replace hgq := hgq.step hch y6.wr
    have hle := hch.le hns
    replace j0 := Pers.pers hle j0
    replace j4 := j4.keep hch w4_6 hns
    replace j15 := Pers.pers hle j15
    replace j16 := Pers.pers hle j16
    replace j17 := Pers.pers hle j17
    replace j20 := Pers.pers hle j20
    replace z6 := hz
    clear hns hle hch
    obtain ⟨q, hqq⟩ : ∃ q, q = q2 := ⟨q2, rfl⟩
    subst hqq
    obtain ⟨q2, hsh, jn⟩ := z6.give
    replace j0 := Pers.pers hsh.le j0
    replace j4 := j4.handed hsh w4_6
    replace j15 := Pers.pers hsh.le j15
    replace j16 := Pers.pers hsh.le j16
    replace j17 := Pers.pers hsh.le j17
    rw [← j6] at jn
    replace j6 := jn
    replace hgq := hgq.hand hsh y6.wr
    rw [← hsh.w]
    clear hsh
    obtain ⟨q, hqq⟩ : ∃ q, q = q2 := ⟨q2, rfl⟩
    subst hqq
    exact tail_done (k := q) (w4 _ _ ⟨⟨hgq, hsb, hdb⟩, j0, j4, y4, j6, j15, j16, j17, trivial⟩)
   rintro a k ⟨⟨hg, hs, hd⟩, i0, i4, n4, i6, i15, i16, i17, _⟩
   refine wp_seq ?_
   refine wp_seq ?_
   obtain ⟨x2, hx2, hr⟩ := bind_some hr
   refine cut (fun a' k' => Bs noF k0 117 a' k' ∧ (IsV l_) (a'.get 0) k' ∧ IsOwn 0 51 s1.1 (a'.get 4) k' ∧ Lo k0 (obF (a'.get 4)) ∧ (IsRef x1) (a'.get 6) k' ∧ (IsV l_) (a'.get 15) k' ∧ (IsL l_) (a'.get 16) k' ∧ (IsV s1.2) (a'.get 17) k' ∧ (IsV ((((!x2) || (decide (x1.Z0 < 0))) || (decide (x1.Z1 ≤ x1.Z0))) || (decide (4096 < x1.Z1)))) (a'.get 41) k' ∧ True) ?_ hQ ?_
   ·intro Q6 W6 w5
    refine gS 21 (_ :: _ :: _ :: _ :: _ :: _ :: _ :: _ :: _ :: _ :: _ :: _ :: _ :: _ :: _ :: _ :: _ :: _ :: _ :: _ :: _ :: []) hs (by kernel_rfl) ⟨o1 [(6, none)] rfl fun _ _ h n => ok_fieldAddr rfl fo37_0 (at_Box_0 _) ((up i6 h n.1)).ptr, o1 [(21, some 0)] rfl fun _ _ h n => ok_load rfl ty35 n.1, o1 [(22, some 1)] rfl fun _ _ h n => ok_call rfl Try.call35 (rect_Right_ok n.1 hx2), o1 [(23, some 2)] rfl fun _ _ h n => ok_not rfl n.1, cm 3 rfl rfl, gF [(6, none)] rfl rfl fun hp _ _ h n => ok_fieldAddr rfl fo37_1 (at_Box_1 _) ((up i6 h n.1)).ptr, gF [(26, some 5)] rfl rfl fun hp _ _ h n => ok_load rfl ty3 (Gd.get n.1 hp), gF [(27, some 6)] rfl rfl fun hp _ _ h n => ok_lss rfl (Gd.get n.1 hp) (cI rfl), o1 [(25, some 4), (28, some 7)] rfl fun _ _ h n => ok_pickOr rfl n.1 (cB rfl) (Gd.get n.2.1), cm 8 rfl rfl, gF [(6, none)] rfl rfl fun hp _ _ h n => ok_fieldAddr rfl fo37_1 (at_Box_1 _) ((up i6 h n.1)).ptr, gF [(31, some 10)] rfl rfl fun hp _ _ h n => ok_load rfl ty3 (Gd.get n.1 hp), gF [(6, none)] rfl rfl fun hp _ _ h n => ok_fieldAddr rfl fo37_2 (at_Box_2 _) ((up i6 h n.1)).ptr, gF [(33, some 12)] rfl rfl fun hp _ _ h n => ok_load rfl ty3 (Gd.get n.1 hp), gF [(32, some 11), (34, some 13)] rfl rfl fun hp _ _ h n => ok_geq rfl (Gd.get n.1 hp) (Gd.get n.2.1 hp), o1 [(30, some 9), (35, some 14)] rfl fun _ _ h n => ok_pickOr rfl n.1 (cB rfl) (Gd.get n.2.1), cm 15 rfl rfl, gF [(6, none)] rfl rfl fun hp _ _ h n => ok_fieldAddr rfl fo37_2 (at_Box_2 _) ((up i6 h n.1)).ptr, gF [(38, some 17)] rfl rfl fun hp _ _ h n => ok_load rfl ty3 (Gd.get n.1 hp), gF [(39, some 18)] rfl rfl fun hp _ _ h n => ok_gtr rfl (Gd.get n.1 hp) (cI rfl), o1 [(37, some 16), (40, some 19)] rfl fun _ _ h n => ok_pickOr rfl n.1 (cB rfl) (Gd.get n.2.1), trivial⟩ W6 fun b q p => ?_
    exact tail_done (k := q) (w5 _ _ ⟨Bs.post ⟨hg, hs, hd⟩ p, p.ke 0 rfl i0, p.ke 4 rfl i4, (by rw [p.old 4 rfl]; exact n4), p.ke 6 rfl i6, p.ke 15 rfl i15, p.ke 16 rfl i16, p.ke 17 rfl i17, p.ou 20 41 rfl, trivial⟩)
   rintro a k ⟨⟨hg, hs, hd⟩, i0, i4, n4, i6, i15, i16, i17, i41, _⟩
   refine wp_cond_split (isBool i41) (fun hc1734 => ?_) (fun hc1734 => ?_)
   ·rw [if_pos hc1734] at hr
    refine cutL noF k0 117 [⟨2, IsV ([] : List Slab)⟩, ⟨3, IsI 1⟩] ?_ ?_
    ·intro Q7 W7 w6
     refine gS 2 (⟨some IsE0, []⟩ :: ⟨some (IsI 1), []⟩ :: []) hs (by kernel_rfl) ⟨ob1 rfl fun b q h n => ok_assign rfl isE0_nil, aI rfl rfl, trivial⟩ W7 fun b q p => ?_
     have hgq := hg.then p.grow
     have hsb := p.size.trans hs
     have hdb := p.defers.trans hd
     have j2 : IsE0 (b.get 2) q := p.ou 0 2 rfl
     have j3 : (IsI 1) (b.get 3) q := p.ou 1 3 rfl
     replace j2 : IsV ([] : List Slab) (b.get 2) q := j2.isV
     exact tail_done (k := q) (w6 _ _ ⟨⟨hgq, hsb, hdb⟩, j2, j3, trivial⟩)
    rintro a k ⟨⟨hg, hs, hd⟩, i2, i3, _⟩
    refine wp_ret ?_
    exact hret1721 _ _ _ (Option.some.inj hr).symm (retC2 rfl hd hg i2 i3)
   rw [if_neg (by rw [hc1734]; decide)] at hr
   refine wp_skip ?_
   obtain ⟨x3, hx3, hr⟩ := bind_some hr
   refine cut (fun a' k' => Bs noF k0 117 a' k' ∧ (IsV l_) (a'.get 0) k' ∧ IsOwn 0 51 x3 (a'.get 4) k' ∧ Lo k0 (obF (a'.get 4)) ∧ (IsV l_) (a'.get 15) k' ∧ (IsL l_) (a'.get 16) k' ∧ (IsV s1.2) (a'.get 17) k' ∧ True) ?_ hQ ?_
   ·intro Q8 W8 w7
    refine gS 7 (⟨some (OwnAt (a.get 4) 0 51 s1.1), [(4, none)]⟩ :: _ :: _ :: _ :: _ :: ⟨some (IsV (⟨x1.Z0, x1.Z1, []⟩ : Slab)), [(44, some 2), (46, some 4)]⟩ :: ⟨some (IsV (α := (List Slab)) ([(⟨x1.Z0, x1.Z1, []⟩ : Slab)])), [(47, some 5)]⟩ :: []) hs (by kernel_rfl) ⟨ob1 rfl fun _ _ h n => ok_moveOA (.inl rfl) (ownAt n.1 (up i4 h n.1)), o1 [(6, none)] rfl fun _ _ h n => ok_fieldAddr rfl fo37_1 (at_Box_1 _) ((up i6 h n.1)).ptr, o1 [(43, some 1)] rfl fun _ _ h n => ok_load rfl ty3 n.1, o1 [(6, none)] rfl fun _ _ h n => ok_fieldAddr rfl fo37_2 (at_Box_2 _) ((up i6 h n.1)).ptr, o1 [(45, some 3)] rfl fun _ _ h n => ok_load rfl ty3 n.1, ob1 rfl fun _ _ h n => ok_build rfl (bld51_0_1 n.1 n.2.1), ob1 rfl fun _ _ h n => ok_buildSlice rfl Try.underlying22 eo51 rfl (by decide) (by decide) ⟨rfl, n.1, trivial⟩, trivial⟩ W8 fun b q p => ?_
    have hgq := hg.then p.grow
    have hsb := p.size.trans hs
    have hdb := p.defers.trans hd
    have j0 := p.ke 0 rfl i0
    have j15 := p.ke 15 rfl i15
    have j16 := p.ke 16 rfl i16
    have j17 := p.ke 17 rfl i17
    have e42 : b.get 42 = a.get 4 := (p.ou 0 42 rfl).1
    have j42 : IsOwn 0 51 s1.1 (b.get 42) q := (p.ou 0 42 rfl).2
    have y42 : Lo k0 (obF (b.get 42)) := by rw [e42]; exact n4
    have j48 : (IsV (α := (List Slab)) ([(⟨x1.Z0, x1.Z1, []⟩ : Slab)])) (b.get 48) q := p.ou 6 48 rfl
    have hns := j42.nshF
    refine tail_appendS (i := 7) (d := 49) rfl rfl rfl rfl (by rw [hsb]; decide) (e := 51) Try.underlying22 eo51 j42 (IsV.rd j48) hx3 fun b2 q2 hsz hdf hoth hch hown hob => ?_
    have hle := hch.le hns
    have yn : Lo k0 (obF (b2.get 49)) := y42.app hgq hob
    replace j0 := Pers.pers hle j0
    replace j15 := Pers.pers hle j15
    replace j16 := Pers.pers hle j16
    replace j17 := Pers.pers hle j17
    replace j48 := Pers.pers hle j48
    replace hgq := hgq.step hch y42.wr
    rw [← hoth 0 (by decide)] at j0
    rw [← hoth 15 (by decide)] at j15
    rw [← hoth 16 (by decide)] at j16
    rw [← hoth 17 (by decide)] at j17
    rw [← hoth 48 (by decide)] at j48
    have j49 := hown
    have y49 := yn
    replace hsb := hsz.trans hsb
    replace hdb := hdf.trans hdb
    clear hle hch hown hob hns yn hsz hdf hoth
    obtain ⟨b, hbb⟩ : ∃ b, b = b2 := ⟨b2, rfl⟩
    subst hbb
    obtain ⟨q, hqq⟩ : ∃ q, q = q2 := ⟨q2, rfl⟩
    subst hqq
    refine tail_assign (i := 8) (d := 4) rfl rfl (.inl rfl) rfl (by rw [hsb]; decide) fun b2 hsz hdf hnew hoth => ?_
    have jn : (IsOwn 0 51 x3) (b2.get 4) q := by rw [hnew]; exact j49
    have yn : Lo k0 (obF (b2.get 4)) := by rw [hnew]; exact y49
    rw [← hoth 0 (by decide)] at j0
    rw [← hoth 15 (by decide)] at j15
    rw [← hoth 16 (by decide)] at j16
    rw [← hoth 17 (by decide)] at j17
    rw [← hoth 48 (by decide)] at j48
    have j4 := jn
    have y4 := yn
    replace hsb := hsz.trans hsb
    replace hdb := hdf.trans hdb
    clear hsz hdf hoth
    obtain ⟨b, hbb⟩ : ∃ b, b = b2 := ⟨b2, rfl⟩
    subst hbb
    exact tail_done (k := q) (w7 _ _ ⟨⟨hgq, hsb, hdb⟩, j0, j4, y4, j15, j16, j17, trivial⟩)
   rintro a k ⟨⟨hg, hs, hd⟩, i0, i4, n4, i15, i16, i17, _⟩
   obtain ⟨x4, hx4, hr⟩ := bind_some hr
   refine cut (fun a' k' => Bs noF k0 117 a' k' ∧ (IsV l_) (a'.get 0) k' ∧ IsOwn 0 51 x3 (a'.get 4) k' ∧ Lo k0 (obF (a'.get 4)) ∧ (IsV l_) (a'.get 15) k' ∧ (IsL l_) (a'.get 16) k' ∧ (IsV x4) (a'.get 17) k' ∧ True) ?_ hQ ?_
   ·intro Q9 W9 w8
    refine gS 2 (_ :: _ :: []) hs (by kernel_rfl) ⟨o1 [(17, none)] rfl fun _ _ h n => ok_add rfl (up i17 h n.1) (cI rfl) hx4, cm 0 rfl rfl, trivial⟩ W9 fun b q p => ?_
    exact tail_done (k := q) (w8 _ _ ⟨Bs.post ⟨hg, hs, hd⟩ p, p.ke 0 rfl i0, p.ke 4 rfl i4, (by rw [p.old 4 rfl]; exact n4), p.ke 15 rfl i15, p.ke 16 rfl i16, p.ou 1 17 rfl, trivial⟩)
   rintro a k ⟨⟨hg, hs, hd⟩, i0, i4, n4, i15, i16, i17, _⟩
   exact hgo1719 _ _ _ (Option.some.inj hr).symm ⟨⟨hg, hs, hd⟩, i0, i4, n4, i15, i16, i17, trivial⟩
  rw [if_neg (by rw [hc1740]; decide)] at hr
  refine wp_exit ?_
  obtain ⟨kk, sh1739, ii4⟩ := i4.give
  replace i0 := Pers.pers sh1739.le i0
  replace i4 := ii4
  replace hg := hg.hand sh1739 n4.wr
  rw [← sh1739.w]
  clear sh1739
  obtain ⟨k, hkk⟩ : ∃ k, k = kk := ⟨kk, rfl⟩
  subst hkk
  exact hex1720 _ _ _ _ (Option.some.inj hr).symm ⟨rfl, ⟨hg, hs, hd⟩, i0, i4, trivial⟩
 ·rintro r1 a k rfl hR
  dsimp only at hr
  obtain rfl := Option.some.inj hr
  exact hR
 ·rintro _ _ _ rfl _
  simp at hr
 clear hf1
 rintro _ s2 a k rfl ⟨rfl, ⟨hg, hs, hd⟩, i0, i4, _⟩
 dsimp only at hr
 refine wp_seq ?_
 refine stepL 3 (_ :: _ :: _ :: []) rfl ⟨hg, hs, hd⟩ (by kernel_rfl) ⟨mu rfl i0, o1 [(51, some 0)] rfl fun _ _ h n => ok_len rfl rfl Try.underlying31 (IsV.rd n.1), o1 [(52, some 1)] rfl fun _ _ h n => ok_gtr rfl n.1 (cI rfl), trivial⟩ [⟨_, _⟩, ⟨_, _⟩, ⟨_, _⟩] (fun b q p => ⟨p.ke 0 rfl i0, p.ke 4 rfl i4, p.ou 2 53 rfl, trivial⟩) ?_
 rintro a k ⟨⟨hg, hs, hd⟩, i0, i4, i53, _⟩
 refine wp_cond_split (isBool i53) (fun hc1825 => ?_) (fun hc1825 => ?_)
 ·rw [if_pos hc1825] at hr
  refine cutL noF k0 117 [⟨2, IsV ([] : List Slab)⟩, ⟨3, IsI 6⟩] ?_ ?_
  ·intro Q10 W10 w9
   refine gS 2 (⟨some IsE0, []⟩ :: ⟨some (IsI 6), []⟩ :: []) hs (by kernel_rfl) ⟨ob1 rfl fun b q h n => ok_assign rfl isE0_nil, aI rfl rfl, trivial⟩ W10 fun b q p => ?_
   have hgq := hg.then p.grow
   have hsb := p.size.trans hs
   have hdb := p.defers.trans hd
   have j2 : IsE0 (b.get 2) q := p.ou 0 2 rfl
   have j3 : (IsI 6) (b.get 3) q := p.ou 1 3 rfl
   replace j2 : IsV ([] : List Slab) (b.get 2) q := j2.isV
   exact tail_done (k := q) (w9 _ _ ⟨⟨hgq, hsb, hdb⟩, j2, j3, trivial⟩)
  rintro a k ⟨⟨hg, hs, hd⟩, i2, i3, _⟩
  refine wp_ret ?_
  obtain rfl := Option.some.inj hr
  exact retC2 rfl hd hg i2 i3
 rw [if_neg (by rw [hc1825]; decide)] at hr
 refine wp_skip ?_
 refine wp_seq ?_
 obtain ⟨x5, hx5, hr⟩ := bind_some hr
 refine cut (fun a' k' => Bs noF k0 117 a' k' ∧ (IsV l_) (a'.get 0) k' ∧ (IsV x5) (a'.get 7) k' ∧ True) ?_ hQ ?_
 ·intro Q11 W11 w10
  refine gS 4 (_ :: ⟨some (IsV (α := (List (List Slab))) ([s2.1])), [(54, some 0)]⟩ :: _ :: _ :: []) hs (by kernel_rfl) ⟨mu rfl i4, ob1 rfl fun _ _ h n => ok_buildSlice rfl Try.underlying84 eo22 rfl (by decide) (by decide) ⟨rfl, n.1, trivial⟩, o1 [(55, some 1)] rfl fun _ _ h n => ok_call rfl Try.call36 (solid_heights_ok n.1 hx5), cp 2 rfl rfl, trivial⟩ W11 fun b q p => ?_
  exact tail_done (k := q) (w10 _ _ ⟨Bs.post ⟨hg, hs, hd⟩ p, p.ke 0 rfl i0, p.ou 3 7 rfl, trivial⟩)
 rintro a k ⟨⟨hg, hs, hd⟩, i0, i7, _⟩
 refine cutS (fun c l => Bs noF k0 117 c l ∧ IsV l_ (c.get 0) l ∧ IsV x5 (c.get 7) l ∧ IsOwn 0 51 ([] : List Slab) (c.get 8) l ∧ Lo k0 (obF (c.get 8)) ∧ True) ?_ ?_
 ·intro Q12 W12 w11
  refine gS 1 (⟨some IsE0, []⟩ :: []) hs (by kernel_rfl) ⟨ob1 rfl fun b q h n => ok_assign rfl isE0_nil, trivial⟩ W12 fun b q p => ?_
  have hgq := hg.then p.grow
  have hsb := p.size.trans hs
  have hdb := p.defers.trans hd
  have j0 := p.ke 0 rfl i0
  have j7 := p.ke 7 rfl i7
  have j8 : IsE0 (b.get 8) q := p.ou 0 8 rfl
  have y8 : Lo k0 (obF (b.get 8)) := j8.lo
  replace j8 : IsOwn 0 51 ([] : List Slab) (b.get 8) q := j8.own0
  exact tail_done (k := q) (w11 _ _ ⟨⟨hgq, hsb, hdb⟩, j0, j7, j8, y8, trivial⟩)
 rintro a k ⟨⟨hg, hs, hd⟩, i0, i7, i8, n8, _⟩
 refine wp_seq ?_
 refine cutS (fun c l => Bs noF k0 117 c l ∧ IsV l_ (c.get 0) l ∧ IsV x5 (c.get 7) l ∧ IsOwn 0 51 ([] : List Slab) (c.get 8) l ∧ Lo k0 (obF (c.get 8)) ∧ IsI 1 (c.get 9) l ∧ True) ?_ ?_
 ·intro Q13 W13 w12
  refine gS 1 (⟨some (IsI 1), []⟩ :: []) hs (by kernel_rfl) ⟨aI rfl rfl, trivial⟩ W13 fun b q p => ?_
  exact tail_done (k := q) (w12 _ _ ⟨Bs.post ⟨hg, hs, hd⟩ p, p.ke 0 rfl i0, p.ke 7 rfl i7, p.ke 8 rfl i8, (by rw [p.old 8 rfl]; exact n8), p.ou 0 9 rfl, trivial⟩)
 rintro a k ⟨⟨hg, hs, hd⟩, i0, i7, i8, n8, i9, _⟩
 refine wp_block ?_
 obtain ⟨f2, hf2, hr⟩ := bind_some hr
 refine cutFe f2 (fun s' c l => Bs noF k0 117 c l ∧ IsV l_ (c.get 0) l ∧ IsV x5 (c.get 7) l ∧ IsOwn 0 51 s'.1 (c.get 8) l ∧ Lo k0 (obF (c.get 8)) ∧ IsV s'.2 (c.get 9) l ∧ True) (fun i' s' c l => (i' = 2 ∧ Bs noF k0 117 c l ∧ IsV s'.1 (c.get 8) l ∧ True)) (fun r' c l => bodyPost Try.prog Try.f23 (RetC noF k0 (IsTup2 (IsV r'.1) (IsV r'.2))) .ret c l.w) ?_ hQ ?_ ?_ ?_
 ·intro Q14 W14 hgo hex hret
  refine sim_loop ?_ _ _ _ _ _ hf2 ⟨⟨hg, hs, hd⟩, i0, i7, i8, n8, i9, trivial⟩ Q14 W14 hgo hex hret
  clear hr hf2 hgo hex hret W14 hQ hg hs hd i0 i7 i8 i9 n8
  intro s3 fl_ a k hr hS Q hQ hgo1753 hex1754 hret1755
  obtain ⟨⟨hg, hs, hd⟩, i0, i7, i8, n8, i9, _⟩ := hS
  unfold solid_Of_L1 at hr
  refine wp_seq ?_
  refine cutS (fun c l => Bs noF k0 117 c l ∧ IsV l_ (c.get 0) l ∧ IsV x5 (c.get 7) l ∧ IsOwn 0 51 s3.1 (c.get 8) l ∧ Lo k0 (obF (c.get 8)) ∧ IsV s3.2 (c.get 9) l ∧ (IsV (decide (s3.2 < (x5.length : Int)))) (c.get 60) l ∧ True) ?_ ?_
  ·intro Q15 W15 w13
   refine gS 4 (_ :: _ :: _ :: _ :: []) hs (by kernel_rfl) ⟨mu rfl i9, mu rfl i7, o1 [(58, some 1)] rfl fun _ _ h n => ok_len rfl rfl Try.underlying63 (IsV.rd n.1), o1 [(57, some 0), (59, some 2)] rfl fun _ _ h n => ok_lss rfl n.1 n.2.1, trivial⟩ W15 fun b q p => ?_
   exact tail_done (k := q) (w13 _ _ ⟨Bs.post ⟨hg, hs, hd⟩ p, p.ke 0 rfl i0, p.ke 7 rfl i7, p.ke 8 rfl i8, (by rw [p.old 8 rfl]; exact n8), p.ke 9 rfl i9, p.ou 3 60 rfl, trivial⟩)
  rintro a k ⟨⟨hg, hs, hd⟩, i0, i7, i8, n8, i9, i60, _⟩
  refine wp_cond_split (isBool i60) (fun hc1809 => ?_) (fun hc1809 => ?_)
  ·rw [if_pos hc1809] at hr
   refine wp_skip ?_
   refine wp_seq ?_
   refine wp_block ?_
   refine cutS (fun c l => Bs noF k0 117 c l ∧ IsV l_ (c.get 0) l ∧ IsV x5 (c.get 7) l ∧ IsOwn 0 51 s3.1 (c.get 8) l ∧ Lo k0 (obF (c.get 8)) ∧ IsV s3.2 (c.get 9) l ∧ IsOwn 0 35 ([] : List Rect) (c.get 10) l ∧ Lo k0 (obF (c.get 10)) ∧ Apart (obF (c.get 8)) (obF (c.get 10)) ∧ True) ?_ ?_
   ·intro Q16 W16 w14
    refine gS 1 (⟨some IsE0, []⟩ :: []) hs (by kernel_rfl) ⟨ob1 rfl fun b q h n => ok_assign rfl isE0_nil, trivial⟩ W16 fun b q p => ?_
    have hgq := hg.then p.grow
    have hsb := p.size.trans hs
    have hdb := p.defers.trans hd
    have j0 := p.ke 0 rfl i0
    have j7 := p.ke 7 rfl i7
    have j8 := p.ke 8 rfl i8
    have y8 : Lo k0 (obF (b.get 8)) := by rw [p.old 8 rfl]; exact n8
    have j9 := p.ke 9 rfl i9
    have j10 : IsE0 (b.get 10) q := p.ou 0 10 rfl
    have y10 : Lo k0 (obF (b.get 10)) := j10.lo
    have w8_10 : Apart (obF (b.get 8)) (obF (b.get 10)) := j10.apart.symm
    replace j10 : IsOwn 0 35 ([] : List Rect) (b.get 10) q := j10.own0
    exact tail_done (k := q) (w14 _ _ ⟨⟨hgq, hsb, hdb⟩, j0, j7, j8, y8, j9, j10, y10, w8_10, trivial⟩)
   rintro a k ⟨⟨hg, hs, hd⟩, i0, i7, i8, n8, i9, i10, n10, d8_10, _⟩
   refine wp_seq ?_
   refine cutS (fun c l => Bs noF k0 117 c l ∧ IsV l_ (c.get 0) l ∧ IsV x5 (c.get 7) l ∧ IsOwn 0 51 s3.1 (c.get 8) l ∧ Lo k0 (obF (c.get 8)) ∧ IsV s3.2 (c.get 9) l ∧ IsOwn 0 35 ([] : List Rect) (c.get 10) l ∧ Lo k0 (obF (c.get 10)) ∧ IsV l_ (c.get 63) l ∧ IsL l_ (c.get 64) l ∧ IsI 0 (c.get 65) l ∧ Apart (obF (c.get 8)) (obF (c.get 10)) ∧ True) ?_ ?_
   ·intro Q17 W17 w15
    refine gS 3 (_ :: _ :: ⟨some (IsI 0), []⟩ :: []) hs (by kernel_rfl) ⟨mu rfl i0, o1 [(63, some 0)] rfl fun _ _ h n => ok_len rfl rfl Try.underlying31 (IsV.rd n.1), ob1 rfl fun _ _ h n => ok_move rfl (cI rfl), trivial⟩ W17 fun b q p => ?_
    exact tail_done (k := q) (w15 _ _ ⟨Bs.post ⟨hg, hs, hd⟩ p, p.ke 0 rfl i0, p.ke 7 rfl i7, p.ke 8 rfl i8, (by rw [p.old 8 rfl]; exact n8), p.ke 9 rfl i9, p.ke 10 rfl i10, (by rw [p.old 10 rfl]; exact n10), p.ou 0 63 rfl, p.ou 1 64 rfl, p.ou 2 65 rfl, (by rw [p.old 8 rfl, p.old 10 rfl]; exact d8_10), trivial⟩)
   rintro a k ⟨⟨hg, hs, hd⟩, i0, i7, i8, n8, i9, i10, n10, i63, i64, i65, d8_10, _⟩
   refine wp_block ?_
   obtain ⟨f3, hf3, hr⟩ := bind_some hr
   refine cutFe f3 (fun s' c l => Bs noF k0 117 c l ∧ IsV l_ (c.get 0) l ∧ IsV x5 (c.get 7) l ∧ IsOwn 0 51 s3.1 (c.get 8) l ∧ Lo k0 (obF (c.get 8)) ∧ IsV s3.2 (c.get 9) l ∧ IsOwn 0 35 s'.1 (c.get 10) l ∧ Lo k0 (obF (c.get 10)) ∧ IsV l_ (c.get 63) l ∧ IsL l_ (c.get 64) l ∧ IsV s'.2 (c.get 65) l ∧ Apart (obF (c.get 8)) (obF (c.get 10)) ∧ True) (fun i' s' c l => (i' = 4 ∧ Bs noF k0 117 c l ∧ IsV l_ (c.get 0) l ∧ IsV x5 (c.get 7) l ∧ IsOwn 0 51 s3.1 (c.get 8) l ∧ Lo k0 (obF (c.get 8)) ∧ IsV s3.2 (c.get 9) l ∧ IsV s'.1 (c.get 10) l ∧ True)) (fun r' c l => bodyPost Try.prog Try.f23 (RetC noF k0 (IsTup2 (IsV r'.1) (IsV r'.2))) .ret c l.w) ?_ hQ ?_ ?_ ?_
   ·intro Q18 W18 hgo hex hret
    refine sim_loop ?_ _ _ _ _ _ hf3 ⟨⟨hg, hs, hd⟩, i0, i7, i8, n8, i9, i10, n10, i63, i64, i65, d8_10, trivial⟩ Q18 W18 hgo hex hret
    clear hr hf3 hgo hex hret W18 hQ hg hs hd d8_10 i0 i10 i63 i64 i65 i7 i8 i9 n10 n8
    intro s4 fl_ a k hr hS Q hQ hgo1760 hex1761 hret1762
    obtain ⟨⟨hg, hs, hd⟩, i0, i7, i8, n8, i9, i10, n10, i63, i64, i65, d8_10, _⟩ := hS
    unfold solid_Of_L2 at hr
    refine cutS (fun c l => Bs noF k0 117 c l ∧ IsV l_ (c.get 0) l ∧ IsV x5 (c.get 7) l ∧ IsOwn 0 51 s3.1 (c.get 8) l ∧ Lo k0 (obF (c.get 8)) ∧ IsV s3.2 (c.get 9) l ∧ IsOwn 0 35 s4.1 (c.get 10) l ∧ Lo k0 (obF (c.get 10)) ∧ IsV l_ (c.get 63) l ∧ IsL l_ (c.get 64) l ∧ IsV s4.2 (c.get 65) l ∧ (IsV (decide (s4.2 < (l_.length : Int)))) (c.get 66) l ∧ Apart (obF (c.get 8)) (obF (c.get 10)) ∧ True) ?_ ?_
    ·intro Q19 W19 w16
     refine gS 1 (_ :: []) hs (by kernel_rfl) ⟨o1 [(65, none), (64, none)] rfl fun _ _ h n => ok_lss rfl (up i65 h n.1) (up i64 h n.2.1), trivial⟩ W19 fun b q p => ?_
     exact tail_done (k := q) (w16 _ _ ⟨Bs.post ⟨hg, hs, hd⟩ p, p.ke 0 rfl i0, p.ke 7 rfl i7, p.ke 8 rfl i8, (by rw [p.old 8 rfl]; exact n8), p.ke 9 rfl i9, p.ke 10 rfl i10, (by rw [p.old 10 rfl]; exact n10), p.ke 63 rfl i63, p.ke 64 rfl i64, p.ke 65 rfl i65, p.ou 0 66 rfl, (by rw [p.old 8 rfl, p.old 10 rfl]; exact d8_10), trivial⟩)
    rintro a k ⟨⟨hg, hs, hd⟩, i0, i7, i8, n8, i9, i10, n10, i63, i64, i65, i66, d8_10, _⟩
    refine wp_seq ?_
    refine wp_cond_split (isBool i66) (fun hc1781 => ?_) (fun hc1781 => ?_)
    ·rw [if_pos hc1781] at hr
     refine wp_skip ?_
     refine wp_seq ?_
     refine wp_block ?_
     refine wp_seq ?_
     obtain ⟨x7, hx7, hr⟩ := bind_some hr
     refine cut (fun a' k' => Bs noF k0 117 a' k' ∧ (IsV l_) (a'.get 0) k' ∧ (IsV x5) (a'.get 7) k' ∧ IsOwn 0 51 s3.1 (a'.get 8) k' ∧ Lo k0 (obF (a'.get 8)) ∧ (IsV s3.2) (a'.get 9) k' ∧ IsOwn 0 35 s4.1 (a'.get 10) k' ∧ Lo k0 (obF (a'.get 10)) ∧ (IsRef x7) (a'.get 12) k' ∧ (IsV l_) (a'.get 63) k' ∧ (IsL l_) (a'.get 64) k' ∧ (IsV s4.2) (a'.get 65) k' ∧ Apart (obF (a'.get 8)) (obF (a'.get 10)) ∧ True) ?_ hQ ?_
     ·intro Q20 W20 w17
      refine gS 3 (_ :: _ :: ⟨some (IsBox k.w.heap.size (⟨(⟨0, 0, 0, 0⟩ : Rect), 0, 0⟩ : Box)), []⟩ :: []) hs (by kernel_rfl) ⟨o1 [(63, none), (65, none)] rfl fun _ _ h n => ok_indexAddr rfl Try.underlying31 ty37 (IsV.rd (up i63 h n.1)) (up i65 h n.2.1) hx7, o1 [(67, some 0)] rfl fun _ _ h n => ok_load rfl ty37 n.1, ob1 rfl fun _ _ h n => ok_alloc _ h.size rfl z37, trivial⟩ W20 fun b q p => ?_
      have hgq := hg.then p.grow
      have hsb := p.size.trans hs
      have hdb := p.defers.trans hd
      have j0 := p.ke 0 rfl i0
      have j7 := p.ke 7 rfl i7
      have j8 := p.ke 8 rfl i8
      have y8 : Lo k0 (obF (b.get 8)) := by rw [p.old 8 rfl]; exact n8
      have j9 := p.ke 9 rfl i9
      have j10 := p.ke 10 rfl i10
      have y10 : Lo k0 (obF (b.get 10)) := by rw [p.old 10 rfl]; exact n10
      obtain ⟨b12, j12, x12, z12⟩ : (IsBox k.w.heap.size (⟨(⟨0, 0, 0, 0⟩ : Rect), 0, 0⟩ : Box)) (b.get 12) q := p.ou 2 12 rfl
      replace x12 : Lo k (Eq b12) := Lo.eq x12
      have y12 : Lo k0 (Eq b12) := x12.chg hg
      have j63 := p.ke 63 rfl i63
      have j64 := p.ke 64 rfl i64
      have j65 := p.ke 65 rfl i65
      have j68 : (IsV x7) (b.get 68) q := p.ou 1 68 rfl
      have w8_10 : Apart (obF (b.get 8)) (obF (b.get 10)) := by rw [p.old 8 rfl, p.old 10 rfl]; exact d8_10
      have w8_12 : Apart (obF (b.get 8)) (Eq b12) := Apart.new (by rw [p.old 8 rfl]; exact i8.ltF) x12
      have w10_12 : Apart (obF (b.get 10)) (Eq b12) := Apart.new (by rw [p.old 10 rfl]; exact i10.ltF) x12
      have hns := z12.nshF
      refine tail_storeB (i := 3) rfl rfl rfl rfl szf37 (Upd.self (α := Box)) j12 z12 j68 fun q2 hch hz => ?_
      replace hgq := hgq.step hch y12.wr
      have hle := hch.le hns
      replace j0 := Pers.pers hle j0
      replace j7 := Pers.pers hle j7
      replace j8 := j8.keep hch w8_12 hns
      replace j9 := Pers.pers hle j9
      replace j10 := j10.keep hch w10_12 hns
      replace j63 := Pers.pers hle j63
      replace j64 := Pers.pers hle j64
      replace j65 := Pers.pers hle j65
      replace j68 := Pers.pers hle j68
      replace z12 := hz
      clear hns hle hch
      obtain ⟨q, hqq⟩ : ∃ q, q = q2 := ⟨q2, rfl⟩
      subst hqq
      obtain ⟨q2, hsh, jn⟩ := z12.give
      replace j0 := Pers.pers hsh.le j0
      replace j7 := Pers.pers hsh.le j7
      replace j8 := j8.handed hsh w8_12
      replace j9 := Pers.pers hsh.le j9
      replace j10 := j10.handed hsh w10_12
      replace j63 := Pers.pers hsh.le j63
      replace j64 := Pers.pers hsh.le j64
      replace j65 := Pers.pers hsh.le j65
      rw [← j12] at jn
      replace j12 := jn
      replace hgq := hgq.hand hsh y12.wr
      rw [← hsh.w]
      clear hsh
      obtain ⟨q, hqq⟩ : ∃ q, q = q2 := ⟨q2, rfl⟩
      subst hqq
      exact tail_done (k := q) (w17 _ _ ⟨⟨hgq, hsb, hdb⟩, j0, j7, j8, y8, j9, j10, y10, j12, j63, j64, j65, w8_10, trivial⟩)
     rintro a k ⟨⟨hg, hs, hd⟩, i0, i7, i8, n8, i9, i10, n10, i12, i63, i64, i65, d8_10, _⟩
     refine wp_seq ?_
     obtain ⟨x8, hx8, hr⟩ := bind_some hr
     obtain ⟨x9, hx9, hr⟩ := bind_some hr
     obtain ⟨x10, hx10, hx9⟩ := ite_bind hx9
     obtain ⟨x11, hx11, hx9⟩ := ite_bind hx9
     refine cut (fun a' k' => Bs noF k0 117 a' k' ∧ (IsV l_) (a'.get 0) k' ∧ (IsV x5) (a'.get 7) k' ∧ IsOwn 0 51 s3.1 (a'.get 8) k' ∧ Lo k0 (obF (a'.get 8)) ∧ (IsV s3.2) (a'.get 9) k' ∧ IsOwn 0 35 s4.1 (a'.get 10) k' ∧ Lo k0 (obF (a'.get 10)) ∧ (IsRef x7) (a'.get 12) k' ∧ (IsV l_) (a'.get 63) k' ∧ (IsL l_) (a'.get 64) k' ∧ (IsV s4.2) (a'.get 65) k' ∧ (IsV x9) (a'.get 85) k' ∧ Apart (obF (a'.get 8)) (obF (a'.get 10)) ∧ True) ?_ hQ ?_
     ·intro Q21 W21 w18
      refine region (m := 17) (_ :: _ :: _ :: _ :: _ :: _ :: _ :: _ :: _ :: _ :: _ :: _ :: _ :: _ :: _ :: _ :: _ :: []) hmix hs (by kernel_rfl) ⟨o1 [(12, none)] rfl fun _ _ h n => ok_fieldAddr rfl fo37_1 (at_Box_1 _) ((up i12 h n.1)).ptr, o1 [(69, some 0)] rfl fun _ _ h n => ok_load rfl ty3 n.1, mu rfl i7, mu rfl i9, o1 [(71, some 2), (72, some 3)] rfl fun _ _ h n => ok_indexAddr rfl Try.underlying63 ty3 (IsV.rd n.1) n.2.1 hx8, o1 [(73, some 4)] rfl fun _ _ h n => ok_load rfl ty3 n.1, o1 [(70, some 1), (74, some 5)] rfl fun _ _ h n => ok_lss rfl n.1 n.2.1, cm 6 rfl rfl, mT rfl rfl i7, mT rfl rfl i9, gT [(78, some 9)] rfl rfl fun hp _ _ h n => ok_sub rfl (Gd.get n.1 hp) (cI rfl) (hx10 hp), gT [(77, some 8), (79, some 10)] rfl rfl fun hp _ _ h n => ok_indexAddr rfl Try.underlying63 ty3 (IsV.rd (Gd.get n.1 hp)) (Gd.get n.2.1 hp) (hx11 hp), gT [(80, some 11)] rfl rfl fun hp _ _ h n => ok_load rfl ty3 (Gd.get n.1 hp), gT [(12, none)] rfl rfl fun hp _ _ h n => ok_fieldAddr rfl fo37_2 (at_Box_2 _) ((up i12 h n.1)).ptr, gT [(82, some 13)] rfl rfl fun hp _ _ h n => ok_load rfl ty3 (Gd.get n.1 hp), gT [(81, some 12), (83, some 14)] rfl rfl fun hp _ _ h n => ok_lss rfl (Gd.get n.1 hp) (Gd.get n.2.1 hp), o1 [(76, some 7), (84, some 15)] rfl fun _ _ h n => ok_pickM rfl n.1 hx9 (Gd.get n.2.1) (cB rfl), trivial⟩ W21 fun b q p => ?_
      exact tail_done (k := q) (w18 _ _ ⟨Bs.post ⟨hg, hs, hd⟩ p, p.ke 0 rfl i0, p.ke 7 rfl i7, p.ke 8 rfl i8, (by rw [p.old 8 rfl]; exact n8), p.ke 9 rfl i9, p.ke 10 rfl i10, (by rw [p.old 10 rfl]; exact n10), p.ke 12 rfl i12, p.ke 63 rfl i63, p.ke 64 rfl i64, p.ke 65 rfl i65, p.ou 16 85 rfl, (by rw [p.old 8 rfl, p.old 10 rfl]; exact d8_10), trivial⟩)
     rintro a k ⟨⟨hg, hs, hd⟩, i0, i7, i8, n8, i9, i10, n10, i12, i63, i64, i65, i85, d8_10, _⟩
     obtain ⟨s5, hs5, hr⟩ := bind_some hr
     refine cut (fun a' k' => Bs noF k0 117 a' k' ∧ (IsV l_) (a'.get 0) k' ∧ (IsV x5) (a'.get 7) k' ∧ IsOwn 0 51 s3.1 (a'.get 8) k' ∧ Lo k0 (obF (a'.get 8)) ∧ (IsV s3.2) (a'.get 9) k' ∧ IsOwn 0 35 s5 (a'.get 10) k' ∧ Lo k0 (obF (a'.get 10)) ∧ (IsV l_) (a'.get 63) k' ∧ (IsL l_) (a'.get 64) k' ∧ (IsV s4.2) (a'.get 65) k' ∧ Apart (obF (a'.get 8)) (obF (a'.get 10)) ∧ True) ?_ hQ ?_
     ·intro Q22 W22 w19
      replace hr := hs5
      clear hQ
      have hQ := W22
      refine wp_cond_split (isBool i85) (fun hc1771 => ?_) (fun hc1771 => ?_)
      ·rw [if_pos hc1771] at hr
       obtain ⟨x13, hx13, hr⟩ := bind_some hr
       refine cut (fun a' k' => Bs noF k0 117 a' k' ∧ (IsV l_) (a'.get 0) k' ∧ (IsV x5) (a'.get 7) k' ∧ IsOwn 0 51 s3.1 (a'.get 8) k' ∧ Lo k0 (obF (a'.get 8)) ∧ (IsV s3.2) (a'.get 9) k' ∧ IsOwn 0 35 x13 (a'.get 10) k' ∧ Lo k0 (obF (a'.get 10)) ∧ (IsV l_) (a'.get 63) k' ∧ (IsL l_) (a'.get 64) k' ∧ (IsV s4.2) (a'.get 65) k' ∧ Apart (obF (a'.get 8)) (obF (a'.get 10)) ∧ True) ?_ hQ ?_
       ·intro Q23 W23 w20
        refine gS 4 (⟨some (OwnAt (a.get 10) 0 35 s4.1), [(10, none)]⟩ :: _ :: _ :: ⟨some (IsV (α := (List Rect)) ([x7.Base])), [(88, some 2)]⟩ :: []) hs (by kernel_rfl) ⟨ob1 rfl fun _ _ h n => ok_moveOA (.inl rfl) (ownAt n.1 (up i10 h n.1)), o1 [(12, none)] rfl fun _ _ h n => ok_fieldAddr rfl fo37_0 (at_Box_0 _) ((up i12 h n.1)).ptr, o1 [(87, some 1)] rfl fun _ _ h n => ok_load rfl ty35 n.1, ob1 rfl fun _ _ h n => ok_buildSlice rfl Try.underlying49 eo35 rfl (by decide) (by decide) ⟨rfl, n.1, trivial⟩, trivial⟩ W23 fun b q p => ?_
        have hgq := hg.then p.grow
        have hsb := p.size.trans hs
        have hdb := p.defers.trans hd
        have j0 := p.ke 0 rfl i0
        have j7 := p.ke 7 rfl i7
        have j8 := p.ke 8 rfl i8
        have y8 : Lo k0 (obF (b.get 8)) := by rw [p.old 8 rfl]; exact n8
        have j9 := p.ke 9 rfl i9
        have j63 := p.ke 63 rfl i63
        have j64 := p.ke 64 rfl i64
        have j65 := p.ke 65 rfl i65
        have e86 : b.get 86 = a.get 10 := (p.ou 0 86 rfl).1
        have j86 : IsOwn 0 35 s4.1 (b.get 86) q := (p.ou 0 86 rfl).2
        have y86 : Lo k0 (obF (b.get 86)) := by rw [e86]; exact n10
        have j89 : (IsV (α := (List Rect)) ([x7.Base])) (b.get 89) q := p.ou 3 89 rfl
        have w8_86 : Apart (obF (b.get 8)) (obF (b.get 86)) := by rw [p.old 8 rfl, e86]; exact d8_10
        have hns := j86.nshF
        refine tail_appendS (i := 4) (d := 90) rfl rfl rfl rfl (by rw [hsb]; decide) (e := 35) Try.underlying49 eo35 j86 (IsV.rd j89) hx13 fun b2 q2 hsz hdf hoth hch hown hob => ?_
        have hle := hch.le hns
        have yn : Lo k0 (obF (b2.get 90)) := y86.app hgq hob
        have v8 : Apart (obF (b.get 8)) (obF (b2.get 90)) := Apart.app w8_86 j8.ltF hob
        replace j0 := Pers.pers hle j0
        replace j7 := Pers.pers hle j7
        replace j8 := j8.keep hch w8_86 hns
        replace j9 := Pers.pers hle j9
        replace j63 := Pers.pers hle j63
        replace j64 := Pers.pers hle j64
        replace j65 := Pers.pers hle j65
        replace j89 := Pers.pers hle j89
        replace hgq := hgq.step hch y86.wr
        rw [← hoth 0 (by decide)] at j0
        rw [← hoth 7 (by decide)] at j7
        rw [← hoth 8 (by decide)] at j8
        rw [← hoth 8 (by decide)] at y8
        rw [← hoth 9 (by decide)] at j9
        rw [← hoth 63 (by decide)] at j63
        rw [← hoth 64 (by decide)] at j64
        rw [← hoth 65 (by decide)] at j65
        rw [← hoth 89 (by decide)] at j89
        rw [← hoth 8 (by decide)] at v8
        have w8_90 := v8
        have j90 := hown
        have y90 := yn
        replace hsb := hsz.trans hsb
        replace hdb := hdf.trans hdb
        clear hle hch hown hob hns yn hsz hdf hoth
        obtain ⟨b, hbb⟩ : ∃ b, b = b2 := ⟨b2, rfl⟩
        subst hbb
        obtain ⟨q, hqq⟩ : ∃ q, q = q2 := ⟨q2, rfl⟩
        subst hqq
        refine tail_assign (i := 5) (d := 10) rfl rfl (.inl rfl) rfl (by rw [hsb]; decide) fun b2 hsz hdf hnew hoth => ?_
        have jn : (IsOwn 0 35 x13) (b2.get 10) q := by rw [hnew]; exact j90
        have yn : Lo k0 (obF (b2.get 10)) := by rw [hnew]; exact y90
        have v8 : Apart (obF (b.get 8)) (obF (b2.get 10)) := by rw [hnew]; exact w8_90
        rw [← hoth 0 (by decide)] at j0
        rw [← hoth 7 (by decide)] at j7
        rw [← hoth 8 (by decide)] at j8
        rw [← hoth 8 (by decide)] at y8
        rw [← hoth 9 (by decide)] at j9
        rw [← hoth 63 (by decide)] at j63
        rw [← hoth 64 (by decide)] at j64
        rw [← hoth 65 (by decide)] at j65
        rw [← hoth 89 (by decide)] at j89
        rw [← hoth 8 (by decide)] at v8
        have w8_10 := v8
        have j10 := jn
        have y10 := yn
        replace hsb := hsz.trans hsb
        replace hdb := hdf.trans hdb
        clear hsz hdf hoth
        obtain ⟨b, hbb⟩ : ∃ b, b = b2 := ⟨b2, rfl⟩
        subst hbb
        exact tail_done (k := q) (w20 _ _ ⟨⟨hgq, hsb, hdb⟩, j0, j7, j8, y8, j9, j10, y10, j63, j64, j65, w8_10, trivial⟩)
       rintro a k ⟨⟨hg, hs, hd⟩, i0, i7, i8, n8, i9, i10, n10, i63, i64, i65, d8_10, _⟩
       obtain rfl := Option.some.inj hr
       exact w19 _ _ ⟨⟨hg, hs, hd⟩, i0, i7, i8, n8, i9, i10, n10, i63, i64, i65, d8_10, trivial⟩
      rw [if_neg (by rw [hc1771]; decide)] at hr
      refine wp_skip ?_
      obtain rfl := Option.some.inj hr
      exact w19 _ _ ⟨⟨hg, hs, hd⟩, i0, i7, i8, n8, i9, i10, n10, i63, i64, i65, d8_10, trivial⟩
     clear hs5
     rintro a k ⟨⟨hg, hs, hd⟩, i0, i7, i8, n8, i9, i10, n10, i63, i64, i65, d8_10, _⟩
     obtain ⟨x14, hx14, hr⟩ := bind_some hr
     refine cut (fun a' k' => Bs noF k0 117 a' k' ∧ (IsV l_) (a'.get 0) k' ∧ (IsV x5) (a'.get 7) k' ∧ IsOwn 0 51 s3.1 (a'.get 8) k' ∧ Lo k0 (obF (a'.get 8)) ∧ (IsV s3.2) (a'.get 9) k' ∧ IsOwn 0 35 s5 (a'.get 10) k' ∧ Lo k0 (obF (a'.get 10)) ∧ (IsV l_) (a'.get 63) k' ∧ (IsL l_) (a'.get 64) k' ∧ (IsV x14) (a'.get 65) k' ∧ Apart (obF (a'.get 8)) (obF (a'.get 10)) ∧ True) ?_ hQ ?_
     ·intro Q24 W24 w21
      refine gS 2 (_ :: _ :: []) hs (by kernel_rfl) ⟨o1 [(65, none)] rfl fun _ _ h n => ok_add rfl (up i65 h n.1) (cI rfl) hx14, cm 0 rfl rfl, trivial⟩ W24 fun b q p => ?_
      exact tail_done (k := q) (w21 _ _ ⟨Bs.post ⟨hg, hs, hd⟩ p, p.ke 0 rfl i0, p.ke 7 rfl i7, p.ke 8 rfl i8, (by rw [p.old 8 rfl]; exact n8), p.ke 9 rfl i9, p.ke 10 rfl i10, (by rw [p.old 10 rfl]; exact n10), p.ke 63 rfl i63, p.ke 64 rfl i64, p.ou 1 65 rfl, (by rw [p.old 8 rfl, p.old 10 rfl]; exact d8_10), trivial⟩)
     rintro a k ⟨⟨hg, hs, hd⟩, i0, i7, i8, n8, i9, i10, n10, i63, i64, i65, d8_10, _⟩
     exact hgo1760 _ _ _ (Option.some.inj hr).symm ⟨⟨hg, hs, hd⟩, i0, i7, i8, n8, i9, i10, n10, i63, i64, i65, d8_10, trivial⟩
    rw [if_neg (by rw [hc1781]; decide)] at hr
    refine wp_exit ?_
    obtain ⟨kk, sh1780, ii10⟩ := i10.give
    replace i0 := Pers.pers sh1780.le i0
    replace i7 := Pers.pers sh1780.le i7
    replace i8 := i8.handed sh1780 d8_10
    replace i9 := Pers.pers sh1780.le i9
    replace i10 := ii10
    replace hg := hg.hand sh1780 n10.wr
    rw [← sh1780.w]
    clear sh1780
    obtain ⟨k, hkk⟩ : ∃ k, k = kk := ⟨kk, rfl⟩
    subst hkk
    exact hex1761 _ _ _ _ (Option.some.inj hr).symm ⟨rfl, ⟨hg, hs, hd⟩, i0, i7, i8, n8, i9, i10, trivial⟩
   ·rintro r2 a k rfl hR
    dsimp only at hr
    exact hret1755 _ _ _ (Option.some.inj hr).symm hR
   ·rintro _ _ _ rfl _
    simp at hr
   clear hf3
   rintro _ s6 a k rfl ⟨rfl, ⟨hg, hs, hd⟩, i0, i7, i8, n8, i9, i10, _⟩
   dsimp only at hr
   refine wp_seq ?_
   obtain ⟨x15, hx15, hr⟩ := bind_some hr
   refine cut (fun a' k' => Bs noF k0 117 a' k' ∧ (IsV l_) (a'.get 0) k' ∧ (IsV x5) (a'.get 7) k' ∧ IsOwn 0 51 s3.1 (a'.get 8) k' ∧ Lo k0 (obF (a'.get 8)) ∧ (IsV s3.2) (a'.get 9) k' ∧ (IsV x15.1) (a'.get 13) k' ∧ (IsV x15.2) (a'.get 14) k' ∧ True) ?_ hQ ?_
   ·intro Q25 W25 w22
    refine gS 7 (_ :: _ :: _ :: _ :: _ :: _ :: _ :: []) hs (by kernel_rfl) ⟨mu rfl i10, o1 [(93, some 0)] rfl fun _ _ h n => ok_call rfl Try.call37 (region_Of_ok n.1 hx15), cm 1 rfl rfl, o1 [(92, some 2)] rfl fun _ _ h n => ok_ext2_0 rfl n.1, o1 [(92, some 2)] rfl fun _ _ h n => ok_ext2_1 rfl n.1, cp 3 rfl rfl, cp 4 rfl rfl, trivial⟩ W25 fun b q p => ?_
    exact tail_done (k := q) (w22 _ _ ⟨Bs.post ⟨hg, hs, hd⟩ p, p.ke 0 rfl i0, p.ke 7 rfl i7, p.ke 8 rfl i8, (by rw [p.old 8 rfl]; exact n8), p.ke 9 rfl i9, p.ou 5 13 rfl, p.ou 6 14 rfl, trivial⟩)
   rintro a k ⟨⟨hg, hs, hd⟩, i0, i7, i8, n8, i9, i13, i14, _⟩
   refine wp_seq ?_
   refine cutS (fun c l => Bs noF k0 117 c l ∧ IsV l_ (c.get 0) l ∧ IsV x5 (c.get 7) l ∧ IsOwn 0 51 s3.1 (c.get 8) l ∧ Lo k0 (obF (c.get 8)) ∧ IsV s3.2 (c.get 9) l ∧ IsV x15.1 (c.get 13) l ∧ IsV x15.2 (c.get 14) l ∧ IsV (x15.2 != 0) (c.get 98) l ∧ True) ?_ ?_
   ·intro Q26 W26 w23
    refine gS 2 (_ :: ⟨some (IsV (x15.2 != 0)), [(97, some 0)]⟩ :: []) hs (by kernel_rfl) ⟨mu rfl i14, ob1 rfl fun _ _ h n => ok_neI rfl n.1 (cI rfl), trivial⟩ W26 fun b q p => ?_
    exact tail_done (k := q) (w23 _ _ ⟨Bs.post ⟨hg, hs, hd⟩ p, p.ke 0 rfl i0, p.ke 7 rfl i7, p.ke 8 rfl i8, (by rw [p.old 8 rfl]; exact n8), p.ke 9 rfl i9, p.ke 13 rfl i13, p.ke 14 rfl i14, p.ou 1 98 rfl, trivial⟩)
   rintro a k ⟨⟨hg, hs, hd⟩, i0, i7, i8, n8, i9, i13, i14, i98, _⟩
   refine wp_cond_split (isBool i98) (fun hc1797 => ?_) (fun hc1797 => ?_)
   ·rw [if_pos hc1797] at hr
    refine cutL noF k0 117 [⟨2, IsV ([] : List Slab)⟩, ⟨3, IsV x15.2⟩] ?_ ?_
    ·intro Q27 W27 w24
     refine gS 3 (_ :: ⟨some IsE0, []⟩ :: _ :: []) hs (by kernel_rfl) ⟨mu rfl i14, ob1 rfl fun b q h n => ok_assign rfl isE0_nil, cp 0 rfl rfl, trivial⟩ W27 fun b q p => ?_
     have hgq := hg.then p.grow
     have hsb := p.size.trans hs
     have hdb := p.defers.trans hd
     have j2 : IsE0 (b.get 2) q := p.ou 1 2 rfl
     have j3 : (IsV x15.2) (b.get 3) q := p.ou 2 3 rfl
     replace j2 : IsV ([] : List Slab) (b.get 2) q := j2.isV
     exact tail_done (k := q) (w24 _ _ ⟨⟨hgq, hsb, hdb⟩, j2, j3, trivial⟩)
    rintro a k ⟨⟨hg, hs, hd⟩, i2, i3, _⟩
    refine wp_ret ?_
    exact hret1755 _ _ _ (Option.some.inj hr).symm (retC2 rfl hd hg i2 i3)
   rw [if_neg (by rw [hc1797]; decide)] at hr
   refine wp_skip ?_
   obtain ⟨x16, hx16, hr⟩ := bind_some hr
   obtain ⟨x17, hx17, hr⟩ := bind_some hr
   obtain ⟨x18, hx18, hr⟩ := bind_some hr
   obtain ⟨x19, hx19, hr⟩ := bind_some hr
   refine cut (fun a' k' => Bs noF k0 117 a' k' ∧ (IsV l_) (a'.get 0) k' ∧ (IsV x5) (a'.get 7) k' ∧ IsOwn 0 51 x19 (a'.get 8) k' ∧ Lo k0 (obF (a'.get 8)) ∧ (IsV s3.2) (a'.get 9) k' ∧ True) ?_ hQ ?_
   ·intro Q28 W28 w25
    refine region (m := 12) (⟨some (OwnAt (a.get 8) 0 51 s3.1), [(8, none)]⟩ :: _ :: _ :: _ :: _ :: _ :: _ :: _ :: _ :: _ :: _ :: ⟨some (IsV (⟨x17, x18, x15.1⟩ : Slab)), [(105, some 5), (109, some 9), (110, some 10)]⟩ :: []) hmix hs (by kernel_rfl) ⟨ob1 rfl fun _ _ h n => ok_moveOA (.inl rfl) (ownAt n.1 (up i8 h n.1)), mu rfl i7, mu rfl i9, o1 [(102, some 2)] rfl fun _ _ h n => ok_sub rfl n.1 (cI rfl) hx16, o1 [(101, some 1), (103, some 3)] rfl fun _ _ h n => ok_indexAddr rfl Try.underlying63 ty3 (IsV.rd n.1) n.2.1 hx17, o1 [(104, some 4)] rfl fun _ _ h n => ok_load rfl ty3 n.1, mu rfl i7, mu rfl i9, o1 [(106, some 6), (107, some 7)] rfl fun _ _ h n => ok_indexAddr rfl Try.underlying63 ty3 (IsV.rd n.1) n.2.1 hx18, o1 [(108, some 8)] rfl fun _ _ h n => ok_load rfl ty3 n.1, mu rfl i13, ob1 rfl fun _ _ h n => ok_build rfl (bld51_0_1_2 n.1 n.2.1 n.2.2.1), trivial⟩ W28 fun b q p => ?_
    have hgq := hg.then p.grow
    have hsb := p.size.trans hs
    have hdb := p.defers.trans hd
    have j0 := p.ke 0 rfl i0
    have j7 := p.ke 7 rfl i7
    have j9 := p.ke 9 rfl i9
    have e100 : b.get 100 = a.get 8 := (p.ou 0 100 rfl).1
    have j100 : IsOwn 0 51 s3.1 (b.get 100) q := (p.ou 0 100 rfl).2
    have y100 : Lo k0 (obF (b.get 100)) := by rw [e100]; exact n8
    have j111 : (IsV (⟨x17, x18, x15.1⟩ : Slab)) (b.get 111) q := p.ou 11 111 rfl
    have hns := j100.nshF
    refine tail_call (F := obF (b.get 100)) (i := 12) (d := 112) rfl rfl rfl rfl (by rw [hsb]; decide) Try.call38 W28 (solid_put_ok j100 j111 hx19) fun b2 q2 hsz hdf hoth hch hres => ?_
    have hle := hch.le hns
    obtain ⟨hown, hob⟩ := hres
    have yn : Lo k0 (obF (b2.get 112)) := y100.app hgq hob
    replace j0 := Pers.pers hle j0
    replace j7 := Pers.pers hle j7
    replace j9 := Pers.pers hle j9
    replace j111 := Pers.pers hle j111
    replace hgq := hgq.step hch y100.wr
    rw [← hoth 0 (by decide)] at j0
    rw [← hoth 7 (by decide)] at j7
    rw [← hoth 9 (by decide)] at j9
    rw [← hoth 111 (by decide)] at j111
    have j112 := hown
    have y112 := yn
    have hres := True.intro
    clear hown hob yn
    replace hsb := hsz.trans hsb
    replace hdb := hdf.trans hdb
    clear hle hch hres hns hsz hdf hoth
    obtain ⟨b, hbb⟩ : ∃ b, b = b2 := ⟨b2, rfl⟩
    subst hbb
    obtain ⟨q, hqq⟩ : ∃ q, q = q2 := ⟨q2, rfl⟩
    subst hqq
    refine tail_assign (i := 13) (d := 8) rfl rfl (.inl rfl) rfl (by rw [hsb]; decide) fun b2 hsz hdf hnew hoth => ?_
    have jn : (IsOwn 0 51 x19) (b2.get 8) q := by rw [hnew]; exact j112
    have yn : Lo k0 (obF (b2.get 8)) := by rw [hnew]; exact y112
    rw [← hoth 0 (by decide)] at j0
    rw [← hoth 7 (by decide)] at j7
    rw [← hoth 9 (by decide)] at j9
    rw [← hoth 111 (by decide)] at j111
    have j8 := jn
    have y8 := yn
    replace hsb := hsz.trans hsb
    replace hdb := hdf.trans hdb
    clear hsz hdf hoth
    obtain ⟨b, hbb⟩ : ∃ b, b = b2 := ⟨b2, rfl⟩
    subst hbb
    exact tail_done (k := q) (w25 _ _ ⟨⟨hgq, hsb, hdb⟩, j0, j7, j8, y8, j9, trivial⟩)
   rintro a k ⟨⟨hg, hs, hd⟩, i0, i7, i8, n8, i9, _⟩
   obtain ⟨x20, hx20, hr⟩ := bind_some hr
   refine cut (fun a' k' => Bs noF k0 117 a' k' ∧ (IsV l_) (a'.get 0) k' ∧ (IsV x5) (a'.get 7) k' ∧ IsOwn 0 51 x19 (a'.get 8) k' ∧ Lo k0 (obF (a'.get 8)) ∧ (IsV x20) (a'.get 9) k' ∧ True) ?_ hQ ?_
   ·intro Q29 W29 w26
    refine gS 3 (_ :: _ :: _ :: []) hs (by kernel_rfl) ⟨mu rfl i9, o1 [(61, some 0)] rfl fun _ _ h n => ok_add rfl n.1 (cI rfl) hx20, cp 1 rfl rfl, trivial⟩ W29 fun b q p => ?_
    exact tail_done (k := q) (w26 _ _ ⟨Bs.post ⟨hg, hs, hd⟩ p, p.ke 0 rfl i0, p.ke 7 rfl i7, p.ke 8 rfl i8, (by rw [p.old 8 rfl]; exact n8), p.ou 2 9 rfl, trivial⟩)
   rintro a k ⟨⟨hg, hs, hd⟩, i0, i7, i8, n8, i9, _⟩
   exact hgo1753 _ _ _ (Option.some.inj hr).symm ⟨⟨hg, hs, hd⟩, i0, i7, i8, n8, i9, trivial⟩
  rw [if_neg (by rw [hc1809]; decide)] at hr
  refine wp_exit ?_
  obtain ⟨kk, sh1808, ii8⟩ := i8.give
  replace i8 := ii8
  replace hg := hg.hand sh1808 n8.wr
  rw [← sh1808.w]
  clear sh1808
  obtain ⟨k, hkk⟩ : ∃ k, k = kk := ⟨kk, rfl⟩
  subst hkk
  exact hex1754 _ _ _ _ (Option.some.inj hr).symm ⟨rfl, ⟨hg, hs, hd⟩, i8, trivial⟩
 ·rintro r3 a k rfl hR
  dsimp only at hr
  obtain rfl := Option.some.inj hr
  exact hR
 ·rintro _ _ _ rfl _
  simp at hr
 clear hf2
 rintro _ s7 a k rfl ⟨rfl, ⟨hg, hs, hd⟩, i8, _⟩
 dsimp only at hr
 refine wp_seq ?_
 obtain ⟨x21, hx21, hr⟩ := bind_some hr
 refine cut (fun a' k' => Bs noF k0 117 a' k' ∧ (IsV x21.1) (a'.get 2) k' ∧ (IsV x21.2) (a'.get 3) k' ∧ True) ?_ hQ ?_
 ·intro Q30 W30 w27
  refine gS 6 (_ :: _ :: _ :: _ :: _ :: _ :: []) hs (by kernel_rfl) ⟨mu rfl i8, o1 [(113, some 0)] rfl fun _ _ h n => ok_call rfl Try.call39 (solid_fits_ok n.1 hx21), o1 [(114, some 1)] rfl fun _ _ h n => ok_ext2_0 rfl n.1, o1 [(114, some 1)] rfl fun _ _ h n => ok_ext2_1 rfl n.1, cp 2 rfl rfl, cp 3 rfl rfl, trivial⟩ W30 fun b q p => ?_
  exact tail_done (k := q) (w27 _ _ ⟨Bs.post ⟨hg, hs, hd⟩ p, p.ou 4 2 rfl, p.ou 5 3 rfl, trivial⟩)
 rintro a k ⟨⟨hg, hs, hd⟩, i2, i3, _⟩
 refine wp_ret ?_
 obtain rfl := Option.some.inj hr
 exact retC2 rfl hd hg i2 i3
def law11_SightMoves_L0 (l_ : (List Box)) (by_ : Point3) (x1 : Bool) (s1 : (List Box) × Int) : Option (Flow ((List Box) × Int) (Bool)) :=
 if (decide (s1.2 < (l_.length : Int))) then
  (getI l_ s1.2).bind fun x2 =>
  (ref09_RightBox x2).bind fun x3 =>
  if (!x3) then
   some (.ret x1)
  else
   (addI x2.Base.X0 by_.X).bind fun x4 =>
   (addI x2.Base.Y0 by_.Y).bind fun x5 =>
   (addI x2.Base.X1 by_.X).bind fun x6 =>
   (addI x2.Base.Y1 by_.Y).bind fun x7 =>
   (addI x2.Z0 by_.Z).bind fun x8 =>
   (addI x2.Z1 by_.Z).bind fun x9 =>
   (ref09_RightBox (⟨(⟨x4, x5, x6, x7⟩ : Rect), x8, x9⟩ : Box)).bind fun x10 =>
   if (!x10) then
    some (.ret x1)
   else
    (appI s1.1 ([(⟨(⟨x4, x5, x6, x7⟩ : Rect), x8, x9⟩ : Box)])).bind fun x11 =>
    (addI s1.2 1).bind fun x12 =>
    some (.go (x11, x12))
 else
  some (.ex 0 (s1.1, s1.2))
def law11_SightMoves (l_ : (List Box)) (p_ : Point3) (q_ : Point3) (d_ : Point3) (by_ : Point3) : Option (Bool) :=
 (law11_small).bind fun x1 =>
 (if (((((((decide (20 < (l_.length : Int))) || (decide (by_.X < (-1048576)))) || (decide (1048576 < by_.X))) || (decide (by_.Y < (-1048576)))) || (decide (1048576 < by_.Y))) || (decide (by_.Z < (-4096)))) || (decide (4096 < by_.Z))) then
  some true
 else
  (ref11_Valid p_).bind fun x2 =>
  some (!x2)).bind fun x3 =>
 (if x3 then
  some true
 else
  (ref11_Valid q_).bind fun x4 =>
  some (!x4)).bind fun x5 =>
 if x5 then
  some x1
 else
  (iterL (law11_SightMoves_L0 l_ by_ x1) (l_.length + ([] : List Box).length + 1) (([] : List Box), 0)).bind fun f1 => match f1 with
   | .go _ => none
   | .ex _ s1 =>
    (solid_Of l_).bind fun x6 =>
    (solid_Of s1.1).bind fun x7 =>
    (addI p_.X by_.X).bind fun x8 =>
    (addI p_.Y by_.Y).bind fun x9 =>
    (addI p_.Z by_.Z).bind fun x10 =>
    (law11_at x8 x9 x10).bind fun x11 =>
    (addI q_.X by_.X).bind fun x12 =>
    (addI q_.Y by_.Y).bind fun x13 =>
    (addI q_.Z by_.Z).bind fun x14 =>
    (law11_at x12 x13 x14).bind fun x15 =>
    (if ((x6.2 != x7.2) || (x6.2 != 0)) then
     some true
    else
     (ref11_Valid x11).bind fun x16 =>
     some (!x16)).bind fun x17 =>
    (if x17 then
     some true
    else
     (ref11_Valid x15).bind fun x18 =>
     some (!x18)).bind fun x19 =>
    if x19 then
     some (x1 && (x6.2 == x7.2))
    else
     (if x1 then
      (sight_Blocked x6.1 p_ q_).bind fun x20 =>
      (sight_Blocked x7.1 x11 x15).bind fun x21 =>
      some (x20 == x21)
     else
      some false).bind fun x22 =>
     (if x22 then
      (sight_Ray x6.1 p_ d_).bind fun x23 =>
      (sight_Ray x7.1 x11 d_).bind fun x24 =>
      some (x23 == x24)
     else
      some false).bind fun x25 =>
     some x25
   | .ret r1 => some r1
theorem law11_SightMoves_ok {k0 : K} {v0 v1 v2 v3 v4 : Value} {l_ : (List Box)} {p_ : Point3} {q_ : Point3} {d_ : Point3} {by_ : Point3} {r : Bool} (i0 : (IsV l_) v0 k0) (i1 : (IsV p_) v1 k0) (i2 : (IsV q_) v2 k0) (i3 : (IsV d_) v3 k0) (i4 : (IsV by_) v4 k0) (hr : law11_SightMoves l_ p_ q_ d_ by_ = some r) :
  Calls Try.prog 7 #[v0, v1, v2, v3, v4] k0.w (Ret k0 (IsV r)) := by
 unfold law11_SightMoves at hr
 refine Ret.ofC ?_
 refine enterK Try.func7 rfl Try.ntmps7 (show 5 ≤ 215 by decide) fun a k hk0 hs hd ha => ?_
 obtain ⟨e0, e1, e2, e3, e4, _⟩ := ha
 replace i0 : (IsV l_) (a.get 0) k := by rw [e0, hk0]; exact i0
 replace i1 : (IsV p_) (a.get 1) k := by rw [e1, hk0]; exact i1
 replace i2 : (IsV q_) (a.get 2) k := by rw [e2, hk0]; exact i2
 replace i3 : (IsV d_) (a.get 3) k := by rw [e3, hk0]; exact i3
 replace i4 : (IsV by_) (a.get 4) k := by rw [e4, hk0]; exact i4
 have hQ : Gb.LetsOut (bodyPost Try.prog Try.f7 (RetC noF k0 (IsV r))) := letsOutC
 have hg : Chg noF k0 k := by rw [hk0]; exact Chg.refl _ k0
 refine stepL 5 (⟨some (IsRef p_), [(1, none)]⟩ :: ⟨some (IsRef q_), [(2, none)]⟩ :: ⟨some (IsRef d_), [(3, none)]⟩ :: ⟨some (IsRef by_), [(4, none)]⟩ :: ⟨some (IsV false), []⟩ :: []) rfl ⟨hg, hs, hd⟩ (by kernel_rfl) ⟨ob1 rfl fun _ _ h n => ok_boxR rfl (up i1 h n.1), ob1 rfl fun _ _ h n => ok_boxR rfl (up i2 h n.1), ob1 rfl fun _ _ h n => ok_boxR rfl (up i3 h n.1), ob1 rfl fun _ _ h n => ok_boxR rfl (up i4 h n.1), ob1 rfl fun _ _ h n => ok_assign rfl (isV_bool.2 rfl), trivial⟩ [⟨_, _⟩, ⟨_, _⟩, ⟨_, _⟩, ⟨_, _⟩, ⟨_, _⟩] (fun b q p => ⟨p.ke 0 rfl i0, p.ou 0 6 rfl, p.ou 1 7 rfl, p.ou 2 8 rfl, p.ou 3 9 rfl, trivial⟩) ?_
 rintro a k ⟨⟨hg, hs, hd⟩, i0, i6, i7, i8, i9, _⟩
 refine wp_seq ?_
 obtain ⟨x1, hx1, hr⟩ := bind_some hr
 refine cut (fun a' k' => Bs noF k0 215 a' k' ∧ (IsV l_) (a'.get 0) k' ∧ (IsRef p_) (a'.get 6) k' ∧ (IsRef q_) (a'.get 7) k' ∧ (IsRef d_) (a'.get 8) k' ∧ (IsRef by_) (a'.get 9) k' ∧ (IsV x1) (a'.get 11) k' ∧ True) ?_ hQ ?_
 ·intro Q1 W1 w1
  refine gS 2 (_ :: _ :: []) hs (by kernel_rfl) ⟨o1 [] rfl fun _ _ h n => ok_call rfl Try.call9 (law11_small_ok hx1), cp 0 rfl rfl, trivial⟩ W1 fun b q p => ?_
  exact tail_done (k := q) (w1 _ _ ⟨Bs.post ⟨hg, hs, hd⟩ p, p.ke 0 rfl i0, p.ke 6 rfl i6, p.ke 7 rfl i7, p.ke 8 rfl i8, p.ke 9 rfl i9, p.ou 1 11 rfl, trivial⟩)
 rintro a k ⟨⟨hg, hs, hd⟩, i0, i6, i7, i8, i9, i11, _⟩
 refine wp_seq ?_
 refine wp_seq ?_
 obtain ⟨x2, hx2, hr⟩ := bind_some hr
 obtain ⟨x3, hx3, hx2⟩ := ite_bindF hx2
 obtain ⟨x4, hx4, hr⟩ := bind_some hr
 obtain ⟨x5, hx5, hx4⟩ := ite_bindF hx4
 refine cut (fun a' k' => Bs noF k0 215 a' k' ∧ (IsV l_) (a'.get 0) k' ∧ (IsRef p_) (a'.get 6) k' ∧ (IsRef q_) (a'.get 7) k' ∧ (IsRef d_) (a'.get 8) k' ∧ (IsRef by_) (a'.get 9) k' ∧ (IsV x1) (a'.get 11) k' ∧ (IsV x4) (a'.get 66) k' ∧ True) ?_ hQ ?_
 ·intro Q2 W2 w2
  refine gS 43 (_ :: _ :: _ :: _ :: _ :: _ :: _ :: _ :: _ :: _ :: _ :: _ :: _ :: _ :: _ :: _ :: _ :: _ :: _ :: _ :: _ :: _ :: _ :: _ :: _ :: _ :: _ :: _ :: _ :: _ :: _ :: _ :: _ :: _ :: _ :: _ :: _ :: _ :: _ :: _ :: _ :: _ :: _ :: []) hs (by kernel_rfl) ⟨mu rfl i0, o1 [(24, some 0)] rfl fun _ _ h n => ok_len rfl rfl Try.underlying31 (IsV.rd n.1), o1 [(25, some 1)] rfl fun _ _ h n => ok_gtr rfl n.1 (cI rfl), cm 2 rfl rfl, gF [(9, none)] rfl rfl fun hp _ _ h n => ok_fieldAddr rfl fo24_0 (at_Point3_0 _) ((up i9 h n.1)).ptr, gF [(28, some 4)] rfl rfl fun hp _ _ h n => ok_load rfl ty3 (Gd.get n.1 hp), gF [(29, some 5)] rfl rfl fun hp _ _ h n => ok_lss rfl (Gd.get n.1 hp) (cI rfl), o1 [(27, some 3), (30, some 6)] rfl fun _ _ h n => ok_pickOr rfl n.1 (cB rfl) (Gd.get n.2.1), cm 7 rfl rfl, gF [(9, none)] rfl rfl fun hp _ _ h n => ok_fieldAddr rfl fo24_0 (at_Point3_0 _) ((up i9 h n.1)).ptr, gF [(33, some 9)] rfl rfl fun hp _ _ h n => ok_load rfl ty3 (Gd.get n.1 hp), gF [(34, some 10)] rfl rfl fun hp _ _ h n => ok_gtr rfl (Gd.get n.1 hp) (cI rfl), o1 [(32, some 8), (35, some 11)] rfl fun _ _ h n => ok_pickOr rfl n.1 (cB rfl) (Gd.get n.2.1), cm 12 rfl rfl, gF [(9, none)] rfl rfl fun hp _ _ h n => ok_fieldAddr rfl fo24_1 (at_Point3_1 _) ((up i9 h n.1)).ptr, gF [(38, some 14)] rfl rfl fun hp _ _ h n => ok_load rfl ty3 (Gd.get n.1 hp), gF [(39, some 15)] rfl rfl fun hp _ _ h n => ok_lss rfl (Gd.get n.1 hp) (cI rfl), o1 [(37, some 13), (40, some 16)] rfl fun _ _ h n => ok_pickOr rfl n.1 (cB rfl) (Gd.get n.2.1), cm 17 rfl rfl, gF [(9, none)] rfl rfl fun hp _ _ h n => ok_fieldAddr rfl fo24_1 (at_Point3_1 _) ((up i9 h n.1)).ptr, gF [(43, some 19)] rfl rfl fun hp _ _ h n => ok_load rfl ty3 (Gd.get n.1 hp), gF [(44, some 20)] rfl rfl fun hp _ _ h n => ok_gtr rfl (Gd.get n.1 hp) (cI rfl), o1 [(42, some 18), (45, some 21)] rfl fun _ _ h n => ok_pickOr rfl n.1 (cB rfl) (Gd.get n.2.1), cm 22 rfl rfl, gF [(9, none)] rfl rfl fun hp _ _ h n => ok_fieldAddr rfl fo24_2 (at_Point3_2 _) ((up i9 h n.1)).ptr, gF [(48, some 24)] rfl rfl fun hp _ _ h n => ok_load rfl ty3 (Gd.get n.1 hp), gF [(49, some 25)] rfl rfl fun hp _ _ h n => ok_lss rfl (Gd.get n.1 hp) (cI rfl), o1 [(47, some 23), (50, some 26)] rfl fun _ _ h n => ok_pickOr rfl n.1 (cB rfl) (Gd.get n.2.1), cm 27 rfl rfl, gF [(9, none)] rfl rfl fun hp _ _ h n => ok_fieldAddr rfl fo24_2 (at_Point3_2 _) ((up i9 h n.1)).ptr, gF [(53, some 29)] rfl rfl fun hp _ _ h n => ok_load rfl ty3 (Gd.get n.1 hp), gF [(54, some 30)] rfl rfl fun hp _ _ h n => ok_gtr rfl (Gd.get n.1 hp) (cI rfl), o1 [(52, some 28), (55, some 31)] rfl fun _ _ h n => ok_pickOr rfl n.1 (cB rfl) (Gd.get n.2.1), cm 32 rfl rfl, gF [(6, none)] rfl rfl fun hp _ _ h n => ok_load rfl ty24 ((up i6 h n.1)).ptr, gF [(58, some 34)] rfl rfl fun hp _ _ h n => ok_call rfl Try.call20 (ref11_Valid_ok (Gd.get n.1 hp) (hx3 hp)), gF [(59, some 35)] rfl rfl fun hp _ _ h n => ok_not rfl (Gd.get n.1 hp), o1 [(57, some 33), (60, some 36)] rfl fun _ _ h n => ok_pickM rfl n.1 hx2 (cB rfl) (Gd.get n.2.1), cm 37 rfl rfl, gF [(7, none)] rfl rfl fun hp _ _ h n => ok_load rfl ty24 ((up i7 h n.1)).ptr, gF [(63, some 39)] rfl rfl fun hp _ _ h n => ok_call rfl Try.call20 (ref11_Valid_ok (Gd.get n.1 hp) (hx5 hp)), gF [(64, some 40)] rfl rfl fun hp _ _ h n => ok_not rfl (Gd.get n.1 hp), o1 [(62, some 38), (65, some 41)] rfl fun _ _ h n => ok_pickM rfl n.1 hx4 (cB rfl) (Gd.get n.2.1), trivial⟩ W2 fun b q p => ?_
  exact tail_done (k := q) (w2 _ _ ⟨Bs.post ⟨hg, hs, hd⟩ p, p.ke 0 rfl i0, p.ke 6 rfl i6, p.ke 7 rfl i7, p.ke 8 rfl i8, p.ke 9 rfl i9, p.ke 11 rfl i11, p.ou 42 66 rfl, trivial⟩)
 rintro a k ⟨⟨hg, hs, hd⟩, i0, i6, i7, i8, i9, i11, i66, _⟩
 refine wp_cond_split (isBool i66) (fun hc1912 => ?_) (fun hc1912 => ?_)
 ·rw [if_pos hc1912] at hr
  refine stepL 2 (_ :: _ :: []) rfl ⟨hg, hs, hd⟩ (by kernel_rfl) ⟨mu rfl i11, cp 0 rfl rfl, trivial⟩ [⟨_, _⟩] (fun b q p => ⟨p.ou 1 10 rfl, trivial⟩) ?_
  rintro a k ⟨⟨hg, hs, hd⟩, i10, _⟩
  refine wp_ret ?_
  obtain rfl := Option.some.inj hr
  exact retC1 rfl hd hg i10
 rw [if_neg (by rw [hc1912]; decide)] at hr
 refine wp_skip ?_
 refine cutS (fun c l => Bs noF k0 215 c l ∧ IsV l_ (c.get 0) l ∧ IsRef p_ (c.get 6) l ∧ IsRef q_ (c.get 7) l ∧ IsRef d_ (c.get 8) l ∧ IsRef by_ (c.get 9) l ∧ IsV x1 (c.get 11) l ∧ IsOwn 0 37 ([] : List Box) (c.get 12) l ∧ Lo k0 (obF (c.get 12)) ∧ True) ?_ ?_
 ·intro Q3 W3 w3
  refine gS 1 (⟨some IsE0, []⟩ :: []) hs (by kernel_rfl) ⟨ob1 rfl fun b q h n => ok_assign rfl isE0_nil, trivial⟩ W3 fun b q p => ?_
  have hgq := hg.then p.grow
  have hsb := p.size.trans hs
  have hdb := p.defers.trans hd
  have j0 := p.ke 0 rfl i0
  have j6 := p.ke 6 rfl i6
  have j7 := p.ke 7 rfl i7
  have j8 := p.ke 8 rfl i8
  have j9 := p.ke 9 rfl i9
  have j11 := p.ke 11 rfl i11
  have j12 : IsE0 (b.get 12) q := p.ou 0 12 rfl
  have y12 : Lo k0 (obF (b.get 12)) := j12.lo
  replace j12 : IsOwn 0 37 ([] : List Box) (b.get 12) q := j12.own0
  exact tail_done (k := q) (w3 _ _ ⟨⟨hgq, hsb, hdb⟩, j0, j6, j7, j8, j9, j11, j12, y12, trivial⟩)
 rintro a k ⟨⟨hg, hs, hd⟩, i0, i6, i7, i8, i9, i11, i12, n12, _⟩
 refine wp_seq ?_
 refine cutS (fun c l => Bs noF k0 215 c l ∧ IsV l_ (c.get 0) l ∧ IsRef p_ (c.get 6) l ∧ IsRef q_ (c.get 7) l ∧ IsRef d_ (c.get 8) l ∧ IsRef by_ (c.get 9) l ∧ IsV x1 (c.get 11) l ∧ IsOwn 0 37 ([] : List Box) (c.get 12) l ∧ Lo k0 (obF (c.get 12)) ∧ IsI 0 (c.get 13) l ∧ True) ?_ ?_
 ·intro Q4 W4 w4
  refine gS 1 (⟨some (IsI 0), []⟩ :: []) hs (by kernel_rfl) ⟨aI rfl rfl, trivial⟩ W4 fun b q p => ?_
  exact tail_done (k := q) (w4 _ _ ⟨Bs.post ⟨hg, hs, hd⟩ p, p.ke 0 rfl i0, p.ke 6 rfl i6, p.ke 7 rfl i7, p.ke 8 rfl i8, p.ke 9 rfl i9, p.ke 11 rfl i11, p.ke 12 rfl i12, (by rw [p.old 12 rfl]; exact n12), p.ou 0 13 rfl, trivial⟩)
 rintro a k ⟨⟨hg, hs, hd⟩, i0, i6, i7, i8, i9, i11, i12, n12, i13, _⟩
 refine wp_block ?_
 obtain ⟨f1, hf1, hr⟩ := bind_some hr
 refine cutFe f1 (fun s' c l => Bs noF k0 215 c l ∧ IsV l_ (c.get 0) l ∧ IsRef p_ (c.get 6) l ∧ IsRef q_ (c.get 7) l ∧ IsRef d_ (c.get 8) l ∧ IsRef by_ (c.get 9) l ∧ IsV x1 (c.get 11) l ∧ IsOwn 0 37 s'.1 (c.get 12) l ∧ Lo k0 (obF (c.get 12)) ∧ IsV s'.2 (c.get 13) l ∧ True) (fun i' s' c l => (i' = 0 ∧ Bs noF k0 215 c l ∧ IsV l_ (c.get 0) l ∧ IsRef p_ (c.get 6) l ∧ IsRef q_ (c.get 7) l ∧ IsRef d_ (c.get 8) l ∧ IsRef by_ (c.get 9) l ∧ IsV x1 (c.get 11) l ∧ IsV s'.1 (c.get 12) l ∧ True)) (fun r' c l => bodyPost Try.prog Try.f7 (RetC noF k0 (IsV r')) .ret c l.w) ?_ hQ ?_ ?_ ?_
 ·intro Q5 W5 hgo hex hret
  refine sim_loop ?_ _ _ _ _ _ hf1 ⟨⟨hg, hs, hd⟩, i0, i6, i7, i8, i9, i11, i12, n12, i13, trivial⟩ Q5 W5 hgo hex hret
  clear hr hf1 hgo hex hret W5 hQ hg hs hd i0 i11 i12 i13 i6 i7 i8 i9 n12
  intro s1 fl_ a k hr hS Q hQ hgo1845 hex1846 hret1847
  obtain ⟨⟨hg, hs, hd⟩, i0, i6, i7, i8, i9, i11, i12, n12, i13, _⟩ := hS
  unfold law11_SightMoves_L0 at hr
  refine wp_seq ?_
  refine cutS (fun c l => Bs noF k0 215 c l ∧ IsV l_ (c.get 0) l ∧ IsRef p_ (c.get 6) l ∧ IsRef q_ (c.get 7) l ∧ IsRef d_ (c.get 8) l ∧ IsRef by_ (c.get 9) l ∧ IsV x1 (c.get 11) l ∧ IsOwn 0 37 s1.1 (c.get 12) l ∧ Lo k0 (obF (c.get 12)) ∧ IsV s1.2 (c.get 13) l ∧ (IsV (decide (s1.2 < (l_.length : Int)))) (c.get 71) l ∧ True) ?_ ?_
  ·intro Q6 W6 w5
   refine gS 4 (_ :: _ :: _ :: _ :: []) hs (by kernel_rfl) ⟨mu rfl i13, mu rfl i0, o1 [(69, some 1)] rfl fun _ _ h n => ok_len rfl rfl Try.underlying31 (IsV.rd n.1), o1 [(68, some 0), (70, some 2)] rfl fun _ _ h n => ok_lss rfl n.1 n.2.1, trivial⟩ W6 fun b q p => ?_
   exact tail_done (k := q) (w5 _ _ ⟨Bs.post ⟨hg, hs, hd⟩ p, p.ke 0 rfl i0, p.ke 6 rfl i6, p.ke 7 rfl i7, p.ke 8 rfl i8, p.ke 9 rfl i9, p.ke 11 rfl i11, p.ke 12 rfl i12, (by rw [p.old 12 rfl]; exact n12), p.ke 13 rfl i13, p.ou 3 71 rfl, trivial⟩)
  rintro a k ⟨⟨hg, hs, hd⟩, i0, i6, i7, i8, i9, i11, i12, n12, i13, i71, _⟩
  refine wp_cond_split (isBool i71) (fun hc1879 => ?_) (fun hc1879 => ?_)
  ·rw [if_pos hc1879] at hr
   refine wp_skip ?_
   refine wp_seq ?_
   refine wp_block ?_
   refine wp_seq ?_
   obtain ⟨x6, hx6, hr⟩ := bind_some hr
   refine cut (fun a' k' => Bs noF k0 215 a' k' ∧ (IsV l_) (a'.get 0) k' ∧ (IsRef p_) (a'.get 6) k' ∧ (IsRef q_) (a'.get 7) k' ∧ (IsRef d_) (a'.get 8) k' ∧ (IsRef by_) (a'.get 9) k' ∧ (IsV x1) (a'.get 11) k' ∧ IsOwn 0 37 s1.1 (a'.get 12) k' ∧ Lo k0 (obF (a'.get 12)) ∧ (IsV s1.2) (a'.get 13) k' ∧ (IsRef x6) (a'.get 14) k' ∧ True) ?_ hQ ?_
   ·intro Q7 W7 w6
    refine gS 5 (_ :: _ :: _ :: _ :: ⟨some (IsBox k.w.heap.size (⟨(⟨0, 0, 0, 0⟩ : Rect), 0, 0⟩ : Box)), []⟩ :: []) hs (by kernel_rfl) ⟨mu rfl i0, mu rfl i13, o1 [(74, some 0), (75, some 1)] rfl fun _ _ h n => ok_indexAddr rfl Try.underlying31 ty37 (IsV.rd n.1) n.2.1 hx6, o1 [(76, some 2)] rfl fun _ _ h n => ok_load rfl ty37 n.1, ob1 rfl fun _ _ h n => ok_alloc _ h.size rfl z37, trivial⟩ W7 fun b q p => ?_
    have hgq := hg.then p.grow
    have hsb := p.size.trans hs
    have hdb := p.defers.trans hd
    have j0 := p.ke 0 rfl i0
    have j6 := p.ke 6 rfl i6
    have j7 := p.ke 7 rfl i7
    have j8 := p.ke 8 rfl i8
    have j9 := p.ke 9 rfl i9
    have j11 := p.ke 11 rfl i11
    have j12 := p.ke 12 rfl i12
    have y12 : Lo k0 (obF (b.get 12)) := by rw [p.old 12 rfl]; exact n12
    have j13 := p.ke 13 rfl i13
    obtain ⟨b14, j14, x14, z14⟩ : (IsBox k.w.heap.size (⟨(⟨0, 0, 0, 0⟩ : Rect), 0, 0⟩ : Box)) (b.get 14) q := p.ou 4 14 rfl
    replace x14 : Lo k (Eq b14) := Lo.eq x14
    have y14 : Lo k0 (Eq b14) := x14.chg hg
    have j77 : (IsV x6) (b.get 77) q := p.ou 3 77 rfl
    have w12_14 : Apart (obF (b.get 12)) (Eq b14) := Apart.new (by rw [p.old 12 rfl]; exact i12.ltF) x14
    have hns := z14.nshF
    refine tail_storeB (i := 5) rfl rfl rfl rfl szf37 (Upd.self (α := Box)) j14 z14 j77 fun q2 hch hz => ?_
    replace hgq := hgq.step hch y14.wr
    have hle := hch.le hns
    replace j0 := Pers.pers hle j0
    replace j6 := Pers.pers hle j6
    replace j7 := Pers.pers hle j7
    replace j8 := Pers.pers hle j8
    replace j9 := Pers.pers hle j9
    replace j11 := Pers.pers hle j11
    replace j12 := j12.keep hch w12_14 hns
    replace j13 := Pers.pers hle j13
    replace j77 := Pers.pers hle j77
    replace z14 := hz
    clear hns hle hch
    obtain ⟨q, hqq⟩ : ∃ q, q = q2 := ⟨q2, rfl⟩
    subst hqq
    obtain ⟨q2, hsh, jn⟩ := z14.give
    replace j0 := Pers.pers hsh.le j0
    replace j6 := Pers.pers hsh.le j6
    replace j7 := Pers.pers hsh.le j7
    replace j8 := Pers.pers hsh.le j8
    replace j9 := Pers.pers hsh.le j9
    replace j11 := Pers.pers hsh.le j11
    replace j12 := j12.handed hsh w12_14
    replace j13 := Pers.pers hsh.le j13
    rw [← j14] at jn
    replace j14 := jn
    replace hgq := hgq.hand hsh y14.wr
    rw [← hsh.w]
    clear hsh
    obtain ⟨q, hqq⟩ : ∃ q, q = q2 := ⟨q2, rfl⟩
    subst hqq
    exact tail_done (k := q) (w6 _ _ ⟨⟨hgq, hsb, hdb⟩, j0, j6, j7, j8, j9, j11, j12, y12, j13, j14, trivial⟩)
   rintro a k ⟨⟨hg, hs, hd⟩, i0, i6, i7, i8, i9, i11, i12, n12, i13, i14, _⟩
   refine wp_seq ?_
   refine wp_seq ?_
   obtain ⟨x7, hx7, hr⟩ := bind_some hr
   refine cut (fun a' k' => Bs noF k0 215 a' k' ∧ (IsV l_) (a'.get 0) k' ∧ (IsRef p_) (a'.get 6) k' ∧ (IsRef q_) (a'.get 7) k' ∧ (IsRef d_) (a'.get 8) k' ∧ (IsRef by_) (a'.get 9) k' ∧ (IsV x1) (a'.get 11) k' ∧ IsOwn 0 37 s1.1 (a'.get 12) k' ∧ Lo k0 (obF (a'.get 12)) ∧ (IsV s1.2) (a'.get 13) k' ∧ (IsRef x6) (a'.get 14) k' ∧ (IsV (!x7)) (a'.get 80) k' ∧ True) ?_ hQ ?_
   ·intro Q8 W8 w7
    refine gS 3 (_ :: _ :: _ :: []) hs (by kernel_rfl) ⟨o1 [(14, none)] rfl fun _ _ h n => ok_load rfl ty37 ((up i14 h n.1)).ptr, o1 [(78, some 0)] rfl fun _ _ h n => ok_call rfl Try.call22 (ref09_RightBox_ok n.1 hx7), o1 [(79, some 1)] rfl fun _ _ h n => ok_not rfl n.1, trivial⟩ W8 fun b q p => ?_
    exact tail_done (k := q) (w7 _ _ ⟨Bs.post ⟨hg, hs, hd⟩ p, p.ke 0 rfl i0, p.ke 6 rfl i6, p.ke 7 rfl i7, p.ke 8 rfl i8, p.ke 9 rfl i9, p.ke 11 rfl i11, p.ke 12 rfl i12, (by rw [p.old 12 rfl]; exact n12), p.ke 13 rfl i13, p.ke 14 rfl i14, p.ou 2 80 rfl, trivial⟩)
   rintro a k ⟨⟨hg, hs, hd⟩, i0, i6, i7, i8, i9, i11, i12, n12, i13, i14, i80, _⟩
   refine wp_cond_split (isBool i80) (fun hc1873 => ?_) (fun hc1873 => ?_)
   ·rw [if_pos hc1873] at hr
    refine stepL 2 (_ :: _ :: []) rfl ⟨hg, hs, hd⟩ (by kernel_rfl) ⟨mu rfl i11, cp 0 rfl rfl, trivial⟩ [⟨_, _⟩] (fun b q p => ⟨p.ou 1 10 rfl, trivial⟩) ?_
    rintro a k ⟨⟨hg, hs, hd⟩, i10, _⟩
    refine wp_ret ?_
    exact hret1847 _ _ _ (Option.some.inj hr).symm (retC1 rfl hd hg i10)
   rw [if_neg (by rw [hc1873]; decide)] at hr
   refine wp_skip ?_
   refine wp_seq ?_
   obtain ⟨x8, hx8, hr⟩ := bind_some hr
   obtain ⟨x9, hx9, hr⟩ := bind_some hr
   obtain ⟨x10, hx10, hr⟩ := bind_some hr
   obtain ⟨x11, hx11, hr⟩ := bind_some hr
   refine cut (fun a' k' => Bs noF k0 215 a' k' ∧ (IsV l_) (a'.get 0) k' ∧ (IsRef p_) (a'.get 6) k' ∧ (IsRef q_) (a'.get 7) k' ∧ (IsRef d_) (a'.get 8) k' ∧ (IsRef by_) (a'.get 9) k' ∧ (IsV x1) (a'.get 11) k' ∧ IsOwn 0 37 s1.1 (a'.get 12) k' ∧ Lo k0 (obF (a'.get 12)) ∧ (IsV s1.2) (a'.get 13) k' ∧ (IsRef x6) (a'.get 14) k' ∧ (IsRef (⟨x8, x9, x10, x11⟩ : Rect)) (a'.get 15) k' ∧ True) ?_ hQ ?_
   ·intro Q9 W9 w8
    refine gS 26 (_ :: _ :: _ :: _ :: _ :: _ :: _ :: _ :: _ :: _ :: _ :: _ :: _ :: _ :: _ :: _ :: _ :: _ :: _ :: _ :: _ :: _ :: _ :: _ :: ⟨some (IsV (⟨x8, x9, x10, x11⟩ : Rect)), [(87, some 5), (93, some 11), (99, some 17), (105, some 23)]⟩ :: ⟨some (IsBox k.w.heap.size (⟨0, 0, 0, 0⟩ : Rect)), []⟩ :: []) hs (by kernel_rfl) ⟨o1 [(14, none)] rfl fun _ _ h n => ok_fieldAddr rfl fo37_0 (at_Box_0 _) ((up i14 h n.1)).ptr, o1 [(82, some 0)] rfl fun _ _ h n => ok_fieldAddr rfl fo35_0 (at_Rect_0 _) n.1, o1 [(83, some 1)] rfl fun _ _ h n => ok_load rfl ty3 n.1, o1 [(9, none)] rfl fun _ _ h n => ok_fieldAddr rfl fo24_0 (at_Point3_0 _) ((up i9 h n.1)).ptr, o1 [(85, some 3)] rfl fun _ _ h n => ok_load rfl ty3 n.1, o1 [(84, some 2), (86, some 4)] rfl fun _ _ h n => ok_add rfl n.1 n.2.1 hx8, o1 [(14, none)] rfl fun _ _ h n => ok_fieldAddr rfl fo37_0 (at_Box_0 _) ((up i14 h n.1)).ptr, o1 [(88, some 6)] rfl fun _ _ h n => ok_fieldAddr rfl fo35_1 (at_Rect_1 _) n.1, o1 [(89, some 7)] rfl fun _ _ h n => ok_load rfl ty3 n.1, o1 [(9, none)] rfl fun _ _ h n => ok_fieldAddr rfl fo24_1 (at_Point3_1 _) ((up i9 h n.1)).ptr, o1 [(91, some 9)] rfl fun _ _ h n => ok_load rfl ty3 n.1, o1 [(90, some 8), (92, some 10)] rfl fun _ _ h n => ok_add rfl n.1 n.2.1 hx9, o1 [(14, none)] rfl fun _ _ h n => ok_fieldAddr rfl fo37_0 (at_Box_0 _) ((up i14 h n.1)).ptr, o1 [(94, some 12)] rfl fun _ _ h n => ok_fieldAddr rfl fo35_2 (at_Rect_2 _) n.1, o1 [(95, some 13)] rfl fun _ _ h n => ok_load rfl ty3 n.1, o1 [(9, none)] rfl fun _ _ h n => ok_fieldAddr rfl fo24_0 (at_Point3_0 _) ((up i9 h n.1)).ptr, o1 [(97, some 15)] rfl fun _ _ h n => ok_load rfl ty3 n.1, o1 [(96, some 14), (98, some 16)] rfl fun _ _ h n => ok_add rfl n.1 n.2.1 hx10, o1 [(14, none)] rfl fun _ _ h n => ok_fieldAddr rfl fo37_0 (at_Box_0 _) ((up i14 h n.1)).ptr, o1 [(100, some 18)] rfl fun _ _ h n => ok_fieldAddr rfl fo35_3 (at_Rect_3 _) n.1, o1 [(101, some 19)] rfl fun _ _ h n => ok_load rfl ty3 n.1, o1 [(9, none)] rfl fun _ _ h n => ok_fieldAddr rfl fo24_1 (at_Point3_1 _) ((up i9 h n.1)).ptr, o1 [(103, some 21)] rfl fun _ _ h n => ok_load rfl ty3 n.1, o1 [(102, some 20), (104, some 22)] rfl fun _ _ h n => ok_add rfl n.1 n.2.1 hx11, ob1 rfl fun _ _ h n => ok_build rfl (bld35_0_1_2_3 n.1 n.2.1 n.2.2.1 n.2.2.2.1), ob1 rfl fun _ _ h n => ok_alloc _ h.size rfl z35, trivial⟩ W9 fun b q p => ?_
    have hgq := hg.then p.grow
    have hsb := p.size.trans hs
    have hdb := p.defers.trans hd
    have j0 := p.ke 0 rfl i0
    have j6 := p.ke 6 rfl i6
    have j7 := p.ke 7 rfl i7
    have j8 := p.ke 8 rfl i8
    have j9 := p.ke 9 rfl i9
    have j11 := p.ke 11 rfl i11
    have j12 := p.ke 12 rfl i12
    have y12 : Lo k0 (obF (b.get 12)) := by rw [p.old 12 rfl]; exact n12
    have j13 := p.ke 13 rfl i13
    have j14 := p.ke 14 rfl i14
    obtain ⟨b15, j15, x15, z15⟩ : (IsBox k.w.heap.size (⟨0, 0, 0, 0⟩ : Rect)) (b.get 15) q := p.ou 25 15 rfl
    replace x15 : Lo k (Eq b15) := Lo.eq x15
    have y15 : Lo k0 (Eq b15) := x15.chg hg
    have j106 : (IsV (⟨x8, x9, x10, x11⟩ : Rect)) (b.get 106) q := p.ou 24 106 rfl
    have w12_15 : Apart (obF (b.get 12)) (Eq b15) := Apart.new (by rw [p.old 12 rfl]; exact i12.ltF) x15
    have hns := z15.nshF
    refine tail_storeB (i := 26) rfl rfl rfl rfl szf35 (Upd.self (α := Rect)) j15 z15 j106 fun q2 hch hz => ?_
    replace hgq := hgq.step hch y15.wr
    have hle := hch.le hns
    replace j0 := Pers.pers hle j0
    replace j6 := Pers.pers hle j6
    replace j7 := Pers.pers hle j7
    replace j8 := Pers.pers hle j8
    replace j9 := Pers.pers hle j9
    replace j11 := Pers.pers hle j11
    replace j12 := j12.keep hch w12_15 hns
    replace j13 := Pers.pers hle j13
    replace j14 := Pers.pers hle j14
    replace j106 := Pers.pers hle j106
    replace z15 := hz
    clear hns hle hch
    obtain ⟨q, hqq⟩ : ∃ q, q = q2 := ⟨q2, rfl⟩
    subst hqq
    obtain ⟨q2, hsh, jn⟩ := z15.give
    replace j0 := Pers.pers hsh.le j0
    replace j6 := Pers.pers hsh.le j6
    replace j7 := Pers.pers hsh.le j7
    replace j8 := Pers.pers hsh.le j8
    replace j9 := Pers.pers hsh.le j9
    replace j11 := Pers.pers hsh.le j11
    replace j12 := j12.handed hsh w12_15
    replace j13 := Pers.pers hsh.le j13
    replace j14 := Pers.pers hsh.le j14
    rw [← j15] at jn
    replace j15 := jn
    replace hgq := hgq.hand hsh y15.wr
    rw [← hsh.w]
    clear hsh
    obtain ⟨q, hqq⟩ : ∃ q, q = q2 := ⟨q2, rfl⟩
    subst hqq
    exact tail_done (k := q) (w8 _ _ ⟨⟨hgq, hsb, hdb⟩, j0, j6, j7, j8, j9, j11, j12, y12, j13, j14, j15, trivial⟩)
   rintro a k ⟨⟨hg, hs, hd⟩, i0, i6, i7, i8, i9, i11, i12, n12, i13, i14, i15, _⟩
   refine wp_seq ?_
   obtain ⟨x12, hx12, hr⟩ := bind_some hr
   obtain ⟨x13, hx13, hr⟩ := bind_some hr
   refine cut (fun a' k' => Bs noF k0 215 a' k' ∧ (IsV l_) (a'.get 0) k' ∧ (IsRef p_) (a'.get 6) k' ∧ (IsRef q_) (a'.get 7) k' ∧ (IsRef d_) (a'.get 8) k' ∧ (IsRef by_) (a'.get 9) k' ∧ (IsV x1) (a'.get 11) k' ∧ IsOwn 0 37 s1.1 (a'.get 12) k' ∧ Lo k0 (obF (a'.get 12)) ∧ (IsV s1.2) (a'.get 13) k' ∧ (IsRef (⟨(⟨x8, x9, x10, x11⟩ : Rect), x12, x13⟩ : Box)) (a'.get 16) k' ∧ True) ?_ hQ ?_
   ·intro Q10 W10 w9
    refine gS 13 (_ :: _ :: _ :: _ :: _ :: _ :: _ :: _ :: _ :: _ :: _ :: ⟨some (IsV (⟨(⟨x8, x9, x10, x11⟩ : Rect), x12, x13⟩ : Box)), [(107, some 0), (112, some 5), (117, some 10)]⟩ :: ⟨some (IsBox k.w.heap.size (⟨(⟨0, 0, 0, 0⟩ : Rect), 0, 0⟩ : Box)), []⟩ :: []) hs (by kernel_rfl) ⟨o1 [(15, none)] rfl fun _ _ h n => ok_load rfl ty35 ((up i15 h n.1)).ptr, o1 [(14, none)] rfl fun _ _ h n => ok_fieldAddr rfl fo37_1 (at_Box_1 _) ((up i14 h n.1)).ptr, o1 [(108, some 1)] rfl fun _ _ h n => ok_load rfl ty3 n.1, o1 [(9, none)] rfl fun _ _ h n => ok_fieldAddr rfl fo24_2 (at_Point3_2 _) ((up i9 h n.1)).ptr, o1 [(110, some 3)] rfl fun _ _ h n => ok_load rfl ty3 n.1, o1 [(109, some 2), (111, some 4)] rfl fun _ _ h n => ok_add rfl n.1 n.2.1 hx12, o1 [(14, none)] rfl fun _ _ h n => ok_fieldAddr rfl fo37_2 (at_Box_2 _) ((up i14 h n.1)).ptr, o1 [(113, some 6)] rfl fun _ _ h n => ok_load rfl ty3 n.1, o1 [(9, none)] rfl fun _ _ h n => ok_fieldAddr rfl fo24_2 (at_Point3_2 _) ((up i9 h n.1)).ptr, o1 [(115, some 8)] rfl fun _ _ h n => ok_load rfl ty3 n.1, o1 [(114, some 7), (116, some 9)] rfl fun _ _ h n => ok_add rfl n.1 n.2.1 hx13, ob1 rfl fun _ _ h n => ok_build rfl (bld37_0_1_2 n.1 n.2.1 n.2.2.1), ob1 rfl fun _ _ h n => ok_alloc _ h.size rfl z37, trivial⟩ W10 fun b q p => ?_
    have hgq := hg.then p.grow
    have hsb := p.size.trans hs
    have hdb := p.defers.trans hd
    have j0 := p.ke 0 rfl i0
    have j6 := p.ke 6 rfl i6
    have j7 := p.ke 7 rfl i7
    have j8 := p.ke 8 rfl i8
    have j9 := p.ke 9 rfl i9
    have j11 := p.ke 11 rfl i11
    have j12 := p.ke 12 rfl i12
    have y12 : Lo k0 (obF (b.get 12)) := by rw [p.old 12 rfl]; exact n12
    have j13 := p.ke 13 rfl i13
    obtain ⟨b16, j16, x16, z16⟩ : (IsBox k.w.heap.size (⟨(⟨0, 0, 0, 0⟩ : Rect), 0, 0⟩ : Box)) (b.get 16) q := p.ou 12 16 rfl
    replace x16 : Lo k (Eq b16) := Lo.eq x16
    have y16 : Lo k0 (Eq b16) := x16.chg hg
    have j118 : (IsV (⟨(⟨x8, x9, x10, x11⟩ : Rect), x12, x13⟩ : Box)) (b.get 118) q := p.ou 11 118 rfl
    have w12_16 : Apart (obF (b.get 12)) (Eq b16) := Apart.new (by rw [p.old 12 rfl]; exact i12.ltF) x16
    have hns := z16.nshF
    refine tail_storeB (i := 13) rfl rfl rfl rfl szf37 (Upd.self (α := Box)) j16 z16 j118 fun q2 hch hz => ?_
    replace hgq := hgq.step hch y16.wr
    have hle := hch.le hns
    replace j0 := Pers.pers hle j0
    replace j6 := Pers.pers hle j6
    replace j7 := Pers.pers hle j7
    replace j8 := Pers.pers hle j8
    replace j9 := Pers.pers hle j9
    replace j11 := Pers.pers hle j11
    replace j12 := j12.keep hch w12_16 hns
    replace j13 := Pers.pers hle j13
    replace j118 := Pers.pers hle j118
    replace z16 := hz
    clear hns hle hch
    obtain ⟨q, hqq⟩ : ∃ q, q = q2 := ⟨q2, rfl⟩
    subst hqq
    obtain ⟨q2, hsh, jn⟩ := z16.give
    replace j0 := Pers.pers hsh.le j0
    replace j6 := Pers.pers hsh.le j6
    replace j7 := Pers.pers hsh.le j7
    replace j8 := Pers.pers hsh.le j8
    replace j9 := Pers.pers hsh.le j9
    replace j11 := Pers.pers hsh.le j11
    replace j12 := j12.handed hsh w12_16
    replace j13 := Pers.pers hsh.le j13
    rw [← j16] at jn
    replace j16 := jn
    replace hgq := hgq.hand hsh y16.wr
    rw [← hsh.w]
    clear hsh
    obtain ⟨q, hqq⟩ : ∃ q, q = q2 := ⟨q2, rfl⟩
    subst hqq
    exact tail_done (k := q) (w9 _ _ ⟨⟨hgq, hsb, hdb⟩, j0, j6, j7, j8, j9, j11, j12, y12, j13, j16, trivial⟩)
   rintro a k ⟨⟨hg, hs, hd⟩, i0, i6, i7, i8, i9, i11, i12, n12, i13, i16, _⟩
   refine wp_seq ?_
   refine wp_seq ?_
   obtain ⟨x17, hx17, hr⟩ := bind_some hr
   refine cut (fun a' k' => Bs noF k0 215 a' k' ∧ (IsV l_) (a'.get 0) k' ∧ (IsRef p_) (a'.get 6) k' ∧ (IsRef q_) (a'.get 7) k' ∧ (IsRef d_) (a'.get 8) k' ∧ (IsRef by_) (a'.get 9) k' ∧ (IsV x1) (a'.get 11) k' ∧ IsOwn 0 37 s1.1 (a'.get 12) k' ∧ Lo k0 (obF (a'.get 12)) ∧ (IsV s1.2) (a'.get 13) k' ∧ (IsRef (⟨(⟨x8, x9, x10, x11⟩ : Rect), x12, x13⟩ : Box)) (a'.get 16) k' ∧ (IsV (!x17)) (a'.get 121) k' ∧ True) ?_ hQ ?_
   ·intro Q11 W11 w10
    refine gS 3 (_ :: _ :: _ :: []) hs (by kernel_rfl) ⟨o1 [(16, none)] rfl fun _ _ h n => ok_load rfl ty37 ((up i16 h n.1)).ptr, o1 [(119, some 0)] rfl fun _ _ h n => ok_call rfl Try.call22 (ref09_RightBox_ok n.1 hx17), o1 [(120, some 1)] rfl fun _ _ h n => ok_not rfl n.1, trivial⟩ W11 fun b q p => ?_
    exact tail_done (k := q) (w10 _ _ ⟨Bs.post ⟨hg, hs, hd⟩ p, p.ke 0 rfl i0, p.ke 6 rfl i6, p.ke 7 rfl i7, p.ke 8 rfl i8, p.ke 9 rfl i9, p.ke 11 rfl i11, p.ke 12 rfl i12, (by rw [p.old 12 rfl]; exact n12), p.ke 13 rfl i13, p.ke 16 rfl i16, p.ou 2 121 rfl, trivial⟩)
   rintro a k ⟨⟨hg, hs, hd⟩, i0, i6, i7, i8, i9, i11, i12, n12, i13, i16, i121, _⟩
   refine wp_cond_split (isBool i121) (fun hc1866 => ?_) (fun hc1866 => ?_)
   ·rw [if_pos hc1866] at hr
    refine stepL 2 (_ :: _ :: []) rfl ⟨hg, hs, hd⟩ (by kernel_rfl) ⟨mu rfl i11, cp 0 rfl rfl, trivial⟩ [⟨_, _⟩] (fun b q p => ⟨p.ou 1 10 rfl, trivial⟩) ?_
    rintro a k ⟨⟨hg, hs, hd⟩, i10, _⟩
    refine wp_ret ?_
    exact hret1847 _ _ _ (Option.some.inj hr).symm (retC1 rfl hd hg i10)
   rw [if_neg (by rw [hc1866]; decide)] at hr
   refine wp_skip ?_
   obtain ⟨x18, hx18, hr⟩ := bind_some hr
   refine cut (fun a' k' => Bs noF k0 215 a' k' ∧ (IsV l_) (a'.get 0) k' ∧ (IsRef p_) (a'.get 6) k' ∧ (IsRef q_) (a'.get 7) k' ∧ (IsRef d_) (a'.get 8) k' ∧ (IsRef by_) (a'.get 9) k' ∧ (IsV x1) (a'.get 11) k' ∧ IsOwn 0 37 x18 (a'.get 12) k' ∧ Lo k0 (obF (a'.get 12)) ∧ (IsV s1.2) (a'.get 13) k' ∧ True) ?_ hQ ?_
   ·intro Q12 W12 w11
    refine gS 3 (⟨some (OwnAt (a.get 12) 0 37 s1.1), [(12, none)]⟩ :: _ :: ⟨some (IsV (α := (List Box)) ([(⟨(⟨x8, x9, x10, x11⟩ : Rect), x12, x13⟩ : Box)])), [(124, some 1)]⟩ :: []) hs (by kernel_rfl) ⟨ob1 rfl fun _ _ h n => ok_moveOA (.inl rfl) (ownAt n.1 (up i12 h n.1)), o1 [(16, none)] rfl fun _ _ h n => ok_load rfl ty37 ((up i16 h n.1)).ptr, ob1 rfl fun _ _ h n => ok_buildSlice rfl Try.underlying31 eo37 rfl (by decide) (by decide) ⟨rfl, n.1, trivial⟩, trivial⟩ W12 fun b q p => ?_
    have hgq := hg.then p.grow
    have hsb := p.size.trans hs
    have hdb := p.defers.trans hd
    have j0 := p.ke 0 rfl i0
    have j6 := p.ke 6 rfl i6
    have j7 := p.ke 7 rfl i7
    have j8 := p.ke 8 rfl i8
    have j9 := p.ke 9 rfl i9
    have j11 := p.ke 11 rfl i11
    have j13 := p.ke 13 rfl i13
    have e123 : b.get 123 = a.get 12 := (p.ou 0 123 rfl).1
    have j123 : IsOwn 0 37 s1.1 (b.get 123) q := (p.ou 0 123 rfl).2
    have y123 : Lo k0 (obF (b.get 123)) := by rw [e123]; exact n12
    have j125 : (IsV (α := (List Box)) ([(⟨(⟨x8, x9, x10, x11⟩ : Rect), x12, x13⟩ : Box)])) (b.get 125) q := p.ou 2 125 rfl
    have hns := j123.nshF
    refine tail_appendS (i := 3) (d := 126) rfl rfl rfl rfl (by rw [hsb]; decide) (e := 37) Try.underlying31 eo37 j123 (IsV.rd j125) hx18 fun b2 q2 hsz hdf hoth hch hown hob => ?_
    have hle := hch.le hns
    have yn : Lo k0 (obF (b2.get 126)) := y123.app hgq hob
    replace j0 := Pers.pers hle j0
    replace j6 := Pers.pers hle j6
    replace j7 := Pers.pers hle j7
    replace j8 := Pers.pers hle j8
    replace j9 := Pers.pers hle j9
    replace j11 := Pers.pers hle j11
    replace j13 := Pers.pers hle j13
    replace j125 := Pers.pers hle j125
    replace hgq := hgq.step hch y123.wr
    rw [← hoth 0 (by decide)] at j0
    rw [← hoth 6 (by decide)] at j6
    rw [← hoth 7 (by decide)] at j7
    rw [← hoth 8 (by decide)] at j8
    rw [← hoth 9 (by decide)] at j9
    rw [← hoth 11 (by decide)] at j11
    rw [← hoth 13 (by decide)] at j13
    rw [← hoth 125 (by decide)] at j125
    have j126 := hown
    have y126 := yn
    replace hsb := hsz.trans hsb
    replace hdb := hdf.trans hdb
    clear hle hch hown hob hns yn hsz hdf hoth
    obtain ⟨b, hbb⟩ : ∃ b, b = b2 := ⟨b2, rfl⟩
    subst hbb
    obtain ⟨q, hqq⟩ : ∃ q, q = q2 := ⟨q2, rfl⟩
    subst hqq
    refine tail_assign (i := 4) (d := 12) rfl rfl (.inl rfl) rfl (by rw [hsb]; decide) fun b2 hsz hdf hnew hoth => ?_
    have jn : (IsOwn 0 37 x18) (b2.get 12) q := by rw [hnew]; exact j126
    have yn : Lo k0 (obF (b2.get 12)) := by rw [hnew]; exact y126
    rw [← hoth 0 (by decide)] at j0
    rw [← hoth 6 (by decide)] at j6
    rw [← hoth 7 (by decide)] at j7
    rw [← hoth 8 (by decide)] at j8
    rw [← hoth 9 (by decide)] at j9
    rw [← hoth 11 (by decide)] at j11
    rw [← hoth 13 (by decide)] at j13
    rw [← hoth 125 (by decide)] at j125
    have j12 := jn
    have y12 := yn
    replace hsb := hsz.trans hsb
    replace hdb := hdf.trans hdb
    clear hsz hdf hoth
    obtain ⟨b, hbb⟩ : ∃ b, b = b2 := ⟨b2, rfl⟩
    subst hbb
    exact tail_done (k := q) (w11 _ _ ⟨⟨hgq, hsb, hdb⟩, j0, j6, j7, j8, j9, j11, j12, y12, j13, trivial⟩)
   rintro a k ⟨⟨hg, hs, hd⟩, i0, i6, i7, i8, i9, i11, i12, n12, i13, _⟩
   obtain ⟨x19, hx19, hr⟩ := bind_some hr
   refine cut (fun a' k' => Bs noF k0 215 a' k' ∧ (IsV l_) (a'.get 0) k' ∧ (IsRef p_) (a'.get 6) k' ∧ (IsRef q_) (a'.get 7) k' ∧ (IsRef d_) (a'.get 8) k' ∧ (IsRef by_) (a'.get 9) k' ∧ (IsV x1) (a'.get 11) k' ∧ IsOwn 0 37 x18 (a'.get 12) k' ∧ Lo k0 (obF (a'.get 12)) ∧ (IsV x19) (a'.get 13) k' ∧ True) ?_ hQ ?_
   ·intro Q13 W13 w12
    refine gS 3 (_ :: _ :: _ :: []) hs (by kernel_rfl) ⟨mu rfl i13, o1 [(72, some 0)] rfl fun _ _ h n => ok_add rfl n.1 (cI rfl) hx19, cp 1 rfl rfl, trivial⟩ W13 fun b q p => ?_
    exact tail_done (k := q) (w12 _ _ ⟨Bs.post ⟨hg, hs, hd⟩ p, p.ke 0 rfl i0, p.ke 6 rfl i6, p.ke 7 rfl i7, p.ke 8 rfl i8, p.ke 9 rfl i9, p.ke 11 rfl i11, p.ke 12 rfl i12, (by rw [p.old 12 rfl]; exact n12), p.ou 2 13 rfl, trivial⟩)
   rintro a k ⟨⟨hg, hs, hd⟩, i0, i6, i7, i8, i9, i11, i12, n12, i13, _⟩
   exact hgo1845 _ _ _ (Option.some.inj hr).symm ⟨⟨hg, hs, hd⟩, i0, i6, i7, i8, i9, i11, i12, n12, i13, trivial⟩
  rw [if_neg (by rw [hc1879]; decide)] at hr
  refine wp_exit ?_
  obtain ⟨kk, sh1878, ii12⟩ := i12.give
  replace i0 := Pers.pers sh1878.le i0
  replace i6 := Pers.pers sh1878.le i6
  replace i7 := Pers.pers sh1878.le i7
  replace i8 := Pers.pers sh1878.le i8
  replace i9 := Pers.pers sh1878.le i9
  replace i11 := Pers.pers sh1878.le i11
  replace i12 := ii12
  replace hg := hg.hand sh1878 n12.wr
  rw [← sh1878.w]
  clear sh1878
  obtain ⟨k, hkk⟩ : ∃ k, k = kk := ⟨kk, rfl⟩
  subst hkk
  exact hex1846 _ _ _ _ (Option.some.inj hr).symm ⟨rfl, ⟨hg, hs, hd⟩, i0, i6, i7, i8, i9, i11, i12, trivial⟩
 ·rintro r1 a k rfl hR
  dsimp only at hr
  obtain rfl := Option.some.inj hr
  exact hR
 ·rintro _ _ _ rfl _
  simp at hr
 clear hf1
 rintro _ s2 a k rfl ⟨rfl, ⟨hg, hs, hd⟩, i0, i6, i7, i8, i9, i11, i12, _⟩
 dsimp only at hr
 refine wp_seq ?_
 obtain ⟨x20, hx20, hr⟩ := bind_some hr
 refine cut (fun a' k' => Bs noF k0 215 a' k' ∧ (IsRef p_) (a'.get 6) k' ∧ (IsRef q_) (a'.get 7) k' ∧ (IsRef d_) (a'.get 8) k' ∧ (IsRef by_) (a'.get 9) k' ∧ (IsV x1) (a'.get 11) k' ∧ (IsV s2.1) (a'.get 12) k' ∧ (IsV x20.1) (a'.get 17) k' ∧ (IsV x20.2) (a'.get 18) k' ∧ True) ?_ hQ ?_
 ·intro Q14 W14 w13
  refine gS 7 (_ :: _ :: _ :: _ :: _ :: _ :: _ :: []) hs (by kernel_rfl) ⟨mu rfl i0, o1 [(128, some 0)] rfl fun _ _ h n => ok_call rfl Try.call23 (solid_Of_ok n.1 hx20), cm 1 rfl rfl, o1 [(127, some 2)] rfl fun _ _ h n => ok_ext2_0 rfl n.1, o1 [(127, some 2)] rfl fun _ _ h n => ok_ext2_1 rfl n.1, cp 3 rfl rfl, cp 4 rfl rfl, trivial⟩ W14 fun b q p => ?_
  exact tail_done (k := q) (w13 _ _ ⟨Bs.post ⟨hg, hs, hd⟩ p, p.ke 6 rfl i6, p.ke 7 rfl i7, p.ke 8 rfl i8, p.ke 9 rfl i9, p.ke 11 rfl i11, p.ke 12 rfl i12, p.ou 5 17 rfl, p.ou 6 18 rfl, trivial⟩)
 rintro a k ⟨⟨hg, hs, hd⟩, i6, i7, i8, i9, i11, i12, i17, i18, _⟩
 refine wp_seq ?_
 obtain ⟨x23, hx23, hr⟩ := bind_some hr
 refine cut (fun a' k' => Bs noF k0 215 a' k' ∧ (IsRef p_) (a'.get 6) k' ∧ (IsRef q_) (a'.get 7) k' ∧ (IsRef d_) (a'.get 8) k' ∧ (IsRef by_) (a'.get 9) k' ∧ (IsV x1) (a'.get 11) k' ∧ (IsV x20.1) (a'.get 17) k' ∧ (IsV x20.2) (a'.get 18) k' ∧ (IsV x23.1) (a'.get 19) k' ∧ (IsV x23.2) (a'.get 20) k' ∧ True) ?_ hQ ?_
 ·intro Q15 W15 w14
  refine gS 7 (_ :: _ :: _ :: _ :: _ :: _ :: _ :: []) hs (by kernel_rfl) ⟨mu rfl i12, o1 [(133, some 0)] rfl fun _ _ h n => ok_call rfl Try.call23 (solid_Of_ok n.1 hx23), cm 1 rfl rfl, o1 [(132, some 2)] rfl fun _ _ h n => ok_ext2_0 rfl n.1, o1 [(132, some 2)] rfl fun _ _ h n => ok_ext2_1 rfl n.1, cp 3 rfl rfl, cp 4 rfl rfl, trivial⟩ W15 fun b q p => ?_
  exact tail_done (k := q) (w14 _ _ ⟨Bs.post ⟨hg, hs, hd⟩ p, p.ke 6 rfl i6, p.ke 7 rfl i7, p.ke 8 rfl i8, p.ke 9 rfl i9, p.ke 11 rfl i11, p.ke 17 rfl i17, p.ke 18 rfl i18, p.ou 5 19 rfl, p.ou 6 20 rfl, trivial⟩)
 rintro a k ⟨⟨hg, hs, hd⟩, i6, i7, i8, i9, i11, i17, i18, i19, i20, _⟩
 refine wp_seq ?_
 obtain ⟨x24, hx24, hr⟩ := bind_some hr
 obtain ⟨x25, hx25, hr⟩ := bind_some hr
 obtain ⟨x26, hx26, hr⟩ := bind_some hr
 obtain ⟨x27, hx27, hr⟩ := bind_some hr
 refine cut (fun a' k' => Bs noF k0 215 a' k' ∧ (IsRef p_) (a'.get 6) k' ∧ (IsRef q_) (a'.get 7) k' ∧ (IsRef d_) (a'.get 8) k' ∧ (IsRef by_) (a'.get 9) k' ∧ (IsV x1) (a'.get 11) k' ∧ (IsV x20.1) (a'.get 17) k' ∧ (IsV x20.2) (a'.get 18) k' ∧ (IsV x23.1) (a'.get 19) k' ∧ (IsV x23.2) (a'.get 20) k' ∧ (IsRef x27) (a'.get 21) k' ∧ True) ?_ hQ ?_
 ·intro Q16 W16 w15
  refine gS 17 (_ :: _ :: _ :: _ :: _ :: _ :: _ :: _ :: _ :: _ :: _ :: _ :: _ :: _ :: _ :: _ :: ⟨some (IsBox k.w.heap.size (⟨0, 0, 0⟩ : Point3)), []⟩ :: []) hs (by kernel_rfl) ⟨o1 [(6, none)] rfl fun _ _ h n => ok_fieldAddr rfl fo24_0 (at_Point3_0 _) ((up i6 h n.1)).ptr, o1 [(137, some 0)] rfl fun _ _ h n => ok_load rfl ty3 n.1, o1 [(9, none)] rfl fun _ _ h n => ok_fieldAddr rfl fo24_0 (at_Point3_0 _) ((up i9 h n.1)).ptr, o1 [(139, some 2)] rfl fun _ _ h n => ok_load rfl ty3 n.1, o1 [(138, some 1), (140, some 3)] rfl fun _ _ h n => ok_add rfl n.1 n.2.1 hx24, o1 [(6, none)] rfl fun _ _ h n => ok_fieldAddr rfl fo24_1 (at_Point3_1 _) ((up i6 h n.1)).ptr, o1 [(142, some 5)] rfl fun _ _ h n => ok_load rfl ty3 n.1, o1 [(9, none)] rfl fun _ _ h n => ok_fieldAddr rfl fo24_1 (at_Point3_1 _) ((up i9 h n.1)).ptr, o1 [(144, some 7)] rfl fun _ _ h n => ok_load rfl ty3 n.1, o1 [(143, some 6), (145, some 8)] rfl fun _ _ h n => ok_add rfl n.1 n.2.1 hx25, o1 [(6, none)] rfl fun _ _ h n => ok_fieldAddr rfl fo24_2 (at_Point3_2 _) ((up i6 h n.1)).ptr, o1 [(147, some 10)] rfl fun _ _ h n => ok_load rfl ty3 n.1, o1 [(9, none)] rfl fun _ _ h n => ok_fieldAddr rfl fo24_2 (at_Point3_2 _) ((up i9 h n.1)).ptr, o1 [(149, some 12)] rfl fun _ _ h n => ok_load rfl ty3 n.1, o1 [(148, some 11), (150, some 13)] rfl fun _ _ h n => ok_add rfl n.1 n.2.1 hx26, o1 [(141, some 4), (146, some 9), (151, some 14)] rfl fun _ _ h n => ok_call rfl Try.call16 (law11_at_ok n.1 n.2.1 n.2.2.1 hx27), ob1 rfl fun _ _ h n => ok_alloc _ h.size rfl z24, trivial⟩ W16 fun b q p => ?_
  have hgq := hg.then p.grow
  have hsb := p.size.trans hs
  have hdb := p.defers.trans hd
  have j6 := p.ke 6 rfl i6
  have j7 := p.ke 7 rfl i7
  have j8 := p.ke 8 rfl i8
  have j9 := p.ke 9 rfl i9
  have j11 := p.ke 11 rfl i11
  have j17 := p.ke 17 rfl i17
  have j18 := p.ke 18 rfl i18
  have j19 := p.ke 19 rfl i19
  have j20 := p.ke 20 rfl i20
  obtain ⟨b21, j21, x21, z21⟩ : (IsBox k.w.heap.size (⟨0, 0, 0⟩ : Point3)) (b.get 21) q := p.ou 16 21 rfl
  replace x21 : Lo k (Eq b21) := Lo.eq x21
  have y21 : Lo k0 (Eq b21) := x21.chg hg
  have j152 : (IsV x27) (b.get 152) q := p.ou 15 152 rfl
  have hns := z21.nshF
  refine tail_storeB (i := 17) rfl rfl rfl rfl szf24 (Upd.self (α := Point3)) j21 z21 j152 fun q2 hch hz => ?_
  replace hgq := hgq.step hch y21.wr
  have hle := hch.le hns
  replace j6 := Pers.pers hle j6
  replace j7 := Pers.pers hle j7
  replace j8 := Pers.pers hle j8
  replace j9 := Pers.pers hle j9
  replace j11 := Pers.pers hle j11
  replace j17 := Pers.pers hle j17
  replace j18 := Pers.pers hle j18
  replace j19 := Pers.pers hle j19
  replace j20 := Pers.pers hle j20
  replace j152 := Pers.pers hle j152
  replace z21 := hz
  clear hns hle hch
  obtain ⟨q, hqq⟩ : ∃ q, q = q2 := ⟨q2, rfl⟩
  subst hqq
  obtain ⟨q2, hsh, jn⟩ := z21.give
  replace j6 := Pers.pers hsh.le j6
  replace j7 := Pers.pers hsh.le j7
  replace j8 := Pers.pers hsh.le j8
  replace j9 := Pers.pers hsh.le j9
  replace j11 := Pers.pers hsh.le j11
  replace j17 := Pers.pers hsh.le j17
  replace j18 := Pers.pers hsh.le j18
  replace j19 := Pers.pers hsh.le j19
  replace j20 := Pers.pers hsh.le j20
  rw [← j21] at jn
  replace j21 := jn
  replace hgq := hgq.hand hsh y21.wr
  rw [← hsh.w]
  clear hsh
  obtain ⟨q, hqq⟩ : ∃ q, q = q2 := ⟨q2, rfl⟩
  subst hqq
  exact tail_done (k := q) (w15 _ _ ⟨⟨hgq, hsb, hdb⟩, j6, j7, j8, j9, j11, j17, j18, j19, j20, j21, trivial⟩)
 rintro a k ⟨⟨hg, hs, hd⟩, i6, i7, i8, i9, i11, i17, i18, i19, i20, i21, _⟩
 refine wp_seq ?_
 obtain ⟨x28, hx28, hr⟩ := bind_some hr
 obtain ⟨x29, hx29, hr⟩ := bind_some hr
 obtain ⟨x30, hx30, hr⟩ := bind_some hr
 obtain ⟨x31, hx31, hr⟩ := bind_some hr
 refine cut (fun a' k' => Bs noF k0 215 a' k' ∧ (IsRef p_) (a'.get 6) k' ∧ (IsRef q_) (a'.get 7) k' ∧ (IsRef d_) (a'.get 8) k' ∧ (IsV x1) (a'.get 11) k' ∧ (IsV x20.1) (a'.get 17) k' ∧ (IsV x20.2) (a'.get 18) k' ∧ (IsV x23.1) (a'.get 19) k' ∧ (IsV x23.2) (a'.get 20) k' ∧ (IsRef x27) (a'.get 21) k' ∧ (IsRef x31) (a'.get 22) k' ∧ True) ?_ hQ ?_
 ·intro Q17 W17 w16
  refine gS 17 (_ :: _ :: _ :: _ :: _ :: _ :: _ :: _ :: _ :: _ :: _ :: _ :: _ :: _ :: _ :: _ :: ⟨some (IsBox k.w.heap.size (⟨0, 0, 0⟩ : Point3)), []⟩ :: []) hs (by kernel_rfl) ⟨o1 [(7, none)] rfl fun _ _ h n => ok_fieldAddr rfl fo24_0 (at_Point3_0 _) ((up i7 h n.1)).ptr, o1 [(153, some 0)] rfl fun _ _ h n => ok_load rfl ty3 n.1, o1 [(9, none)] rfl fun _ _ h n => ok_fieldAddr rfl fo24_0 (at_Point3_0 _) ((up i9 h n.1)).ptr, o1 [(155, some 2)] rfl fun _ _ h n => ok_load rfl ty3 n.1, o1 [(154, some 1), (156, some 3)] rfl fun _ _ h n => ok_add rfl n.1 n.2.1 hx28, o1 [(7, none)] rfl fun _ _ h n => ok_fieldAddr rfl fo24_1 (at_Point3_1 _) ((up i7 h n.1)).ptr, o1 [(158, some 5)] rfl fun _ _ h n => ok_load rfl ty3 n.1, o1 [(9, none)] rfl fun _ _ h n => ok_fieldAddr rfl fo24_1 (at_Point3_1 _) ((up i9 h n.1)).ptr, o1 [(160, some 7)] rfl fun _ _ h n => ok_load rfl ty3 n.1, o1 [(159, some 6), (161, some 8)] rfl fun _ _ h n => ok_add rfl n.1 n.2.1 hx29, o1 [(7, none)] rfl fun _ _ h n => ok_fieldAddr rfl fo24_2 (at_Point3_2 _) ((up i7 h n.1)).ptr, o1 [(163, some 10)] rfl fun _ _ h n => ok_load rfl ty3 n.1, o1 [(9, none)] rfl fun _ _ h n => ok_fieldAddr rfl fo24_2 (at_Point3_2 _) ((up i9 h n.1)).ptr, o1 [(165, some 12)] rfl fun _ _ h n => ok_load rfl ty3 n.1, o1 [(164, some 11), (166, some 13)] rfl fun _ _ h n => ok_add rfl n.1 n.2.1 hx30, o1 [(157, some 4), (162, some 9), (167, some 14)] rfl fun _ _ h n => ok_call rfl Try.call16 (law11_at_ok n.1 n.2.1 n.2.2.1 hx31), ob1 rfl fun _ _ h n => ok_alloc _ h.size rfl z24, trivial⟩ W17 fun b q p => ?_
  have hgq := hg.then p.grow
  have hsb := p.size.trans hs
  have hdb := p.defers.trans hd
  have j6 := p.ke 6 rfl i6
  have j7 := p.ke 7 rfl i7
  have j8 := p.ke 8 rfl i8
  have j11 := p.ke 11 rfl i11
  have j17 := p.ke 17 rfl i17
  have j18 := p.ke 18 rfl i18
  have j19 := p.ke 19 rfl i19
  have j20 := p.ke 20 rfl i20
  have j21 := p.ke 21 rfl i21
  obtain ⟨b22, j22, x22, z22⟩ : (IsBox k.w.heap.size (⟨0, 0, 0⟩ : Point3)) (b.get 22) q := p.ou 16 22 rfl
  replace x22 : Lo k (Eq b22) := Lo.eq x22
  have y22 : Lo k0 (Eq b22) := x22.chg hg
  have j168 : (IsV x31) (b.get 168) q := p.ou 15 168 rfl
  have hns := z22.nshF
  refine tail_storeB (i := 17) rfl rfl rfl rfl szf24 (Upd.self (α := Point3)) j22 z22 j168 fun q2 hch hz => ?_
  replace hgq := hgq.step hch y22.wr
  have hle := hch.le hns
  replace j6 := Pers.pers hle j6
  replace j7 := Pers.pers hle j7
  replace j8 := Pers.pers hle j8
  replace j11 := Pers.pers hle j11
  replace j17 := Pers.pers hle j17
  replace j18 := Pers.pers hle j18
  replace j19 := Pers.pers hle j19
  replace j20 := Pers.pers hle j20
  replace j21 := Pers.pers hle j21
  replace j168 := Pers.pers hle j168
  replace z22 := hz
  clear hns hle hch
  obtain ⟨q, hqq⟩ : ∃ q, q = q2 := ⟨q2, rfl⟩
  subst hqq
  obtain ⟨q2, hsh, jn⟩ := z22.give
  replace j6 := Pers.pers hsh.le j6
  replace j7 := Pers.pers hsh.le j7
  replace j8 := Pers.pers hsh.le j8
  replace j11 := Pers.pers hsh.le j11
  replace j17 := Pers.pers hsh.le j17
  replace j18 := Pers.pers hsh.le j18
  replace j19 := Pers.pers hsh.le j19
  replace j20 := Pers.pers hsh.le j20
  replace j21 := Pers.pers hsh.le j21
  rw [← j22] at jn
  replace j22 := jn
  replace hgq := hgq.hand hsh y22.wr
  rw [← hsh.w]
  clear hsh
  obtain ⟨q, hqq⟩ : ∃ q, q = q2 := ⟨q2, rfl⟩
  subst hqq
  exact tail_done (k := q) (w16 _ _ ⟨⟨hgq, hsb, hdb⟩, j6, j7, j8, j11, j17, j18, j19, j20, j21, j22, trivial⟩)
 rintro a k ⟨⟨hg, hs, hd⟩, i6, i7, i8, i11, i17, i18, i19, i20, i21, i22, _⟩
 refine wp_seq ?_
 refine wp_seq ?_
 obtain ⟨x32, hx32, hr⟩ := bind_some hr
 obtain ⟨x33, hx33, hx32⟩ := ite_bindF hx32
 obtain ⟨x34, hx34, hr⟩ := bind_some hr
 obtain ⟨x35, hx35, hx34⟩ := ite_bindF hx34
 refine cut (fun a' k' => Bs noF k0 215 a' k' ∧ (IsRef p_) (a'.get 6) k' ∧ (IsRef q_) (a'.get 7) k' ∧ (IsRef d_) (a'.get 8) k' ∧ (IsV x1) (a'.get 11) k' ∧ (IsV x20.1) (a'.get 17) k' ∧ (IsV x20.2) (a'.get 18) k' ∧ (IsV x23.1) (a'.get 19) k' ∧ (IsV x23.2) (a'.get 20) k' ∧ (IsRef x27) (a'.get 21) k' ∧ (IsRef x31) (a'.get 22) k' ∧ (IsV x34) (a'.get 185) k' ∧ True) ?_ hQ ?_
 ·intro Q18 W18 w17
  refine gS 17 (_ :: _ :: ⟨some (IsV (x20.2 != x23.2)), [(169, some 0), (170, some 1)]⟩ :: _ :: _ :: ⟨some (Gd ((x20.2 != x23.2) = false) (IsV (x20.2 != 0))), [(173, some 4)]⟩ :: _ :: _ :: _ :: _ :: _ :: _ :: _ :: _ :: _ :: _ :: _ :: []) hs (by kernel_rfl) ⟨mu rfl i18, mu rfl i20, ob1 rfl fun _ _ h n => ok_neI rfl n.1 n.2.1, cm 2 rfl rfl, mF rfl rfl i18, gdF rfl rfl fun hp _ _ h n => ok_neI rfl (Gd.get n.1 hp) (cI rfl), o1 [(172, some 3), (174, some 5)] rfl fun _ _ h n => ok_pickOr rfl n.1 (cB rfl) (Gd.get n.2.1), cm 6 rfl rfl, gF [(21, none)] rfl rfl fun hp _ _ h n => ok_load rfl ty24 ((up i21 h n.1)).ptr, gF [(177, some 8)] rfl rfl fun hp _ _ h n => ok_call rfl Try.call20 (ref11_Valid_ok (Gd.get n.1 hp) (hx33 hp)), gF [(178, some 9)] rfl rfl fun hp _ _ h n => ok_not rfl (Gd.get n.1 hp), o1 [(176, some 7), (179, some 10)] rfl fun _ _ h n => ok_pickM rfl n.1 hx32 (cB rfl) (Gd.get n.2.1), cm 11 rfl rfl, gF [(22, none)] rfl rfl fun hp _ _ h n => ok_load rfl ty24 ((up i22 h n.1)).ptr, gF [(182, some 13)] rfl rfl fun hp _ _ h n => ok_call rfl Try.call20 (ref11_Valid_ok (Gd.get n.1 hp) (hx35 hp)), gF [(183, some 14)] rfl rfl fun hp _ _ h n => ok_not rfl (Gd.get n.1 hp), o1 [(181, some 12), (184, some 15)] rfl fun _ _ h n => ok_pickM rfl n.1 hx34 (cB rfl) (Gd.get n.2.1), trivial⟩ W18 fun b q p => ?_
  exact tail_done (k := q) (w17 _ _ ⟨Bs.post ⟨hg, hs, hd⟩ p, p.ke 6 rfl i6, p.ke 7 rfl i7, p.ke 8 rfl i8, p.ke 11 rfl i11, p.ke 17 rfl i17, p.ke 18 rfl i18, p.ke 19 rfl i19, p.ke 20 rfl i20, p.ke 21 rfl i21, p.ke 22 rfl i22, p.ou 16 185 rfl, trivial⟩)
 rintro a k ⟨⟨hg, hs, hd⟩, i6, i7, i8, i11, i17, i18, i19, i20, i21, i22, i185, _⟩
 refine wp_cond_split (isBool i185) (fun hc1895 => ?_) (fun hc1895 => ?_)
 ·rw [if_pos hc1895] at hr
  refine stepL 7 (_ :: _ :: _ :: _ :: _ :: _ :: _ :: []) rfl ⟨hg, hs, hd⟩ (by kernel_rfl) ⟨mu rfl i11, cm 0 rfl rfl, mT rfl rfl i18, mT rfl rfl i20, gT [(188, some 2), (189, some 3)] rfl rfl fun hp _ _ h n => ok_eqI rfl (Gd.get n.1 hp) (Gd.get n.2.1 hp), o1 [(187, some 1), (190, some 4)] rfl fun _ _ h n => ok_pickAnd rfl n.1 (Gd.get n.2.1) (cB rfl), cp 5 rfl rfl, trivial⟩ [⟨_, _⟩] (fun b q p => ⟨p.ou 6 10 rfl, trivial⟩) ?_
  rintro a k ⟨⟨hg, hs, hd⟩, i10, _⟩
  refine wp_ret ?_
  obtain rfl := Option.some.inj hr
  exact retC1 rfl hd hg i10
 rw [if_neg (by rw [hc1895]; decide)] at hr
 refine wp_skip ?_
 refine wp_seq ?_
 obtain ⟨x36, hx36, hr⟩ := bind_some hr
 obtain ⟨x37, hx37, hx36⟩ := ite_bind hx36
 obtain ⟨x38, hx38, hx36⟩ := ite_bind hx36
 obtain ⟨x39, hx39, hr⟩ := bind_some hr
 obtain ⟨x40, hx40, hx39⟩ := ite_bind hx39
 obtain ⟨x41, hx41, hx39⟩ := ite_bind hx39
 refine cut (fun a' k' => Bs noF k0 215 a' k' ∧ (IsV x39) (a'.get 10) k' ∧ True) ?_ hQ ?_
 ·intro Q19 W19 w18
  refine region (m := 24) (_ :: _ :: _ :: _ :: _ :: _ :: _ :: _ :: _ :: _ :: _ :: _ :: _ :: _ :: _ :: _ :: _ :: _ :: _ :: _ :: _ :: _ :: _ :: _ :: []) hmix hs (by kernel_rfl) ⟨mu rfl i11, cm 0 rfl rfl, mT rfl rfl i17, gT [(6, none)] rfl rfl fun hp _ _ h n => ok_load rfl ty24 ((up i6 h n.1)).ptr, gT [(7, none)] rfl rfl fun hp _ _ h n => ok_load rfl ty24 ((up i7 h n.1)).ptr, gT [(194, some 2), (195, some 3), (196, some 4)] rfl rfl fun hp _ _ h n => ok_call rfl Try.call11 (sight_Blocked_ok (Gd.get n.1 hp) (Gd.get n.2.1 hp) (Gd.get n.2.2.1 hp) (hx37 hp)), mT rfl rfl i19, gT [(21, none)] rfl rfl fun hp _ _ h n => ok_load rfl ty24 ((up i21 h n.1)).ptr, gT [(22, none)] rfl rfl fun hp _ _ h n => ok_load rfl ty24 ((up i22 h n.1)).ptr, gT [(198, some 6), (199, some 7), (200, some 8)] rfl rfl fun hp _ _ h n => ok_call rfl Try.call11 (sight_Blocked_ok (Gd.get n.1 hp) (Gd.get n.2.1 hp) (Gd.get n.2.2.1 hp) (hx38 hp)), gT [(197, some 5), (201, some 9)] rfl rfl fun hp _ _ h n => ok_eqB rfl Try.underlying4 (Gd.get n.1 hp) (Gd.get n.2.1 hp), o1 [(193, some 1), (202, some 10)] rfl fun _ _ h n => ok_pickM rfl n.1 hx36 (Gd.get n.2.1) (cB rfl), cm 11 rfl rfl, mT rfl rfl i17, gT [(6, none)] rfl rfl fun hp _ _ h n => ok_load rfl ty24 ((up i6 h n.1)).ptr, gT [(8, none)] rfl rfl fun hp _ _ h n => ok_load rfl ty24 ((up i8 h n.1)).ptr, gT [(205, some 13), (206, some 14), (207, some 15)] rfl rfl fun hp _ _ h n => ok_call rfl Try.call13 (sight_Ray_ok (Gd.get n.1 hp) (Gd.get n.2.1 hp) (Gd.get n.2.2.1 hp) (hx40 hp)), mT rfl rfl i19, gT [(21, none)] rfl rfl fun hp _ _ h n => ok_load rfl ty24 ((up i21 h n.1)).ptr, gT [(8, none)] rfl rfl fun hp _ _ h n => ok_load rfl ty24 ((up i8 h n.1)).ptr, gT [(209, some 17), (210, some 18), (211, some 19)] rfl rfl fun hp _ _ h n => ok_call rfl Try.call13 (sight_Ray_ok (Gd.get n.1 hp) (Gd.get n.2.1 hp) (Gd.get n.2.2.1 hp) (hx41 hp)), gT [(208, some 16), (212, some 20)] rfl rfl fun hp _ _ h n => ok_eqB rfl Try.underlying4 (Gd.get n.1 hp) (Gd.get n.2.1 hp), o1 [(204, some 12), (213, some 21)] rfl fun _ _ h n => ok_pickM rfl n.1 hx39 (Gd.get n.2.1) (cB rfl), cp 22 rfl rfl, trivial⟩ W19 fun b q p => ?_
  exact tail_done (k := q) (w18 _ _ ⟨Bs.post ⟨hg, hs, hd⟩ p, p.ou 23 10 rfl, trivial⟩)
 rintro a k ⟨⟨hg, hs, hd⟩, i10, _⟩
 refine wp_ret ?_
 obtain rfl := Option.some.inj hr
 exact retC1 rfl hd hg i10
end Go.Proofs.Ytbpecfmimgjakaa
