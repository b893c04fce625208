/- What the functions compute that the law reaches, part 5 -/
import Derived.Test.YtbpecfmimgjakaaT4
namespace Go.Proofs.Ytbpecfmimgjakaa
open Go.Gb
set_option linter.unusedVariables false
set_option linter.unusedSimpArgs false
set_option maxRecDepth 100000
def sight_meets_L0 (p_ : Point3) (v_ : Point3) (t_ : SightInterval) (x1 : (List Box)) (s1 : Int) : Option (Flow (Int) (Bool)) :=
 if (decide (s1 < (x1.length : Int))) then
  (getI x1 s1).bind fun x2 =>
  (sight_interval_narrow t_ p_.X v_.X x2.Base.X0 x2.Base.X1).bind fun x3 =>
  (sight_interval_narrow x3 p_.Y v_.Y x2.Base.Y0 x2.Base.Y1).bind fun x4 =>
  (sight_interval_narrow x4 p_.Z v_.Z x2.Z0 x2.Z1).bind fun x5 =>
  (sight_interval_empty x5).bind fun x6 =>
  if (!x6) then
   some (.ret true)
  else
   (addI s1 1).bind fun x7 =>
   some (.go x7)
 else
  some (.ex 0 s1)
def sight_meets (s_ : (List Slab)) (p_ : Point3) (v_ : Point3) (t_ : SightInterval) : Option (Bool) :=
 (solid_Boxes s_).bind fun x1 =>
 (iterL (sight_meets_L0 p_ v_ t_ x1) (x1.length + 1) 0).bind fun f1 => match f1 with
  | .go _ => none
  | .ex _ _ =>
   some false
  | .ret r1 => some r1
theorem sight_meets_ok {k0 : K} {v0 v1 v2 v3 : Value} {s_ : (List Slab)} {p_ : Point3} {v_ : Point3} {t_ : SightInterval} {r : Bool} (i0 : (IsV s_) v0 k0) (i1 : (IsV p_) v1 k0) (i2 : (IsV v_) v2 k0) (i3 : (IsV t_) v3 k0) (hr : sight_meets s_ p_ v_ t_ = some r) :
  Calls Try.prog 27 #[v0, v1, v2, v3] k0.w (Ret k0 (IsV r)) := by
 unfold sight_meets at hr
 refine Ret.ofC ?_
 refine enterK Try.func27 rfl Try.ntmps27 (show 4 ≤ 59 by decide) fun a k hk0 hs hd ha => ?_
 obtain ⟨e0, e1, e2, e3, _⟩ := ha
 replace i0 : (IsV s_) (a.get 0) k := by rw [e0, hk0]; exact i0
 replace i1 : (IsV p_) (a.get 1) k := by rw [e1, hk0]; exact i1
 replace i2 : (IsV v_) (a.get 2) k := by rw [e2, hk0]; exact i2
 replace i3 : (IsV t_) (a.get 3) k := by rw [e3, hk0]; exact i3
 have hQ : Gb.LetsOut (bodyPost Try.prog Try.f27 (RetC noF k0 (IsV r))) := letsOutC
 have hg : Chg noF k0 k := by rw [hk0]; exact Chg.refl _ k0
 refine stepL 4 (⟨some (IsRef p_), [(1, none)]⟩ :: ⟨some (IsRef v_), [(2, none)]⟩ :: ⟨some (IsRef t_), [(3, none)]⟩ :: ⟨some (IsV false), []⟩ :: []) rfl ⟨hg, hs, hd⟩ (by kernel_rfl) ⟨ob1 rfl fun _ _ h n => ok_boxR rfl (up i1 h n.1), ob1 rfl fun _ _ h n => ok_boxR rfl (up i2 h n.1), ob1 rfl fun _ _ h n => ok_boxR rfl (up i3 h n.1), ob1 rfl fun _ _ h n => ok_assign rfl (isV_bool.2 rfl), trivial⟩ [⟨_, _⟩, ⟨_, _⟩, ⟨_, _⟩, ⟨_, _⟩] (fun b q p => ⟨p.ke 0 rfl i0, p.ou 0 5 rfl, p.ou 1 6 rfl, p.ou 2 7 rfl, trivial⟩) ?_
 rintro a k ⟨⟨hg, hs, hd⟩, i0, i5, i6, i7, _⟩
 refine wp_seq ?_
 refine wp_seq ?_
 obtain ⟨x1, hx1, hr⟩ := bind_some hr
 refine cut (fun a' k' => Bs noF k0 59 a' k' ∧ (IsRef p_) (a'.get 5) k' ∧ (IsRef v_) (a'.get 6) k' ∧ (IsRef t_) (a'.get 7) k' ∧ (IsV x1) (a'.get 14) k' ∧ (IsL x1) (a'.get 15) k' ∧ (IsI 0) (a'.get 16) k' ∧ True) ?_ hQ ?_
 ·intro Q1 W1 w1
  refine gS 4 (_ :: _ :: _ :: ⟨some (IsI 0), []⟩ :: []) hs (by kernel_rfl) ⟨mu rfl i0, o1 [(13, some 0)] rfl fun _ _ h n => ok_call rfl Try.call46 (solid_Boxes_ok n.1 hx1), o1 [(14, some 1)] rfl fun _ _ h n => ok_len rfl rfl Try.underlying31 (IsV.rd n.1), ob1 rfl fun _ _ h n => ok_move rfl (cI rfl), trivial⟩ W1 fun b q p => ?_
  exact tail_done (k := q) (w1 _ _ ⟨Bs.post ⟨hg, hs, hd⟩ p, p.ke 5 rfl i5, p.ke 6 rfl i6, p.ke 7 rfl i7, p.ou 1 14 rfl, p.ou 2 15 rfl, p.ou 3 16 rfl, trivial⟩)
 rintro a k ⟨⟨hg, hs, hd⟩, i5, i6, i7, i14, i15, i16, _⟩
 refine wp_block ?_
 obtain ⟨f1, hf1, hr⟩ := bind_some hr
 refine cutFe f1 (fun s' c l => Bs noF k0 59 c l ∧ IsRef p_ (c.get 5) l ∧ IsRef v_ (c.get 6) l ∧ IsRef t_ (c.get 7) l ∧ IsV x1 (c.get 14) l ∧ IsL x1 (c.get 15) l ∧ IsV s' (c.get 16) l ∧ True) (fun i' s' c l => (i' = 0 ∧ Bs noF k0 59 c l ∧ True)) (fun r' c l => bodyPost Try.prog Try.f27 (RetC noF k0 (IsV r')) .ret c l.w) ?_ hQ ?_ ?_ ?_
 ·intro Q2 W2 hgo hex hret
  refine sim_loop ?_ _ _ _ _ _ hf1 ⟨⟨hg, hs, hd⟩, i5, i6, i7, i14, i15, i16, trivial⟩ Q2 W2 hgo hex hret
  clear hr hf1 hgo hex hret W2 hQ hg hs hd i14 i15 i16 i5 i6 i7
  intro s1 fl_ a k hr hS Q hQ hgo1522 hex1523 hret1524
  obtain ⟨⟨hg, hs, hd⟩, i5, i6, i7, i14, i15, i16, _⟩ := hS
  unfold sight_meets_L0 at hr
  refine stepL 1 (_ :: []) rfl ⟨hg, hs, hd⟩ (by kernel_rfl) ⟨o1 [(16, none), (15, none)] rfl fun _ _ h n => ok_lss rfl (up i16 h n.1) (up i15 h n.2.1), trivial⟩ [⟨_, _⟩, ⟨_, _⟩, ⟨_, _⟩, ⟨_, _⟩, ⟨_, _⟩, ⟨_, _⟩, ⟨_, _⟩] (fun b q p => ⟨p.ke 5 rfl i5, p.ke 6 rfl i6, p.ke 7 rfl i7, p.ke 14 rfl i14, p.ke 15 rfl i15, p.ke 16 rfl i16, p.ou 0 17 rfl, trivial⟩) ?_
  rintro a k ⟨⟨hg, hs, hd⟩, i5, i6, i7, i14, i15, i16, i17, _⟩
  refine wp_seq ?_
  refine wp_cond_split (isBool i17) (fun hc1554 => ?_) (fun hc1554 => ?_)
  ·rw [if_pos hc1554] at hr
   refine wp_skip ?_
   refine wp_seq ?_
   refine wp_block ?_
   refine wp_seq ?_
   obtain ⟨x2, hx2, hr⟩ := bind_some hr
   refine cut (fun a' k' => Bs noF k0 59 a' k' ∧ (IsRef p_) (a'.get 5) k' ∧ (IsRef v_) (a'.get 6) k' ∧ (IsRef t_) (a'.get 7) k' ∧ (IsRef x2) (a'.get 10) k' ∧ (IsV x1) (a'.get 14) k' ∧ (IsL x1) (a'.get 15) k' ∧ (IsV s1) (a'.get 16) k' ∧ True) ?_ hQ ?_
   ·intro Q3 W3 w2
    refine gS 3 (_ :: _ :: ⟨some (IsBox k.w.heap.size (⟨(⟨0, 0, 0, 0⟩ : Rect), 0, 0⟩ : Box)), []⟩ :: []) hs (by kernel_rfl) ⟨o1 [(14, none), (16, none)] rfl fun _ _ h n => ok_indexAddr rfl Try.underlying31 ty37 (IsV.rd (up i14 h n.1)) (up i16 h n.2.1) hx2, o1 [(18, some 0)] rfl fun _ _ h n => ok_load rfl ty37 n.1, ob1 rfl fun _ _ h n => ok_alloc _ h.size rfl z37, trivial⟩ W3 fun b q p => ?_
    have hgq := hg.then p.grow
    have hsb := p.size.trans hs
    have hdb := p.defers.trans hd
    have j5 := p.ke 5 rfl i5
    have j6 := p.ke 6 rfl i6
    have j7 := p.ke 7 rfl i7
    obtain ⟨b10, j10, x10, z10⟩ : (IsBox k.w.heap.size (⟨(⟨0, 0, 0, 0⟩ : Rect), 0, 0⟩ : Box)) (b.get 10) q := p.ou 2 10 rfl
    replace x10 : Lo k (Eq b10) := Lo.eq x10
    have y10 : Lo k0 (Eq b10) := x10.chg hg
    have j14 := p.ke 14 rfl i14
    have j15 := p.ke 15 rfl i15
    have j16 := p.ke 16 rfl i16
    have j19 : (IsV x2) (b.get 19) q := p.ou 1 19 rfl
    have hns := z10.nshF
    refine tail_storeB (i := 3) rfl rfl rfl rfl szf37 (Upd.self (α := Box)) j10 z10 j19 fun q2 hch hz => ?_
    replace hgq := hgq.step hch y10.wr
    have hle := hch.le hns
    replace j5 := Pers.pers hle j5
    replace j6 := Pers.pers hle j6
    replace j7 := Pers.pers hle j7
    replace j14 := Pers.pers hle j14
    replace j15 := Pers.pers hle j15
    replace j16 := Pers.pers hle j16
    replace j19 := Pers.pers hle j19
    replace z10 := hz
    clear hns hle hch
    obtain ⟨q, hqq⟩ : ∃ q, q = q2 := ⟨q2, rfl⟩
    subst hqq
    obtain ⟨q2, hsh, jn⟩ := z10.give
    replace j5 := Pers.pers hsh.le j5
    replace j6 := Pers.pers hsh.le j6
    replace j7 := Pers.pers hsh.le j7
    replace j14 := Pers.pers hsh.le j14
    replace j15 := Pers.pers hsh.le j15
    replace j16 := Pers.pers hsh.le j16
    rw [← j10] at jn
    replace j10 := jn
    replace hgq := hgq.hand hsh y10.wr
    rw [← hsh.w]
    clear hsh
    obtain ⟨q, hqq⟩ : ∃ q, q = q2 := ⟨q2, rfl⟩
    subst hqq
    exact tail_done (k := q) (w2 _ _ ⟨⟨hgq, hsb, hdb⟩, j5, j6, j7, j10, j14, j15, j16, trivial⟩)
   rintro a k ⟨⟨hg, hs, hd⟩, i5, i6, i7, i10, i14, i15, i16, _⟩
   refine cutS (fun c l => Bs noF k0 59 c l ∧ IsRef p_ (c.get 5) l ∧ IsRef v_ (c.get 6) l ∧ IsRef t_ (c.get 7) l ∧ IsRef x2 (c.get 10) l ∧ IsV x1 (c.get 14) l ∧ IsL x1 (c.get 15) l ∧ IsV s1 (c.get 16) l ∧ (∃ b11, c.get 11 = .pointer (some ⟨b11, 0, none⟩) ∧ Lo k0 (Eq b11) ∧ Gb.Box b11 t_ l ∧ True)) ?_ ?_
   ·intro Q4 W4 w3
    refine gS 2 (_ :: ⟨some (IsBox k.w.heap.size (⟨(⟨0, 0, false⟩ : SightBound), (⟨0, 0, false⟩ : SightBound), false, false⟩ : SightInterval)), []⟩ :: []) hs (by kernel_rfl) ⟨o1 [(7, none)] rfl fun _ _ h n => ok_load rfl ty55 ((up i7 h n.1)).ptr, ob1 rfl fun _ _ h n => ok_alloc _ h.size rfl z55, trivial⟩ W4 fun b q p => ?_
    have hgq := hg.then p.grow
    have hsb := p.size.trans hs
    have hdb := p.defers.trans hd
    have j5 := p.ke 5 rfl i5
    have j6 := p.ke 6 rfl i6
    have j7 := p.ke 7 rfl i7
    have j10 := p.ke 10 rfl i10
    obtain ⟨b11, j11, x11, z11⟩ : (IsBox k.w.heap.size (⟨(⟨0, 0, false⟩ : SightBound), (⟨0, 0, false⟩ : SightBound), false, false⟩ : SightInterval)) (b.get 11) q := p.ou 1 11 rfl
    replace x11 : Lo k (Eq b11) := Lo.eq x11
    have y11 : Lo k0 (Eq b11) := x11.chg hg
    have j14 := p.ke 14 rfl i14
    have j15 := p.ke 15 rfl i15
    have j16 := p.ke 16 rfl i16
    have j20 : (IsV t_) (b.get 20) q := p.ou 0 20 rfl
    have hns := z11.nshF
    refine tail_storeB (i := 2) rfl rfl rfl rfl szf55 (Upd.self (α := SightInterval)) j11 z11 j20 fun q2 hch hz => ?_
    replace hgq := hgq.step hch y11.wr
    have hle := hch.le hns
    replace j5 := Pers.pers hle j5
    replace j6 := Pers.pers hle j6
    replace j7 := Pers.pers hle j7
    replace j10 := Pers.pers hle j10
    replace j14 := Pers.pers hle j14
    replace j15 := Pers.pers hle j15
    replace j16 := Pers.pers hle j16
    replace j20 := Pers.pers hle j20
    replace z11 := hz
    clear hns hle hch
    obtain ⟨q, hqq⟩ : ∃ q, q = q2 := ⟨q2, rfl⟩
    subst hqq
    exact tail_done (k := q) (w3 _ _ ⟨⟨hgq, hsb, hdb⟩, j5, j6, j7, j10, j14, j15, j16, b11, j11, y11, z11, trivial⟩)
   rintro a k ⟨⟨hg, hs, hd⟩, i5, i6, i7, i10, i14, i15, i16, b11, i11, n11, c11, _⟩
   refine cutS (fun c l => Bs noF k0 59 c l ∧ IsRef p_ (c.get 5) l ∧ IsRef v_ (c.get 6) l ∧ IsRef t_ (c.get 7) l ∧ IsRef x2 (c.get 10) l ∧ c.get 11 = .pointer (some ⟨b11, 0, none⟩) ∧ Lo k0 (Eq b11) ∧ Gb.Box b11 t_ l ∧ IsMV 47 b11 (c.get 12) l ∧ IsV x1 (c.get 14) l ∧ IsL x1 (c.get 15) l ∧ IsV s1 (c.get 16) l ∧ True) ?_ ?_
   ·intro Q5 W5 w4
    refine gS 2 (⟨some (IsMV 47 b11), [(11, none)]⟩ :: _ :: []) hs (by kernel_rfl) ⟨ob1 rfl fun _ _ h n => ok_makeMV rfl (upE i11 n.1), cp 0 rfl rfl, trivial⟩ W5 fun b q p => ?_
    exact tail_done (k := q) (w4 _ _ ⟨Bs.post ⟨hg, hs, hd⟩ p, p.ke 5 rfl i5, p.ke 6 rfl i6, p.ke 7 rfl i7, p.ke 10 rfl i10, upE i11 (p.old 11 rfl), n11, Gb.Box.grow c11 p.grow, p.ou 1 12 rfl, p.ke 14 rfl i14, p.ke 15 rfl i15, p.ke 16 rfl i16, trivial⟩)
   rintro a k ⟨⟨hg, hs, hd⟩, i5, i6, i7, i10, i11, n11, c11, i12, i14, i15, i16, _⟩
   refine wp_seq ?_
   obtain ⟨x3, hx3, hr⟩ := bind_some hr
   refine cut (fun a' k' => Bs noF k0 59 a' k' ∧ (IsRef p_) (a'.get 5) k' ∧ (IsRef v_) (a'.get 6) k' ∧ (IsRef t_) (a'.get 7) k' ∧ (IsRef x2) (a'.get 10) k' ∧ a'.get 11 = .pointer (some ⟨b11, 0, none⟩) ∧ Lo k0 (Eq b11) ∧ Gb.Box b11 x3 k' ∧ (IsMV 47 b11) (a'.get 12) k' ∧ (IsV x1) (a'.get 14) k' ∧ (IsL x1) (a'.get 15) k' ∧ (IsV s1) (a'.get 16) k' ∧ True) ?_ hQ ?_
   ·intro Q6 W6 w5
    refine gS 11 (_ :: _ :: _ :: _ :: _ :: _ :: _ :: _ :: _ :: _ :: _ :: []) hs (by kernel_rfl) ⟨mu rfl i12, o1 [(5, none)] rfl fun _ _ h n => ok_fieldAddr rfl fo24_0 (at_Point3_0 _) ((up i5 h n.1)).ptr, o1 [(23, some 1)] rfl fun _ _ h n => ok_load rfl ty3 n.1, o1 [(6, none)] rfl fun _ _ h n => ok_fieldAddr rfl fo24_0 (at_Point3_0 _) ((up i6 h n.1)).ptr, o1 [(25, some 3)] rfl fun _ _ h n => ok_load rfl ty3 n.1, o1 [(10, none)] rfl fun _ _ h n => ok_fieldAddr rfl fo37_0 (at_Box_0 _) ((up i10 h n.1)).ptr, o1 [(27, some 5)] rfl fun _ _ h n => ok_fieldAddr rfl fo35_0 (at_Rect_0 _) n.1, o1 [(28, some 6)] rfl fun _ _ h n => ok_load rfl ty3 n.1, o1 [(10, none)] rfl fun _ _ h n => ok_fieldAddr rfl fo37_0 (at_Box_0 _) ((up i10 h n.1)).ptr, o1 [(30, some 8)] rfl fun _ _ h n => ok_fieldAddr rfl fo35_2 (at_Rect_2 _) n.1, o1 [(31, some 9)] rfl fun _ _ h n => ok_load rfl ty3 n.1, trivial⟩ W6 fun b q p => ?_
    have hgq := hg.then p.grow
    have hsb := p.size.trans hs
    have hdb := p.defers.trans hd
    have j5 := p.ke 5 rfl i5
    have j6 := p.ke 6 rfl i6
    have j7 := p.ke 7 rfl i7
    have j10 := p.ke 10 rfl i10
    have j11 := upE i11 (p.old 11 rfl)
    have z11 := Gb.Box.grow c11 p.grow
    have y11 := n11
    have j12 := p.ke 12 rfl i12
    have j14 := p.ke 14 rfl i14
    have j15 := p.ke 15 rfl i15
    have j16 := p.ke 16 rfl i16
    have j22 : (IsMV 47 b11) (b.get 22) q := p.ou 0 22 rfl
    have j24 : (IsV p_.X) (b.get 24) q := p.ou 2 24 rfl
    have j26 : (IsV v_.X) (b.get 26) q := p.ou 4 26 rfl
    have j29 : (IsV x2.Base.X0) (b.get 29) q := p.ou 7 29 rfl
    have j32 : (IsV x2.Base.X1) (b.get 32) q := p.ou 10 32 rfl
    have hns := z11.nshF
    refine tail_callMV (F := Eq b11) (i := 11) (d := 33) rfl rfl rfl rfl (by rw [hsb]; decide) j22 Try.call47 W6 (sight_interval_narrow_ok rfl z11 j24 j26 j29 j32 hx3) fun b2 q2 hsz hdf hoth hch hres => ?_
    have hle := hch.le hns
    replace j5 := Pers.pers hle j5
    replace j6 := Pers.pers hle j6
    replace j7 := Pers.pers hle j7
    replace j10 := Pers.pers hle j10
    replace j12 := Pers.pers hle j12
    replace j14 := Pers.pers hle j14
    replace j15 := Pers.pers hle j15
    replace j16 := Pers.pers hle j16
    replace j22 := Pers.pers hle j22
    replace j24 := Pers.pers hle j24
    replace j26 := Pers.pers hle j26
    replace j29 := Pers.pers hle j29
    replace j32 := Pers.pers hle j32
    replace hgq := hgq.step hch y11.wr
    replace z11 := hres
    rw [← hoth 5 (by decide)] at j5
    rw [← hoth 6 (by decide)] at j6
    rw [← hoth 7 (by decide)] at j7
    rw [← hoth 10 (by decide)] at j10
    rw [← hoth 11 (by decide)] at j11
    rw [← hoth 12 (by decide)] at j12
    rw [← hoth 14 (by decide)] at j14
    rw [← hoth 15 (by decide)] at j15
    rw [← hoth 16 (by decide)] at j16
    rw [← hoth 22 (by decide)] at j22
    rw [← hoth 24 (by decide)] at j24
    rw [← hoth 26 (by decide)] at j26
    rw [← hoth 29 (by decide)] at j29
    rw [← hoth 32 (by decide)] at j32
    replace hsb := hsz.trans hsb
    replace hdb := hdf.trans hdb
    clear hle hch hns hsz hdf hoth hres
    obtain ⟨b, hbb⟩ : ∃ b, b = b2 := ⟨b2, rfl⟩
    subst hbb
    obtain ⟨q, hqq⟩ : ∃ q, q = q2 := ⟨q2, rfl⟩
    subst hqq
    exact tail_done (k := q) (w5 _ _ ⟨⟨hgq, hsb, hdb⟩, j5, j6, j7, j10, j11, y11, z11, j12, j14, j15, j16, trivial⟩)
   rintro a k ⟨⟨hg, hs, hd⟩, i5, i6, i7, i10, i11, n11, c11, i12, i14, i15, i16, _⟩
   refine wp_seq ?_
   obtain ⟨x4, hx4, hr⟩ := bind_some hr
   refine cut (fun a' k' => Bs noF k0 59 a' k' ∧ (IsRef p_) (a'.get 5) k' ∧ (IsRef v_) (a'.get 6) k' ∧ (IsRef t_) (a'.get 7) k' ∧ (IsRef x2) (a'.get 10) k' ∧ a'.get 11 = .pointer (some ⟨b11, 0, none⟩) ∧ Lo k0 (Eq b11) ∧ Gb.Box b11 x4 k' ∧ (IsMV 47 b11) (a'.get 12) k' ∧ (IsV x1) (a'.get 14) k' ∧ (IsL x1) (a'.get 15) k' ∧ (IsV s1) (a'.get 16) k' ∧ True) ?_ hQ ?_
   ·intro Q7 W7 w6
    refine gS 11 (_ :: _ :: _ :: _ :: _ :: _ :: _ :: _ :: _ :: _ :: _ :: []) hs (by kernel_rfl) ⟨mu rfl i12, o1 [(5, none)] rfl fun _ _ h n => ok_fieldAddr rfl fo24_1 (at_Point3_1 _) ((up i5 h n.1)).ptr, o1 [(35, some 1)] rfl fun _ _ h n => ok_load rfl ty3 n.1, o1 [(6, none)] rfl fun _ _ h n => ok_fieldAddr rfl fo24_1 (at_Point3_1 _) ((up i6 h n.1)).ptr, o1 [(37, some 3)] rfl fun _ _ h n => ok_load rfl ty3 n.1, o1 [(10, none)] rfl fun _ _ h n => ok_fieldAddr rfl fo37_0 (at_Box_0 _) ((up i10 h n.1)).ptr, o1 [(39, some 5)] rfl fun _ _ h n => ok_fieldAddr rfl fo35_1 (at_Rect_1 _) n.1, o1 [(40, some 6)] rfl fun _ _ h n => ok_load rfl ty3 n.1, o1 [(10, none)] rfl fun _ _ h n => ok_fieldAddr rfl fo37_0 (at_Box_0 _) ((up i10 h n.1)).ptr, o1 [(42, some 8)] rfl fun _ _ h n => ok_fieldAddr rfl fo35_3 (at_Rect_3 _) n.1, o1 [(43, some 9)] rfl fun _ _ h n => ok_load rfl ty3 n.1, trivial⟩ W7 fun b q p => ?_
    have hgq := hg.then p.grow
    have hsb := p.size.trans hs
    have hdb := p.defers.trans hd
    have j5 := p.ke 5 rfl i5
    have j6 := p.ke 6 rfl i6
    have j7 := p.ke 7 rfl i7
    have j10 := p.ke 10 rfl i10
    have j11 := upE i11 (p.old 11 rfl)
    have z11 := Gb.Box.grow c11 p.grow
    have y11 := n11
    have j12 := p.ke 12 rfl i12
    have j14 := p.ke 14 rfl i14
    have j15 := p.ke 15 rfl i15
    have j16 := p.ke 16 rfl i16
    have j34 : (IsMV 47 b11) (b.get 34) q := p.ou 0 34 rfl
    have j36 : (IsV p_.Y) (b.get 36) q := p.ou 2 36 rfl
    have j38 : (IsV v_.Y) (b.get 38) q := p.ou 4 38 rfl
    have j41 : (IsV x2.Base.Y0) (b.get 41) q := p.ou 7 41 rfl
    have j44 : (IsV x2.Base.Y1) (b.get 44) q := p.ou 10 44 rfl
    have hns := z11.nshF
    refine tail_callMV (F := Eq b11) (i := 11) (d := 45) rfl rfl rfl rfl (by rw [hsb]; decide) j34 Try.call47 W7 (sight_interval_narrow_ok rfl z11 j36 j38 j41 j44 hx4) fun b2 q2 hsz hdf hoth hch hres => ?_
    have hle := hch.le hns
    replace j5 := Pers.pers hle j5
    replace j6 := Pers.pers hle j6
    replace j7 := Pers.pers hle j7
    replace j10 := Pers.pers hle j10
    replace j12 := Pers.pers hle j12
    replace j14 := Pers.pers hle j14
    replace j15 := Pers.pers hle j15
    replace j16 := Pers.pers hle j16
    replace j34 := Pers.pers hle j34
    replace j36 := Pers.pers hle j36
    replace j38 := Pers.pers hle j38
    replace j41 := Pers.pers hle j41
    replace j44 := Pers.pers hle j44
    replace hgq := hgq.step hch y11.wr
    replace z11 := hres
    rw [← hoth 5 (by decide)] at j5
    rw [← hoth 6 (by decide)] at j6
    rw [← hoth 7 (by decide)] at j7
    rw [← hoth 10 (by decide)] at j10
    rw [← hoth 11 (by decide)] at j11
    rw [← hoth 12 (by decide)] at j12
    rw [← hoth 14 (by decide)] at j14
    rw [← hoth 15 (by decide)] at j15
    rw [← hoth 16 (by decide)] at j16
    rw [← hoth 34 (by decide)] at j34
    rw [← hoth 36 (by decide)] at j36
    rw [← hoth 38 (by decide)] at j38
    rw [← hoth 41 (by decide)] at j41
    rw [← hoth 44 (by decide)] at j44
    replace hsb := hsz.trans hsb
    replace hdb := hdf.trans hdb
    clear hle hch hns hsz hdf hoth hres
    obtain ⟨b, hbb⟩ : ∃ b, b = b2 := ⟨b2, rfl⟩
    subst hbb
    obtain ⟨q, hqq⟩ : ∃ q, q = q2 := ⟨q2, rfl⟩
    subst hqq
    exact tail_done (k := q) (w6 _ _ ⟨⟨hgq, hsb, hdb⟩, j5, j6, j7, j10, j11, y11, z11, j12, j14, j15, j16, trivial⟩)
   rintro a k ⟨⟨hg, hs, hd⟩, i5, i6, i7, i10, i11, n11, c11, i12, i14, i15, i16, _⟩
   refine wp_seq ?_
   obtain ⟨x5, hx5, hr⟩ := bind_some hr
   refine cut (fun a' k' => Bs noF k0 59 a' k' ∧ (IsRef p_) (a'.get 5) k' ∧ (IsRef v_) (a'.get 6) k' ∧ (IsRef t_) (a'.get 7) k' ∧ a'.get 11 = .pointer (some ⟨b11, 0, none⟩) ∧ Lo k0 (Eq b11) ∧ Gb.Box b11 x5 k' ∧ (IsV x1) (a'.get 14) k' ∧ (IsL x1) (a'.get 15) k' ∧ (IsV s1) (a'.get 16) k' ∧ True) ?_ hQ ?_
   ·intro Q8 W8 w7
    refine gS 9 (_ :: _ :: _ :: _ :: _ :: _ :: _ :: _ :: _ :: []) hs (by kernel_rfl) ⟨mu rfl i12, o1 [(5, none)] rfl fun _ _ h n => ok_fieldAddr rfl fo24_2 (at_Point3_2 _) ((up i5 h n.1)).ptr, o1 [(47, some 1)] rfl fun _ _ h n => ok_load rfl ty3 n.1, o1 [(6, none)] rfl fun _ _ h n => ok_fieldAddr rfl fo24_2 (at_Point3_2 _) ((up i6 h n.1)).ptr, o1 [(49, some 3)] rfl fun _ _ h n => ok_load rfl ty3 n.1, o1 [(10, none)] rfl fun _ _ h n => ok_fieldAddr rfl fo37_1 (at_Box_1 _) ((up i10 h n.1)).ptr, o1 [(51, some 5)] rfl fun _ _ h n => ok_load rfl ty3 n.1, o1 [(10, none)] rfl fun _ _ h n => ok_fieldAddr rfl fo37_2 (at_Box_2 _) ((up i10 h n.1)).ptr, o1 [(53, some 7)] rfl fun _ _ h n => ok_load rfl ty3 n.1, trivial⟩ W8 fun b q p => ?_
    have hgq := hg.then p.grow
    have hsb := p.size.trans hs
    have hdb := p.defers.trans hd
    have j5 := p.ke 5 rfl i5
    have j6 := p.ke 6 rfl i6
    have j7 := p.ke 7 rfl i7
    have j11 := upE i11 (p.old 11 rfl)
    have z11 := Gb.Box.grow c11 p.grow
    have y11 := n11
    have j14 := p.ke 14 rfl i14
    have j15 := p.ke 15 rfl i15
    have j16 := p.ke 16 rfl i16
    have j46 : (IsMV 47 b11) (b.get 46) q := p.ou 0 46 rfl
    have j48 : (IsV p_.Z) (b.get 48) q := p.ou 2 48 rfl
    have j50 : (IsV v_.Z) (b.get 50) q := p.ou 4 50 rfl
    have j52 : (IsV x2.Z0) (b.get 52) q := p.ou 6 52 rfl
    have j54 : (IsV x2.Z1) (b.get 54) q := p.ou 8 54 rfl
    have hns := z11.nshF
    refine tail_callMV (F := Eq b11) (i := 9) (d := 55) rfl rfl rfl rfl (by rw [hsb]; decide) j46 Try.call47 W8 (sight_interval_narrow_ok rfl z11 j48 j50 j52 j54 hx5) fun b2 q2 hsz hdf hoth hch hres => ?_
    have hle := hch.le hns
    replace j5 := Pers.pers hle j5
    replace j6 := Pers.pers hle j6
    replace j7 := Pers.pers hle j7
    replace j14 := Pers.pers hle j14
    replace j15 := Pers.pers hle j15
    replace j16 := Pers.pers hle j16
    replace j46 := Pers.pers hle j46
    replace j48 := Pers.pers hle j48
    replace j50 := Pers.pers hle j50
    replace j52 := Pers.pers hle j52
    replace j54 := Pers.pers hle j54
    replace hgq := hgq.step hch y11.wr
    replace z11 := hres
    rw [← hoth 5 (by decide)] at j5
    rw [← hoth 6 (by decide)] at j6
    rw [← hoth 7 (by decide)] at j7
    rw [← hoth 11 (by decide)] at j11
    rw [← hoth 14 (by decide)] at j14
    rw [← hoth 15 (by decide)] at j15
    rw [← hoth 16 (by decide)] at j16
    rw [← hoth 46 (by decide)] at j46
    rw [← hoth 48 (by decide)] at j48
    rw [← hoth 50 (by decide)] at j50
    rw [← hoth 52 (by decide)] at j52
    rw [← hoth 54 (by decide)] at j54
    replace hsb := hsz.trans hsb
    replace hdb := hdf.trans hdb
    clear hle hch hns hsz hdf hoth hres
    obtain ⟨b, hbb⟩ : ∃ b, b = b2 := ⟨b2, rfl⟩
    subst hbb
    obtain ⟨q, hqq⟩ : ∃ q, q = q2 := ⟨q2, rfl⟩
    subst hqq
    exact tail_done (k := q) (w7 _ _ ⟨⟨hgq, hsb, hdb⟩, j5, j6, j7, j11, y11, z11, j14, j15, j16, trivial⟩)
   rintro a k ⟨⟨hg, hs, hd⟩, i5, i6, i7, i11, n11, c11, i14, i15, i16, _⟩
   refine wp_seq ?_
   obtain ⟨x6, hx6, hr⟩ := bind_some hr
   refine cut (fun a' k' => Bs noF k0 59 a' k' ∧ (IsRef p_) (a'.get 5) k' ∧ (IsRef v_) (a'.get 6) k' ∧ (IsRef t_) (a'.get 7) k' ∧ (IsV x1) (a'.get 14) k' ∧ (IsL x1) (a'.get 15) k' ∧ (IsV s1) (a'.get 16) k' ∧ (IsV (!x6)) (a'.get 57) k' ∧ True) ?_ hQ ?_
   ·intro Q9 W9 w8
    refine regionS (a0 := a) (k0 := k) (n := 59) (m := 0) ([]) hs (by kernel_rfl) trivial W9 fun b q p => ?_
    have hgq := hg.then p.grow
    have hsb := p.size.trans hs
    have hdb := p.defers.trans hd
    have j5 := p.ke 5 rfl i5
    have j6 := p.ke 6 rfl i6
    have j7 := p.ke 7 rfl i7
    have j11 := upE i11 (p.old 11 rfl)
    have z11 := Gb.Box.grow c11 p.grow
    have y11 := n11
    have j14 := p.ke 14 rfl i14
    have j15 := p.ke 15 rfl i15
    have j16 := p.ke 16 rfl i16
    obtain ⟨q2, hsh, jn⟩ := z11.give
    replace j5 := Pers.pers hsh.le j5
    replace j6 := Pers.pers hsh.le j6
    replace j7 := Pers.pers hsh.le j7
    replace j14 := Pers.pers hsh.le j14
    replace j15 := Pers.pers hsh.le j15
    replace j16 := Pers.pers hsh.le j16
    rw [← j11] at jn
    replace j11 := jn
    replace hgq := hgq.hand hsh y11.wr
    rw [← hsh.w]
    clear hsh
    obtain ⟨q, hqq⟩ : ∃ q, q = q2 := ⟨q2, rfl⟩
    subst hqq
    refine tail_call (F := noF) (i := 0) (d := 56) rfl rfl rfl rfl (by rw [hsb]; decide) Try.call48 W9 (Ret.toC (sight_interval_empty_ok j11 hx6)) fun b2 q2 hsz hdf hoth hch hres => ?_
    have hgr := hch.grow
    replace j5 := Pers.pers hgr.le j5
    replace j6 := Pers.pers hgr.le j6
    replace j7 := Pers.pers hgr.le j7
    replace j11 := Pers.pers hgr.le j11
    replace j14 := Pers.pers hgr.le j14
    replace j15 := Pers.pers hgr.le j15
    replace j16 := Pers.pers hgr.le j16
    replace hgq := hgq.then hgr
    rw [← hoth 5 (by decide)] at j5
    rw [← hoth 6 (by decide)] at j6
    rw [← hoth 7 (by decide)] at j7
    rw [← hoth 11 (by decide)] at j11
    rw [← hoth 14 (by decide)] at j14
    rw [← hoth 15 (by decide)] at j15
    rw [← hoth 16 (by decide)] at j16
    have j56 : (IsV x6) (b2.get 56) q2 := hres
    replace hsb := hsz.trans hsb
    replace hdb := hdf.trans hdb
    clear hch hgr hres hsz hdf hoth
    obtain ⟨b, hbb⟩ : ∃ b, b = b2 := ⟨b2, rfl⟩
    subst hbb
    obtain ⟨q, hqq⟩ : ∃ q, q = q2 := ⟨q2, rfl⟩
    subst hqq
    refine tail_does (R := (IsV (!x6))) (i := 1) (d := 57) rfl rfl rfl (by rw [hsb]; decide) W9 (ok_not rfl j56) fun b2 q2 hsz hdf hoth hgr hnew => ?_
    replace j5 := Pers.pers hgr.le j5
    replace j6 := Pers.pers hgr.le j6
    replace j7 := Pers.pers hgr.le j7
    replace j11 := Pers.pers hgr.le j11
    replace j14 := Pers.pers hgr.le j14
    replace j15 := Pers.pers hgr.le j15
    replace j16 := Pers.pers hgr.le j16
    replace j56 := Pers.pers hgr.le j56
    replace hgq := hgq.then hgr
    rw [← hoth 5 (by decide)] at j5
    rw [← hoth 6 (by decide)] at j6
    rw [← hoth 7 (by decide)] at j7
    rw [← hoth 11 (by decide)] at j11
    rw [← hoth 14 (by decide)] at j14
    rw [← hoth 15 (by decide)] at j15
    rw [← hoth 16 (by decide)] at j16
    rw [← hoth 56 (by decide)] at j56
    have j57 := hnew
    replace hsb := hsz.trans hsb
    replace hdb := hdf.trans hdb
    clear hgr hsz hdf hoth hnew
    obtain ⟨b, hbb⟩ : ∃ b, b = b2 := ⟨b2, rfl⟩
    subst hbb
    obtain ⟨q, hqq⟩ : ∃ q, q = q2 := ⟨q2, rfl⟩
    subst hqq
    exact tail_done (k := q) (w8 _ _ ⟨⟨hgq, hsb, hdb⟩, j5, j6, j7, j14, j15, j16, j57, trivial⟩)
   rintro a k ⟨⟨hg, hs, hd⟩, i5, i6, i7, i14, i15, i16, i57, _⟩
   refine wp_cond_split (isBool i57) (fun hc1539 => ?_) (fun hc1539 => ?_)
   ·rw [if_pos hc1539] at hr
    refine stepL 1 (⟨some (IsV true), []⟩ :: []) rfl ⟨hg, hs, hd⟩ (by kernel_rfl) ⟨ob1 rfl fun _ _ h n => ok_assign rfl (isV_bool.2 rfl), trivial⟩ [⟨_, _⟩] (fun b q p => ⟨p.ou 0 8 rfl, trivial⟩) ?_
    rintro a k ⟨⟨hg, hs, hd⟩, i8, _⟩
    refine wp_ret ?_
    exact hret1524 _ _ _ (Option.some.inj hr).symm (retC1 rfl hd hg i8)
   rw [if_neg (by rw [hc1539]; decide)] at hr
   refine wp_skip ?_
   obtain ⟨x7, hx7, hr⟩ := bind_some hr
   refine cut (fun a' k' => Bs noF k0 59 a' k' ∧ (IsRef p_) (a'.get 5) k' ∧ (IsRef v_) (a'.get 6) k' ∧ (IsRef t_) (a'.get 7) k' ∧ (IsV x1) (a'.get 14) k' ∧ (IsL x1) (a'.get 15) k' ∧ (IsV x7) (a'.get 16) k' ∧ True) ?_ hQ ?_
   ·intro Q10 W10 w9
    refine gS 2 (_ :: _ :: []) hs (by kernel_rfl) ⟨o1 [(16, none)] rfl fun _ _ h n => ok_add rfl (up i16 h n.1) (cI rfl) hx7, cm 0 rfl rfl, trivial⟩ W10 fun b q p => ?_
    exact tail_done (k := q) (w9 _ _ ⟨Bs.post ⟨hg, hs, hd⟩ p, p.ke 5 rfl i5, p.ke 6 rfl i6, p.ke 7 rfl i7, p.ke 14 rfl i14, p.ke 15 rfl i15, p.ou 1 16 rfl, trivial⟩)
   rintro a k ⟨⟨hg, hs, hd⟩, i5, i6, i7, i14, i15, i16, _⟩
   exact hgo1522 _ _ _ (Option.some.inj hr).symm ⟨⟨hg, hs, hd⟩, i5, i6, i7, i14, i15, i16, trivial⟩
  rw [if_neg (by rw [hc1554]; decide)] at hr
  refine wp_exit ?_
  exact hex1523 _ _ _ _ (Option.some.inj hr).symm ⟨rfl, ⟨hg, hs, hd⟩, trivial⟩
 ·rintro r1 a k rfl hR
  dsimp only at hr
  obtain rfl := Option.some.inj hr
  exact hR
 ·rintro _ _ _ rfl _
  simp at hr
 clear hf1
 rintro _ s2 a k rfl ⟨rfl, ⟨hg, hs, hd⟩, _⟩
 dsimp only at hr
 refine stepL 1 (⟨some (IsV false), []⟩ :: []) rfl ⟨hg, hs, hd⟩ (by kernel_rfl) ⟨ob1 rfl fun _ _ h n => ok_assign rfl (isV_bool.2 rfl), trivial⟩ [⟨_, _⟩] (fun b q p => ⟨p.ou 0 8 rfl, trivial⟩) ?_
 rintro a k ⟨⟨hg, hs, hd⟩, i8, _⟩
 refine wp_ret ?_
 obtain rfl := Option.some.inj hr
 exact retC1 rfl hd hg i8
def sight_Blocked (s_ : (List Slab)) (p_ : Point3) (q_ : Point3) : Option (Bool) :=
 (sight_on p_).bind fun x1 =>
 (if (!x1) then
  some true
 else
  (sight_on q_).bind fun x2 =>
  some (!x2)).bind fun x3 =>
 if x3 then
  some false
 else
  (subI q_.X p_.X).bind fun x4 =>
  (subI q_.Y p_.Y).bind fun x5 =>
  (subI q_.Z p_.Z).bind fun x6 =>
  (sight_meets s_ p_ (⟨x4, x5, x6⟩ : Point3) (⟨(⟨0, 1, true⟩ : SightBound), (⟨1, 1, true⟩ : SightBound), true, false⟩ : SightInterval)).bind fun x7 =>
  some x7
theorem sight_Blocked_ok {k0 : K} {v0 v1 v2 : Value} {s_ : (List Slab)} {p_ : Point3} {q_ : Point3} {r : Bool} (i0 : (IsV s_) v0 k0) (i1 : (IsV p_) v1 k0) (i2 : (IsV q_) v2 k0) (hr : sight_Blocked s_ p_ q_ = some r) :
  Calls Try.prog 11 #[v0, v1, v2] k0.w (Ret k0 (IsV r)) := by
 unfold sight_Blocked at hr
 refine Ret.ofC ?_
 refine enterK Try.func11 rfl Try.ntmps11 (show 3 ≤ 39 by decide) fun a k hk0 hs hd ha => ?_
 obtain ⟨e0, e1, e2, _⟩ := ha
 replace i0 : (IsV s_) (a.get 0) k := by rw [e0, hk0]; exact i0
 replace i1 : (IsV p_) (a.get 1) k := by rw [e1, hk0]; exact i1
 replace i2 : (IsV q_) (a.get 2) k := by rw [e2, hk0]; exact i2
 have hQ : Gb.LetsOut (bodyPost Try.prog Try.f11 (RetC noF k0 (IsV r))) := letsOutC
 have hg : Chg noF k0 k := by rw [hk0]; exact Chg.refl _ k0
 refine stepL 3 (⟨some (IsRef p_), [(1, none)]⟩ :: ⟨some (IsRef q_), [(2, none)]⟩ :: ⟨some (IsV false), []⟩ :: []) rfl ⟨hg, hs, hd⟩ (by kernel_rfl) ⟨ob1 rfl fun _ _ h n => ok_boxR rfl (up i1 h n.1), ob1 rfl fun _ _ h n => ok_boxR rfl (up i2 h n.1), ob1 rfl fun _ _ h n => ok_assign rfl (isV_bool.2 rfl), trivial⟩ [⟨_, _⟩, ⟨_, _⟩, ⟨_, _⟩] (fun b q p => ⟨p.ke 0 rfl i0, p.ou 0 4 rfl, p.ou 1 5 rfl, trivial⟩) ?_
 rintro a k ⟨⟨hg, hs, hd⟩, i0, i4, i5, _⟩
 refine wp_seq ?_
 refine wp_seq ?_
 obtain ⟨x1, hx1, hr⟩ := bind_some hr
 obtain ⟨x2, hx2, hr⟩ := bind_some hr
 obtain ⟨x3, hx3, hx2⟩ := ite_bindF hx2
 refine cut (fun a' k' => Bs noF k0 39 a' k' ∧ (IsV s_) (a'.get 0) k' ∧ (IsRef p_) (a'.get 4) k' ∧ (IsRef q_) (a'.get 5) k' ∧ (IsV x2) (a'.get 15) k' ∧ True) ?_ hQ ?_
 ·intro Q1 W1 w1
  refine gS 8 (_ :: _ :: _ :: _ :: _ :: _ :: _ :: _ :: []) hs (by kernel_rfl) ⟨o1 [(4, none)] rfl fun _ _ h n => ok_load rfl ty24 ((up i4 h n.1)).ptr, o1 [(8, some 0)] rfl fun _ _ h n => ok_call rfl Try.call26 (sight_on_ok n.1 hx1), o1 [(9, some 1)] rfl fun _ _ h n => ok_not rfl n.1, cm 2 rfl rfl, gF [(5, none)] rfl rfl fun hp _ _ h n => ok_load rfl ty24 ((up i5 h n.1)).ptr, gF [(12, some 4)] rfl rfl fun hp _ _ h n => ok_call rfl Try.call26 (sight_on_ok (Gd.get n.1 hp) (hx3 hp)), gF [(13, some 5)] rfl rfl fun hp _ _ h n => ok_not rfl (Gd.get n.1 hp), o1 [(11, some 3), (14, some 6)] rfl fun _ _ h n => ok_pickM rfl n.1 hx2 (cB rfl) (Gd.get n.2.1), trivial⟩ W1 fun b q p => ?_
  exact tail_done (k := q) (w1 _ _ ⟨Bs.post ⟨hg, hs, hd⟩ p, p.ke 0 rfl i0, p.ke 4 rfl i4, p.ke 5 rfl i5, p.ou 7 15 rfl, trivial⟩)
 rintro a k ⟨⟨hg, hs, hd⟩, i0, i4, i5, i15, _⟩
 refine wp_cond_split (isBool i15) (fun hc1579 => ?_) (fun hc1579 => ?_)
 ·rw [if_pos hc1579] at hr
  refine stepL 1 (⟨some (IsV false), []⟩ :: []) rfl ⟨hg, hs, hd⟩ (by kernel_rfl) ⟨ob1 rfl fun _ _ h n => ok_assign rfl (isV_bool.2 rfl), trivial⟩ [⟨_, _⟩] (fun b q p => ⟨p.ou 0 6 rfl, trivial⟩) ?_
  rintro a k ⟨⟨hg, hs, hd⟩, i6, _⟩
  refine wp_ret ?_
  obtain rfl := Option.some.inj hr
  exact retC1 rfl hd hg i6
 rw [if_neg (by rw [hc1579]; decide)] at hr
 refine wp_skip ?_
 refine cutL noF k0 39 [⟨0, IsV s_⟩, ⟨4, IsRef p_⟩, ⟨5, IsRef q_⟩, ⟨7, IsRef (⟨(⟨0, 1, true⟩ : SightBound), (⟨1, 1, true⟩ : SightBound), true, false⟩ : SightInterval)⟩] ?_ ?_
 ·intro Q2 W2 w2
  refine gS 4 (⟨some (IsV (⟨0, 1, true⟩ : SightBound)), []⟩ :: ⟨some (IsV (⟨1, 1, true⟩ : SightBound)), []⟩ :: ⟨some (IsV (⟨(⟨0, 1, true⟩ : SightBound), (⟨1, 1, true⟩ : SightBound), true, false⟩ : SightInterval)), [(16, some 0), (17, some 1)]⟩ :: ⟨some (IsBox k.w.heap.size (⟨(⟨0, 0, false⟩ : SightBound), (⟨0, 0, false⟩ : SightBound), false, false⟩ : SightInterval)), []⟩ :: []) hs (by kernel_rfl) ⟨ob1 rfl fun _ _ h n => ok_build rfl (bld53_0_1_2 (cI rfl) (cI rfl) (isV_bool.2 rfl)), ob1 rfl fun _ _ h n => ok_build rfl (bld53_0_1_2 (cI rfl) (cI rfl) (isV_bool.2 rfl)), ob1 rfl fun _ _ h n => ok_build rfl (bld55_0_1_2 n.1 n.2.1 (isV_bool.2 rfl)), ob1 rfl fun _ _ h n => ok_alloc _ h.size rfl z55, trivial⟩ W2 fun b q p => ?_
  have hgq := hg.then p.grow
  have hsb := p.size.trans hs
  have hdb := p.defers.trans hd
  have j0 := p.ke 0 rfl i0
  have j4 := p.ke 4 rfl i4
  have j5 := p.ke 5 rfl i5
  obtain ⟨b7, j7, x7, z7⟩ : (IsBox k.w.heap.size (⟨(⟨0, 0, false⟩ : SightBound), (⟨0, 0, false⟩ : SightBound), false, false⟩ : SightInterval)) (b.get 7) q := p.ou 3 7 rfl
  replace x7 : Lo k (Eq b7) := Lo.eq x7
  have y7 : Lo k0 (Eq b7) := x7.chg hg
  have j18 : (IsV (⟨(⟨0, 1, true⟩ : SightBound), (⟨1, 1, true⟩ : SightBound), true, false⟩ : SightInterval)) (b.get 18) q := p.ou 2 18 rfl
  have hns := z7.nshF
  refine tail_storeB (i := 4) rfl rfl rfl rfl szf55 (Upd.self (α := SightInterval)) j7 z7 j18 fun q2 hch hz => ?_
  replace hgq := hgq.step hch y7.wr
  have hle := hch.le hns
  replace j0 := Pers.pers hle j0
  replace j4 := Pers.pers hle j4
  replace j5 := Pers.pers hle j5
  replace j18 := Pers.pers hle j18
  replace z7 := hz
  clear hns hle hch
  obtain ⟨q, hqq⟩ : ∃ q, q = q2 := ⟨q2, rfl⟩
  subst hqq
  obtain ⟨q2, hsh, jn⟩ := z7.give
  replace j0 := Pers.pers hsh.le j0
  replace j4 := Pers.pers hsh.le j4
  replace j5 := Pers.pers hsh.le j5
  rw [← j7] at jn
  replace j7 := jn
  replace hgq := hgq.hand hsh y7.wr
  rw [← hsh.w]
  clear hsh
  obtain ⟨q, hqq⟩ : ∃ q, q = q2 := ⟨q2, rfl⟩
  subst hqq
  exact tail_done (k := q) (w2 _ _ ⟨⟨hgq, hsb, hdb⟩, j0, j4, j5, j7, trivial⟩)
 rintro a k ⟨⟨hg, hs, hd⟩, i0, i4, i5, i7, _⟩
 refine wp_seq ?_
 obtain ⟨x4, hx4, hr⟩ := bind_some hr
 obtain ⟨x5, hx5, hr⟩ := bind_some hr
 obtain ⟨x6, hx6, hr⟩ := bind_some hr
 obtain ⟨x8, hx8, hr⟩ := bind_some hr
 refine cut (fun a' k' => Bs noF k0 39 a' k' ∧ (IsV x8) (a'.get 6) k' ∧ True) ?_ hQ ?_
 ·intro Q3 W3 w3
  refine gS 21 (_ :: _ :: _ :: _ :: _ :: _ :: _ :: _ :: _ :: _ :: _ :: _ :: _ :: _ :: _ :: _ :: _ :: ⟨some (IsV (⟨x4, x5, x6⟩ : Point3)), [(25, some 6), (30, some 11), (35, some 16)]⟩ :: _ :: _ :: _ :: []) hs (by kernel_rfl) ⟨mu rfl i0, o1 [(4, none)] rfl fun _ _ h n => ok_load rfl ty24 ((up i4 h n.1)).ptr, o1 [(5, none)] rfl fun _ _ h n => ok_fieldAddr rfl fo24_0 (at_Point3_0 _) ((up i5 h n.1)).ptr, o1 [(21, some 2)] rfl fun _ _ h n => ok_load rfl ty3 n.1, o1 [(4, none)] rfl fun _ _ h n => ok_fieldAddr rfl fo24_0 (at_Point3_0 _) ((up i4 h n.1)).ptr, o1 [(23, some 4)] rfl fun _ _ h n => ok_load rfl ty3 n.1, o1 [(22, some 3), (24, some 5)] rfl fun _ _ h n => ok_sub rfl n.1 n.2.1 hx4, o1 [(5, none)] rfl fun _ _ h n => ok_fieldAddr rfl fo24_1 (at_Point3_1 _) ((up i5 h n.1)).ptr, o1 [(26, some 7)] rfl fun _ _ h n => ok_load rfl ty3 n.1, o1 [(4, none)] rfl fun _ _ h n => ok_fieldAddr rfl fo24_1 (at_Point3_1 _) ((up i4 h n.1)).ptr, o1 [(28, some 9)] rfl fun _ _ h n => ok_load rfl ty3 n.1, o1 [(27, some 8), (29, some 10)] rfl fun _ _ h n => ok_sub rfl n.1 n.2.1 hx5, o1 [(5, none)] rfl fun _ _ h n => ok_fieldAddr rfl fo24_2 (at_Point3_2 _) ((up i5 h n.1)).ptr, o1 [(31, some 12)] rfl fun _ _ h n => ok_load rfl ty3 n.1, o1 [(4, none)] rfl fun _ _ h n => ok_fieldAddr rfl fo24_2 (at_Point3_2 _) ((up i4 h n.1)).ptr, o1 [(33, some 14)] rfl fun _ _ h n => ok_load rfl ty3 n.1, o1 [(32, some 13), (34, some 15)] rfl fun _ _ h n => ok_sub rfl n.1 n.2.1 hx6, ob1 rfl fun _ _ h n => ok_build rfl (bld24_0_1_2 n.1 n.2.1 n.2.2.1), o1 [(7, none)] rfl fun _ _ h n => ok_load rfl ty55 ((up i7 h n.1)).ptr, o1 [(19, some 0), (20, some 1), (36, some 17), (37, some 18)] rfl fun _ _ h n => ok_call rfl Try.call27 (sight_meets_ok n.1 n.2.1 n.2.2.1 n.2.2.2.1 hx8), cp 19 rfl rfl, trivial⟩ W3 fun b q p => ?_
  exact tail_done (k := q) (w3 _ _ ⟨Bs.post ⟨hg, hs, hd⟩ p, p.ou 20 6 rfl, trivial⟩)
 rintro a k ⟨⟨hg, hs, hd⟩, i6, _⟩
 refine wp_ret ?_
 obtain rfl := Option.some.inj hr
 exact retC1 rfl hd hg i6
def sight_Ray (s_ : (List Slab)) (p_ : Point3) (d_ : Point3) : Option (Bool) :=
 (sight_on p_).bind fun x1 =>
 if ((((!x1) || (decide (d_ = (⟨0, 0, 0⟩ : Point3)))) || (decide ((min (min d_.X d_.Y) d_.Z) < (-1048576)))) || (decide (1048576 < (max (max d_.X d_.Y) d_.Z)))) then
  some false
 else
  (sight_meets s_ p_ d_ (⟨(⟨0, 1, true⟩ : SightBound), (⟨0, 0, false⟩ : SightBound), false, false⟩ : SightInterval)).bind fun x2 =>
  some x2
theorem sight_Ray_ok {k0 : K} {v0 v1 v2 : Value} {s_ : (List Slab)} {p_ : Point3} {d_ : Point3} {r : Bool} (i0 : (IsV s_) v0 k0) (i1 : (IsV p_) v1 k0) (i2 : (IsV d_) v2 k0) (hr : sight_Ray s_ p_ d_ = some r) :
  Calls Try.prog 13 #[v0, v1, v2] k0.w (Ret k0 (IsV r)) := by
 unfold sight_Ray at hr
 refine Ret.ofC ?_
 refine enterK Try.func13 rfl Try.ntmps13 (show 3 ≤ 41 by decide) fun a k hk0 hs hd ha => ?_
 obtain ⟨e0, e1, e2, _⟩ := ha
 replace i0 : (IsV s_) (a.get 0) k := by rw [e0, hk0]; exact i0
 replace i1 : (IsV p_) (a.get 1) k := by rw [e1, hk0]; exact i1
 replace i2 : (IsV d_) (a.get 2) k := by rw [e2, hk0]; exact i2
 have hQ : Gb.LetsOut (bodyPost Try.prog Try.f13 (RetC noF k0 (IsV r))) := letsOutC
 have hg : Chg noF k0 k := by rw [hk0]; exact Chg.refl _ k0
 refine stepL 3 (⟨some (IsRef p_), [(1, none)]⟩ :: ⟨some (IsRef d_), [(2, none)]⟩ :: ⟨some (IsV false), []⟩ :: []) rfl ⟨hg, hs, hd⟩ (by kernel_rfl) ⟨ob1 rfl fun _ _ h n => ok_boxR rfl (up i1 h n.1), ob1 rfl fun _ _ h n => ok_boxR rfl (up i2 h n.1), ob1 rfl fun _ _ h n => ok_assign rfl (isV_bool.2 rfl), trivial⟩ [⟨_, _⟩, ⟨_, _⟩, ⟨_, _⟩] (fun b q p => ⟨p.ke 0 rfl i0, p.ou 0 4 rfl, p.ou 1 5 rfl, trivial⟩) ?_
 rintro a k ⟨⟨hg, hs, hd⟩, i0, i4, i5, _⟩
 refine wp_seq ?_
 refine wp_seq ?_
 obtain ⟨x1, hx1, hr⟩ := bind_some hr
 refine cut (fun a' k' => Bs noF k0 41 a' k' ∧ (IsV s_) (a'.get 0) k' ∧ (IsRef p_) (a'.get 4) k' ∧ (IsRef d_) (a'.get 5) k' ∧ (IsV ((((!x1) || (decide (d_ = (⟨0, 0, 0⟩ : Point3)))) || (decide ((min (min d_.X d_.Y) d_.Z) < (-1048576)))) || (decide (1048576 < (max (max d_.X d_.Y) d_.Z))))) (a'.get 34) k' ∧ True) ?_ hQ ?_
 ·intro Q1 W1 w1
  refine gS 28 (_ :: _ :: _ :: _ :: _ :: ⟨some (Gd ((!x1) = false) (IsV (⟨0, 0, 0⟩ : Point3))), []⟩ :: ⟨some (Gd ((!x1) = false) (IsV (decide (d_ = (⟨0, 0, 0⟩ : Point3))))), [(11, some 4), (12, some 5)]⟩ :: _ :: _ :: _ :: _ :: _ :: _ :: _ :: _ :: _ :: _ :: _ :: _ :: _ :: _ :: _ :: _ :: _ :: _ :: _ :: _ :: _ :: []) hs (by kernel_rfl) ⟨o1 [(4, none)] rfl fun _ _ h n => ok_load rfl ty24 ((up i4 h n.1)).ptr, o1 [(7, some 0)] rfl fun _ _ h n => ok_call rfl Try.call26 (sight_on_ok n.1 hx1), o1 [(8, some 1)] rfl fun _ _ h n => ok_not rfl n.1, cm 2 rfl rfl, gF [(5, none)] rfl rfl fun hp _ _ h n => ok_load rfl ty24 ((up i5 h n.1)).ptr, gdF rfl rfl fun hp _ _ h n => ok_build rfl (bld24_ ), gdF rfl rfl fun hp _ _ h n => ok_eqA rfl eq24 (Gd.get n.1 hp) (Gd.get n.2.1 hp), o1 [(10, some 3), (13, some 6)] rfl fun _ _ h n => ok_pickOr rfl n.1 (cB rfl) (Gd.get n.2.1), cm 7 rfl rfl, gF [(5, none)] rfl rfl fun hp _ _ h n => ok_fieldAddr rfl fo24_0 (at_Point3_0 _) ((up i5 h n.1)).ptr, gF [(16, some 9)] rfl rfl fun hp _ _ h n => ok_load rfl ty3 (Gd.get n.1 hp), gF [(5, none)] rfl rfl fun hp _ _ h n => ok_fieldAddr rfl fo24_1 (at_Point3_1 _) ((up i5 h n.1)).ptr, gF [(18, some 11)] rfl rfl fun hp _ _ h n => ok_load rfl ty3 (Gd.get n.1 hp), gF [(5, none)] rfl rfl fun hp _ _ h n => ok_fieldAddr rfl fo24_2 (at_Point3_2 _) ((up i5 h n.1)).ptr, gF [(20, some 13)] rfl rfl fun hp _ _ h n => ok_load rfl ty3 (Gd.get n.1 hp), gF [(17, some 10), (19, some 12), (21, some 14)] rfl rfl fun hp _ _ h n => ok_min3 rfl (Gd.get n.1 hp) (Gd.get n.2.1 hp) (Gd.get n.2.2.1 hp), gF [(22, some 15)] rfl rfl fun hp _ _ h n => ok_lss rfl (Gd.get n.1 hp) (cI rfl), o1 [(15, some 8), (23, some 16)] rfl fun _ _ h n => ok_pickOr rfl n.1 (cB rfl) (Gd.get n.2.1), cm 17 rfl rfl, gF [(5, none)] rfl rfl fun hp _ _ h n => ok_fieldAddr rfl fo24_0 (at_Point3_0 _) ((up i5 h n.1)).ptr, gF [(26, some 19)] rfl rfl fun hp _ _ h n => ok_load rfl ty3 (Gd.get n.1 hp), gF [(5, none)] rfl rfl fun hp _ _ h n => ok_fieldAddr rfl fo24_1 (at_Point3_1 _) ((up i5 h n.1)).ptr, gF [(28, some 21)] rfl rfl fun hp _ _ h n => ok_load rfl ty3 (Gd.get n.1 hp), gF [(5, none)] rfl rfl fun hp _ _ h n => ok_fieldAddr rfl fo24_2 (at_Point3_2 _) ((up i5 h n.1)).ptr, gF [(30, some 23)] rfl rfl fun hp _ _ h n => ok_load rfl ty3 (Gd.get n.1 hp), gF [(27, some 20), (29, some 22), (31, some 24)] rfl rfl fun hp _ _ h n => ok_max3 rfl (Gd.get n.1 hp) (Gd.get n.2.1 hp) (Gd.get n.2.2.1 hp), gF [(32, some 25)] rfl rfl fun hp _ _ h n => ok_gtr rfl (Gd.get n.1 hp) (cI rfl), o1 [(25, some 18), (33, some 26)] rfl fun _ _ h n => ok_pickOr rfl n.1 (cB rfl) (Gd.get n.2.1), trivial⟩ W1 fun b q p => ?_
  exact tail_done (k := q) (w1 _ _ ⟨Bs.post ⟨hg, hs, hd⟩ p, p.ke 0 rfl i0, p.ke 4 rfl i4, p.ke 5 rfl i5, p.ou 27 34 rfl, trivial⟩)
 rintro a k ⟨⟨hg, hs, hd⟩, i0, i4, i5, i34, _⟩
 refine wp_cond_split (isBool i34) (fun hc1592 => ?_) (fun hc1592 => ?_)
 ·rw [if_pos hc1592] at hr
  refine stepL 1 (⟨some (IsV false), []⟩ :: []) rfl ⟨hg, hs, hd⟩ (by kernel_rfl) ⟨ob1 rfl fun _ _ h n => ok_assign rfl (isV_bool.2 rfl), trivial⟩ [⟨_, _⟩] (fun b q p => ⟨p.ou 0 6 rfl, trivial⟩) ?_
  rintro a k ⟨⟨hg, hs, hd⟩, i6, _⟩
  refine wp_ret ?_
  obtain rfl := Option.some.inj hr
  exact retC1 rfl hd hg i6
 rw [if_neg (by rw [hc1592]; decide)] at hr
 refine wp_skip ?_
 refine wp_seq ?_
 obtain ⟨x2, hx2, hr⟩ := bind_some hr
 refine cut (fun a' k' => Bs noF k0 41 a' k' ∧ (IsV x2) (a'.get 6) k' ∧ True) ?_ hQ ?_
 ·intro Q2 W2 w2
  refine gS 7 (_ :: _ :: _ :: ⟨some (IsV (⟨0, 1, true⟩ : SightBound)), []⟩ :: ⟨some (IsV (⟨(⟨0, 1, true⟩ : SightBound), (⟨0, 0, false⟩ : SightBound), false, false⟩ : SightInterval)), [(38, some 3)]⟩ :: _ :: _ :: []) hs (by kernel_rfl) ⟨mu rfl i0, o1 [(4, none)] rfl fun _ _ h n => ok_load rfl ty24 ((up i4 h n.1)).ptr, o1 [(5, none)] rfl fun _ _ h n => ok_load rfl ty24 ((up i5 h n.1)).ptr, ob1 rfl fun _ _ h n => ok_build rfl (bld53_0_1_2 (cI rfl) (cI rfl) (isV_bool.2 rfl)), ob1 rfl fun _ _ h n => ok_build rfl (bld55_0 n.1), o1 [(35, some 0), (36, some 1), (37, some 2), (39, some 4)] rfl fun _ _ h n => ok_call rfl Try.call27 (sight_meets_ok n.1 n.2.1 n.2.2.1 n.2.2.2.1 hx2), cp 5 rfl rfl, trivial⟩ W2 fun b q p => ?_
  exact tail_done (k := q) (w2 _ _ ⟨Bs.post ⟨hg, hs, hd⟩ p, p.ou 6 6 rfl, trivial⟩)
 rintro a k ⟨⟨hg, hs, hd⟩, i6, _⟩
 refine wp_ret ?_
 obtain rfl := Option.some.inj hr
 exact retC1 rfl hd hg i6
def law11_small  : Option (Bool) :=
 (ref09_Of ([(⟨(⟨2, 0, 3, 1⟩ : Rect), 0, 1⟩ : Box)])).bind fun x1 =>
 (law11_at 0 0 0).bind fun x2 =>
 (law11_at 5 0 0).bind fun x3 =>
 (sight_Blocked x1.1 x2 x3).bind fun x4 =>
 (if x4 then
  (law11_at 0 0 0).bind fun x5 =>
  (law11_at 2 0 0).bind fun x6 =>
  (sight_Blocked x1.1 x5 x6).bind fun x7 =>
  some (!x7)
 else
  some false).bind fun x8 =>
 (if x8 then
  (law11_at 0 1 0).bind fun x9 =>
  (law11_at 5 1 0).bind fun x10 =>
  (sight_Blocked x1.1 x9 x10).bind fun x11 =>
  some (!x11)
 else
  some false).bind fun x12 =>
 (if x12 then
  (law11_at 0 0 1).bind fun x13 =>
  (law11_at 5 0 1).bind fun x14 =>
  (sight_Blocked x1.1 x13 x14).bind fun x15 =>
  some (!x15)
 else
  some false).bind fun x16 =>
 (law11_at 2 0 0).bind fun x17 =>
 (law11_at 2 0 0).bind fun x18 =>
 (sight_Blocked x1.1 x17 x18).bind fun x19 =>
 (if x19 then
  (law11_at 3 0 0).bind fun x20 =>
  (law11_at 3 5 0).bind fun x21 =>
  (sight_Blocked x1.1 x20 x21).bind fun x22 =>
  some (!x22)
 else
  some false).bind fun x23 =>
 (if (x16 && x23) then
  (law11_at 0 0 0).bind fun x24 =>
  (law11_at 1 0 0).bind fun x25 =>
  (sight_Ray x1.1 x24 x25).bind fun x26 =>
  some x26
 else
  some false).bind fun x27 =>
 (if x27 then
  (law11_at 0 0 0).bind fun x28 =>
  (law11_at (-1) 0 0).bind fun x29 =>
  (sight_Ray x1.1 x28 x29).bind fun x30 =>
  some (!x30)
 else
  some false).bind fun x31 =>
 (if x31 then
  (law11_at 0 0 0).bind fun x32 =>
  (law11_at 4 1 1).bind fun x33 =>
  (sight_Ray x1.1 x32 x33).bind fun x34 =>
  some x34
 else
  some false).bind fun x35 =>
 some x35
theorem law11_small_ok {k0 : K} {r : Bool} (hr : law11_small = some r) :
  Calls Try.prog 9 #[] k0.w (Ret k0 (IsV r)) := by
 unfold law11_small at hr
 refine Ret.ofC ?_
 refine enterK Try.func9 rfl Try.ntmps9 (show 0 ≤ 71 by decide) fun a k hk0 hs hd ha => ?_
 have hQ : Gb.LetsOut (bodyPost Try.prog Try.f9 (RetC noF k0 (IsV r))) := letsOutC
 have hg : Chg noF k0 k := by rw [hk0]; exact Chg.refl _ k0
 refine cutL noF k0 71 [] ?_ ?_
 ·intro Q1 W1 w1
  refine gS 1 (⟨some (IsV false), []⟩ :: []) hs (by kernel_rfl) ⟨ob1 rfl fun _ _ h n => ok_assign rfl (isV_bool.2 rfl), trivial⟩ W1 fun b q p => ?_
  exact tail_done (k := q) (w1 _ _ ⟨Bs.post ⟨hg, hs, hd⟩ p, trivial⟩)
 rintro a k ⟨⟨hg, hs, hd⟩, _⟩
 refine wp_seq ?_
 obtain ⟨x1, hx1, hr⟩ := bind_some hr
 refine cut (fun a' k' => Bs noF k0 71 a' k' ∧ (IsV x1.1) (a'.get 1) k' ∧ True) ?_ hQ ?_
 ·intro Q2 W2 w2
  refine gS 9 (⟨some (IsV (⟨2, 0, 3, 1⟩ : Rect)), []⟩ :: ⟨some (IsV (⟨(⟨2, 0, 3, 1⟩ : Rect), 0, 1⟩ : Box)), [(6, some 0)]⟩ :: ⟨some (IsV (α := (List Box)) ([(⟨(⟨2, 0, 3, 1⟩ : Rect), 0, 1⟩ : Box)])), [(7, some 1)]⟩ :: _ :: _ :: _ :: _ :: _ :: _ :: []) hs (by kernel_rfl) ⟨ob1 rfl fun _ _ h n => ok_build rfl (bld35_0_2_3 (cI rfl) (cI rfl) (cI rfl)), ob1 rfl fun _ _ h n => ok_build rfl (bld37_0_2 n.1 (cI rfl)), ob1 rfl fun _ _ h n => ok_buildSlice rfl Try.underlying31 eo37 rfl (by decide) (by decide) ⟨rfl, n.1, trivial⟩, o1 [(8, some 2)] rfl fun _ _ h n => ok_call rfl Try.call25 (ref09_Of_ok n.1 hx1), cm 3 rfl rfl, o1 [(5, some 4)] rfl fun _ _ h n => ok_ext2_0 rfl n.1, o1 [(5, some 4)] rfl fun _ _ h n => ok_ext2_1 rfl n.1, cp 5 rfl rfl, cp 6 rfl rfl, trivial⟩ W2 fun b q p => ?_
  exact tail_done (k := q) (w2 _ _ ⟨Bs.post ⟨hg, hs, hd⟩ p, p.ou 7 1 rfl, trivial⟩)
 rintro a k ⟨⟨hg, hs, hd⟩, i1, _⟩
 refine wp_seq ?_
 obtain ⟨x2, hx2, hr⟩ := bind_some hr
 obtain ⟨x3, hx3, hr⟩ := bind_some hr
 obtain ⟨x4, hx4, hr⟩ := bind_some hr
 obtain ⟨x5, hx5, hr⟩ := bind_some hr
 obtain ⟨x6, hx6, hx5⟩ := ite_bind hx5
 obtain ⟨x7, hx7, hx5⟩ := ite_bind hx5
 obtain ⟨x8, hx8, hx5⟩ := ite_bind hx5
 obtain ⟨x9, hx9, hr⟩ := bind_some hr
 obtain ⟨x10, hx10, hx9⟩ := ite_bind hx9
 obtain ⟨x11, hx11, hx9⟩ := ite_bind hx9
 obtain ⟨x12, hx12, hx9⟩ := ite_bind hx9
 obtain ⟨x13, hx13, hr⟩ := bind_some hr
 obtain ⟨x14, hx14, hx13⟩ := ite_bind hx13
 obtain ⟨x15, hx15, hx13⟩ := ite_bind hx13
 obtain ⟨x16, hx16, hx13⟩ := ite_bind hx13
 refine cut (fun a' k' => Bs noF k0 71 a' k' ∧ (IsV x1.1) (a'.get 1) k' ∧ (IsV x13) (a'.get 3) k' ∧ True) ?_ hQ ?_
 ·intro Q3 W3 w3
  refine gS 26 (_ :: _ :: _ :: _ :: _ :: _ :: _ :: _ :: _ :: _ :: _ :: _ :: _ :: _ :: _ :: _ :: _ :: _ :: _ :: _ :: _ :: _ :: _ :: _ :: _ :: _ :: []) hs (by kernel_rfl) ⟨mu rfl i1, o1 [] rfl fun _ _ h n => ok_call rfl Try.call16 (law11_at_ok (cI rfl) (cI rfl) (cI rfl) hx2), o1 [] rfl fun _ _ h n => ok_call rfl Try.call16 (law11_at_ok (cI rfl) (cI rfl) (cI rfl) hx3), o1 [(12, some 0), (13, some 1), (14, some 2)] rfl fun _ _ h n => ok_call rfl Try.call11 (sight_Blocked_ok n.1 n.2.1 n.2.2.1 hx4), cm 3 rfl rfl, mT rfl rfl i1, gT [] rfl rfl fun hp _ _ h n => ok_call rfl Try.call16 (law11_at_ok (cI rfl) (cI rfl) (cI rfl) (hx6 hp)), gT [] rfl rfl fun hp _ _ h n => ok_call rfl Try.call16 (law11_at_ok (cI rfl) (cI rfl) (cI rfl) (hx7 hp)), gT [(17, some 5), (18, some 6), (19, some 7)] rfl rfl fun hp _ _ h n => ok_call rfl Try.call11 (sight_Blocked_ok (Gd.get n.1 hp) (Gd.get n.2.1 hp) (Gd.get n.2.2.1 hp) (hx8 hp)), gT [(20, some 8)] rfl rfl fun hp _ _ h n => ok_not rfl (Gd.get n.1 hp), o1 [(16, some 4), (21, some 9)] rfl fun _ _ h n => ok_pickM rfl n.1 hx5 (Gd.get n.2.1) (cB rfl), cm 10 rfl rfl, mT rfl rfl i1, gT [] rfl rfl fun hp _ _ h n => ok_call rfl Try.call16 (law11_at_ok (cI rfl) (cI rfl) (cI rfl) (hx10 hp)), gT [] rfl rfl fun hp _ _ h n => ok_call rfl Try.call16 (law11_at_ok (cI rfl) (cI rfl) (cI rfl) (hx11 hp)), gT [(24, some 12), (25, some 13), (26, some 14)] rfl rfl fun hp _ _ h n => ok_call rfl Try.call11 (sight_Blocked_ok (Gd.get n.1 hp) (Gd.get n.2.1 hp) (Gd.get n.2.2.1 hp) (hx12 hp)), gT [(27, some 15)] rfl rfl fun hp _ _ h n => ok_not rfl (Gd.get n.1 hp), o1 [(23, some 11), (28, some 16)] rfl fun _ _ h n => ok_pickM rfl n.1 hx9 (Gd.get n.2.1) (cB rfl), cm 17 rfl rfl, mT rfl rfl i1, gT [] rfl rfl fun hp _ _ h n => ok_call rfl Try.call16 (law11_at_ok (cI rfl) (cI rfl) (cI rfl) (hx14 hp)), gT [] rfl rfl fun hp _ _ h n => ok_call rfl Try.call16 (law11_at_ok (cI rfl) (cI rfl) (cI rfl) (hx15 hp)), gT [(31, some 19), (32, some 20), (33, some 21)] rfl rfl fun hp _ _ h n => ok_call rfl Try.call11 (sight_Blocked_ok (Gd.get n.1 hp) (Gd.get n.2.1 hp) (Gd.get n.2.2.1 hp) (hx16 hp)), gT [(34, some 22)] rfl rfl fun hp _ _ h n => ok_not rfl (Gd.get n.1 hp), o1 [(30, some 18), (35, some 23)] rfl fun _ _ h n => ok_pickM rfl n.1 hx13 (Gd.get n.2.1) (cB rfl), cp 24 rfl rfl, trivial⟩ W3 fun b q p => ?_
  exact tail_done (k := q) (w3 _ _ ⟨Bs.post ⟨hg, hs, hd⟩ p, p.ke 1 rfl i1, p.ou 25 3 rfl, trivial⟩)
 rintro a k ⟨⟨hg, hs, hd⟩, i1, i3, _⟩
 refine wp_seq ?_
 obtain ⟨x17, hx17, hr⟩ := bind_some hr
 obtain ⟨x18, hx18, hr⟩ := bind_some hr
 obtain ⟨x19, hx19, hr⟩ := bind_some hr
 obtain ⟨x20, hx20, hr⟩ := bind_some hr
 obtain ⟨x21, hx21, hx20⟩ := ite_bind hx20
 obtain ⟨x22, hx22, hx20⟩ := ite_bind hx20
 obtain ⟨x23, hx23, hx20⟩ := ite_bind hx20
 refine cut (fun a' k' => Bs noF k0 71 a' k' ∧ (IsV x1.1) (a'.get 1) k' ∧ (IsV x13) (a'.get 3) k' ∧ (IsV x20) (a'.get 4) k' ∧ True) ?_ hQ ?_
 ·intro Q4 W4 w4
  refine gS 12 (_ :: _ :: _ :: _ :: _ :: _ :: _ :: _ :: _ :: _ :: _ :: _ :: []) hs (by kernel_rfl) ⟨mu rfl i1, o1 [] rfl fun _ _ h n => ok_call rfl Try.call16 (law11_at_ok (cI rfl) (cI rfl) (cI rfl) hx17), o1 [] rfl fun _ _ h n => ok_call rfl Try.call16 (law11_at_ok (cI rfl) (cI rfl) (cI rfl) hx18), o1 [(37, some 0), (38, some 1), (39, some 2)] rfl fun _ _ h n => ok_call rfl Try.call11 (sight_Blocked_ok n.1 n.2.1 n.2.2.1 hx19), cm 3 rfl rfl, mT rfl rfl i1, gT [] rfl rfl fun hp _ _ h n => ok_call rfl Try.call16 (law11_at_ok (cI rfl) (cI rfl) (cI rfl) (hx21 hp)), gT [] rfl rfl fun hp _ _ h n => ok_call rfl Try.call16 (law11_at_ok (cI rfl) (cI rfl) (cI rfl) (hx22 hp)), gT [(42, some 5), (43, some 6), (44, some 7)] rfl rfl fun hp _ _ h n => ok_call rfl Try.call11 (sight_Blocked_ok (Gd.get n.1 hp) (Gd.get n.2.1 hp) (Gd.get n.2.2.1 hp) (hx23 hp)), gT [(45, some 8)] rfl rfl fun hp _ _ h n => ok_not rfl (Gd.get n.1 hp), o1 [(41, some 4), (46, some 9)] rfl fun _ _ h n => ok_pickM rfl n.1 hx20 (Gd.get n.2.1) (cB rfl), cp 10 rfl rfl, trivial⟩ W4 fun b q p => ?_
  exact tail_done (k := q) (w4 _ _ ⟨Bs.post ⟨hg, hs, hd⟩ p, p.ke 1 rfl i1, p.ke 3 rfl i3, p.ou 11 4 rfl, trivial⟩)
 rintro a k ⟨⟨hg, hs, hd⟩, i1, i3, i4, _⟩
 refine wp_seq ?_
 obtain ⟨x24, hx24, hr⟩ := bind_some hr
 obtain ⟨x25, hx25, hx24⟩ := ite_bind hx24
 obtain ⟨x26, hx26, hx24⟩ := ite_bind hx24
 obtain ⟨x27, hx27, hx24⟩ := ite_bind hx24
 obtain ⟨x28, hx28, hr⟩ := bind_some hr
 obtain ⟨x29, hx29, hx28⟩ := ite_bind hx28
 obtain ⟨x30, hx30, hx28⟩ := ite_bind hx28
 obtain ⟨x31, hx31, hx28⟩ := ite_bind hx28
 obtain ⟨x32, hx32, hr⟩ := bind_some hr
 obtain ⟨x33, hx33, hx32⟩ := ite_bind hx32
 obtain ⟨x34, hx34, hx32⟩ := ite_bind hx32
 obtain ⟨x35, hx35, hx32⟩ := ite_bind hx32
 refine cut (fun a' k' => Bs noF k0 71 a' k' ∧ (IsV x32) (a'.get 0) k' ∧ True) ?_ hQ ?_
 ·intro Q5 W5 w5
  refine gS 24 (_ :: _ :: _ :: _ :: _ :: _ :: _ :: _ :: _ :: _ :: _ :: _ :: _ :: _ :: _ :: _ :: _ :: _ :: _ :: _ :: _ :: _ :: _ :: _ :: []) hs (by kernel_rfl) ⟨mu rfl i3, cm 0 rfl rfl, mT rfl rfl i4, o1 [(49, some 1), (50, some 2)] rfl fun _ _ h n => ok_pickAnd rfl n.1 (Gd.get n.2.1) (cB rfl), cm 3 rfl rfl, mT rfl rfl i1, gT [] rfl rfl fun hp _ _ h n => ok_call rfl Try.call16 (law11_at_ok (cI rfl) (cI rfl) (cI rfl) (hx25 hp)), gT [] rfl rfl fun hp _ _ h n => ok_call rfl Try.call16 (law11_at_ok (cI rfl) (cI rfl) (cI rfl) (hx26 hp)), gT [(53, some 5), (54, some 6), (55, some 7)] rfl rfl fun hp _ _ h n => ok_call rfl Try.call13 (sight_Ray_ok (Gd.get n.1 hp) (Gd.get n.2.1 hp) (Gd.get n.2.2.1 hp) (hx27 hp)), o1 [(52, some 4), (56, some 8)] rfl fun _ _ h n => ok_pickM rfl n.1 hx24 (Gd.get n.2.1) (cB rfl), cm 9 rfl rfl, mT rfl rfl i1, gT [] rfl rfl fun hp _ _ h n => ok_call rfl Try.call16 (law11_at_ok (cI rfl) (cI rfl) (cI rfl) (hx29 hp)), gT [] rfl rfl fun hp _ _ h n => ok_call rfl Try.call16 (law11_at_ok (cI rfl) (cI rfl) (cI rfl) (hx30 hp)), gT [(59, some 11), (60, some 12), (61, some 13)] rfl rfl fun hp _ _ h n => ok_call rfl Try.call13 (sight_Ray_ok (Gd.get n.1 hp) (Gd.get n.2.1 hp) (Gd.get n.2.2.1 hp) (hx31 hp)), gT [(62, some 14)] rfl rfl fun hp _ _ h n => ok_not rfl (Gd.get n.1 hp), o1 [(58, some 10), (63, some 15)] rfl fun _ _ h n => ok_pickM rfl n.1 hx28 (Gd.get n.2.1) (cB rfl), cm 16 rfl rfl, mT rfl rfl i1, gT [] rfl rfl fun hp _ _ h n => ok_call rfl Try.call16 (law11_at_ok (cI rfl) (cI rfl) (cI rfl) (hx33 hp)), gT [] rfl rfl fun hp _ _ h n => ok_call rfl Try.call16 (law11_at_ok (cI rfl) (cI rfl) (cI rfl) (hx34 hp)), gT [(66, some 18), (67, some 19), (68, some 20)] rfl rfl fun hp _ _ h n => ok_call rfl Try.call13 (sight_Ray_ok (Gd.get n.1 hp) (Gd.get n.2.1 hp) (Gd.get n.2.2.1 hp) (hx35 hp)), o1 [(65, some 17), (69, some 21)] rfl fun _ _ h n => ok_pickM rfl n.1 hx32 (Gd.get n.2.1) (cB rfl), cp 22 rfl rfl, trivial⟩ W5 fun b q p => ?_
  exact tail_done (k := q) (w5 _ _ ⟨Bs.post ⟨hg, hs, hd⟩ p, p.ou 23 0 rfl, trivial⟩)
 rintro a k ⟨⟨hg, hs, hd⟩, i0, _⟩
 refine wp_ret ?_
 obtain rfl := Option.some.inj hr
 exact retC1 rfl hd hg i0
def law11_few_L0 (s_ : (List Slab)) (s1 : Int) : Option (Flow (Int) (Bool)) :=
 if (decide (s1 < (s_.length : Int))) then
  (getI s_ s1).bind fun x1 =>
  if (decide (10 < (x1.Area.length : Int))) then
   some (.ret false)
  else
   (addI s1 1).bind fun x2 =>
   some (.go x2)
 else
  some (.ex 0 s1)
def law11_few (s_ : (List Slab)) : Option (Bool) :=
 if (decide (10 < (s_.length : Int))) then
  some false
 else
  (iterL (law11_few_L0 s_) (s_.length + 1) 0).bind fun f1 => match f1 with
   | .go _ => none
   | .ex _ _ =>
    some true
   | .ret r1 => some r1
theorem law11_few_ok {k0 : K} {v0 : Value} {s_ : (List Slab)} {r : Bool} (i0 : (IsV s_) v0 k0) (hr : law11_few s_ = some r) :
  Calls Try.prog 10 #[v0] k0.w (Ret k0 (IsV r)) := by
 unfold law11_few at hr
 refine Ret.ofC ?_
 refine enterK Try.func10 rfl Try.ntmps10 (show 1 ≤ 20 by decide) fun a k hk0 hs hd ha => ?_
 obtain ⟨e0, _⟩ := ha
 replace i0 : (IsV s_) (a.get 0) k := by rw [e0, hk0]; exact i0
 have hQ : Gb.LetsOut (bodyPost Try.prog Try.f10 (RetC noF k0 (IsV r))) := letsOutC
 have hg : Chg noF k0 k := by rw [hk0]; exact Chg.refl _ k0
 refine stepL 1 (⟨some (IsV false), []⟩ :: []) rfl ⟨hg, hs, hd⟩ (by kernel_rfl) ⟨ob1 rfl fun _ _ h n => ok_assign rfl (isV_bool.2 rfl), trivial⟩ [⟨_, _⟩] (fun b q p => ⟨p.ke 0 rfl i0, trivial⟩) ?_
 rintro a k ⟨⟨hg, hs, hd⟩, i0, _⟩
 refine wp_seq ?_
 refine stepL 3 (_ :: _ :: _ :: []) rfl ⟨hg, hs, hd⟩ (by kernel_rfl) ⟨mu rfl i0, o1 [(4, some 0)] rfl fun _ _ h n => ok_len rfl rfl Try.underlying22 (IsV.rd n.1), o1 [(5, some 1)] rfl fun _ _ h n => ok_gtr rfl n.1 (cI rfl), trivial⟩ [⟨_, _⟩, ⟨_, _⟩] (fun b q p => ⟨p.ke 0 rfl i0, p.ou 2 6 rfl, trivial⟩) ?_
 rintro a k ⟨⟨hg, hs, hd⟩, i0, i6, _⟩
 refine wp_cond_split (isBool i6) (fun hc1645 => ?_) (fun hc1645 => ?_)
 ·rw [if_pos hc1645] at hr
  refine stepL 1 (⟨some (IsV false), []⟩ :: []) rfl ⟨hg, hs, hd⟩ (by kernel_rfl) ⟨ob1 rfl fun _ _ h n => ok_assign rfl (isV_bool.2 rfl), trivial⟩ [⟨_, _⟩] (fun b q p => ⟨p.ou 0 2 rfl, trivial⟩) ?_
  rintro a k ⟨⟨hg, hs, hd⟩, i2, _⟩
  refine wp_ret ?_
  obtain rfl := Option.some.inj hr
  exact retC1 rfl hd hg i2
 rw [if_neg (by rw [hc1645]; decide)] at hr
 refine wp_skip ?_
 refine wp_seq ?_
 refine stepL 1 (⟨some (IsI 0), []⟩ :: []) rfl ⟨hg, hs, hd⟩ (by kernel_rfl) ⟨aI rfl rfl, trivial⟩ [⟨_, _⟩, ⟨_, _⟩] (fun b q p => ⟨p.ke 0 rfl i0, p.ou 0 3 rfl, trivial⟩) ?_
 rintro a k ⟨⟨hg, hs, hd⟩, i0, i3, _⟩
 refine wp_block ?_
 obtain ⟨f1, hf1, hr⟩ := bind_some hr
 refine cutFe f1 (fun s' c l => Bs noF k0 20 c l ∧ IsV s_ (c.get 0) l ∧ IsV s' (c.get 3) l ∧ True) (fun i' s' c l => (i' = 0 ∧ Bs noF k0 20 c l ∧ True)) (fun r' c l => bodyPost Try.prog Try.f10 (RetC noF k0 (IsV r')) .ret c l.w) ?_ hQ ?_ ?_ ?_
 ·intro Q1 W1 hgo hex hret
  refine sim_loop ?_ _ _ _ _ _ hf1 ⟨⟨hg, hs, hd⟩, i0, i3, trivial⟩ Q1 W1 hgo hex hret
  clear hr hf1 hgo hex hret W1 hQ hg hs hd i0 i3
  intro s1 fl_ a k hr hS Q hQ hgo1619 hex1620 hret1621
  obtain ⟨⟨hg, hs, hd⟩, i0, i3, _⟩ := hS
  unfold law11_few_L0 at hr
  refine wp_seq ?_
  refine stepL 4 (_ :: _ :: _ :: _ :: []) rfl ⟨hg, hs, hd⟩ (by kernel_rfl) ⟨mu rfl i3, mu rfl i0, o1 [(8, some 1)] rfl fun _ _ h n => ok_len rfl rfl Try.underlying22 (IsV.rd n.1), o1 [(7, some 0), (9, some 2)] rfl fun _ _ h n => ok_lss rfl n.1 n.2.1, trivial⟩ [⟨_, _⟩, ⟨_, _⟩, ⟨_, _⟩] (fun b q p => ⟨p.ke 0 rfl i0, p.ke 3 rfl i3, p.ou 3 10 rfl, trivial⟩) ?_
  rintro a k ⟨⟨hg, hs, hd⟩, i0, i3, i10, _⟩
  refine wp_cond_split (isBool i10) (fun hc1633 => ?_) (fun hc1633 => ?_)
  ·rw [if_pos hc1633] at hr
   refine wp_skip ?_
   refine wp_seq ?_
   refine wp_block ?_
   refine wp_seq ?_
   obtain ⟨x1, hx1, hr⟩ := bind_some hr
   refine cut (fun a' k' => Bs noF k0 20 a' k' ∧ (IsV s_) (a'.get 0) k' ∧ (IsV s1) (a'.get 3) k' ∧ (IsV (decide (10 < (x1.Area.length : Int)))) (a'.get 19) k' ∧ True) ?_ hQ ?_
   ·intro Q2 W2 w1
    refine gS 7 (_ :: _ :: _ :: _ :: _ :: _ :: _ :: []) hs (by kernel_rfl) ⟨mu rfl i0, mu rfl i3, o1 [(13, some 0), (14, some 1)] rfl fun _ _ h n => ok_indexAddr rfl Try.underlying22 ty51 (IsV.rd n.1) n.2.1 hx1, o1 [(15, some 2)] rfl fun _ _ h n => ok_fieldAddr rfl fo51_2 (at_Slab_2 _) n.1, o1 [(16, some 3)] rfl fun _ _ h n => ok_load rfl ty49 n.1, o1 [(17, some 4)] rfl fun _ _ h n => ok_len rfl rfl Try.underlying49 (IsV.rd n.1), o1 [(18, some 5)] rfl fun _ _ h n => ok_gtr rfl n.1 (cI rfl), trivial⟩ W2 fun b q p => ?_
    exact tail_done (k := q) (w1 _ _ ⟨Bs.post ⟨hg, hs, hd⟩ p, p.ke 0 rfl i0, p.ke 3 rfl i3, p.ou 6 19 rfl, trivial⟩)
   rintro a k ⟨⟨hg, hs, hd⟩, i0, i3, i19, _⟩
   refine wp_cond_split (isBool i19) (fun hc1630 => ?_) (fun hc1630 => ?_)
   ·rw [if_pos hc1630] at hr
    refine stepL 1 (⟨some (IsV false), []⟩ :: []) rfl ⟨hg, hs, hd⟩ (by kernel_rfl) ⟨ob1 rfl fun _ _ h n => ok_assign rfl (isV_bool.2 rfl), trivial⟩ [⟨_, _⟩] (fun b q p => ⟨p.ou 0 2 rfl, trivial⟩) ?_
    rintro a k ⟨⟨hg, hs, hd⟩, i2, _⟩
    refine wp_ret ?_
    exact hret1621 _ _ _ (Option.some.inj hr).symm (retC1 rfl hd hg i2)
   rw [if_neg (by rw [hc1630]; decide)] at hr
   refine wp_skip ?_
   obtain ⟨x2, hx2, hr⟩ := bind_some hr
   refine cut (fun a' k' => Bs noF k0 20 a' k' ∧ (IsV s_) (a'.get 0) k' ∧ (IsV x2) (a'.get 3) k' ∧ True) ?_ hQ ?_
   ·intro Q3 W3 w2
    refine gS 3 (_ :: _ :: _ :: []) hs (by kernel_rfl) ⟨mu rfl i3, o1 [(11, some 0)] rfl fun _ _ h n => ok_add rfl n.1 (cI rfl) hx2, cp 1 rfl rfl, trivial⟩ W3 fun b q p => ?_
    exact tail_done (k := q) (w2 _ _ ⟨Bs.post ⟨hg, hs, hd⟩ p, p.ke 0 rfl i0, p.ou 2 3 rfl, trivial⟩)
   rintro a k ⟨⟨hg, hs, hd⟩, i0, i3, _⟩
   exact hgo1619 _ _ _ (Option.some.inj hr).symm ⟨⟨hg, hs, hd⟩, i0, i3, trivial⟩
  rw [if_neg (by rw [hc1633]; decide)] at hr
  refine wp_exit ?_
  exact hex1620 _ _ _ _ (Option.some.inj hr).symm ⟨rfl, ⟨hg, hs, hd⟩, trivial⟩
 ·rintro r1 a k rfl hR
  dsimp only at hr
  obtain rfl := Option.some.inj hr
  exact hR
 ·rintro _ _ _ rfl _
  simp at hr
 clear hf1
 rintro _ s2 a k rfl ⟨rfl, ⟨hg, hs, hd⟩, _⟩
 dsimp only at hr
 refine stepL 1 (⟨some (IsV true), []⟩ :: []) rfl ⟨hg, hs, hd⟩ (by kernel_rfl) ⟨ob1 rfl fun _ _ h n => ok_assign rfl (isV_bool.2 rfl), trivial⟩ [⟨_, _⟩] (fun b q p => ⟨p.ou 0 2 rfl, trivial⟩) ?_
 rintro a k ⟨⟨hg, hs, hd⟩, i2, _⟩
 refine wp_ret ?_
 obtain rfl := Option.some.inj hr
 exact retC1 rfl hd hg i2
def ref06_Of_L0 (l_ : (List Rect)) (s1 : Int) : Option (Flow (Int) ((List Rect) × Int)) :=
 if (decide (s1 < (l_.length : Int))) then
  (getI l_ s1).bind fun x1 =>
  (ref06_RightRect x1).bind fun x2 =>
  if (!x2) then
   some (.ret (([] : List Rect), 1))
  else
   (addI s1 1).bind fun x3 =>
   some (.go x3)
 else
  some (.ex 0 s1)
def ref06_Of (l_ : (List Rect)) : Option ((List Rect) × Int) :=
 (iterL (ref06_Of_L0 l_) (l_.length + 1) 0).bind fun f1 => match f1 with
  | .go _ => none
  | .ex _ _ =>
   if (decide (400 < (l_.length : Int))) then
    some (([] : List Rect), 6)
   else
    (ref06_Form l_ ([] : List Rect) 0).bind fun x1 =>
    if (decide (200 < (x1.length : Int))) then
     some (([] : List Rect), 6)
    else
     some (x1, 0)
  | .ret r1 => some r1
theorem ref06_Of_ok {k0 : K} {v0 : Value} {l_ : (List Rect)} {r : (List Rect) × Int} (i0 : (IsV l_) v0 k0) (hr : ref06_Of l_ = some r) :
  Calls Try.prog 51 #[v0] k0.w (Ret k0 (IsTup2 (IsV r.1) (IsV r.2))) := by
 unfold ref06_Of at hr
 refine Ret.ofC ?_
 refine enterK Try.func51 rfl Try.ntmps51 (show 1 ≤ 27 by decide) fun a k hk0 hs hd ha => ?_
 obtain ⟨e0, _⟩ := ha
 replace i0 : (IsV l_) (a.get 0) k := by rw [e0, hk0]; exact i0
 have hQ : Gb.LetsOut (bodyPost Try.prog Try.f51 (RetC noF k0 (IsTup2 (IsV r.1) (IsV r.2)))) := letsOutC
 have hg : Chg noF k0 k := by rw [hk0]; exact Chg.refl _ k0
 refine stepL 2 (⟨some IsE0, []⟩ :: ⟨some (IsI 0), []⟩ :: []) rfl ⟨hg, hs, hd⟩ (by kernel_rfl) ⟨ob1 rfl fun b q h n => ok_assign rfl isE0_nil, aI rfl rfl, trivial⟩ [⟨_, _⟩] (fun b q p => ⟨p.ke 0 rfl i0, trivial⟩) ?_
 rintro a k ⟨⟨hg, hs, hd⟩, i0, _⟩
 refine wp_seq ?_
 refine stepL 1 (⟨some (IsI 0), []⟩ :: []) rfl ⟨hg, hs, hd⟩ (by kernel_rfl) ⟨aI rfl rfl, trivial⟩ [⟨_, _⟩, ⟨_, _⟩] (fun b q p => ⟨p.ke 0 rfl i0, p.ou 0 4 rfl, trivial⟩) ?_
 rintro a k ⟨⟨hg, hs, hd⟩, i0, i4, _⟩
 refine wp_block ?_
 obtain ⟨f1, hf1, hr⟩ := bind_some hr
 refine cutFe f1 (fun s' c l => Bs noF k0 27 c l ∧ IsV l_ (c.get 0) l ∧ IsV s' (c.get 4) l ∧ True) (fun i' s' c l => (i' = 0 ∧ Bs noF k0 27 c l ∧ IsV l_ (c.get 0) l ∧ True)) (fun r' c l => bodyPost Try.prog Try.f51 (RetC noF k0 (IsTup2 (IsV r'.1) (IsV r'.2))) .ret c l.w) ?_ hQ ?_ ?_ ?_
 ·intro Q1 W1 hgo hex hret
  refine sim_loop ?_ _ _ _ _ _ hf1 ⟨⟨hg, hs, hd⟩, i0, i4, trivial⟩ Q1 W1 hgo hex hret
  clear hr hf1 hgo hex hret W1 hQ hg hs hd i0 i4
  intro s1 fl_ a k hr hS Q hQ hgo1653 hex1654 hret1655
  obtain ⟨⟨hg, hs, hd⟩, i0, i4, _⟩ := hS
  unfold ref06_Of_L0 at hr
  refine wp_seq ?_
  refine stepL 4 (_ :: _ :: _ :: _ :: []) rfl ⟨hg, hs, hd⟩ (by kernel_rfl) ⟨mu rfl i4, mu rfl i0, o1 [(7, some 1)] rfl fun _ _ h n => ok_len rfl rfl Try.underlying49 (IsV.rd n.1), o1 [(6, some 0), (8, some 2)] rfl fun _ _ h n => ok_lss rfl n.1 n.2.1, trivial⟩ [⟨_, _⟩, ⟨_, _⟩, ⟨_, _⟩] (fun b q p => ⟨p.ke 0 rfl i0, p.ke 4 rfl i4, p.ou 3 9 rfl, trivial⟩) ?_
  rintro a k ⟨⟨hg, hs, hd⟩, i0, i4, i9, _⟩
  refine wp_cond_split (isBool i9) (fun hc1667 => ?_) (fun hc1667 => ?_)
  ·rw [if_pos hc1667] at hr
   refine wp_skip ?_
   refine wp_seq ?_
   refine wp_block ?_
   refine wp_seq ?_
   obtain ⟨x1, hx1, hr⟩ := bind_some hr
   obtain ⟨x2, hx2, hr⟩ := bind_some hr
   refine cut (fun a' k' => Bs noF k0 27 a' k' ∧ (IsV l_) (a'.get 0) k' ∧ (IsV s1) (a'.get 4) k' ∧ (IsV (!x2)) (a'.get 17) k' ∧ True) ?_ hQ ?_
   ·intro Q2 W2 w1
    refine gS 6 (_ :: _ :: _ :: _ :: _ :: _ :: []) hs (by kernel_rfl) ⟨mu rfl i0, mu rfl i4, o1 [(12, some 0), (13, some 1)] rfl fun _ _ h n => ok_indexAddr rfl Try.underlying49 ty35 (IsV.rd n.1) n.2.1 hx1, o1 [(14, some 2)] rfl fun _ _ h n => ok_load rfl ty35 n.1, o1 [(15, some 3)] rfl fun _ _ h n => ok_call rfl Try.call34 (ref06_RightRect_ok n.1 hx2), o1 [(16, some 4)] rfl fun _ _ h n => ok_not rfl n.1, trivial⟩ W2 fun b q p => ?_
    exact tail_done (k := q) (w1 _ _ ⟨Bs.post ⟨hg, hs, hd⟩ p, p.ke 0 rfl i0, p.ke 4 rfl i4, p.ou 5 17 rfl, trivial⟩)
   rintro a k ⟨⟨hg, hs, hd⟩, i0, i4, i17, _⟩
   refine wp_cond_split (isBool i17) (fun hc1664 => ?_) (fun hc1664 => ?_)
   ·rw [if_pos hc1664] at hr
    refine cutL noF k0 27 [⟨2, IsV ([] : List Rect)⟩, ⟨3, IsI 1⟩] ?_ ?_
    ·intro Q3 W3 w2
     refine gS 2 (⟨some IsE0, []⟩ :: ⟨some (IsI 1), []⟩ :: []) hs (by kernel_rfl) ⟨ob1 rfl fun b q h n => ok_assign rfl isE0_nil, aI rfl rfl, trivial⟩ W3 fun b q p => ?_
     have hgq := hg.then p.grow
     have hsb := p.size.trans hs
     have hdb := p.defers.trans hd
     have j2 : IsE0 (b.get 2) q := p.ou 0 2 rfl
     have j3 : (IsI 1) (b.get 3) q := p.ou 1 3 rfl
     replace j2 : IsV ([] : List Rect) (b.get 2) q := j2.isV
     exact tail_done (k := q) (w2 _ _ ⟨⟨hgq, hsb, hdb⟩, j2, j3, trivial⟩)
    rintro a k ⟨⟨hg, hs, hd⟩, i2, i3, _⟩
    refine wp_ret ?_
    exact hret1655 _ _ _ (Option.some.inj hr).symm (retC2 rfl hd hg i2 i3)
   rw [if_neg (by rw [hc1664]; decide)] at hr
   refine wp_skip ?_
   obtain ⟨x3, hx3, hr⟩ := bind_some hr
   refine cut (fun a' k' => Bs noF k0 27 a' k' ∧ (IsV l_) (a'.get 0) k' ∧ (IsV x3) (a'.get 4) k' ∧ True) ?_ hQ ?_
   ·intro Q4 W4 w3
    refine gS 3 (_ :: _ :: _ :: []) hs (by kernel_rfl) ⟨mu rfl i4, o1 [(10, some 0)] rfl fun _ _ h n => ok_add rfl n.1 (cI rfl) hx3, cp 1 rfl rfl, trivial⟩ W4 fun b q p => ?_
    exact tail_done (k := q) (w3 _ _ ⟨Bs.post ⟨hg, hs, hd⟩ p, p.ke 0 rfl i0, p.ou 2 4 rfl, trivial⟩)
   rintro a k ⟨⟨hg, hs, hd⟩, i0, i4, _⟩
   exact hgo1653 _ _ _ (Option.some.inj hr).symm ⟨⟨hg, hs, hd⟩, i0, i4, trivial⟩
  rw [if_neg (by rw [hc1667]; decide)] at hr
  refine wp_exit ?_
  exact hex1654 _ _ _ _ (Option.some.inj hr).symm ⟨rfl, ⟨hg, hs, hd⟩, i0, trivial⟩
 ·rintro r1 a k rfl hR
  dsimp only at hr
  obtain rfl := Option.some.inj hr
  exact hR
 ·rintro _ _ _ rfl _
  simp at hr
 clear hf1
 rintro _ s2 a k rfl ⟨rfl, ⟨hg, hs, hd⟩, i0, _⟩
 dsimp only at hr
 refine wp_seq ?_
 refine stepL 3 (_ :: _ :: _ :: []) rfl ⟨hg, hs, hd⟩ (by kernel_rfl) ⟨mu rfl i0, o1 [(18, some 0)] rfl fun _ _ h n => ok_len rfl rfl Try.underlying49 (IsV.rd n.1), o1 [(19, some 1)] rfl fun _ _ h n => ok_gtr rfl n.1 (cI rfl), trivial⟩ [⟨_, _⟩, ⟨_, _⟩] (fun b q p => ⟨p.ke 0 rfl i0, p.ou 2 20 rfl, trivial⟩) ?_
 rintro a k ⟨⟨hg, hs, hd⟩, i0, i20, _⟩
 refine wp_cond_split (isBool i20) (fun hc1689 => ?_) (fun hc1689 => ?_)
 ·rw [if_pos hc1689] at hr
  refine cutL noF k0 27 [⟨2, IsV ([] : List Rect)⟩, ⟨3, IsI 6⟩] ?_ ?_
  ·intro Q5 W5 w4
   refine gS 2 (⟨some IsE0, []⟩ :: ⟨some (IsI 6), []⟩ :: []) hs (by kernel_rfl) ⟨ob1 rfl fun b q h n => ok_assign rfl isE0_nil, aI rfl rfl, trivial⟩ W5 fun b q p => ?_
   have hgq := hg.then p.grow
   have hsb := p.size.trans hs
   have hdb := p.defers.trans hd
   have j2 : IsE0 (b.get 2) q := p.ou 0 2 rfl
   have j3 : (IsI 6) (b.get 3) q := p.ou 1 3 rfl
   replace j2 : IsV ([] : List Rect) (b.get 2) q := j2.isV
   exact tail_done (k := q) (w4 _ _ ⟨⟨hgq, hsb, hdb⟩, j2, j3, trivial⟩)
  rintro a k ⟨⟨hg, hs, hd⟩, i2, i3, _⟩
  refine wp_ret ?_
  obtain rfl := Option.some.inj hr
  exact retC2 rfl hd hg i2 i3
 rw [if_neg (by rw [hc1689]; decide)] at hr
 refine wp_skip ?_
 refine wp_seq ?_
 obtain ⟨x4, hx4, hr⟩ := bind_some hr
 refine cut (fun a' k' => Bs noF k0 27 a' k' ∧ (IsV x4) (a'.get 5) k' ∧ True) ?_ hQ ?_
 ·intro Q6 W6 w5
  refine gS 3 (_ :: _ :: _ :: []) hs (by kernel_rfl) ⟨mu rfl i0, o1 [(21, some 0)] rfl fun _ _ h n => ok_call rfl Try.call44 (ref06_Form_ok n.1 (isV_list.2 (.inl ⟨rfl, rfl⟩)) (cI rfl) hx4), cp 1 rfl rfl, trivial⟩ W6 fun b q p => ?_
  exact tail_done (k := q) (w5 _ _ ⟨Bs.post ⟨hg, hs, hd⟩ p, p.ou 2 5 rfl, trivial⟩)
 rintro a k ⟨⟨hg, hs, hd⟩, i5, _⟩
 refine wp_seq ?_
 refine stepL 3 (_ :: _ :: _ :: []) rfl ⟨hg, hs, hd⟩ (by kernel_rfl) ⟨mu rfl i5, o1 [(23, some 0)] rfl fun _ _ h n => ok_len rfl rfl Try.underlying49 (IsV.rd n.1), o1 [(24, some 1)] rfl fun _ _ h n => ok_gtr rfl n.1 (cI rfl), trivial⟩ [⟨_, _⟩, ⟨_, _⟩] (fun b q p => ⟨p.ke 5 rfl i5, p.ou 2 25 rfl, trivial⟩) ?_
 rintro a k ⟨⟨hg, hs, hd⟩, i5, i25, _⟩
 refine wp_cond_split (isBool i25) (fun hc1684 => ?_) (fun hc1684 => ?_)
 ·rw [if_pos hc1684] at hr
  refine cutL noF k0 27 [⟨2, IsV ([] : List Rect)⟩, ⟨3, IsI 6⟩] ?_ ?_
  ·intro Q7 W7 w6
   refine gS 2 (⟨some IsE0, []⟩ :: ⟨some (IsI 6), []⟩ :: []) hs (by kernel_rfl) ⟨ob1 rfl fun b q h n => ok_assign rfl isE0_nil, aI rfl rfl, trivial⟩ W7 fun b q p => ?_
   have hgq := hg.then p.grow
   have hsb := p.size.trans hs
   have hdb := p.defers.trans hd
   have j2 : IsE0 (b.get 2) q := p.ou 0 2 rfl
   have j3 : (IsI 6) (b.get 3) q := p.ou 1 3 rfl
   replace j2 : IsV ([] : List Rect) (b.get 2) q := j2.isV
   exact tail_done (k := q) (w6 _ _ ⟨⟨hgq, hsb, hdb⟩, j2, j3, trivial⟩)
  rintro a k ⟨⟨hg, hs, hd⟩, i2, i3, _⟩
  refine wp_ret ?_
  obtain rfl := Option.some.inj hr
  exact retC2 rfl hd hg i2 i3
 rw [if_neg (by rw [hc1684]; decide)] at hr
 refine wp_skip ?_
 refine stepL 3 (_ :: _ :: ⟨some (IsI 0), []⟩ :: []) rfl ⟨hg, hs, hd⟩ (by kernel_rfl) ⟨mu rfl i5, cp 0 rfl rfl, aI rfl rfl, trivial⟩ [⟨_, _⟩, ⟨_, _⟩] (fun b q p => ⟨p.ou 1 2 rfl, p.ou 2 3 rfl, trivial⟩) ?_
 rintro a k ⟨⟨hg, hs, hd⟩, i2, i3, _⟩
 refine wp_ret ?_
 obtain rfl := Option.some.inj hr
 exact retC2 rfl hd hg i2 i3
def ref06_Right (a_ : (List Rect)) : Option (Bool) :=
 (ref06_Of a_).bind fun x1 =>
 (if (x1.2 == 0) then
  (ref06_Same x1.1 a_).bind fun x2 =>
  some x2
 else
  some false).bind fun x3 =>
 some x3
theorem ref06_Right_ok {k0 : K} {v0 : Value} {a_ : (List Rect)} {r : Bool} (i0 : (IsV a_) v0 k0) (hr : ref06_Right a_ = some r) :
  Calls Try.prog 30 #[v0] k0.w (Ret k0 (IsV r)) := by
 unfold ref06_Right at hr
 refine Ret.ofC ?_
 refine enterK Try.func30 rfl Try.ntmps30 (show 1 ≤ 17 by decide) fun a k hk0 hs hd ha => ?_
 obtain ⟨e0, _⟩ := ha
 replace i0 : (IsV a_) (a.get 0) k := by rw [e0, hk0]; exact i0
 have hQ : Gb.LetsOut (bodyPost Try.prog Try.f30 (RetC noF k0 (IsV r))) := letsOutC
 have hg : Chg noF k0 k := by rw [hk0]; exact Chg.refl _ k0
 refine stepL 1 (⟨some (IsV false), []⟩ :: []) rfl ⟨hg, hs, hd⟩ (by kernel_rfl) ⟨ob1 rfl fun _ _ h n => ok_assign rfl (isV_bool.2 rfl), trivial⟩ [⟨_, _⟩] (fun b q p => ⟨p.ke 0 rfl i0, trivial⟩) ?_
 rintro a k ⟨⟨hg, hs, hd⟩, i0, _⟩
 refine wp_seq ?_
 obtain ⟨x1, hx1, hr⟩ := bind_some hr
 refine cut (fun a' k' => Bs noF k0 17 a' k' ∧ (IsV a_) (a'.get 0) k' ∧ (IsV x1.1) (a'.get 3) k' ∧ (IsV x1.2) (a'.get 4) k' ∧ True) ?_ hQ ?_
 ·intro Q1 W1 w1
  refine gS 7 (_ :: _ :: _ :: _ :: _ :: _ :: _ :: []) hs (by kernel_rfl) ⟨mu rfl i0, o1 [(6, some 0)] rfl fun _ _ h n => ok_call rfl Try.call51 (ref06_Of_ok n.1 hx1), cm 1 rfl rfl, o1 [(5, some 2)] rfl fun _ _ h n => ok_ext2_0 rfl n.1, o1 [(5, some 2)] rfl fun _ _ h n => ok_ext2_1 rfl n.1, cp 3 rfl rfl, cp 4 rfl rfl, trivial⟩ W1 fun b q p => ?_
  exact tail_done (k := q) (w1 _ _ ⟨Bs.post ⟨hg, hs, hd⟩ p, p.ke 0 rfl i0, p.ou 5 3 rfl, p.ou 6 4 rfl, trivial⟩)
 rintro a k ⟨⟨hg, hs, hd⟩, i0, i3, i4, _⟩
 refine wp_seq ?_
 obtain ⟨x2, hx2, hr⟩ := bind_some hr
 obtain ⟨x3, hx3, hx2⟩ := ite_bind hx2
 refine cut (fun a' k' => Bs noF k0 17 a' k' ∧ (IsV x2) (a'.get 2) k' ∧ True) ?_ hQ ?_
 ·intro Q2 W2 w2
  refine gS 8 (_ :: _ :: _ :: _ :: _ :: _ :: _ :: _ :: []) hs (by kernel_rfl) ⟨mu rfl i4, o1 [(10, some 0)] rfl fun _ _ h n => ok_eqI rfl n.1 (cI rfl), cm 1 rfl rfl, mT rfl rfl i3, mT rfl rfl i0, gT [(13, some 3), (14, some 4)] rfl rfl fun hp _ _ h n => ok_call rfl Try.call31 (ref06_Same_ok (Gd.get n.1 hp) (Gd.get n.2.1 hp) (hx3 hp)), o1 [(12, some 2), (15, some 5)] rfl fun _ _ h n => ok_pickM rfl n.1 hx2 (Gd.get n.2.1) (cB rfl), cp 6 rfl rfl, trivial⟩ W2 fun b q p => ?_
  exact tail_done (k := q) (w2 _ _ ⟨Bs.post ⟨hg, hs, hd⟩ p, p.ou 7 2 rfl, trivial⟩)
 rintro a k ⟨⟨hg, hs, hd⟩, i2, _⟩
 refine wp_ret ?_
 obtain rfl := Option.some.inj hr
 exact retC1 rfl hd hg i2
def ref09_Right_L0 (s_ : (List Slab)) (s1 : Int) : Option (Flow (Int) (Bool)) :=
 if (decide (s1 < (s_.length : Int))) then
  (getI s_ s1).bind fun x1 =>
  (if (decide (x1.Z0 < 0)) then
   some true
  else
   (getI s_ s1).bind fun x2 =>
   (getI s_ s1).bind fun x3 =>
   some (decide (x3.Z1 ≤ x2.Z0))).bind fun x4 =>
  (if x4 then
   some true
  else
   (getI s_ s1).bind fun x5 =>
   some (decide (4096 < x5.Z1))).bind fun x6 =>
  (if x6 then
   some true
  else
   (getI s_ s1).bind fun x7 =>
   some ((x7.Area.length : Int) == 0)).bind fun x8 =>
  (if x8 then
   some true
  else
   (getI s_ s1).bind fun x9 =>
   (ref06_Right x9.Area).bind fun x10 =>
   some (!x10)).bind fun x11 =>
  if x11 then
   some (.ret false)
  else
   (if (decide (0 < s1)) then
    (subI s1 1).bind fun x12 =>
    (getI s_ x12).bind fun x13 =>
    (getI s_ s1).bind fun x14 =>
    (if (decide (x14.Z0 < x13.Z1)) then
     some true
    else
     (subI s1 1).bind fun x15 =>
     (getI s_ x15).bind fun x16 =>
     (getI s_ s1).bind fun x17 =>
     (if (x16.Z1 == x17.Z0) then
      (subI s1 1).bind fun x18 =>
      (getI s_ x18).bind fun x19 =>
      (getI s_ s1).bind fun x20 =>
      (ref06_Same x19.Area x20.Area).bind fun x21 =>
      some x21
     else
      some false).bind fun x22 =>
     some x22).bind fun x23 =>
    some x23
   else
    some false).bind fun x24 =>
   if x24 then
    some (.ret false)
   else
    (addI s1 1).bind fun x25 =>
    some (.go x25)
 else
  some (.ex 0 s1)
def ref09_Right (s_ : (List Slab)) : Option (Bool) :=
 if (decide (80 < (s_.length : Int))) then
  some false
 else
  (iterL (ref09_Right_L0 s_) (s_.length + 1) 0).bind fun f1 => match f1 with
   | .go _ => none
   | .ex _ _ =>
    some true
   | .ret r1 => some r1
theorem ref09_Right_ok {k0 : K} {v0 : Value} {s_ : (List Slab)} {r : Bool} (i0 : (IsV s_) v0 k0) (hr : ref09_Right s_ = some r) :
  Calls Try.prog 15 #[v0] k0.w (Ret k0 (IsV r)) := by
 unfold ref09_Right at hr
 refine Ret.ofC ?_
 refine enterK Try.func15 rfl Try.ntmps15 (show 1 ≤ 102 by decide) fun a k hk0 hs hd ha => ?_
 obtain ⟨e0, _⟩ := ha
 replace i0 : (IsV s_) (a.get 0) k := by rw [e0, hk0]; exact i0
 have hQ : Gb.LetsOut (bodyPost Try.prog Try.f15 (RetC noF k0 (IsV r))) := letsOutC
 have hg : Chg noF k0 k := by rw [hk0]; exact Chg.refl _ k0
 refine stepL 1 (⟨some (IsV false), []⟩ :: []) rfl ⟨hg, hs, hd⟩ (by kernel_rfl) ⟨ob1 rfl fun _ _ h n => ok_assign rfl (isV_bool.2 rfl), trivial⟩ [⟨_, _⟩] (fun b q p => ⟨p.ke 0 rfl i0, trivial⟩) ?_
 rintro a k ⟨⟨hg, hs, hd⟩, i0, _⟩
 refine wp_seq ?_
 refine stepL 3 (_ :: _ :: _ :: []) rfl ⟨hg, hs, hd⟩ (by kernel_rfl) ⟨mu rfl i0, o1 [(4, some 0)] rfl fun _ _ h n => ok_len rfl rfl Try.underlying22 (IsV.rd n.1), o1 [(5, some 1)] rfl fun _ _ h n => ok_gtr rfl n.1 (cI rfl), trivial⟩ [⟨_, _⟩, ⟨_, _⟩] (fun b q p => ⟨p.ke 0 rfl i0, p.ou 2 6 rfl, trivial⟩) ?_
 rintro a k ⟨⟨hg, hs, hd⟩, i0, i6, _⟩
 refine wp_cond_split (isBool i6) (fun hc1747 => ?_) (fun hc1747 => ?_)
 ·rw [if_pos hc1747] at hr
  refine stepL 1 (⟨some (IsV false), []⟩ :: []) rfl ⟨hg, hs, hd⟩ (by kernel_rfl) ⟨ob1 rfl fun _ _ h n => ok_assign rfl (isV_bool.2 rfl), trivial⟩ [⟨_, _⟩] (fun b q p => ⟨p.ou 0 2 rfl, trivial⟩) ?_
  rintro a k ⟨⟨hg, hs, hd⟩, i2, _⟩
  refine wp_ret ?_
  obtain rfl := Option.some.inj hr
  exact retC1 rfl hd hg i2
 rw [if_neg (by rw [hc1747]; decide)] at hr
 refine wp_skip ?_
 refine wp_seq ?_
 refine stepL 1 (⟨some (IsI 0), []⟩ :: []) rfl ⟨hg, hs, hd⟩ (by kernel_rfl) ⟨aI rfl rfl, trivial⟩ [⟨_, _⟩, ⟨_, _⟩] (fun b q p => ⟨p.ke 0 rfl i0, p.ou 0 3 rfl, trivial⟩) ?_
 rintro a k ⟨⟨hg, hs, hd⟩, i0, i3, _⟩
 refine wp_block ?_
 obtain ⟨f1, hf1, hr⟩ := bind_some hr
 refine cutFe f1 (fun s' c l => Bs noF k0 102 c l ∧ IsV s_ (c.get 0) l ∧ IsV s' (c.get 3) l ∧ True) (fun i' s' c l => (i' = 0 ∧ Bs noF k0 102 c l ∧ True)) (fun r' c l => bodyPost Try.prog Try.f15 (RetC noF k0 (IsV r')) .ret c l.w) ?_ hQ ?_ ?_ ?_
 ·intro Q1 W1 hgo hex hret
  refine sim_loop ?_ _ _ _ _ _ hf1 ⟨⟨hg, hs, hd⟩, i0, i3, trivial⟩ Q1 W1 hgo hex hret
  clear hr hf1 hgo hex hret W1 hQ hg hs hd i0 i3
  intro s1 fl_ a k hr hS Q hQ hgo1714 hex1715 hret1716
  obtain ⟨⟨hg, hs, hd⟩, i0, i3, _⟩ := hS
  unfold ref09_Right_L0 at hr
  refine wp_seq ?_
  refine stepL 4 (_ :: _ :: _ :: _ :: []) rfl ⟨hg, hs, hd⟩ (by kernel_rfl) ⟨mu rfl i3, mu rfl i0, o1 [(8, some 1)] rfl fun _ _ h n => ok_len rfl rfl Try.underlying22 (IsV.rd n.1), o1 [(7, some 0), (9, some 2)] rfl fun _ _ h n => ok_lss rfl n.1 n.2.1, trivial⟩ [⟨_, _⟩, ⟨_, _⟩, ⟨_, _⟩] (fun b q p => ⟨p.ke 0 rfl i0, p.ke 3 rfl i3, p.ou 3 10 rfl, trivial⟩) ?_
  rintro a k ⟨⟨hg, hs, hd⟩, i0, i3, i10, _⟩
  refine wp_cond_split (isBool i10) (fun hc1735 => ?_) (fun hc1735 => ?_)
  ·rw [if_pos hc1735] at hr
   refine wp_skip ?_
   refine wp_seq ?_
   refine wp_block ?_
   refine wp_seq ?_
   refine wp_seq ?_
   obtain ⟨x1, hx1, hr⟩ := bind_some hr
   obtain ⟨x2, hx2, hr⟩ := bind_some hr
   obtain ⟨x3, hx3, hx2⟩ := ite_bindF hx2
   obtain ⟨x4, hx4, hx2⟩ := ite_bindF hx2
   obtain ⟨x5, hx5, hr⟩ := bind_some hr
   obtain ⟨x6, hx6, hx5⟩ := ite_bindF hx5
   obtain ⟨x7, hx7, hr⟩ := bind_some hr
   obtain ⟨x8, hx8, hx7⟩ := ite_bindF hx7
   obtain ⟨x9, hx9, hr⟩ := bind_some hr
   obtain ⟨x10, hx10, hx9⟩ := ite_bindF hx9
   obtain ⟨x11, hx11, hx9⟩ := ite_bindF hx9
   refine cut (fun a' k' => Bs noF k0 102 a' k' ∧ (IsV s_) (a'.get 0) k' ∧ (IsV s1) (a'.get 3) k' ∧ (IsV x9) (a'.get 57) k' ∧ True) ?_ hQ ?_
   ·intro Q2 W2 w1
    refine region (m := 45) (_ :: _ :: _ :: _ :: _ :: _ :: _ :: _ :: _ :: _ :: _ :: _ :: _ :: _ :: _ :: _ :: _ :: _ :: _ :: _ :: _ :: _ :: _ :: _ :: _ :: _ :: _ :: _ :: _ :: _ :: _ :: _ :: _ :: _ :: _ :: _ :: _ :: _ :: _ :: _ :: _ :: _ :: _ :: _ :: _ :: []) hmix hs (by kernel_rfl) ⟨mu rfl i0, mu rfl i3, o1 [(13, some 0), (14, some 1)] rfl fun _ _ h n => ok_indexAddr rfl Try.underlying22 ty51 (IsV.rd n.1) n.2.1 hx1, o1 [(15, some 2)] rfl fun _ _ h n => ok_fieldAddr rfl fo51_0 (at_Slab_0 _) n.1, o1 [(16, some 3)] rfl fun _ _ h n => ok_load rfl ty3 n.1, o1 [(17, some 4)] rfl fun _ _ h n => ok_lss rfl n.1 (cI rfl), cm 5 rfl rfl, mF rfl rfl i0, mF rfl rfl i3, gF [(20, some 7), (21, some 8)] rfl rfl fun hp _ _ h n => ok_indexAddr rfl Try.underlying22 ty51 (IsV.rd (Gd.get n.1 hp)) (Gd.get n.2.1 hp) (hx3 hp), gF [(22, some 9)] rfl rfl fun hp _ _ h n => ok_fieldAddr rfl fo51_0 (at_Slab_0 _) (Gd.get n.1 hp), gF [(23, some 10)] rfl rfl fun hp _ _ h n => ok_load rfl ty3 (Gd.get n.1 hp), mF rfl rfl i0, mF rfl rfl i3, gF [(25, some 12), (26, some 13)] rfl rfl fun hp _ _ h n => ok_indexAddr rfl Try.underlying22 ty51 (IsV.rd (Gd.get n.1 hp)) (Gd.get n.2.1 hp) (hx4 hp), gF [(27, some 14)] rfl rfl fun hp _ _ h n => ok_fieldAddr rfl fo51_1 (at_Slab_1 _) (Gd.get n.1 hp), gF [(28, some 15)] rfl rfl fun hp _ _ h n => ok_load rfl ty3 (Gd.get n.1 hp), gF [(24, some 11), (29, some 16)] rfl rfl fun hp _ _ h n => ok_geq rfl (Gd.get n.1 hp) (Gd.get n.2.1 hp), o1 [(19, some 6), (30, some 17)] rfl fun _ _ h n => ok_pickM rfl n.1 hx2 (cB rfl) (Gd.get n.2.1), cm 18 rfl rfl, mF rfl rfl i0, mF rfl rfl i3, gF [(33, some 20), (34, some 21)] rfl rfl fun hp _ _ h n => ok_indexAddr rfl Try.underlying22 ty51 (IsV.rd (Gd.get n.1 hp)) (Gd.get n.2.1 hp) (hx6 hp), gF [(35, some 22)] rfl rfl fun hp _ _ h n => ok_fieldAddr rfl fo51_1 (at_Slab_1 _) (Gd.get n.1 hp), gF [(36, some 23)] rfl rfl fun hp _ _ h n => ok_load rfl ty3 (Gd.get n.1 hp), gF [(37, some 24)] rfl rfl fun hp _ _ h n => ok_gtr rfl (Gd.get n.1 hp) (cI rfl), o1 [(32, some 19), (38, some 25)] rfl fun _ _ h n => ok_pickM rfl n.1 hx5 (cB rfl) (Gd.get n.2.1), cm 26 rfl rfl, mF rfl rfl i0, mF rfl rfl i3, gF [(41, some 28), (42, some 29)] rfl rfl fun hp _ _ h n => ok_indexAddr rfl Try.underlying22 ty51 (IsV.rd (Gd.get n.1 hp)) (Gd.get n.2.1 hp) (hx8 hp), gF [(43, some 30)] rfl rfl fun hp _ _ h n => ok_fieldAddr rfl fo51_2 (at_Slab_2 _) (Gd.get n.1 hp), gF [(44, some 31)] rfl rfl fun hp _ _ h n => ok_load rfl ty49 (Gd.get n.1 hp), gF [(45, some 32)] rfl rfl fun hp _ _ h n => ok_len rfl rfl Try.underlying49 (IsV.rd (Gd.get n.1 hp)), gF [(46, some 33)] rfl rfl fun hp _ _ h n => ok_eqI rfl (Gd.get n.1 hp) (cI rfl), o1 [(40, some 27), (47, some 34)] rfl fun _ _ h n => ok_pickM rfl n.1 hx7 (cB rfl) (Gd.get n.2.1), cm 35 rfl rfl, mF rfl rfl i0, mF rfl rfl i3, gF [(50, some 37), (51, some 38)] rfl rfl fun hp _ _ h n => ok_indexAddr rfl Try.underlying22 ty51 (IsV.rd (Gd.get n.1 hp)) (Gd.get n.2.1 hp) (hx10 hp), gF [(52, some 39)] rfl rfl fun hp _ _ h n => ok_fieldAddr rfl fo51_2 (at_Slab_2 _) (Gd.get n.1 hp), gF [(53, some 40)] rfl rfl fun hp _ _ h n => ok_load rfl ty49 (Gd.get n.1 hp), gF [(54, some 41)] rfl rfl fun hp _ _ h n => ok_call rfl Try.call30 (ref06_Right_ok (Gd.get n.1 hp) (hx11 hp)), gF [(55, some 42)] rfl rfl fun hp _ _ h n => ok_not rfl (Gd.get n.1 hp), o1 [(49, some 36), (56, some 43)] rfl fun _ _ h n => ok_pickM rfl n.1 hx9 (cB rfl) (Gd.get n.2.1), trivial⟩ W2 fun b q p => ?_
    exact tail_done (k := q) (w1 _ _ ⟨Bs.post ⟨hg, hs, hd⟩ p, p.ke 0 rfl i0, p.ke 3 rfl i3, p.ou 44 57 rfl, trivial⟩)
   rintro a k ⟨⟨hg, hs, hd⟩, i0, i3, i57, _⟩
   refine wp_cond_split (isBool i57) (fun hc1732 => ?_) (fun hc1732 => ?_)
   ·rw [if_pos hc1732] at hr
    refine stepL 1 (⟨some (IsV false), []⟩ :: []) rfl ⟨hg, hs, hd⟩ (by kernel_rfl) ⟨ob1 rfl fun _ _ h n => ok_assign rfl (isV_bool.2 rfl), trivial⟩ [⟨_, _⟩] (fun b q p => ⟨p.ou 0 2 rfl, trivial⟩) ?_
    rintro a k ⟨⟨hg, hs, hd⟩, i2, _⟩
    refine wp_ret ?_
    exact hret1716 _ _ _ (Option.some.inj hr).symm (retC1 rfl hd hg i2)
   rw [if_neg (by rw [hc1732]; decide)] at hr
   refine wp_skip ?_
   refine wp_seq ?_
   obtain ⟨x12, hx12, hr⟩ := bind_some hr
   obtain ⟨x13, hx13, hx12⟩ := ite_bind hx12
   obtain ⟨x14, hx14, hx12⟩ := ite_bind hx12
   obtain ⟨x15, hx15, hx12⟩ := ite_bind hx12
   obtain ⟨x16, hx16, hx12⟩ := ite_bind hx12
   obtain ⟨x17, hx17, hx16⟩ := ite_bindFP hx16
   obtain ⟨x18, hx18, hx16⟩ := ite_bindFP hx16
   obtain ⟨x19, hx19, hx16⟩ := ite_bindFP hx16
   obtain ⟨x20, hx20, hx16⟩ := ite_bindFP hx16
   obtain ⟨x21, hx21, hx20⟩ := ite_bindP hx20
   obtain ⟨x22, hx22, hx20⟩ := ite_bindP hx20
   obtain ⟨x23, hx23, hx20⟩ := ite_bindP hx20
   obtain ⟨x24, hx24, hx20⟩ := ite_bindP hx20
   refine cut (fun a' k' => Bs noF k0 102 a' k' ∧ (IsV s_) (a'.get 0) k' ∧ (IsV s1) (a'.get 3) k' ∧ (IsV x12) (a'.get 101) k' ∧ True) ?_ hQ ?_
   ·intro Q3 W3 w2
    refine region (m := 44) (_ :: _ :: _ :: _ :: _ :: _ :: _ :: _ :: _ :: _ :: _ :: _ :: _ :: _ :: _ :: ⟨some (Gd ((decide (0 < s1)) = true) (IsV (decide (x15.Z0 < x14.Z1)))), [(72, some 14)]⟩ :: ⟨some (Gd (((decide (0 < s1)) = true) ∧ (decide (x15.Z0 < x14.Z1)) = false) (IsV s_)), [(0, none)]⟩ :: ⟨some (Gd (((decide (0 < s1)) = true) ∧ (decide (x15.Z0 < x14.Z1)) = false) (IsV s1)), [(3, none)]⟩ :: ⟨some (Gd (((decide (0 < s1)) = true) ∧ (decide (x15.Z0 < x14.Z1)) = false) (IsV x17)), [(75, some 17)]⟩ :: ⟨some (Gd (((decide (0 < s1)) = true) ∧ (decide (x15.Z0 < x14.Z1)) = false) (IsPtr x18)), [(74, some 16), (76, some 18)]⟩ :: ⟨some (Gd (((decide (0 < s1)) = true) ∧ (decide (x15.Z0 < x14.Z1)) = false) (IsPtr x18.Z1)), [(77, some 19)]⟩ :: ⟨some (Gd (((decide (0 < s1)) = true) ∧ (decide (x15.Z0 < x14.Z1)) = false) (IsV x18.Z1)), [(78, some 20)]⟩ :: ⟨some (Gd (((decide (0 < s1)) = true) ∧ (decide (x15.Z0 < x14.Z1)) = false) (IsV s_)), [(0, none)]⟩ :: ⟨some (Gd (((decide (0 < s1)) = true) ∧ (decide (x15.Z0 < x14.Z1)) = false) (IsV s1)), [(3, none)]⟩ :: ⟨some (Gd (((decide (0 < s1)) = true) ∧ (decide (x15.Z0 < x14.Z1)) = false) (IsPtr x19)), [(80, some 22), (81, some 23)]⟩ :: ⟨some (Gd (((decide (0 < s1)) = true) ∧ (decide (x15.Z0 < x14.Z1)) = false) (IsPtr x19.Z0)), [(82, some 24)]⟩ :: ⟨some (Gd (((decide (0 < s1)) = true) ∧ (decide (x15.Z0 < x14.Z1)) = false) (IsV x19.Z0)), [(83, some 25)]⟩ :: ⟨some (Gd (((decide (0 < s1)) = true) ∧ (decide (x15.Z0 < x14.Z1)) = false) (IsV (x18.Z1 == x19.Z0))), [(79, some 21), (84, some 26)]⟩ :: ⟨some (Gd (((decide (0 < s1)) = true) ∧ (decide (x15.Z0 < x14.Z1)) = false) (IsV (x18.Z1 == x19.Z0))), [(85, some 27)]⟩ :: ⟨some (Gd ((((decide (0 < s1)) = true) ∧ (decide (x15.Z0 < x14.Z1)) = false) ∧ (x18.Z1 == x19.Z0) = true) (IsV s_)), [(0, none)]⟩ :: ⟨some (Gd ((((decide (0 < s1)) = true) ∧ (decide (x15.Z0 < x14.Z1)) = false) ∧ (x18.Z1 == x19.Z0) = true) (IsV s1)), [(3, none)]⟩ :: ⟨some (Gd ((((decide (0 < s1)) = true) ∧ (decide (x15.Z0 < x14.Z1)) = false) ∧ (x18.Z1 == x19.Z0) = true) (IsV x21)), [(88, some 30)]⟩ :: ⟨some (Gd ((((decide (0 < s1)) = true) ∧ (decide (x15.Z0 < x14.Z1)) = false) ∧ (x18.Z1 == x19.Z0) = true) (IsPtr x22)), [(87, some 29), (89, some 31)]⟩ :: ⟨some (Gd ((((decide (0 < s1)) = true) ∧ (decide (x15.Z0 < x14.Z1)) = false) ∧ (x18.Z1 == x19.Z0) = true) (IsPtr x22.Area)), [(90, some 32)]⟩ :: ⟨some (Gd ((((decide (0 < s1)) = true) ∧ (decide (x15.Z0 < x14.Z1)) = false) ∧ (x18.Z1 == x19.Z0) = true) (IsV x22.Area)), [(91, some 33)]⟩ :: ⟨some (Gd ((((decide (0 < s1)) = true) ∧ (decide (x15.Z0 < x14.Z1)) = false) ∧ (x18.Z1 == x19.Z0) = true) (IsV s_)), [(0, none)]⟩ :: ⟨some (Gd ((((decide (0 < s1)) = true) ∧ (decide (x15.Z0 < x14.Z1)) = false) ∧ (x18.Z1 == x19.Z0) = true) (IsV s1)), [(3, none)]⟩ :: ⟨some (Gd ((((decide (0 < s1)) = true) ∧ (decide (x15.Z0 < x14.Z1)) = false) ∧ (x18.Z1 == x19.Z0) = true) (IsPtr x23)), [(93, some 35), (94, some 36)]⟩ :: ⟨some (Gd ((((decide (0 < s1)) = true) ∧ (decide (x15.Z0 < x14.Z1)) = false) ∧ (x18.Z1 == x19.Z0) = true) (IsPtr x23.Area)), [(95, some 37)]⟩ :: ⟨some (Gd ((((decide (0 < s1)) = true) ∧ (decide (x15.Z0 < x14.Z1)) = false) ∧ (x18.Z1 == x19.Z0) = true) (IsV x23.Area)), [(96, some 38)]⟩ :: ⟨some (Gd ((((decide (0 < s1)) = true) ∧ (decide (x15.Z0 < x14.Z1)) = false) ∧ (x18.Z1 == x19.Z0) = true) (IsV x24)), [(92, some 34), (97, some 39)]⟩ :: ⟨some (Gd (((decide (0 < s1)) = true) ∧ (decide (x15.Z0 < x14.Z1)) = false) (IsV x20)), [(86, some 28), (98, some 40)]⟩ :: _ :: _ :: []) hmix hs (by kernel_rfl) ⟨mu rfl i3, o1 [(58, some 0)] rfl fun _ _ h n => ok_gtr rfl n.1 (cI rfl), cm 1 rfl rfl, mT rfl rfl i0, mT rfl rfl i3, gT [(62, some 4)] rfl rfl fun hp _ _ h n => ok_sub rfl (Gd.get n.1 hp) (cI rfl) (hx13 hp), gT [(61, some 3), (63, some 5)] rfl rfl fun hp _ _ h n => ok_indexAddr rfl Try.underlying22 ty51 (IsV.rd (Gd.get n.1 hp)) (Gd.get n.2.1 hp) (hx14 hp), gT [(64, some 6)] rfl rfl fun hp _ _ h n => ok_fieldAddr rfl fo51_1 (at_Slab_1 _) (Gd.get n.1 hp), gT [(65, some 7)] rfl rfl fun hp _ _ h n => ok_load rfl ty3 (Gd.get n.1 hp), mT rfl rfl i0, mT rfl rfl i3, gT [(67, some 9), (68, some 10)] rfl rfl fun hp _ _ h n => ok_indexAddr rfl Try.underlying22 ty51 (IsV.rd (Gd.get n.1 hp)) (Gd.get n.2.1 hp) (hx15 hp), gT [(69, some 11)] rfl rfl fun hp _ _ h n => ok_fieldAddr rfl fo51_0 (at_Slab_0 _) (Gd.get n.1 hp), gT [(70, some 12)] rfl rfl fun hp _ _ h n => ok_load rfl ty3 (Gd.get n.1 hp), gT [(66, some 8), (71, some 13)] rfl rfl fun hp _ _ h n => ok_gtr rfl (Gd.get n.1 hp) (Gd.get n.2.1 hp), gdT rfl rfl fun hp _ _ h n => ok_move rfl (Gd.get n.1 hp), gdTF rfl rfl fun hp b q h n => ok_move rfl (up i0 h n.1), gdTF rfl rfl fun hp b q h n => ok_move rfl (up i3 h n.1), gdTF rfl rfl fun hp b q h n => ok_sub rfl (Gd.get n.1 hp) (cI rfl) (hx17 hp), gdTF rfl rfl fun hp b q h n => ok_indexAddr rfl Try.underlying22 ty51 (IsV.rd (Gd.get n.1 hp)) (Gd.get n.2.1 hp) (hx18 hp), gdTF rfl rfl fun hp b q h n => ok_fieldAddr rfl fo51_1 (at_Slab_1 _) (Gd.get n.1 hp), gdTF rfl rfl fun hp b q h n => ok_load rfl ty3 (Gd.get n.1 hp), gdTF rfl rfl fun hp b q h n => ok_move rfl (up i0 h n.1), gdTF rfl rfl fun hp b q h n => ok_move rfl (up i3 h n.1), gdTF rfl rfl fun hp b q h n => ok_indexAddr rfl Try.underlying22 ty51 (IsV.rd (Gd.get n.1 hp)) (Gd.get n.2.1 hp) (hx19 hp), gdTF rfl rfl fun hp b q h n => ok_fieldAddr rfl fo51_0 (at_Slab_0 _) (Gd.get n.1 hp), gdTF rfl rfl fun hp b q h n => ok_load rfl ty3 (Gd.get n.1 hp), gdTF rfl rfl fun hp b q h n => ok_eqI rfl (Gd.get n.1 hp) (Gd.get n.2.1 hp), gdTF rfl rfl fun hp b q h n => ok_move rfl (Gd.get n.1 hp), gdTT rfl rfl fun hp b q h n => ok_move rfl (up i0 h n.1), gdTT rfl rfl fun hp b q h n => ok_move rfl (up i3 h n.1), gdTT rfl rfl fun hp b q h n => ok_sub rfl (Gd.get n.1 hp) (cI rfl) (hx21 hp), gdTT rfl rfl fun hp b q h n => ok_indexAddr rfl Try.underlying22 ty51 (IsV.rd (Gd.get n.1 hp)) (Gd.get n.2.1 hp) (hx22 hp), gdTT rfl rfl fun hp b q h n => ok_fieldAddr rfl fo51_2 (at_Slab_2 _) (Gd.get n.1 hp), gdTT rfl rfl fun hp b q h n => ok_load rfl ty49 (Gd.get n.1 hp), gdTT rfl rfl fun hp b q h n => ok_move rfl (up i0 h n.1), gdTT rfl rfl fun hp b q h n => ok_move rfl (up i3 h n.1), gdTT rfl rfl fun hp b q h n => ok_indexAddr rfl Try.underlying22 ty51 (IsV.rd (Gd.get n.1 hp)) (Gd.get n.2.1 hp) (hx23 hp), gdTT rfl rfl fun hp b q h n => ok_fieldAddr rfl fo51_2 (at_Slab_2 _) (Gd.get n.1 hp), gdTT rfl rfl fun hp b q h n => ok_load rfl ty49 (Gd.get n.1 hp), gdTT rfl rfl fun hp b q h n => ok_call rfl Try.call31 (ref06_Same_ok (Gd.get n.1 hp) (Gd.get n.2.1 hp) (hx24 hp)), gdTF rfl rfl fun hp b q h n => ok_pickM rfl (Gd.get n.1 hp) (hx20 hp) (fun hm => (Gd.get n.2.1 ⟨hp, hm⟩)) (cB rfl), gT [(73, some 15), (99, some 41)] rfl rfl fun hp _ _ h n => ok_pickM rfl (Gd.get n.1 hp) (hx16 hp) (cB rfl) (fun hm => (Gd.get n.2.1 ⟨hp, hm⟩)), o1 [(60, some 2), (100, some 42)] rfl fun _ _ h n => ok_pickM rfl n.1 hx12 (Gd.get n.2.1) (cB rfl), trivial⟩ W3 fun b q p => ?_
    exact tail_done (k := q) (w2 _ _ ⟨Bs.post ⟨hg, hs, hd⟩ p, p.ke 0 rfl i0, p.ke 3 rfl i3, p.ou 43 101 rfl, trivial⟩)
   rintro a k ⟨⟨hg, hs, hd⟩, i0, i3, i101, _⟩
   refine wp_cond_split (isBool i101) (fun hc1729 => ?_) (fun hc1729 => ?_)
   ·rw [if_pos hc1729] at hr
    refine stepL 1 (⟨some (IsV false), []⟩ :: []) rfl ⟨hg, hs, hd⟩ (by kernel_rfl) ⟨ob1 rfl fun _ _ h n => ok_assign rfl (isV_bool.2 rfl), trivial⟩ [⟨_, _⟩] (fun b q p => ⟨p.ou 0 2 rfl, trivial⟩) ?_
    rintro a k ⟨⟨hg, hs, hd⟩, i2, _⟩
    refine wp_ret ?_
    exact hret1716 _ _ _ (Option.some.inj hr).symm (retC1 rfl hd hg i2)
   rw [if_neg (by rw [hc1729]; decide)] at hr
   refine wp_skip ?_
   obtain ⟨x25, hx25, hr⟩ := bind_some hr
   refine cut (fun a' k' => Bs noF k0 102 a' k' ∧ (IsV s_) (a'.get 0) k' ∧ (IsV x25) (a'.get 3) k' ∧ True) ?_ hQ ?_
   ·intro Q4 W4 w3
    refine gS 3 (_ :: _ :: _ :: []) hs (by kernel_rfl) ⟨mu rfl i3, o1 [(11, some 0)] rfl fun _ _ h n => ok_add rfl n.1 (cI rfl) hx25, cp 1 rfl rfl, trivial⟩ W4 fun b q p => ?_
    exact tail_done (k := q) (w3 _ _ ⟨Bs.post ⟨hg, hs, hd⟩ p, p.ke 0 rfl i0, p.ou 2 3 rfl, trivial⟩)
   rintro a k ⟨⟨hg, hs, hd⟩, i0, i3, _⟩
   exact hgo1714 _ _ _ (Option.some.inj hr).symm ⟨⟨hg, hs, hd⟩, i0, i3, trivial⟩
  rw [if_neg (by rw [hc1735]; decide)] at hr
  refine wp_exit ?_
  exact hex1715 _ _ _ _ (Option.some.inj hr).symm ⟨rfl, ⟨hg, hs, hd⟩, trivial⟩
 ·rintro r1 a k rfl hR
  dsimp only at hr
  obtain rfl := Option.some.inj hr
  exact hR
 ·rintro _ _ _ rfl _
  simp at hr
 clear hf1
 rintro _ s2 a k rfl ⟨rfl, ⟨hg, hs, hd⟩, _⟩
 dsimp only at hr
 refine stepL 1 (⟨some (IsV true), []⟩ :: []) rfl ⟨hg, hs, hd⟩ (by kernel_rfl) ⟨ob1 rfl fun _ _ h n => ok_assign rfl (isV_bool.2 rfl), trivial⟩ [⟨_, _⟩] (fun b q p => ⟨p.ou 0 2 rfl, trivial⟩) ?_
 rintro a k ⟨⟨hg, hs, hd⟩, i2, _⟩
 refine wp_ret ?_
 obtain rfl := Option.some.inj hr
 exact retC1 rfl hd hg i2
def solid_heights_L1 (x1 : (List Slab)) (s1 : (List Int) × Int) : Option (Flow ((List Int) × Int) ((List Int))) :=
 if (decide (s1.2 < (x1.length : Int))) then
  (getI x1 s1.2).bind fun x2 =>
  (appI s1.1 ([x2.Z0, x2.Z1])).bind fun x3 =>
  (addI s1.2 1).bind fun x4 =>
  some (.go (x3, x4))
 else
  some (.ex 2 (s1.1, s1.2))
def solid_heights_L0 (lists_ : (List (List Slab))) (s1 : (List Int) × Int) : Option (Flow ((List Int) × Int) ((List Int))) :=
 if (decide (s1.2 < (lists_.length : Int))) then
  (getI lists_ s1.2).bind fun x1 =>
  (iterL (solid_heights_L1 x1) (x1.length + 1) (s1.1, 0)).bind fun f1 => match f1 with
   | .go _ => none
   | .ex _ s2 =>
    (addI s1.2 1).bind fun x2 =>
    some (.go (s2.1, x2))
   | .ret r1 => some (.ret r1)
 else
  some (.ex 0 (s1.1, s1.2))
def solid_heights (lists_ : (List (List Slab))) : Option ((List Int)) :=
 (iterL (solid_heights_L0 lists_) (lists_.length + 1) (([] : List Int), 0)).bind fun f1 => match f1 with
  | .go _ => none
  | .ex _ s1 =>
   (sortInts s1.1).bind fun x1 =>
   (compactInts x1).bind fun x2 =>
   some x2
  | .ret r1 => some r1
theorem solid_heights_ok {k0 : K} {v0 : Value} {lists_ : (List (List Slab))} {r : (List Int)} (i0 : (IsV lists_) v0 k0) (hr : solid_heights lists_ = some r) :
  Calls Try.prog 36 #[v0] k0.w (Ret k0 (IsV r)) := by
 unfold solid_heights at hr
 refine Ret.ofC ?_
 refine enterK Try.func36 rfl Try.ntmps36 (show 1 ≤ 33 by decide) fun a k hk0 hs hd ha => ?_
 obtain ⟨e0, _⟩ := ha
 replace i0 : (IsV lists_) (a.get 0) k := by rw [e0, hk0]; exact i0
 have hQ : Gb.LetsOut (bodyPost Try.prog Try.f36 (RetC noF k0 (IsV r))) := letsOutC
 have hg : Chg noF k0 k := by rw [hk0]; exact Chg.refl _ k0
 refine stepL 1 (⟨some IsE0, []⟩ :: []) rfl ⟨hg, hs, hd⟩ (by kernel_rfl) ⟨ob1 rfl fun b q h n => ok_assign rfl isE0_nil, trivial⟩ [⟨_, _⟩] (fun b q p => ⟨p.ke 0 rfl i0, trivial⟩) ?_
 rintro a k ⟨⟨hg, hs, hd⟩, i0, _⟩
 refine cutS (fun c l => Bs noF k0 33 c l ∧ IsV lists_ (c.get 0) l ∧ IsOwn 0 3 ([] : List Int) (c.get 3) l ∧ Lo k0 (obF (c.get 3)) ∧ True) ?_ ?_
 ·intro Q1 W1 w1
  refine gS 1 (⟨some IsE0, []⟩ :: []) hs (by kernel_rfl) ⟨ob1 rfl fun b q h n => ok_assign rfl isE0_nil, trivial⟩ W1 fun b q p => ?_
  have hgq := hg.then p.grow
  have hsb := p.size.trans hs
  have hdb := p.defers.trans hd
  have j0 := p.ke 0 rfl i0
  have j3 : IsE0 (b.get 3) q := p.ou 0 3 rfl
  have y3 : Lo k0 (obF (b.get 3)) := j3.lo
  replace j3 : IsOwn 0 3 ([] : List Int) (b.get 3) q := j3.own0
  exact tail_done (k := q) (w1 _ _ ⟨⟨hgq, hsb, hdb⟩, j0, j3, y3, trivial⟩)
 rintro a k ⟨⟨hg, hs, hd⟩, i0, i3, n3, _⟩
 refine wp_seq ?_
 refine cutS (fun c l => Bs noF k0 33 c l ∧ IsOwn 0 3 ([] : List Int) (c.get 3) l ∧ Lo k0 (obF (c.get 3)) ∧ IsV lists_ (c.get 8) l ∧ IsL lists_ (c.get 9) l ∧ IsI 0 (c.get 10) l ∧ True) ?_ ?_
 ·intro Q2 W2 w2
  refine gS 3 (_ :: _ :: ⟨some (IsI 0), []⟩ :: []) hs (by kernel_rfl) ⟨mu rfl i0, o1 [(8, some 0)] rfl fun _ _ h n => ok_len rfl rfl Try.underlying84 (IsV.rd n.1), ob1 rfl fun _ _ h n => ok_move rfl (cI rfl), trivial⟩ W2 fun b q p => ?_
  exact tail_done (k := q) (w2 _ _ ⟨Bs.post ⟨hg, hs, hd⟩ p, p.ke 3 rfl i3, (by rw [p.old 3 rfl]; exact n3), p.ou 0 8 rfl, p.ou 1 9 rfl, p.ou 2 10 rfl, trivial⟩)
 rintro a k ⟨⟨hg, hs, hd⟩, i3, n3, i8, i9, i10, _⟩
 refine wp_block ?_
 obtain ⟨f1, hf1, hr⟩ := bind_some hr
 refine cutFe f1 (fun s' c l => Bs noF k0 33 c l ∧ IsOwn 0 3 s'.1 (c.get 3) l ∧ Lo k0 (obF (c.get 3)) ∧ IsV lists_ (c.get 8) l ∧ IsL lists_ (c.get 9) l ∧ IsV s'.2 (c.get 10) l ∧ True) (fun i' s' c l => (i' = 0 ∧ Bs noF k0 33 c l ∧ IsOwn 0 3 s'.1 (c.get 3) l ∧ Lo k0 (obF (c.get 3)) ∧ True)) (fun r' c l => bodyPost Try.prog Try.f36 (RetC noF k0 (IsV r')) .ret c l.w) ?_ hQ ?_ ?_ ?_
 ·intro Q3 W3 hgo hex hret
  refine sim_loop ?_ _ _ _ _ _ hf1 ⟨⟨hg, hs, hd⟩, i3, n3, i8, i9, i10, trivial⟩ Q3 W3 hgo hex hret
  clear hr hf1 hgo hex hret W3 hQ hg hs hd i10 i3 i8 i9 n3
  intro s1 fl_ a k hr hS Q hQ hgo1756 hex1757 hret1758
  obtain ⟨⟨hg, hs, hd⟩, i3, n3, i8, i9, i10, _⟩ := hS
  unfold solid_heights_L0 at hr
  refine cutS (fun c l => Bs noF k0 33 c l ∧ IsOwn 0 3 s1.1 (c.get 3) l ∧ Lo k0 (obF (c.get 3)) ∧ IsV lists_ (c.get 8) l ∧ IsL lists_ (c.get 9) l ∧ IsV s1.2 (c.get 10) l ∧ (IsV (decide (s1.2 < (lists_.length : Int)))) (c.get 11) l ∧ True) ?_ ?_
  ·intro Q4 W4 w3
   refine gS 1 (_ :: []) hs (by kernel_rfl) ⟨o1 [(10, none), (9, none)] rfl fun _ _ h n => ok_lss rfl (up i10 h n.1) (up i9 h n.2.1), trivial⟩ W4 fun b q p => ?_
   exact tail_done (k := q) (w3 _ _ ⟨Bs.post ⟨hg, hs, hd⟩ p, p.ke 3 rfl i3, (by rw [p.old 3 rfl]; exact n3), p.ke 8 rfl i8, p.ke 9 rfl i9, p.ke 10 rfl i10, p.ou 0 11 rfl, trivial⟩)
  rintro a k ⟨⟨hg, hs, hd⟩, i3, n3, i8, i9, i10, i11, _⟩
  refine wp_seq ?_
  refine wp_cond_split (isBool i11) (fun hc1790 => ?_) (fun hc1790 => ?_)
  ·rw [if_pos hc1790] at hr
   refine wp_skip ?_
   refine wp_seq ?_
   refine wp_block ?_
   refine wp_seq ?_
   obtain ⟨x1, hx1, hr⟩ := bind_some hr
   refine cut (fun a' k' => Bs noF k0 33 a' k' ∧ IsOwn 0 3 s1.1 (a'.get 3) k' ∧ Lo k0 (obF (a'.get 3)) ∧ (IsV x1) (a'.get 5) k' ∧ (IsV lists_) (a'.get 8) k' ∧ (IsL lists_) (a'.get 9) k' ∧ (IsV s1.2) (a'.get 10) k' ∧ True) ?_ hQ ?_
   ·intro Q5 W5 w4
    refine gS 3 (_ :: _ :: _ :: []) hs (by kernel_rfl) ⟨o1 [(8, none), (10, none)] rfl fun _ _ h n => ok_indexAddr rfl Try.underlying84 ty22 (IsV.rd (up i8 h n.1)) (up i10 h n.2.1) hx1, o1 [(12, some 0)] rfl fun _ _ h n => ok_load rfl ty22 n.1, cp 1 rfl rfl, trivial⟩ W5 fun b q p => ?_
    exact tail_done (k := q) (w4 _ _ ⟨Bs.post ⟨hg, hs, hd⟩ p, p.ke 3 rfl i3, (by rw [p.old 3 rfl]; exact n3), p.ou 2 5 rfl, p.ke 8 rfl i8, p.ke 9 rfl i9, p.ke 10 rfl i10, trivial⟩)
   rintro a k ⟨⟨hg, hs, hd⟩, i3, n3, i5, i8, i9, i10, _⟩
   refine cutS (fun c l => Bs noF k0 33 c l ∧ IsOwn 0 3 s1.1 (c.get 3) l ∧ Lo k0 (obF (c.get 3)) ∧ IsV lists_ (c.get 8) l ∧ IsL lists_ (c.get 9) l ∧ IsV s1.2 (c.get 10) l ∧ IsV x1 (c.get 14) l ∧ IsL x1 (c.get 15) l ∧ IsI 0 (c.get 16) l ∧ True) ?_ ?_
   ·intro Q6 W6 w5
    refine gS 3 (_ :: _ :: ⟨some (IsI 0), []⟩ :: []) hs (by kernel_rfl) ⟨mu rfl i5, o1 [(14, some 0)] rfl fun _ _ h n => ok_len rfl rfl Try.underlying22 (IsV.rd n.1), ob1 rfl fun _ _ h n => ok_move rfl (cI rfl), trivial⟩ W6 fun b q p => ?_
    exact tail_done (k := q) (w5 _ _ ⟨Bs.post ⟨hg, hs, hd⟩ p, p.ke 3 rfl i3, (by rw [p.old 3 rfl]; exact n3), p.ke 8 rfl i8, p.ke 9 rfl i9, p.ke 10 rfl i10, p.ou 0 14 rfl, p.ou 1 15 rfl, p.ou 2 16 rfl, trivial⟩)
   rintro a k ⟨⟨hg, hs, hd⟩, i3, n3, i8, i9, i10, i14, i15, i16, _⟩
   refine wp_block ?_
   obtain ⟨f2, hf2, hr⟩ := bind_some hr
   refine cutFe f2 (fun s' c l => Bs noF k0 33 c l ∧ IsOwn 0 3 s'.1 (c.get 3) l ∧ Lo k0 (obF (c.get 3)) ∧ IsV lists_ (c.get 8) l ∧ IsL lists_ (c.get 9) l ∧ IsV s1.2 (c.get 10) l ∧ IsV x1 (c.get 14) l ∧ IsL x1 (c.get 15) l ∧ IsV s'.2 (c.get 16) l ∧ True) (fun i' s' c l => (i' = 2 ∧ Bs noF k0 33 c l ∧ IsOwn 0 3 s'.1 (c.get 3) l ∧ Lo k0 (obF (c.get 3)) ∧ IsV lists_ (c.get 8) l ∧ IsL lists_ (c.get 9) l ∧ IsV s1.2 (c.get 10) l ∧ True)) (fun r' c l => bodyPost Try.prog Try.f36 (RetC noF k0 (IsV r')) .ret c l.w) ?_ hQ ?_ ?_ ?_
   ·intro Q7 W7 hgo hex hret
    refine sim_loop ?_ _ _ _ _ _ hf2 ⟨⟨hg, hs, hd⟩, i3, n3, i8, i9, i10, i14, i15, i16, trivial⟩ Q7 W7 hgo hex hret
    clear hr hf2 hgo hex hret W7 hQ hg hs hd i10 i14 i15 i16 i3 i8 i9 n3
    intro s2 fl_ a k hr hS Q hQ hgo1763 hex1764 hret1765
    obtain ⟨⟨hg, hs, hd⟩, i3, n3, i8, i9, i10, i14, i15, i16, _⟩ := hS
    unfold solid_heights_L1 at hr
    refine cutS (fun c l => Bs noF k0 33 c l ∧ IsOwn 0 3 s2.1 (c.get 3) l ∧ Lo k0 (obF (c.get 3)) ∧ IsV lists_ (c.get 8) l ∧ IsL lists_ (c.get 9) l ∧ IsV s1.2 (c.get 10) l ∧ IsV x1 (c.get 14) l ∧ IsL x1 (c.get 15) l ∧ IsV s2.2 (c.get 16) l ∧ (IsV (decide (s2.2 < (x1.length : Int)))) (c.get 17) l ∧ True) ?_ ?_
    ·intro Q8 W8 w6
     refine gS 1 (_ :: []) hs (by kernel_rfl) ⟨o1 [(16, none), (15, none)] rfl fun _ _ h n => ok_lss rfl (up i16 h n.1) (up i15 h n.2.1), trivial⟩ W8 fun b q p => ?_
     exact tail_done (k := q) (w6 _ _ ⟨Bs.post ⟨hg, hs, hd⟩ p, p.ke 3 rfl i3, (by rw [p.old 3 rfl]; exact n3), p.ke 8 rfl i8, p.ke 9 rfl i9, p.ke 10 rfl i10, p.ke 14 rfl i14, p.ke 15 rfl i15, p.ke 16 rfl i16, p.ou 0 17 rfl, trivial⟩)
    rintro a k ⟨⟨hg, hs, hd⟩, i3, n3, i8, i9, i10, i14, i15, i16, i17, _⟩
    refine wp_seq ?_
    refine wp_cond_split (isBool i17) (fun hc1776 => ?_) (fun hc1776 => ?_)
    ·rw [if_pos hc1776] at hr
     refine wp_skip ?_
     refine wp_seq ?_
     refine wp_block ?_
     refine wp_seq ?_
     obtain ⟨x2, hx2, hr⟩ := bind_some hr
     refine cut (fun a' k' => Bs noF k0 33 a' k' ∧ IsOwn 0 3 s2.1 (a'.get 3) k' ∧ Lo k0 (obF (a'.get 3)) ∧ (IsRef x2) (a'.get 7) k' ∧ (IsV lists_) (a'.get 8) k' ∧ (IsL lists_) (a'.get 9) k' ∧ (IsV s1.2) (a'.get 10) k' ∧ (IsV x1) (a'.get 14) k' ∧ (IsL x1) (a'.get 15) k' ∧ (IsV s2.2) (a'.get 16) k' ∧ True) ?_ hQ ?_
     ·intro Q9 W9 w7
      refine gS 3 (_ :: _ :: ⟨some (IsBox k.w.heap.size (⟨0, 0, []⟩ : Slab)), []⟩ :: []) hs (by kernel_rfl) ⟨o1 [(14, none), (16, none)] rfl fun _ _ h n => ok_indexAddr rfl Try.underlying22 ty51 (IsV.rd (up i14 h n.1)) (up i16 h n.2.1) hx2, o1 [(18, some 0)] rfl fun _ _ h n => ok_load rfl ty51 n.1, ob1 rfl fun _ _ h n => ok_alloc _ h.size rfl z51, trivial⟩ W9 fun b q p => ?_
      have hgq := hg.then p.grow
      have hsb := p.size.trans hs
      have hdb := p.defers.trans hd
      have j3 := p.ke 3 rfl i3
      have y3 : Lo k0 (obF (b.get 3)) := by rw [p.old 3 rfl]; exact n3
      obtain ⟨b7, j7, x7, z7⟩ : (IsBox k.w.heap.size (⟨0, 0, []⟩ : Slab)) (b.get 7) q := p.ou 2 7 rfl
      replace x7 : Lo k (Eq b7) := Lo.eq x7
      have y7 : Lo k0 (Eq b7) := x7.chg hg
      have j8 := p.ke 8 rfl i8
      have j9 := p.ke 9 rfl i9
      have j10 := p.ke 10 rfl i10
      have j14 := p.ke 14 rfl i14
      have j15 := p.ke 15 rfl i15
      have j16 := p.ke 16 rfl i16
      have j19 : (IsV x2) (b.get 19) q := p.ou 1 19 rfl
      have w3_7 : Apart (obF (b.get 3)) (Eq b7) := Apart.new (by rw [p.old 3 rfl]; exact i3.ltF) x7
      have hns := z7.nshF
      refine tail_storeB (i := 3) rfl rfl rfl rfl szf51 (Upd.self (α := Slab)) j7 z7 j19 fun q2 hch hz => ?_
      replace hgq := hgq.step hch y7.wr
      have hle := hch.le hns
      replace j3 := j3.keep hch w3_7 hns
      replace j8 := Pers.pers hle j8
      replace j9 := Pers.pers hle j9
      replace j10 := Pers.pers hle j10
      replace j14 := Pers.pers hle j14
      replace j15 := Pers.pers hle j15
      replace j16 := Pers.pers hle j16
      replace j19 := Pers.pers hle j19
      replace z7 := hz
      clear hns hle hch
      obtain ⟨q, hqq⟩ : ∃ q, q = q2 := ⟨q2, rfl⟩
      subst hqq
      obtain ⟨q2, hsh, jn⟩ := z7.give
      replace j3 := j3.handed hsh w3_7
      replace j8 := Pers.pers hsh.le j8
      replace j9 := Pers.pers hsh.le j9
      replace j10 := Pers.pers hsh.le j10
      replace j14 := Pers.pers hsh.le j14
      replace j15 := Pers.pers hsh.le j15
      replace j16 := Pers.pers hsh.le j16
      rw [← j7] at jn
      replace j7 := jn
      replace hgq := hgq.hand hsh y7.wr
      rw [← hsh.w]
      clear hsh
      obtain ⟨q, hqq⟩ : ∃ q, q = q2 := ⟨q2, rfl⟩
      subst hqq
      exact tail_done (k := q) (w7 _ _ ⟨⟨hgq, hsb, hdb⟩, j3, y3, j7, j8, j9, j10, j14, j15, j16, trivial⟩)
     rintro a k ⟨⟨hg, hs, hd⟩, i3, n3, i7, i8, i9, i10, i14, i15, i16, _⟩
     obtain ⟨x3, hx3, hr⟩ := bind_some hr
     refine cut (fun a' k' => Bs noF k0 33 a' k' ∧ IsOwn 0 3 x3 (a'.get 3) k' ∧ Lo k0 (obF (a'.get 3)) ∧ (IsV lists_) (a'.get 8) k' ∧ (IsL lists_) (a'.get 9) k' ∧ (IsV s1.2) (a'.get 10) k' ∧ (IsV x1) (a'.get 14) k' ∧ (IsL x1) (a'.get 15) k' ∧ (IsV s2.2) (a'.get 16) k' ∧ True) ?_ hQ ?_
     ·intro Q10 W10 w8
      refine gS 6 (⟨some (OwnAt (a.get 3) 0 3 s2.1), [(3, none)]⟩ :: _ :: _ :: _ :: _ :: ⟨some (IsV (α := (List Int)) ([x2.Z0, x2.Z1])), [(22, some 2), (24, some 4)]⟩ :: []) hs (by kernel_rfl) ⟨ob1 rfl fun _ _ h n => ok_moveOA (.inl rfl) (ownAt n.1 (up i3 h n.1)), o1 [(7, none)] rfl fun _ _ h n => ok_fieldAddr rfl fo51_0 (at_Slab_0 _) ((up i7 h n.1)).ptr, o1 [(21, some 1)] rfl fun _ _ h n => ok_load rfl ty3 n.1, o1 [(7, none)] rfl fun _ _ h n => ok_fieldAddr rfl fo51_1 (at_Slab_1 _) ((up i7 h n.1)).ptr, o1 [(23, some 3)] rfl fun _ _ h n => ok_load rfl ty3 n.1, ob1 rfl fun _ _ h n => ok_buildSlice rfl Try.underlying63 eo3 rfl (by decide) (by decide) ⟨rfl, n.1, rfl, n.2.1, trivial⟩, trivial⟩ W10 fun b q p => ?_
      have hgq := hg.then p.grow
      have hsb := p.size.trans hs
      have hdb := p.defers.trans hd
      have j8 := p.ke 8 rfl i8
      have j9 := p.ke 9 rfl i9
      have j10 := p.ke 10 rfl i10
      have j14 := p.ke 14 rfl i14
      have j15 := p.ke 15 rfl i15
      have j16 := p.ke 16 rfl i16
      have e20 : b.get 20 = a.get 3 := (p.ou 0 20 rfl).1
      have j20 : IsOwn 0 3 s2.1 (b.get 20) q := (p.ou 0 20 rfl).2
      have y20 : Lo k0 (obF (b.get 20)) := by rw [e20]; exact n3
      have j25 : (IsV (α := (List Int)) ([x2.Z0, x2.Z1])) (b.get 25) q := p.ou 5 25 rfl
      have hns := j20.nshF
      refine tail_appendS (i := 6) (d := 26) rfl rfl rfl rfl (by rw [hsb]; decide) (e := 3) Try.underlying63 eo3 j20 (IsV.rd j25) hx3 fun b2 q2 hsz hdf hoth hch hown hob => ?_
      have hle := hch.le hns
      have yn : Lo k0 (obF (b2.get 26)) := y20.app hgq hob
      replace j8 := Pers.pers hle j8
      replace j9 := Pers.pers hle j9
      replace j10 := Pers.pers hle j10
      replace j14 := Pers.pers hle j14
      replace j15 := Pers.pers hle j15
      replace j16 := Pers.pers hle j16
      replace j25 := Pers.pers hle j25
      replace hgq := hgq.step hch y20.wr
      rw [← hoth 8 (by decide)] at j8
      rw [← hoth 9 (by decide)] at j9
      rw [← hoth 10 (by decide)] at j10
      rw [← hoth 14 (by decide)] at j14
      rw [← hoth 15 (by decide)] at j15
      rw [← hoth 16 (by decide)] at j16
      rw [← hoth 25 (by decide)] at j25
      have j26 := hown
      have y26 := yn
      replace hsb := hsz.trans hsb
      replace hdb := hdf.trans hdb
      clear hle hch hown hob hns yn hsz hdf hoth
      obtain ⟨b, hbb⟩ : ∃ b, b = b2 := ⟨b2, rfl⟩
      subst hbb
      obtain ⟨q, hqq⟩ : ∃ q, q = q2 := ⟨q2, rfl⟩
      subst hqq
      refine tail_assign (i := 7) (d := 3) rfl rfl (.inl rfl) rfl (by rw [hsb]; decide) fun b2 hsz hdf hnew hoth => ?_
      have jn : (IsOwn 0 3 x3) (b2.get 3) q := by rw [hnew]; exact j26
      have yn : Lo k0 (obF (b2.get 3)) := by rw [hnew]; exact y26
      rw [← hoth 8 (by decide)] at j8
      rw [← hoth 9 (by decide)] at j9
      rw [← hoth 10 (by decide)] at j10
      rw [← hoth 14 (by decide)] at j14
      rw [← hoth 15 (by decide)] at j15
      rw [← hoth 16 (by decide)] at j16
      rw [← hoth 25 (by decide)] at j25
      have j3 := jn
      have y3 := yn
      replace hsb := hsz.trans hsb
      replace hdb := hdf.trans hdb
      clear hsz hdf hoth
      obtain ⟨b, hbb⟩ : ∃ b, b = b2 := ⟨b2, rfl⟩
      subst hbb
      exact tail_done (k := q) (w8 _ _ ⟨⟨hgq, hsb, hdb⟩, j3, y3, j8, j9, j10, j14, j15, j16, trivial⟩)
     rintro a k ⟨⟨hg, hs, hd⟩, i3, n3, i8, i9, i10, i14, i15, i16, _⟩
     obtain ⟨x4, hx4, hr⟩ := bind_some hr
     refine cut (fun a' k' => Bs noF k0 33 a' k' ∧ IsOwn 0 3 x3 (a'.get 3) k' ∧ Lo k0 (obF (a'.get 3)) ∧ (IsV lists_) (a'.get 8) k' ∧ (IsL lists_) (a'.get 9) k' ∧ (IsV s1.2) (a'.get 10) k' ∧ (IsV x1) (a'.get 14) k' ∧ (IsL x1) (a'.get 15) k' ∧ (IsV x4) (a'.get 16) k' ∧ True) ?_ hQ ?_
     ·intro Q11 W11 w9
      refine gS 2 (_ :: _ :: []) hs (by kernel_rfl) ⟨o1 [(16, none)] rfl fun _ _ h n => ok_add rfl (up i16 h n.1) (cI rfl) hx4, cm 0 rfl rfl, trivial⟩ W11 fun b q p => ?_
      exact tail_done (k := q) (w9 _ _ ⟨Bs.post ⟨hg, hs, hd⟩ p, p.ke 3 rfl i3, (by rw [p.old 3 rfl]; exact n3), p.ke 8 rfl i8, p.ke 9 rfl i9, p.ke 10 rfl i10, p.ke 14 rfl i14, p.ke 15 rfl i15, p.ou 1 16 rfl, trivial⟩)
     rintro a k ⟨⟨hg, hs, hd⟩, i3, n3, i8, i9, i10, i14, i15, i16, _⟩
     exact hgo1763 _ _ _ (Option.some.inj hr).symm ⟨⟨hg, hs, hd⟩, i3, n3, i8, i9, i10, i14, i15, i16, trivial⟩
    rw [if_neg (by rw [hc1776]; decide)] at hr
    refine wp_exit ?_
    exact hex1764 _ _ _ _ (Option.some.inj hr).symm ⟨rfl, ⟨hg, hs, hd⟩, i3, n3, i8, i9, i10, trivial⟩
   ·rintro r1 a k rfl hR
    dsimp only at hr
    exact hret1758 _ _ _ (Option.some.inj hr).symm hR
   ·rintro _ _ _ rfl _
    simp at hr
   clear hf2
   rintro _ s3 a k rfl ⟨rfl, ⟨hg, hs, hd⟩, i3, n3, i8, i9, i10, _⟩
   dsimp only at hr
   obtain ⟨x5, hx5, hr⟩ := bind_some hr
   refine cut (fun a' k' => Bs noF k0 33 a' k' ∧ IsOwn 0 3 s3.1 (a'.get 3) k' ∧ Lo k0 (obF (a'.get 3)) ∧ (IsV lists_) (a'.get 8) k' ∧ (IsL lists_) (a'.get 9) k' ∧ (IsV x5) (a'.get 10) k' ∧ True) ?_ hQ ?_
   ·intro Q12 W12 w10
    refine gS 2 (_ :: _ :: []) hs (by kernel_rfl) ⟨o1 [(10, none)] rfl fun _ _ h n => ok_add rfl (up i10 h n.1) (cI rfl) hx5, cm 0 rfl rfl, trivial⟩ W12 fun b q p => ?_
    exact tail_done (k := q) (w10 _ _ ⟨Bs.post ⟨hg, hs, hd⟩ p, p.ke 3 rfl i3, (by rw [p.old 3 rfl]; exact n3), p.ke 8 rfl i8, p.ke 9 rfl i9, p.ou 1 10 rfl, trivial⟩)
   rintro a k ⟨⟨hg, hs, hd⟩, i3, n3, i8, i9, i10, _⟩
   exact hgo1756 _ _ _ (Option.some.inj hr).symm ⟨⟨hg, hs, hd⟩, i3, n3, i8, i9, i10, trivial⟩
  rw [if_neg (by rw [hc1790]; decide)] at hr
  refine wp_exit ?_
  exact hex1757 _ _ _ _ (Option.some.inj hr).symm ⟨rfl, ⟨hg, hs, hd⟩, i3, n3, trivial⟩
 ·rintro r2 a k rfl hR
  dsimp only at hr
  obtain rfl := Option.some.inj hr
  exact hR
 ·rintro _ _ _ rfl _
  simp at hr
 clear hf1
 rintro _ s4 a k rfl ⟨rfl, ⟨hg, hs, hd⟩, i3, n3, _⟩
 dsimp only at hr
 refine wp_seq ?_
 obtain ⟨x6, hx6, hr⟩ := bind_some hr
 refine cut (fun a' k' => Bs noF k0 33 a' k' ∧ IsOwn 0 3 x6 (a'.get 3) k' ∧ Lo k0 (obF (a'.get 3)) ∧ True) ?_ hQ ?_
 ·intro Q13 W13 w11
  refine gS 1 (⟨some (OwnAt (a.get 3) 0 3 s4.1), [(3, none)]⟩ :: []) hs (by kernel_rfl) ⟨ob1 rfl fun _ _ h n => ok_moveOA (.inl rfl) (ownAt n.1 (up i3 h n.1)), trivial⟩ W13 fun b q p => ?_
  have hgq := hg.then p.grow
  have hsb := p.size.trans hs
  have hdb := p.defers.trans hd
  have j3 := p.ke 3 rfl i3
  have y3 : Lo k0 (obF (b.get 3)) := by rw [p.old 3 rfl]; exact n3
  have e29 : b.get 29 = a.get 3 := (p.ou 0 29 rfl).1
  have j29 : IsOwn 0 3 s4.1 (b.get 29) q := (p.ou 0 29 rfl).2
  have y29 : Lo k0 (obF (b.get 29)) := by rw [e29]; exact n3
  have hns := j29.nshF
  have eS : b.get 3 = b.get 29 := (p.old 3 rfl).trans e29.symm
  refine tail_call (F := obF (b.get 29)) (i := 1) (d := 30) rfl rfl rfl rfl (by rw [hsb]; decide) Try.call59 W13 (sortInts_ok j29 hx6) fun b2 q2 hsz hdf hoth hch hres => ?_
  have hle := hch.le hns
  replace hgq := hgq.step hch y29.wr
  replace j3 : IsOwn 0 3 x6 (b.get 3) q2 := by rw [eS]; exact hres
  clear hres eS
  rw [← hoth 3 (by decide)] at j3
  rw [← hoth 3 (by decide)] at y3
  replace hsb := hsz.trans hsb
  replace hdb := hdf.trans hdb
  clear hle hch hns hsz hdf hoth
  obtain ⟨b, hbb⟩ : ∃ b, b = b2 := ⟨b2, rfl⟩
  subst hbb
  obtain ⟨q, hqq⟩ : ∃ q, q = q2 := ⟨q2, rfl⟩
  subst hqq
  exact tail_done (k := q) (w11 _ _ ⟨⟨hgq, hsb, hdb⟩, j3, y3, trivial⟩)
 rintro a k ⟨⟨hg, hs, hd⟩, i3, n3, _⟩
 refine wp_seq ?_
 obtain ⟨x8, hx8, hr⟩ := bind_some hr
 refine cut (fun a' k' => Bs noF k0 33 a' k' ∧ IsOwn 0 3 x8 (a'.get 2) k' ∧ Lo k0 (obF (a'.get 2)) ∧ True) ?_ hQ ?_
 ·intro Q14 W14 w12
  refine gS 1 (⟨some (OwnAt (a.get 3) 0 3 x6), [(3, none)]⟩ :: []) hs (by kernel_rfl) ⟨ob1 rfl fun _ _ h n => ok_moveOA (.inl rfl) (ownAt n.1 (up i3 h n.1)), trivial⟩ W14 fun b q p => ?_
  have hgq := hg.then p.grow
  have hsb := p.size.trans hs
  have hdb := p.defers.trans hd
  have e31 : b.get 31 = a.get 3 := (p.ou 0 31 rfl).1
  have j31 : IsOwn 0 3 x6 (b.get 31) q := (p.ou 0 31 rfl).2
  have y31 : Lo k0 (obF (b.get 31)) := by rw [e31]; exact n3
  have hns := j31.nshF
  refine tail_call (F := obF (b.get 31)) (i := 1) (d := 32) rfl rfl rfl rfl (by rw [hsb]; decide) Try.call60 W14 (compactInts_ok j31 hx8) fun b2 q2 hsz hdf hoth hch hres => ?_
  have hle := hch.le hns
  obtain ⟨hown, hob⟩ := hres
  have yn : Lo k0 (obF (b2.get 32)) := y31.app hgq hob
  replace hgq := hgq.step hch y31.wr
  have j32 := hown
  have y32 := yn
  have hres := True.intro
  clear hown hob yn
  replace hsb := hsz.trans hsb
  replace hdb := hdf.trans hdb
  clear hle hch hres hns hsz hdf hoth
  obtain ⟨b, hbb⟩ : ∃ b, b = b2 := ⟨b2, rfl⟩
  subst hbb
  obtain ⟨q, hqq⟩ : ∃ q, q = q2 := ⟨q2, rfl⟩
  subst hqq
  refine tail_assign (i := 2) (d := 2) rfl rfl (.inl rfl) rfl (by rw [hsb]; decide) fun b2 hsz hdf hnew hoth => ?_
  have jn : (IsOwn 0 3 x8) (b2.get 2) q := by rw [hnew]; exact j32
  have yn : Lo k0 (obF (b2.get 2)) := by rw [hnew]; exact y32
  have j2 := jn
  have y2 := yn
  replace hsb := hsz.trans hsb
  replace hdb := hdf.trans hdb
  clear hsz hdf hoth
  obtain ⟨b, hbb⟩ : ∃ b, b = b2 := ⟨b2, rfl⟩
  subst hbb
  exact tail_done (k := q) (w12 _ _ ⟨⟨hgq, hsb, hdb⟩, j2, y2, trivial⟩)
 rintro a k ⟨⟨hg, hs, hd⟩, i2, n2, _⟩
 refine wp_ret ?_
 obtain ⟨kk, sh1797, ii2⟩ := i2.give
 replace i2 := ii2
 replace hg := hg.hand sh1797 n2.wr
 rw [← sh1797.w]
 clear sh1797
 obtain ⟨k, hkk⟩ : ∃ k, k = kk := ⟨kk, rfl⟩
 subst hkk
 obtain rfl := Option.some.inj hr
 exact retC1 rfl hd hg i2
def solid_at_L0 (s_ : (List Slab)) (z_ : Int) (s1 : Int) : Option (Flow (Int) ((List Rect))) :=
 if (decide (s1 < (s_.length : Int))) then
  (getI s_ s1).bind fun x1 =>
  if ((decide (x1.Z0 ≤ z_)) && (decide (z_ < x1.Z1))) then
   some (.ret x1.Area)
  else
   (addI s1 1).bind fun x2 =>
   some (.go x2)
 else
  some (.ex 0 s1)
def solid_at (s_ : (List Slab)) (z_ : Int) : Option ((List Rect)) :=
 (iterL (solid_at_L0 s_ z_) (s_.length + 1) 0).bind fun f1 => match f1 with
  | .go _ => none
  | .ex _ _ =>
   some ([] : List Rect)
  | .ret r1 => some r1
theorem solid_at_ok {k0 : K} {v0 v1 : Value} {s_ : (List Slab)} {z_ : Int} {r : (List Rect)} (i0 : (IsV s_) v0 k0) (i1 : (IsV z_) v1 k0) (hr : solid_at s_ z_ = some r) :
  Calls Try.prog 58 #[v0, v1] k0.w (Ret k0 (IsV r)) := by
 unfold solid_at at hr
 refine Ret.ofC ?_
 refine enterK Try.func58 rfl Try.ntmps58 (show 2 ≤ 26 by decide) fun a k hk0 hs hd ha => ?_
 obtain ⟨e0, e1, _⟩ := ha
 replace i0 : (IsV s_) (a.get 0) k := by rw [e0, hk0]; exact i0
 replace i1 : (IsV z_) (a.get 1) k := by rw [e1, hk0]; exact i1
 have hQ : Gb.LetsOut (bodyPost Try.prog Try.f58 (RetC noF k0 (IsV r))) := letsOutC
 have hg : Chg noF k0 k := by rw [hk0]; exact Chg.refl _ k0
 refine stepL 1 (⟨some IsE0, []⟩ :: []) rfl ⟨hg, hs, hd⟩ (by kernel_rfl) ⟨ob1 rfl fun b q h n => ok_assign rfl isE0_nil, trivial⟩ [⟨_, _⟩, ⟨_, _⟩] (fun b q p => ⟨p.ke 0 rfl i0, p.ke 1 rfl i1, trivial⟩) ?_
 rintro a k ⟨⟨hg, hs, hd⟩, i0, i1, _⟩
 refine wp_seq ?_
 refine stepL 3 (_ :: _ :: ⟨some (IsI 0), []⟩ :: []) rfl ⟨hg, hs, hd⟩ (by kernel_rfl) ⟨mu rfl i0, o1 [(7, some 0)] rfl fun _ _ h n => ok_len rfl rfl Try.underlying22 (IsV.rd n.1), ob1 rfl fun _ _ h n => ok_move rfl (cI rfl), trivial⟩ [⟨_, _⟩, ⟨_, _⟩, ⟨_, _⟩, ⟨_, _⟩] (fun b q p => ⟨p.ke 1 rfl i1, p.ou 0 7 rfl, p.ou 1 8 rfl, p.ou 2 9 rfl, trivial⟩) ?_
 rintro a k ⟨⟨hg, hs, hd⟩, i1, i7, i8, i9, _⟩
 refine wp_block ?_
 obtain ⟨f1, hf1, hr⟩ := bind_some hr
 refine cutFe f1 (fun s' c l => Bs noF k0 26 c l ∧ IsV z_ (c.get 1) l ∧ IsV s_ (c.get 7) l ∧ IsL s_ (c.get 8) l ∧ IsV s' (c.get 9) l ∧ True) (fun i' s' c l => (i' = 0 ∧ Bs noF k0 26 c l ∧ True)) (fun r' c l => bodyPost Try.prog Try.f58 (RetC noF k0 (IsV r')) .ret c l.w) ?_ hQ ?_ ?_ ?_
 ·intro Q1 W1 hgo hex hret
  refine sim_loop ?_ _ _ _ _ _ hf1 ⟨⟨hg, hs, hd⟩, i1, i7, i8, i9, trivial⟩ Q1 W1 hgo hex hret
  clear hr hf1 hgo hex hret W1 hQ hg hs hd i1 i7 i8 i9
  intro s1 fl_ a k hr hS Q hQ hgo1813 hex1814 hret1815
  obtain ⟨⟨hg, hs, hd⟩, i1, i7, i8, i9, _⟩ := hS
  unfold solid_at_L0 at hr
  refine stepL 1 (_ :: []) rfl ⟨hg, hs, hd⟩ (by kernel_rfl) ⟨o1 [(9, none), (8, none)] rfl fun _ _ h n => ok_lss rfl (up i9 h n.1) (up i8 h n.2.1), trivial⟩ [⟨_, _⟩, ⟨_, _⟩, ⟨_, _⟩, ⟨_, _⟩, ⟨_, _⟩] (fun b q p => ⟨p.ke 1 rfl i1, p.ke 7 rfl i7, p.ke 8 rfl i8, p.ke 9 rfl i9, p.ou 0 10 rfl, trivial⟩) ?_
  rintro a k ⟨⟨hg, hs, hd⟩, i1, i7, i8, i9, i10, _⟩
  refine wp_seq ?_
  refine wp_cond_split (isBool i10) (fun hc1830 => ?_) (fun hc1830 => ?_)
  ·rw [if_pos hc1830] at hr
   refine wp_skip ?_
   refine wp_seq ?_
   refine wp_block ?_
   refine wp_seq ?_
   obtain ⟨x1, hx1, hr⟩ := bind_some hr
   refine cut (fun a' k' => Bs noF k0 26 a' k' ∧ (IsV z_) (a'.get 1) k' ∧ (IsRef x1) (a'.get 6) k' ∧ (IsV s_) (a'.get 7) k' ∧ (IsL s_) (a'.get 8) k' ∧ (IsV s1) (a'.get 9) k' ∧ True) ?_ hQ ?_
   ·intro Q2 W2 w1
    refine gS 3 (_ :: _ :: ⟨some (IsBox k.w.heap.size (⟨0, 0, []⟩ : Slab)), []⟩ :: []) hs (by kernel_rfl) ⟨o1 [(7, none), (9, none)] rfl fun _ _ h n => ok_indexAddr rfl Try.underlying22 ty51 (IsV.rd (up i7 h n.1)) (up i9 h n.2.1) hx1, o1 [(11, some 0)] rfl fun _ _ h n => ok_load rfl ty51 n.1, ob1 rfl fun _ _ h n => ok_alloc _ h.size rfl z51, trivial⟩ W2 fun b q p => ?_
    have hgq := hg.then p.grow
    have hsb := p.size.trans hs
    have hdb := p.defers.trans hd
    have j1 := p.ke 1 rfl i1
    obtain ⟨b6, j6, x6, z6⟩ : (IsBox k.w.heap.size (⟨0, 0, []⟩ : Slab)) (b.get 6) q := p.ou 2 6 rfl
    replace x6 : Lo k (Eq b6) := Lo.eq x6
    have y6 : Lo k0 (Eq b6) := x6.chg hg
    have j7 := p.ke 7 rfl i7
    have j8 := p.ke 8 rfl i8
    have j9 := p.ke 9 rfl i9
    have j12 : (IsV x1) (b.get 12) q := p.ou 1 12 rfl
    have hns := z6.nshF
    refine tail_storeB (i := 3) rfl rfl rfl rfl szf51 (Upd.self (α := Slab)) j6 z6 j12 fun q2 hch hz => ?_
    replace hgq := hgq.step hch y6.wr
    have hle := hch.le hns
    replace j1 := Pers.pers hle j1
    replace j7 := Pers.pers hle j7
    replace j8 := Pers.pers hle j8
    replace j9 := Pers.pers hle j9
    replace j12 := Pers.pers hle j12
    replace z6 := hz
    clear hns hle hch
    obtain ⟨q, hqq⟩ : ∃ q, q = q2 := ⟨q2, rfl⟩
    subst hqq
    obtain ⟨q2, hsh, jn⟩ := z6.give
    replace j1 := Pers.pers hsh.le j1
    replace j7 := Pers.pers hsh.le j7
    replace j8 := Pers.pers hsh.le j8
    replace j9 := Pers.pers hsh.le j9
    rw [← j6] at jn
    replace j6 := jn
    replace hgq := hgq.hand hsh y6.wr
    rw [← hsh.w]
    clear hsh
    obtain ⟨q, hqq⟩ : ∃ q, q = q2 := ⟨q2, rfl⟩
    subst hqq
    exact tail_done (k := q) (w1 _ _ ⟨⟨hgq, hsb, hdb⟩, j1, j6, j7, j8, j9, trivial⟩)
   rintro a k ⟨⟨hg, hs, hd⟩, i1, i6, i7, i8, i9, _⟩
   refine stepL 10 (_ :: _ :: _ :: _ :: _ :: _ :: _ :: _ :: _ :: _ :: []) rfl ⟨hg, hs, hd⟩ (by kernel_rfl) ⟨o1 [(6, none)] rfl fun _ _ h n => ok_fieldAddr rfl fo51_0 (at_Slab_0 _) ((up i6 h n.1)).ptr, o1 [(13, some 0)] rfl fun _ _ h n => ok_load rfl ty3 n.1, mu rfl i1, o1 [(14, some 1), (15, some 2)] rfl fun _ _ h n => ok_leq rfl n.1 n.2.1, cm 3 rfl rfl, mT rfl rfl i1, gT [(6, none)] rfl rfl fun hp _ _ h n => ok_fieldAddr rfl fo51_1 (at_Slab_1 _) ((up i6 h n.1)).ptr, gT [(19, some 6)] rfl rfl fun hp _ _ h n => ok_load rfl ty3 (Gd.get n.1 hp), gT [(18, some 5), (20, some 7)] rfl rfl fun hp _ _ h n => ok_lss rfl (Gd.get n.1 hp) (Gd.get n.2.1 hp), o1 [(17, some 4), (21, some 8)] rfl fun _ _ h n => ok_pickAnd rfl n.1 (Gd.get n.2.1) (cB rfl), trivial⟩ [⟨_, _⟩, ⟨_, _⟩, ⟨_, _⟩, ⟨_, _⟩, ⟨_, _⟩, ⟨_, _⟩] (fun b q p => ⟨p.ke 1 rfl i1, p.ke 6 rfl i6, p.ke 7 rfl i7, p.ke 8 rfl i8, p.ke 9 rfl i9, p.ou 9 22 rfl, trivial⟩) ?_
   rintro a k ⟨⟨hg, hs, hd⟩, i1, i6, i7, i8, i9, i22, _⟩
   refine wp_cond_split (isBool i22) (fun hc1825 => ?_) (fun hc1825 => ?_)
   ·rw [if_pos hc1825] at hr
    refine stepL 3 (_ :: _ :: _ :: []) rfl ⟨hg, hs, hd⟩ (by kernel_rfl) ⟨o1 [(6, none)] rfl fun _ _ h n => ok_fieldAddr rfl fo51_2 (at_Slab_2 _) ((up i6 h n.1)).ptr, o1 [(23, some 0)] rfl fun _ _ h n => ok_load rfl ty49 n.1, cp 1 rfl rfl, trivial⟩ [⟨_, _⟩] (fun b q p => ⟨p.ou 2 4 rfl, trivial⟩) ?_
    rintro a k ⟨⟨hg, hs, hd⟩, i4, _⟩
    refine wp_ret ?_
    exact hret1815 _ _ _ (Option.some.inj hr).symm (retC1 rfl hd hg i4)
   rw [if_neg (by rw [hc1825]; decide)] at hr
   refine wp_skip ?_
   obtain ⟨x2, hx2, hr⟩ := bind_some hr
   refine cut (fun a' k' => Bs noF k0 26 a' k' ∧ (IsV z_) (a'.get 1) k' ∧ (IsV s_) (a'.get 7) k' ∧ (IsL s_) (a'.get 8) k' ∧ (IsV x2) (a'.get 9) k' ∧ True) ?_ hQ ?_
   ·intro Q3 W3 w2
    refine gS 2 (_ :: _ :: []) hs (by kernel_rfl) ⟨o1 [(9, none)] rfl fun _ _ h n => ok_add rfl (up i9 h n.1) (cI rfl) hx2, cm 0 rfl rfl, trivial⟩ W3 fun b q p => ?_
    exact tail_done (k := q) (w2 _ _ ⟨Bs.post ⟨hg, hs, hd⟩ p, p.ke 1 rfl i1, p.ke 7 rfl i7, p.ke 8 rfl i8, p.ou 1 9 rfl, trivial⟩)
   rintro a k ⟨⟨hg, hs, hd⟩, i1, i7, i8, i9, _⟩
   exact hgo1813 _ _ _ (Option.some.inj hr).symm ⟨⟨hg, hs, hd⟩, i1, i7, i8, i9, trivial⟩
  rw [if_neg (by rw [hc1830]; decide)] at hr
  refine wp_exit ?_
  exact hex1814 _ _ _ _ (Option.some.inj hr).symm ⟨rfl, ⟨hg, hs, hd⟩, trivial⟩
 ·rintro r1 a k rfl hR
  dsimp only at hr
  obtain rfl := Option.some.inj hr
  exact hR
 ·rintro _ _ _ rfl _
  simp at hr
 clear hf1
 rintro _ s2 a k rfl ⟨rfl, ⟨hg, hs, hd⟩, _⟩
 dsimp only at hr
 refine cutL noF k0 26 [⟨4, IsV ([] : List Rect)⟩] ?_ ?_
 ·intro Q4 W4 w3
  refine gS 1 (⟨some IsE0, []⟩ :: []) hs (by kernel_rfl) ⟨ob1 rfl fun b q h n => ok_assign rfl isE0_nil, trivial⟩ W4 fun b q p => ?_
  have hgq := hg.then p.grow
  have hsb := p.size.trans hs
  have hdb := p.defers.trans hd
  have j4 : IsE0 (b.get 4) q := p.ou 0 4 rfl
  replace j4 : IsV ([] : List Rect) (b.get 4) q := j4.isV
  exact tail_done (k := q) (w3 _ _ ⟨⟨hgq, hsb, hdb⟩, j4, trivial⟩)
 rintro a k ⟨⟨hg, hs, hd⟩, i4, _⟩
 refine wp_ret ?_
 obtain rfl := Option.some.inj hr
 exact retC1 rfl hd hg i4
def solid_put (out_ : (List Slab)) (x_ : Slab) : Option ((List Slab)) :=
 if ((x_.Area.length : Int) == 0) then
  some out_
 else
  (subI (out_.length : Int) 1).bind fun x1 =>
  (if (decide (0 ≤ x1)) then
   (getI out_ x1).bind fun x2 =>
   some (x2.Z1 == x_.Z0)
  else
   some false).bind fun x3 =>
  (if x3 then
   (getI out_ x1).bind fun x4 =>
   (region_Same x4.Area x_.Area).bind fun x5 =>
   some x5
  else
   some false).bind fun x6 =>
  if x6 then
   (getI out_ x1).bind fun x7 =>
   (some (out_.set (x1).toNat ({ x7 with Z1 := x_.Z1 }))).bind fun x8 =>
   some x8
  else
   (appI out_ ([x_])).bind fun x9 =>
   some x9
theorem solid_put_ok {k0 : K} {v0 v1 : Value} {out_ : (List Slab)} {x_ : Slab} {r : (List Slab)} (i0 : (IsOwn 0 51 out_) v0 k0) (i1 : (IsV x_) v1 k0) (hr : solid_put out_ x_ = some r) :
  Calls Try.prog 38 #[v0, v1] k0.w (RetC (obF v0) k0 (IsOwnW v0 k0 51 r)) := by
 unfold solid_put at hr
 refine enterK Try.func38 rfl Try.ntmps38 (show 2 ≤ 47 by decide) fun a k hk0 hs hd ha => ?_
 obtain ⟨e0, e1, _⟩ := ha
 replace i0 : (IsOwn 0 51 out_) (a.get 0) k := by rw [e0, hk0]; exact i0
 replace i1 : (IsV x_) (a.get 1) k := by rw [e1, hk0]; exact i1
 have n0 : Wr (obF v0) k0 (obF (a.get 0)) := fun b h => .inl (by rwa [e0] at h)
 have hQ : Gb.LetsOut (bodyPost Try.prog Try.f38 (RetC (obF v0) k0 (IsOwnW v0 k0 51 r))) := letsOutC
 have hg : Chg (obF v0) k0 k := by rw [hk0]; exact Chg.refl _ k0
 refine cutS (fun c l => Bs (obF v0) k0 47 c l ∧ IsOwn 0 51 out_ (c.get 0) l ∧ Wr (obF v0) k0 (obF (c.get 0)) ∧ IsRef x_ (c.get 3) l ∧ True) ?_ ?_
 ·intro Q1 W1 w1
  refine gS 2 (⟨some (IsRef x_), [(1, none)]⟩ :: ⟨some IsE0, []⟩ :: []) hs (by kernel_rfl) ⟨ob1 rfl fun _ _ h n => ok_boxR rfl (up i1 h n.1), ob1 rfl fun b q h n => ok_assign rfl isE0_nil, trivial⟩ W1 fun b q p => ?_
  exact tail_done (k := q) (w1 _ _ ⟨Bs.post ⟨hg, hs, hd⟩ p, p.ke 0 rfl i0, (by rw [p.old 0 rfl]; exact n0), p.ou 0 3 rfl, trivial⟩)
 rintro a k ⟨⟨hg, hs, hd⟩, i0, n0, i3, _⟩
 refine wp_seq ?_
 refine cutS (fun c l => Bs (obF v0) k0 47 c l ∧ IsOwn 0 51 out_ (c.get 0) l ∧ Wr (obF v0) k0 (obF (c.get 0)) ∧ IsRef x_ (c.get 3) l ∧ IsV ((x_.Area.length : Int) == 0) (c.get 9) l ∧ True) ?_ ?_
 ·intro Q2 W2 w2
  refine gS 4 (_ :: _ :: _ :: _ :: []) hs (by kernel_rfl) ⟨o1 [(3, none)] rfl fun _ _ h n => ok_fieldAddr rfl fo51_2 (at_Slab_2 _) ((up i3 h n.1)).ptr, o1 [(6, some 0)] rfl fun _ _ h n => ok_load rfl ty49 n.1, o1 [(7, some 1)] rfl fun _ _ h n => ok_len rfl rfl Try.underlying49 (IsV.rd n.1), o1 [(8, some 2)] rfl fun _ _ h n => ok_eqI rfl n.1 (cI rfl), trivial⟩ W2 fun b q p => ?_
  exact tail_done (k := q) (w2 _ _ ⟨Bs.post ⟨hg, hs, hd⟩ p, p.ke 0 rfl i0, (by rw [p.old 0 rfl]; exact n0), p.ke 3 rfl i3, p.ou 3 9 rfl, trivial⟩)
 rintro a k ⟨⟨hg, hs, hd⟩, i0, n0, i3, i9, _⟩
 refine wp_cond_split (isBool i9) (fun hc1865 => ?_) (fun hc1865 => ?_)
 ·rw [if_pos hc1865] at hr
  refine cutS (fun c l => Bs (obF v0) k0 47 c l ∧ IsOwn 0 51 out_ (c.get 4) l ∧ Wr (obF v0) k0 (obF (c.get 4)) ∧ True) ?_ ?_
  ·intro Q3 W3 w3
   refine gS 2 (⟨some (OwnAt (a.get 0) 0 51 out_), [(0, none)]⟩ :: ⟨some (OwnAt (a.get 0) 0 51 out_), [(10, some 0)]⟩ :: []) hs (by kernel_rfl) ⟨ob1 rfl fun _ _ h n => ok_moveOA (.inl rfl) (ownAt n.1 (up i0 h n.1)), ob1 rfl fun _ _ h n => ok_moveOA (.inr rfl) n.1, trivial⟩ W3 fun b q p => ?_
   have hgq := hg.then p.grow
   have hsb := p.size.trans hs
   have hdb := p.defers.trans hd
   have e4 : b.get 4 = a.get 0 := (p.ou 1 4 rfl).1
   have j4 : IsOwn 0 51 out_ (b.get 4) q := (p.ou 1 4 rfl).2
   have y4 : Wr (obF v0) k0 (obF (b.get 4)) := by rw [e4]; exact n0
   exact tail_done (k := q) (w3 _ _ ⟨⟨hgq, hsb, hdb⟩, j4, y4, trivial⟩)
  rintro a k ⟨⟨hg, hs, hd⟩, i4, n4, _⟩
  refine wp_ret ?_
  obtain rfl := Option.some.inj hr
  exact retC1 rfl hd hg (show ResOk _ _ _ (.tmp 4) (IsOwnW _ _ _ _) from ⟨i4, n4⟩)
 rw [if_neg (by rw [hc1865]; decide)] at hr
 refine wp_skip ?_
 refine wp_seq ?_
 refine wp_seq ?_
 obtain ⟨x1, hx1, hr⟩ := bind_some hr
 refine cut (fun a' k' => Bs (obF v0) k0 47 a' k' ∧ IsOwn 0 51 out_ (a'.get 0) k' ∧ Wr (obF v0) k0 (obF (a'.get 0)) ∧ (IsRef x_) (a'.get 3) k' ∧ (IsV x1) (a'.get 5) k' ∧ True) ?_ hQ ?_
 ·intro Q4 W4 w4
  refine gS 4 (⟨some (OwnAt (a.get 0) 0 51 out_), [(0, none)]⟩ :: _ :: _ :: _ :: []) hs (by kernel_rfl) ⟨ob1 rfl fun _ _ h n => ok_moveOA (.inl rfl) (ownAt n.1 (up i0 h n.1)), o1 [(11, some 0)] rfl fun _ _ h n => ok_len rfl rfl Try.underlying22 (IsOwn.rd (n.1).2), o1 [(12, some 1)] rfl fun _ _ h n => ok_sub rfl n.1 (cI rfl) hx1, cp 2 rfl rfl, trivial⟩ W4 fun b q p => ?_
  exact tail_done (k := q) (w4 _ _ ⟨Bs.post ⟨hg, hs, hd⟩ p, p.ke 0 rfl i0, (by rw [p.old 0 rfl]; exact n0), p.ke 3 rfl i3, p.ou 3 5 rfl, trivial⟩)
 rintro a k ⟨⟨hg, hs, hd⟩, i0, n0, i3, i5, _⟩
 refine wp_seq ?_
 obtain ⟨x2, hx2, hr⟩ := bind_some hr
 obtain ⟨x3, hx3, hx2⟩ := ite_bind hx2
 obtain ⟨x4, hx4, hr⟩ := bind_some hr
 obtain ⟨x5, hx5, hx4⟩ := ite_bind hx4
 obtain ⟨x6, hx6, hx4⟩ := ite_bind hx4
 refine cut (fun a' k' => Bs (obF v0) k0 47 a' k' ∧ IsOwn 0 51 out_ (a'.get 0) k' ∧ Wr (obF v0) k0 (obF (a'.get 0)) ∧ (IsRef x_) (a'.get 3) k' ∧ (IsV x1) (a'.get 5) k' ∧ (IsV x4) (a'.get 35) k' ∧ True) ?_ hQ ?_
 ·intro Q5 W5 w5
  refine region (m := 22) (_ :: _ :: _ :: ⟨some (Gd ((decide (0 ≤ x1)) = true) (OwnAt (a.get 0) 0 51 out_)), [(0, none)]⟩ :: _ :: _ :: _ :: _ :: _ :: _ :: _ :: _ :: _ :: ⟨some (Gd (x2 = true) (OwnAt (a.get 0) 0 51 out_)), [(0, none)]⟩ :: _ :: _ :: _ :: _ :: _ :: _ :: _ :: _ :: []) hmix hs (by kernel_rfl) ⟨mu rfl i5, o1 [(14, some 0)] rfl fun _ _ h n => ok_geq rfl n.1 (cI rfl), cm 1 rfl rfl, gdT rfl rfl fun hp _ _ h n => ok_moveOA (.inl rfl) (ownAt n.1 (up i0 h n.1)), mT rfl rfl i5, gT [(17, some 3), (18, some 4)] rfl rfl fun hp _ _ h n => ok_indexAddr rfl Try.underlying22 ty51 (IsOwn.rd ((Gd.get n.1 hp)).2) (Gd.get n.2.1 hp) (hx3 hp), gT [(19, some 5)] rfl rfl fun hp _ _ h n => ok_fieldAddr rfl fo51_1 (at_Slab_1 _) (Gd.get n.1 hp), gT [(20, some 6)] rfl rfl fun hp _ _ h n => ok_load rfl ty3 (Gd.get n.1 hp), gT [(3, none)] rfl rfl fun hp _ _ h n => ok_fieldAddr rfl fo51_0 (at_Slab_0 _) ((up i3 h n.1)).ptr, gT [(22, some 8)] rfl rfl fun hp _ _ h n => ok_load rfl ty3 (Gd.get n.1 hp), gT [(21, some 7), (23, some 9)] rfl rfl fun hp _ _ h n => ok_eqI rfl (Gd.get n.1 hp) (Gd.get n.2.1 hp), o1 [(16, some 2), (24, some 10)] rfl fun _ _ h n => ok_pickM rfl n.1 hx2 (Gd.get n.2.1) (cB rfl), cm 11 rfl rfl, gdT rfl rfl fun hp _ _ h n => ok_moveOA (.inl rfl) (ownAt n.1 (up i0 h n.1)), mT rfl rfl i5, gT [(27, some 13), (28, some 14)] rfl rfl fun hp _ _ h n => ok_indexAddr rfl Try.underlying22 ty51 (IsOwn.rd ((Gd.get n.1 hp)).2) (Gd.get n.2.1 hp) (hx5 hp), gT [(29, some 15)] rfl rfl fun hp _ _ h n => ok_fieldAddr rfl fo51_2 (at_Slab_2 _) (Gd.get n.1 hp), gT [(30, some 16)] rfl rfl fun hp _ _ h n => ok_load rfl ty49 (Gd.get n.1 hp), gT [(3, none)] rfl rfl fun hp _ _ h n => ok_fieldAddr rfl fo51_2 (at_Slab_2 _) ((up i3 h n.1)).ptr, gT [(32, some 18)] rfl rfl fun hp _ _ h n => ok_load rfl ty49 (Gd.get n.1 hp), gT [(31, some 17), (33, some 19)] rfl rfl fun hp _ _ h n => ok_call rfl Try.call64 (region_Same_ok (Gd.get n.1 hp) (Gd.get n.2.1 hp) (hx6 hp)), o1 [(26, some 12), (34, some 20)] rfl fun _ _ h n => ok_pickM rfl n.1 hx4 (Gd.get n.2.1) (cB rfl), trivial⟩ W5 fun b q p => ?_
  exact tail_done (k := q) (w5 _ _ ⟨Bs.post ⟨hg, hs, hd⟩ p, p.ke 0 rfl i0, (by rw [p.old 0 rfl]; exact n0), p.ke 3 rfl i3, p.ke 5 rfl i5, p.ou 21 35 rfl, trivial⟩)
 rintro a k ⟨⟨hg, hs, hd⟩, i0, n0, i3, i5, i35, _⟩
 refine wp_cond_split (isBool i35) (fun hc1860 => ?_) (fun hc1860 => ?_)
 ·rw [if_pos hc1860] at hr
  refine wp_seq ?_
  obtain ⟨x7, hx7, hr⟩ := bind_some hr
  obtain ⟨x8, hx8, hr⟩ := bind_some hr
  refine cut (fun a' k' => Bs (obF v0) k0 47 a' k' ∧ IsOwn 0 51 x8 (a'.get 0) k' ∧ Wr (obF v0) k0 (obF (a'.get 0)) ∧ True) ?_ hQ ?_
  ·intro Q6 W6 w6
   refine gS 6 (⟨some (OwnAt (a.get 0) 0 51 out_), [(0, none)]⟩ :: _ :: _ :: _ :: ⟨some (IsAdrO (a.get 0) ((x1).toNat * Enc.sz Slab)), [(36, some 0), (37, some 1)]⟩ :: _ :: []) hs (by kernel_rfl) ⟨ob1 rfl fun _ _ h n => ok_moveOA (.inl rfl) (ownAt n.1 (up i0 h n.1)), mu rfl i5, o1 [(3, none)] rfl fun _ _ h n => ok_fieldAddr rfl fo51_1 (at_Slab_1 _) ((up i3 h n.1)).ptr, o1 [(38, some 2)] rfl fun _ _ h n => ok_load rfl ty3 n.1, ob1 rfl fun _ _ h n => ok_indexO rfl Try.underlying22 ty51 n.1 n.2.1 hx7, o1 [(40, some 4)] rfl fun _ _ h n => ok_fieldAdrO rfl fo51_1 n.1, trivial⟩ W6 fun b q p => ?_
   have hgq := hg.then p.grow
   have hsb := p.size.trans hs
   have hdb := p.defers.trans hd
   have j0 := p.ke 0 rfl i0
   have y0 : Wr (obF v0) k0 (obF (b.get 0)) := by rw [p.old 0 rfl]; exact n0
   have j39 : (IsV x_.Z1) (b.get 39) q := p.ou 3 39 rfl
   have j41 : IsAdrO (a.get 0) ((x1).toNat * Enc.sz Slab + 1) (b.get 41) q := p.ou 5 41 rfl
   have eo : b.get 0 = a.get 0 := p.old 0 rfl
   have hns := j0.nshF
   refine tail_storeS (i := 6) (u := b.get 0) (m := (x1).toNat) (off := 0 + 1) rfl rfl rfl rfl szf3 upd_F51_1 (by rw [eo]; exact j41) j0 (getI_spec hx7).2.1 j39 fun q2 hch hz => ?_
   replace hgq := hgq.step hch y0
   have hle := hch.le hns
   replace j39 := Pers.pers hle j39
   replace j41 := Pers.pers hle j41
   replace j0 := hz
   rw [Option.some.inj hx8] at j0
   clear hns hle hch eo hz
   obtain ⟨q, hqq⟩ : ∃ q, q = q2 := ⟨q2, rfl⟩
   subst hqq
   exact tail_done (k := q) (w6 _ _ ⟨⟨hgq, hsb, hdb⟩, j0, y0, trivial⟩)
  rintro a k ⟨⟨hg, hs, hd⟩, i0, n0, _⟩
  refine cutS (fun c l => Bs (obF v0) k0 47 c l ∧ IsOwn 0 51 x8 (c.get 4) l ∧ Wr (obF v0) k0 (obF (c.get 4)) ∧ True) ?_ ?_
  ·intro Q7 W7 w7
   refine gS 2 (⟨some (OwnAt (a.get 0) 0 51 x8), [(0, none)]⟩ :: ⟨some (OwnAt (a.get 0) 0 51 x8), [(42, some 0)]⟩ :: []) hs (by kernel_rfl) ⟨ob1 rfl fun _ _ h n => ok_moveOA (.inl rfl) (ownAt n.1 (up i0 h n.1)), ob1 rfl fun _ _ h n => ok_moveOA (.inr rfl) n.1, trivial⟩ W7 fun b q p => ?_
   have hgq := hg.then p.grow
   have hsb := p.size.trans hs
   have hdb := p.defers.trans hd
   have e4 : b.get 4 = a.get 0 := (p.ou 1 4 rfl).1
   have j4 : IsOwn 0 51 x8 (b.get 4) q := (p.ou 1 4 rfl).2
   have y4 : Wr (obF v0) k0 (obF (b.get 4)) := by rw [e4]; exact n0
   exact tail_done (k := q) (w7 _ _ ⟨⟨hgq, hsb, hdb⟩, j4, y4, trivial⟩)
  rintro a k ⟨⟨hg, hs, hd⟩, i4, n4, _⟩
  refine wp_ret ?_
  obtain rfl := Option.some.inj hr
  exact retC1 rfl hd hg (show ResOk _ _ _ (.tmp 4) (IsOwnW _ _ _ _) from ⟨i4, n4⟩)
 rw [if_neg (by rw [hc1860]; decide)] at hr
 refine wp_skip ?_
 refine wp_seq ?_
 obtain ⟨x9, hx9, hr⟩ := bind_some hr
 refine cut (fun a' k' => Bs (obF v0) k0 47 a' k' ∧ IsOwn 0 51 x9 (a'.get 4) k' ∧ Wr (obF v0) k0 (obF (a'.get 4)) ∧ True) ?_ hQ ?_
 ·intro Q8 W8 w8
  refine gS 3 (⟨some (OwnAt (a.get 0) 0 51 out_), [(0, none)]⟩ :: _ :: ⟨some (IsV (α := (List Slab)) ([x_])), [(44, some 1)]⟩ :: []) hs (by kernel_rfl) ⟨ob1 rfl fun _ _ h n => ok_moveOA (.inl rfl) (ownAt n.1 (up i0 h n.1)), o1 [(3, none)] rfl fun _ _ h n => ok_load rfl ty51 ((up i3 h n.1)).ptr, ob1 rfl fun _ _ h n => ok_buildSlice rfl Try.underlying22 eo51 rfl (by decide) (by decide) ⟨rfl, n.1, trivial⟩, trivial⟩ W8 fun b q p => ?_
  have hgq := hg.then p.grow
  have hsb := p.size.trans hs
  have hdb := p.defers.trans hd
  have e43 : b.get 43 = a.get 0 := (p.ou 0 43 rfl).1
  have j43 : IsOwn 0 51 out_ (b.get 43) q := (p.ou 0 43 rfl).2
  have y43 : Wr (obF v0) k0 (obF (b.get 43)) := by rw [e43]; exact n0
  have j45 : (IsV (α := (List Slab)) ([x_])) (b.get 45) q := p.ou 2 45 rfl
  have hns := j43.nshF
  refine tail_appendS (i := 3) (d := 46) rfl rfl rfl rfl (by rw [hsb]; decide) (e := 51) Try.underlying22 eo51 j43 (IsV.rd j45) hx9 fun b2 q2 hsz hdf hoth hch hown hob => ?_
  have hle := hch.le hns
  have yn : Wr (obF v0) k0 (obF (b2.get 46)) := y43.app hgq hob
  replace j45 := Pers.pers hle j45
  replace hgq := hgq.step hch y43
  rw [← hoth 45 (by decide)] at j45
  have j46 := hown
  have y46 := yn
  replace hsb := hsz.trans hsb
  replace hdb := hdf.trans hdb
  clear hle hch hown hob hns yn hsz hdf hoth
  obtain ⟨b, hbb⟩ : ∃ b, b = b2 := ⟨b2, rfl⟩
  subst hbb
  obtain ⟨q, hqq⟩ : ∃ q, q = q2 := ⟨q2, rfl⟩
  subst hqq
  refine tail_assign (i := 4) (d := 4) rfl rfl (.inl rfl) rfl (by rw [hsb]; decide) fun b2 hsz hdf hnew hoth => ?_
  have jn : (IsOwn 0 51 x9) (b2.get 4) q := by rw [hnew]; exact j46
  have yn : Wr (obF v0) k0 (obF (b2.get 4)) := by rw [hnew]; exact y46
  rw [← hoth 45 (by decide)] at j45
  have j4 := jn
  have y4 := yn
  replace hsb := hsz.trans hsb
  replace hdb := hdf.trans hdb
  clear hsz hdf hoth
  obtain ⟨b, hbb⟩ : ∃ b, b = b2 := ⟨b2, rfl⟩
  subst hbb
  exact tail_done (k := q) (w8 _ _ ⟨⟨hgq, hsb, hdb⟩, j4, y4, trivial⟩)
 rintro a k ⟨⟨hg, hs, hd⟩, i4, n4, _⟩
 refine wp_ret ?_
 obtain rfl := Option.some.inj hr
 exact retC1 rfl hd hg (show ResOk _ _ _ (.tmp 4) (IsOwnW _ _ _ _) from ⟨i4, n4⟩)
def solid_fits (out_ : (List Slab)) : Option ((List Slab) × Int) :=
 if (decide (80 < (out_.length : Int))) then
  some (([] : List Slab), 6)
 else
  some (out_, 0)
theorem solid_fits_ok {k0 : K} {v0 : Value} {out_ : (List Slab)} {r : (List Slab) × Int} (i0 : (IsV out_) v0 k0) (hr : solid_fits out_ = some r) :
  Calls Try.prog 39 #[v0] k0.w (Ret k0 (IsTup2 (IsV r.1) (IsV r.2))) := by
 unfold solid_fits at hr
 refine Ret.ofC ?_
 refine enterK Try.func39 rfl Try.ntmps39 (show 1 ≤ 8 by decide) fun a k hk0 hs hd ha => ?_
 obtain ⟨e0, _⟩ := ha
 replace i0 : (IsV out_) (a.get 0) k := by rw [e0, hk0]; exact i0
 have hQ : Gb.LetsOut (bodyPost Try.prog Try.f39 (RetC noF k0 (IsTup2 (IsV r.1) (IsV r.2)))) := letsOutC
 have hg : Chg noF k0 k := by rw [hk0]; exact Chg.refl _ k0
 refine stepL 2 (⟨some IsE0, []⟩ :: ⟨some (IsI 0), []⟩ :: []) rfl ⟨hg, hs, hd⟩ (by kernel_rfl) ⟨ob1 rfl fun b q h n => ok_assign rfl isE0_nil, aI rfl rfl, trivial⟩ [⟨_, _⟩] (fun b q p => ⟨p.ke 0 rfl i0, trivial⟩) ?_
 rintro a k ⟨⟨hg, hs, hd⟩, i0, _⟩
 refine wp_seq ?_
 refine stepL 3 (_ :: _ :: _ :: []) rfl ⟨hg, hs, hd⟩ (by kernel_rfl) ⟨mu rfl i0, o1 [(4, some 0)] rfl fun _ _ h n => ok_len rfl rfl Try.underlying22 (IsV.rd n.1), o1 [(5, some 1)] rfl fun _ _ h n => ok_gtr rfl n.1 (cI rfl), trivial⟩ [⟨_, _⟩, ⟨_, _⟩] (fun b q p => ⟨p.ke 0 rfl i0, p.ou 2 6 rfl, trivial⟩) ?_
 rintro a k ⟨⟨hg, hs, hd⟩, i0, i6, _⟩
 refine wp_cond_split (isBool i6) (fun hc1878 => ?_) (fun hc1878 => ?_)
 ·rw [if_pos hc1878] at hr
  refine cutL noF k0 8 [⟨2, IsV ([] : List Slab)⟩, ⟨3, IsI 6⟩] ?_ ?_
  ·intro Q1 W1 w1
   refine gS 2 (⟨some IsE0, []⟩ :: ⟨some (IsI 6), []⟩ :: []) hs (by kernel_rfl) ⟨ob1 rfl fun b q h n => ok_assign rfl isE0_nil, aI rfl rfl, trivial⟩ W1 fun b q p => ?_
   have hgq := hg.then p.grow
   have hsb := p.size.trans hs
   have hdb := p.defers.trans hd
   have j2 : IsE0 (b.get 2) q := p.ou 0 2 rfl
   have j3 : (IsI 6) (b.get 3) q := p.ou 1 3 rfl
   replace j2 : IsV ([] : List Slab) (b.get 2) q := j2.isV
   exact tail_done (k := q) (w1 _ _ ⟨⟨hgq, hsb, hdb⟩, j2, j3, trivial⟩)
  rintro a k ⟨⟨hg, hs, hd⟩, i2, i3, _⟩
  refine wp_ret ?_
  obtain rfl := Option.some.inj hr
  exact retC2 rfl hd hg i2 i3
 rw [if_neg (by rw [hc1878]; decide)] at hr
 refine wp_skip ?_
 refine stepL 3 (_ :: _ :: ⟨some (IsI 0), []⟩ :: []) rfl ⟨hg, hs, hd⟩ (by kernel_rfl) ⟨mu rfl i0, cp 0 rfl rfl, aI rfl rfl, trivial⟩ [⟨_, _⟩, ⟨_, _⟩] (fun b q p => ⟨p.ou 1 2 rfl, p.ou 2 3 rfl, trivial⟩) ?_
 rintro a k ⟨⟨hg, hs, hd⟩, i2, i3, _⟩
 refine wp_ret ?_
 obtain rfl := Option.some.inj hr
 exact retC2 rfl hd hg i2 i3
def solid_combine_L0 (a_ : (List Slab)) (b_ : (List Slab)) (op_ : ((List Rect) → (List Rect) → Option ((List Rect) × Int))) (x1 : (List Int)) (s1 : (List Slab) × Int) : Option (Flow ((List Slab) × Int) ((List Slab) × Int)) :=
 if (decide (s1.2 < (x1.length : Int))) then
  (subI s1.2 1).bind fun x2 =>
  (getI x1 x2).bind fun x3 =>
  (solid_at a_ x3).bind fun x4 =>
  (subI s1.2 1).bind fun x5 =>
  (getI x1 x5).bind fun x6 =>
  (solid_at b_ x6).bind fun x7 =>
  (op_ x4 x7).bind fun x8 =>
  if (x8.2 != 0) then
   some (.ret (([] : List Slab), x8.2))
  else
   (subI s1.2 1).bind fun x9 =>
   (getI x1 x9).bind fun x10 =>
   (getI x1 s1.2).bind fun x11 =>
   (solid_put s1.1 (⟨x10, x11, x8.1⟩ : Slab)).bind fun x12 =>
   (addI s1.2 1).bind fun x13 =>
   some (.go (x12, x13))
 else
  some (.ex 0 (s1.1, s1.2))
def solid_combine (a_ : (List Slab)) (b_ : (List Slab)) (op_ : ((List Rect) → (List Rect) → Option ((List Rect) × Int))) : Option ((List Slab) × Int) :=
 (solid_Right a_).bind fun x1 =>
 (if (!x1) then
  some true
 else
  (solid_Right b_).bind fun x2 =>
  some (!x2)).bind fun x3 =>
 if x3 then
  some (([] : List Slab), 1)
 else
  (solid_heights ([a_, b_])).bind fun x4 =>
  (iterL (solid_combine_L0 a_ b_ op_ x4) (a_.length + b_.length + x4.length + ([] : List Slab).length + 1) (([] : List Slab), 1)).bind fun f1 => match f1 with
   | .go _ => none
   | .ex _ s1 =>
    (solid_fits s1.1).bind fun x5 =>
    some (x5.1, x5.2)
   | .ret r1 => some r1
theorem solid_combine_ok {k0 : K} {v0 v1 v2 : Value} {a_ : (List Slab)} {b_ : (List Slab)} {op_ : ((List Rect) → (List Rect) → Option ((List Rect) × Int))} {r : (List Slab) × Int} (i0 : (IsV a_) v0 k0) (i1 : (IsV b_) v1 k0) (i2 : (IsFn2T Try.prog op_) v2 k0) (hr : solid_combine a_ b_ op_ = some r) :
  Calls Try.prog 40 #[v0, v1, v2] k0.w (Ret k0 (IsTup2 (IsV r.1) (IsV r.2))) := by
 unfold solid_combine at hr
 refine Ret.ofC ?_
 refine enterK Try.func40 rfl Try.ntmps40 (show 3 ≤ 70 by decide) fun a k hk0 hs hd ha => ?_
 obtain ⟨e0, e1, e2, _⟩ := ha
 replace i0 : (IsV a_) (a.get 0) k := by rw [e0, hk0]; exact i0
 replace i1 : (IsV b_) (a.get 1) k := by rw [e1, hk0]; exact i1
 replace i2 : (IsFn2T Try.prog op_) (a.get 2) k := by rw [e2, hk0]; exact i2
 have hQ : Gb.LetsOut (bodyPost Try.prog Try.f40 (RetC noF k0 (IsTup2 (IsV r.1) (IsV r.2)))) := letsOutC
 have hg : Chg noF k0 k := by rw [hk0]; exact Chg.refl _ k0
 refine stepL 2 (⟨some IsE0, []⟩ :: ⟨some (IsI 0), []⟩ :: []) rfl ⟨hg, hs, hd⟩ (by kernel_rfl) ⟨ob1 rfl fun b q h n => ok_assign rfl isE0_nil, aI rfl rfl, trivial⟩ [⟨_, _⟩, ⟨_, _⟩, ⟨_, _⟩] (fun b q p => ⟨p.ke 0 rfl i0, p.ke 1 rfl i1, p.ke 2 rfl i2, trivial⟩) ?_
 rintro a k ⟨⟨hg, hs, hd⟩, i0, i1, i2, _⟩
 refine wp_seq ?_
 refine wp_seq ?_
 obtain ⟨x1, hx1, hr⟩ := bind_some hr
 obtain ⟨x2, hx2, hr⟩ := bind_some hr
 obtain ⟨x3, hx3, hx2⟩ := ite_bindF hx2
 refine cut (fun a' k' => Bs noF k0 70 a' k' ∧ (IsV a_) (a'.get 0) k' ∧ (IsV b_) (a'.get 1) k' ∧ (IsFn2T Try.prog op_) (a'.get 2) k' ∧ (IsV x2) (a'.get 20) k' ∧ True) ?_ hQ ?_
 ·intro Q1 W1 w1
  refine gS 8 (_ :: _ :: _ :: _ :: _ :: _ :: _ :: _ :: []) hs (by kernel_rfl) ⟨mu rfl i0, o1 [(13, some 0)] rfl fun _ _ h n => ok_call rfl Try.call56 (solid_Right_ok n.1 hx1), o1 [(14, some 1)] rfl fun _ _ h n => ok_not rfl n.1, cm 2 rfl rfl, mF rfl rfl i1, gF [(17, some 4)] rfl rfl fun hp _ _ h n => ok_call rfl Try.call56 (solid_Right_ok (Gd.get n.1 hp) (hx3 hp)), gF [(18, some 5)] rfl rfl fun hp _ _ h n => ok_not rfl (Gd.get n.1 hp), o1 [(16, some 3), (19, some 6)] rfl fun _ _ h n => ok_pickM rfl n.1 hx2 (cB rfl) (Gd.get n.2.1), trivial⟩ W1 fun b q p => ?_
  exact tail_done (k := q) (w1 _ _ ⟨Bs.post ⟨hg, hs, hd⟩ p, p.ke 0 rfl i0, p.ke 1 rfl i1, p.ke 2 rfl i2, p.ou 7 20 rfl, trivial⟩)
 rintro a k ⟨⟨hg, hs, hd⟩, i0, i1, i2, i20, _⟩
 refine wp_cond_split (isBool i20) (fun hc1929 => ?_) (fun hc1929 => ?_)
 ·rw [if_pos hc1929] at hr
  refine cutL noF k0 70 [⟨6, IsV ([] : List Slab)⟩, ⟨7, IsI 1⟩] ?_ ?_
  ·intro Q2 W2 w2
   refine gS 2 (⟨some IsE0, []⟩ :: ⟨some (IsI 1), []⟩ :: []) hs (by kernel_rfl) ⟨ob1 rfl fun b q h n => ok_assign rfl isE0_nil, aI rfl rfl, trivial⟩ W2 fun b q p => ?_
   have hgq := hg.then p.grow
   have hsb := p.size.trans hs
   have hdb := p.defers.trans hd
   have j6 : IsE0 (b.get 6) q := p.ou 0 6 rfl
   have j7 : (IsI 1) (b.get 7) q := p.ou 1 7 rfl
   replace j6 : IsV ([] : List Slab) (b.get 6) q := j6.isV
   exact tail_done (k := q) (w2 _ _ ⟨⟨hgq, hsb, hdb⟩, j6, j7, trivial⟩)
  rintro a k ⟨⟨hg, hs, hd⟩, i6, i7, _⟩
  refine wp_ret ?_
  obtain rfl := Option.some.inj hr
  exact retC2 rfl hd hg i6 i7
 rw [if_neg (by rw [hc1929]; decide)] at hr
 refine wp_skip ?_
 refine wp_seq ?_
 obtain ⟨x4, hx4, hr⟩ := bind_some hr
 refine cut (fun a' k' => Bs noF k0 70 a' k' ∧ (IsV a_) (a'.get 0) k' ∧ (IsV b_) (a'.get 1) k' ∧ (IsFn2T Try.prog op_) (a'.get 2) k' ∧ (IsV x4) (a'.get 8) k' ∧ True) ?_ hQ ?_
 ·intro Q3 W3 w3
  refine gS 5 (_ :: _ :: ⟨some (IsV (α := (List (List Slab))) ([a_, b_])), [(21, some 0), (22, some 1)]⟩ :: _ :: _ :: []) hs (by kernel_rfl) ⟨mu rfl i0, mu rfl i1, ob1 rfl fun _ _ h n => ok_buildSlice rfl Try.underlying84 eo22 rfl (by decide) (by decide) ⟨rfl, n.1, rfl, n.2.1, trivial⟩, o1 [(23, some 2)] rfl fun _ _ h n => ok_call rfl Try.call36 (solid_heights_ok n.1 hx4), cp 3 rfl rfl, trivial⟩ W3 fun b q p => ?_
  exact tail_done (k := q) (w3 _ _ ⟨Bs.post ⟨hg, hs, hd⟩ p, p.ke 0 rfl i0, p.ke 1 rfl i1, p.ke 2 rfl i2, p.ou 4 8 rfl, trivial⟩)
 rintro a k ⟨⟨hg, hs, hd⟩, i0, i1, i2, i8, _⟩
 refine cutS (fun c l => Bs noF k0 70 c l ∧ IsV a_ (c.get 0) l ∧ IsV b_ (c.get 1) l ∧ IsFn2T Try.prog op_ (c.get 2) l ∧ IsV x4 (c.get 8) l ∧ IsOwn 0 51 ([] : List Slab) (c.get 9) l ∧ Lo k0 (obF (c.get 9)) ∧ True) ?_ ?_
 ·intro Q4 W4 w4
  refine gS 1 (⟨some IsE0, []⟩ :: []) hs (by kernel_rfl) ⟨ob1 rfl fun b q h n => ok_assign rfl isE0_nil, trivial⟩ W4 fun b q p => ?_
  have hgq := hg.then p.grow
  have hsb := p.size.trans hs
  have hdb := p.defers.trans hd
  have j0 := p.ke 0 rfl i0
  have j1 := p.ke 1 rfl i1
  have j2 := p.ke 2 rfl i2
  have j8 := p.ke 8 rfl i8
  have j9 : IsE0 (b.get 9) q := p.ou 0 9 rfl
  have y9 : Lo k0 (obF (b.get 9)) := j9.lo
  replace j9 : IsOwn 0 51 ([] : List Slab) (b.get 9) q := j9.own0
  exact tail_done (k := q) (w4 _ _ ⟨⟨hgq, hsb, hdb⟩, j0, j1, j2, j8, j9, y9, trivial⟩)
 rintro a k ⟨⟨hg, hs, hd⟩, i0, i1, i2, i8, i9, n9, _⟩
 refine wp_seq ?_
 refine cutS (fun c l => Bs noF k0 70 c l ∧ IsV a_ (c.get 0) l ∧ IsV b_ (c.get 1) l ∧ IsFn2T Try.prog op_ (c.get 2) l ∧ IsV x4 (c.get 8) l ∧ IsOwn 0 51 ([] : List Slab) (c.get 9) l ∧ Lo k0 (obF (c.get 9)) ∧ IsI 1 (c.get 10) l ∧ True) ?_ ?_
 ·intro Q5 W5 w5
  refine gS 1 (⟨some (IsI 1), []⟩ :: []) hs (by kernel_rfl) ⟨aI rfl rfl, trivial⟩ W5 fun b q p => ?_
  exact tail_done (k := q) (w5 _ _ ⟨Bs.post ⟨hg, hs, hd⟩ p, p.ke 0 rfl i0, p.ke 1 rfl i1, p.ke 2 rfl i2, p.ke 8 rfl i8, p.ke 9 rfl i9, (by rw [p.old 9 rfl]; exact n9), p.ou 0 10 rfl, trivial⟩)
 rintro a k ⟨⟨hg, hs, hd⟩, i0, i1, i2, i8, i9, n9, i10, _⟩
 refine wp_block ?_
 obtain ⟨f1, hf1, hr⟩ := bind_some hr
 refine cutFe f1 (fun s' c l => Bs noF k0 70 c l ∧ IsV a_ (c.get 0) l ∧ IsV b_ (c.get 1) l ∧ IsFn2T Try.prog op_ (c.get 2) l ∧ IsV x4 (c.get 8) l ∧ IsOwn 0 51 s'.1 (c.get 9) l ∧ Lo k0 (obF (c.get 9)) ∧ IsV s'.2 (c.get 10) l ∧ True) (fun i' s' c l => (i' = 0 ∧ Bs noF k0 70 c l ∧ IsV s'.1 (c.get 9) l ∧ True)) (fun r' c l => bodyPost Try.prog Try.f40 (RetC noF k0 (IsTup2 (IsV r'.1) (IsV r'.2))) .ret c l.w) ?_ hQ ?_ ?_ ?_
 ·intro Q6 W6 hgo hex hret
  refine sim_loop ?_ _ _ _ _ _ hf1 ⟨⟨hg, hs, hd⟩, i0, i1, i2, i8, i9, n9, i10, trivial⟩ Q6 W6 hgo hex hret
  clear hr hf1 hgo hex hret W6 hQ hg hs hd i0 i1 i10 i2 i8 i9 n9
  intro s1 fl_ a k hr hS Q hQ hgo1892 hex1893 hret1894
  obtain ⟨⟨hg, hs, hd⟩, i0, i1, i2, i8, i9, n9, i10, _⟩ := hS
  unfold solid_combine_L0 at hr
  refine wp_seq ?_
  refine cutS (fun c l => Bs noF k0 70 c l ∧ IsV a_ (c.get 0) l ∧ IsV b_ (c.get 1) l ∧ IsFn2T Try.prog op_ (c.get 2) l ∧ IsV x4 (c.get 8) l ∧ IsOwn 0 51 s1.1 (c.get 9) l ∧ Lo k0 (obF (c.get 9)) ∧ IsV s1.2 (c.get 10) l ∧ (IsV (decide (s1.2 < (x4.length : Int)))) (c.get 28) l ∧ True) ?_ ?_
  ·intro Q7 W7 w6
   refine gS 4 (_ :: _ :: _ :: _ :: []) hs (by kernel_rfl) ⟨mu rfl i10, mu rfl i8, o1 [(26, some 1)] rfl fun _ _ h n => ok_len rfl rfl Try.underlying63 (IsV.rd n.1), o1 [(25, some 0), (27, some 2)] rfl fun _ _ h n => ok_lss rfl n.1 n.2.1, trivial⟩ W7 fun b q p => ?_
   exact tail_done (k := q) (w6 _ _ ⟨Bs.post ⟨hg, hs, hd⟩ p, p.ke 0 rfl i0, p.ke 1 rfl i1, p.ke 2 rfl i2, p.ke 8 rfl i8, p.ke 9 rfl i9, (by rw [p.old 9 rfl]; exact n9), p.ke 10 rfl i10, p.ou 3 28 rfl, trivial⟩)
  rintro a k ⟨⟨hg, hs, hd⟩, i0, i1, i2, i8, i9, n9, i10, i28, _⟩
  refine wp_cond_split (isBool i28) (fun hc1913 => ?_) (fun hc1913 => ?_)
  ·rw [if_pos hc1913] at hr
   refine wp_skip ?_
   refine wp_seq ?_
   refine wp_block ?_
   refine wp_seq ?_
   obtain ⟨x5, hx5, hr⟩ := bind_some hr
   obtain ⟨x6, hx6, hr⟩ := bind_some hr
   obtain ⟨x7, hx7, hr⟩ := bind_some hr
   obtain ⟨x8, hx8, hr⟩ := bind_some hr
   obtain ⟨x9, hx9, hr⟩ := bind_some hr
   obtain ⟨x10, hx10, hr⟩ := bind_some hr
   obtain ⟨x11, hx11, hr⟩ := bind_some hr
   refine cut (fun a' k' => Bs noF k0 70 a' k' ∧ (IsV a_) (a'.get 0) k' ∧ (IsV b_) (a'.get 1) k' ∧ (IsFn2T Try.prog op_) (a'.get 2) k' ∧ (IsV x4) (a'.get 8) k' ∧ IsOwn 0 51 s1.1 (a'.get 9) k' ∧ Lo k0 (obF (a'.get 9)) ∧ (IsV s1.2) (a'.get 10) k' ∧ (IsV x11.1) (a'.get 11) k' ∧ (IsV x11.2) (a'.get 12) k' ∧ True) ?_ hQ ?_
   ·intro Q8 W8 w7
    refine region (m := 21) (_ :: _ :: _ :: _ :: _ :: _ :: _ :: _ :: _ :: _ :: _ :: _ :: _ :: _ :: _ :: ⟨some (IsTup2 (IsV x11.1) (IsV x11.2)), [(32, some 0), (39, some 7), (46, some 14)]⟩ :: _ :: _ :: _ :: _ :: _ :: []) hmix hs (by kernel_rfl) ⟨mu rfl i2, mu rfl i0, mu rfl i8, mu rfl i10, o1 [(35, some 3)] rfl fun _ _ h n => ok_sub rfl n.1 (cI rfl) hx5, o1 [(34, some 2), (36, some 4)] rfl fun _ _ h n => ok_indexAddr rfl Try.underlying63 ty3 (IsV.rd n.1) n.2.1 hx6, o1 [(37, some 5)] rfl fun _ _ h n => ok_load rfl ty3 n.1, o1 [(33, some 1), (38, some 6)] rfl fun _ _ h n => ok_call rfl Try.call58 (solid_at_ok n.1 n.2.1 hx7), mu rfl i1, mu rfl i8, mu rfl i10, o1 [(42, some 10)] rfl fun _ _ h n => ok_sub rfl n.1 (cI rfl) hx8, o1 [(41, some 9), (43, some 11)] rfl fun _ _ h n => ok_indexAddr rfl Try.underlying63 ty3 (IsV.rd n.1) n.2.1 hx9, o1 [(44, some 12)] rfl fun _ _ h n => ok_load rfl ty3 n.1, o1 [(40, some 8), (45, some 13)] rfl fun _ _ h n => ok_call rfl Try.call58 (solid_at_ok n.1 n.2.1 hx10), ob1 rfl fun _ _ h n => ok_callF2T rfl n.1 n.2.1 n.2.2.1 hx11, cm 15 rfl rfl, o1 [(31, some 16)] rfl fun _ _ h n => ok_ext2_0 rfl n.1, o1 [(31, some 16)] rfl fun _ _ h n => ok_ext2_1 rfl n.1, cp 17 rfl rfl, cp 18 rfl rfl, trivial⟩ W8 fun b q p => ?_
    exact tail_done (k := q) (w7 _ _ ⟨Bs.post ⟨hg, hs, hd⟩ p, p.ke 0 rfl i0, p.ke 1 rfl i1, p.ke 2 rfl i2, p.ke 8 rfl i8, p.ke 9 rfl i9, (by rw [p.old 9 rfl]; exact n9), p.ke 10 rfl i10, p.ou 19 11 rfl, p.ou 20 12 rfl, trivial⟩)
   rintro a k ⟨⟨hg, hs, hd⟩, i0, i1, i2, i8, i9, n9, i10, i11, i12, _⟩
   refine wp_seq ?_
   refine cutS (fun c l => Bs noF k0 70 c l ∧ IsV a_ (c.get 0) l ∧ IsV b_ (c.get 1) l ∧ IsFn2T Try.prog op_ (c.get 2) l ∧ IsV x4 (c.get 8) l ∧ IsOwn 0 51 s1.1 (c.get 9) l ∧ Lo k0 (obF (c.get 9)) ∧ IsV s1.2 (c.get 10) l ∧ IsV x11.1 (c.get 11) l ∧ IsV x11.2 (c.get 12) l ∧ IsV (x11.2 != 0) (c.get 51) l ∧ True) ?_ ?_
   ·intro Q9 W9 w8
    refine gS 2 (_ :: ⟨some (IsV (x11.2 != 0)), [(50, some 0)]⟩ :: []) hs (by kernel_rfl) ⟨mu rfl i12, ob1 rfl fun _ _ h n => ok_neI rfl n.1 (cI rfl), trivial⟩ W9 fun b q p => ?_
    exact tail_done (k := q) (w8 _ _ ⟨Bs.post ⟨hg, hs, hd⟩ p, p.ke 0 rfl i0, p.ke 1 rfl i1, p.ke 2 rfl i2, p.ke 8 rfl i8, p.ke 9 rfl i9, (by rw [p.old 9 rfl]; exact n9), p.ke 10 rfl i10, p.ke 11 rfl i11, p.ke 12 rfl i12, p.ou 1 51 rfl, trivial⟩)
   rintro a k ⟨⟨hg, hs, hd⟩, i0, i1, i2, i8, i9, n9, i10, i11, i12, i51, _⟩
   refine wp_cond_split (isBool i51) (fun hc1907 => ?_) (fun hc1907 => ?_)
   ·rw [if_pos hc1907] at hr
    refine cutL noF k0 70 [⟨6, IsV ([] : List Slab)⟩, ⟨7, IsV x11.2⟩] ?_ ?_
    ·intro Q10 W10 w9
     refine gS 3 (_ :: ⟨some IsE0, []⟩ :: _ :: []) hs (by kernel_rfl) ⟨mu rfl i12, ob1 rfl fun b q h n => ok_assign rfl isE0_nil, cp 0 rfl rfl, trivial⟩ W10 fun b q p => ?_
     have hgq := hg.then p.grow
     have hsb := p.size.trans hs
     have hdb := p.defers.trans hd
     have j6 : IsE0 (b.get 6) q := p.ou 1 6 rfl
     have j7 : (IsV x11.2) (b.get 7) q := p.ou 2 7 rfl
     replace j6 : IsV ([] : List Slab) (b.get 6) q := j6.isV
     exact tail_done (k := q) (w9 _ _ ⟨⟨hgq, hsb, hdb⟩, j6, j7, trivial⟩)
    rintro a k ⟨⟨hg, hs, hd⟩, i6, i7, _⟩
    refine wp_ret ?_
    exact hret1894 _ _ _ (Option.some.inj hr).symm (retC2 rfl hd hg i6 i7)
   rw [if_neg (by rw [hc1907]; decide)] at hr
   refine wp_skip ?_
   obtain ⟨x12, hx12, hr⟩ := bind_some hr
   obtain ⟨x13, hx13, hr⟩ := bind_some hr
   obtain ⟨x14, hx14, hr⟩ := bind_some hr
   obtain ⟨x15, hx15, hr⟩ := bind_some hr
   refine cut (fun a' k' => Bs noF k0 70 a' k' ∧ (IsV a_) (a'.get 0) k' ∧ (IsV b_) (a'.get 1) k' ∧ (IsFn2T Try.prog op_) (a'.get 2) k' ∧ (IsV x4) (a'.get 8) k' ∧ IsOwn 0 51 x15 (a'.get 9) k' ∧ Lo k0 (obF (a'.get 9)) ∧ (IsV s1.2) (a'.get 10) k' ∧ True) ?_ hQ ?_
   ·intro Q11 W11 w10
    refine region (m := 12) (⟨some (OwnAt (a.get 9) 0 51 s1.1), [(9, none)]⟩ :: _ :: _ :: _ :: _ :: _ :: _ :: _ :: _ :: _ :: _ :: ⟨some (IsV (⟨x13, x14, x11.1⟩ : Slab)), [(58, some 5), (62, some 9), (63, some 10)]⟩ :: []) hmix hs (by kernel_rfl) ⟨ob1 rfl fun _ _ h n => ok_moveOA (.inl rfl) (ownAt n.1 (up i9 h n.1)), mu rfl i8, mu rfl i10, o1 [(55, some 2)] rfl fun _ _ h n => ok_sub rfl n.1 (cI rfl) hx12, o1 [(54, some 1), (56, some 3)] rfl fun _ _ h n => ok_indexAddr rfl Try.underlying63 ty3 (IsV.rd n.1) n.2.1 hx13, o1 [(57, some 4)] rfl fun _ _ h n => ok_load rfl ty3 n.1, mu rfl i8, mu rfl i10, o1 [(59, some 6), (60, some 7)] rfl fun _ _ h n => ok_indexAddr rfl Try.underlying63 ty3 (IsV.rd n.1) n.2.1 hx14, o1 [(61, some 8)] rfl fun _ _ h n => ok_load rfl ty3 n.1, mu rfl i11, ob1 rfl fun _ _ h n => ok_build rfl (bld51_0_1_2 n.1 n.2.1 n.2.2.1), trivial⟩ W11 fun b q p => ?_
    have hgq := hg.then p.grow
    have hsb := p.size.trans hs
    have hdb := p.defers.trans hd
    have j0 := p.ke 0 rfl i0
    have j1 := p.ke 1 rfl i1
    have j2 := p.ke 2 rfl i2
    have j8 := p.ke 8 rfl i8
    have j10 := p.ke 10 rfl i10
    have e53 : b.get 53 = a.get 9 := (p.ou 0 53 rfl).1
    have j53 : IsOwn 0 51 s1.1 (b.get 53) q := (p.ou 0 53 rfl).2
    have y53 : Lo k0 (obF (b.get 53)) := by rw [e53]; exact n9
    have j64 : (IsV (⟨x13, x14, x11.1⟩ : Slab)) (b.get 64) q := p.ou 11 64 rfl
    have hns := j53.nshF
    refine tail_call (F := obF (b.get 53)) (i := 12) (d := 65) rfl rfl rfl rfl (by rw [hsb]; decide) Try.call38 W11 (solid_put_ok j53 j64 hx15) fun b2 q2 hsz hdf hoth hch hres => ?_
    have hle := hch.le hns
    obtain ⟨hown, hob⟩ := hres
    have yn : Lo k0 (obF (b2.get 65)) := y53.app hgq hob
    replace j0 := Pers.pers hle j0
    replace j1 := Pers.pers hle j1
    replace j2 := Pers.pers hle j2
    replace j8 := Pers.pers hle j8
    replace j10 := Pers.pers hle j10
    replace j64 := Pers.pers hle j64
    replace hgq := hgq.step hch y53.wr
    rw [← hoth 0 (by decide)] at j0
    rw [← hoth 1 (by decide)] at j1
    rw [← hoth 2 (by decide)] at j2
    rw [← hoth 8 (by decide)] at j8
    rw [← hoth 10 (by decide)] at j10
    rw [← hoth 64 (by decide)] at j64
    have j65 := hown
    have y65 := yn
    have hres := True.intro
    clear hown hob yn
    replace hsb := hsz.trans hsb
    replace hdb := hdf.trans hdb
    clear hle hch hres hns hsz hdf hoth
    obtain ⟨b, hbb⟩ : ∃ b, b = b2 := ⟨b2, rfl⟩
    subst hbb
    obtain ⟨q, hqq⟩ : ∃ q, q = q2 := ⟨q2, rfl⟩
    subst hqq
    refine tail_assign (i := 13) (d := 9) rfl rfl (.inl rfl) rfl (by rw [hsb]; decide) fun b2 hsz hdf hnew hoth => ?_
    have jn : (IsOwn 0 51 x15) (b2.get 9) q := by rw [hnew]; exact j65
    have yn : Lo k0 (obF (b2.get 9)) := by rw [hnew]; exact y65
    rw [← hoth 0 (by decide)] at j0
    rw [← hoth 1 (by decide)] at j1
    rw [← hoth 2 (by decide)] at j2
    rw [← hoth 8 (by decide)] at j8
    rw [← hoth 10 (by decide)] at j10
    rw [← hoth 64 (by decide)] at j64
    have j9 := jn
    have y9 := yn
    replace hsb := hsz.trans hsb
    replace hdb := hdf.trans hdb
    clear hsz hdf hoth
    obtain ⟨b, hbb⟩ : ∃ b, b = b2 := ⟨b2, rfl⟩
    subst hbb
    exact tail_done (k := q) (w10 _ _ ⟨⟨hgq, hsb, hdb⟩, j0, j1, j2, j8, j9, y9, j10, trivial⟩)
   rintro a k ⟨⟨hg, hs, hd⟩, i0, i1, i2, i8, i9, n9, i10, _⟩
   obtain ⟨x16, hx16, hr⟩ := bind_some hr
   refine cut (fun a' k' => Bs noF k0 70 a' k' ∧ (IsV a_) (a'.get 0) k' ∧ (IsV b_) (a'.get 1) k' ∧ (IsFn2T Try.prog op_) (a'.get 2) k' ∧ (IsV x4) (a'.get 8) k' ∧ IsOwn 0 51 x15 (a'.get 9) k' ∧ Lo k0 (obF (a'.get 9)) ∧ (IsV x16) (a'.get 10) k' ∧ True) ?_ hQ ?_
   ·intro Q12 W12 w11
    refine gS 3 (_ :: _ :: _ :: []) hs (by kernel_rfl) ⟨mu rfl i10, o1 [(29, some 0)] rfl fun _ _ h n => ok_add rfl n.1 (cI rfl) hx16, cp 1 rfl rfl, trivial⟩ W12 fun b q p => ?_
    exact tail_done (k := q) (w11 _ _ ⟨Bs.post ⟨hg, hs, hd⟩ p, p.ke 0 rfl i0, p.ke 1 rfl i1, p.ke 2 rfl i2, p.ke 8 rfl i8, p.ke 9 rfl i9, (by rw [p.old 9 rfl]; exact n9), p.ou 2 10 rfl, trivial⟩)
   rintro a k ⟨⟨hg, hs, hd⟩, i0, i1, i2, i8, i9, n9, i10, _⟩
   exact hgo1892 _ _ _ (Option.some.inj hr).symm ⟨⟨hg, hs, hd⟩, i0, i1, i2, i8, i9, n9, i10, trivial⟩
  rw [if_neg (by rw [hc1913]; decide)] at hr
  refine wp_exit ?_
  obtain ⟨kk, sh1912, ii9⟩ := i9.give
  replace i9 := ii9
  replace hg := hg.hand sh1912 n9.wr
  rw [← sh1912.w]
  clear sh1912
  obtain ⟨k, hkk⟩ : ∃ k, k = kk := ⟨kk, rfl⟩
  subst hkk
  exact hex1893 _ _ _ _ (Option.some.inj hr).symm ⟨rfl, ⟨hg, hs, hd⟩, i9, trivial⟩
 ·rintro r1 a k rfl hR
  dsimp only at hr
  obtain rfl := Option.some.inj hr
  exact hR
 ·rintro _ _ _ rfl _
  simp at hr
 clear hf1
 rintro _ s2 a k rfl ⟨rfl, ⟨hg, hs, hd⟩, i9, _⟩
 dsimp only at hr
 refine wp_seq ?_
 obtain ⟨x17, hx17, hr⟩ := bind_some hr
 refine cut (fun a' k' => Bs noF k0 70 a' k' ∧ (IsV x17.1) (a'.get 6) k' ∧ (IsV x17.2) (a'.get 7) k' ∧ True) ?_ hQ ?_
 ·intro Q13 W13 w12
  refine gS 6 (_ :: _ :: _ :: _ :: _ :: _ :: []) hs (by kernel_rfl) ⟨mu rfl i9, o1 [(66, some 0)] rfl fun _ _ h n => ok_call rfl Try.call39 (solid_fits_ok n.1 hx17), o1 [(67, some 1)] rfl fun _ _ h n => ok_ext2_0 rfl n.1, o1 [(67, some 1)] rfl fun _ _ h n => ok_ext2_1 rfl n.1, cp 2 rfl rfl, cp 3 rfl rfl, trivial⟩ W13 fun b q p => ?_
  exact tail_done (k := q) (w12 _ _ ⟨Bs.post ⟨hg, hs, hd⟩ p, p.ou 4 6 rfl, p.ou 5 7 rfl, trivial⟩)
 rintro a k ⟨⟨hg, hs, hd⟩, i6, i7, _⟩
 refine wp_ret ?_
 obtain rfl := Option.some.inj hr
 exact retC2 rfl hd hg i6 i7
def slices_BinarySearchFunc_strip_int_L0 (x_ : (List RegionStrip)) (target_ : Int) (cmp_ : (RegionStrip → Int → Option (Int))) (s1 : Int × Int) : Option (Flow (Int × Int) (Int × Bool)) :=
 if (decide (s1.1 < s1.2)) then
  (addI s1.1 s1.2).bind fun x1 =>
  (getI x_ (IntKind.i64.wrap (IK.shr (IK.mk (IntKind.u64.wrap x1) : IK .u64) 1).n)).bind fun x2 =>
  (cmp_ x2 target_).bind fun x3 =>
  (if (decide (x3 < 0)) then
   (addI (IntKind.i64.wrap (IK.shr (IK.mk (IntKind.u64.wrap x1) : IK .u64) 1).n) 1).bind fun x4 =>
   some (x4, s1.2)
  else
   some (s1.1, (IntKind.i64.wrap (IK.shr (IK.mk (IntKind.u64.wrap x1) : IK .u64) 1).n))).bind fun s2 =>
  some (.go (s2.1, s2.2))
 else
  some (.ex 0 (s1.1, s1.2))
def slices_BinarySearchFunc_strip_int (x_ : (List RegionStrip)) (target_ : Int) (cmp_ : (RegionStrip → Int → Option (Int))) : Option (Int × Bool) :=
 (iterL (slices_BinarySearchFunc_strip_int_L0 x_ target_ cmp_) (x_.length + 1) (0, (x_.length : Int))).bind fun f1 => match f1 with
  | .go _ => none
  | .ex _ s1 =>
   (if (decide (s1.1 < (x_.length : Int))) then
    (getI x_ s1.1).bind fun x1 =>
    (cmp_ x1 target_).bind fun x2 =>
    some (x2 == 0)
   else
    some false).bind fun x3 =>
   some (s1.1, x3)
  | .ret r1 => some r1
theorem slices_BinarySearchFunc_strip_int_ok {k0 : K} {v0 v1 v2 : Value} {x_ : (List RegionStrip)} {target_ : Int} {cmp_ : (RegionStrip → Int → Option (Int))} {r : Int × Bool} (i0 : (IsV x_) v0 k0) (i1 : (IsV target_) v1 k0) (i2 : (IsFn2 Try.prog cmp_) v2 k0) (hr : slices_BinarySearchFunc_strip_int x_ target_ cmp_ = some r) :
  Calls Try.prog 104 #[v0, v1, v2] k0.w (Ret k0 (IsTup2 (IsV r.1) (IsV r.2))) := by
 unfold slices_BinarySearchFunc_strip_int at hr
 refine Ret.ofC ?_
 refine enterK Try.func104 rfl Try.ntmps104 (show 3 ≤ 49 by decide) fun a k hk0 hs hd ha => ?_
 obtain ⟨e0, e1, e2, _⟩ := ha
 replace i0 : (IsV x_) (a.get 0) k := by rw [e0, hk0]; exact i0
 replace i1 : (IsV target_) (a.get 1) k := by rw [e1, hk0]; exact i1
 replace i2 : (IsFn2 Try.prog cmp_) (a.get 2) k := by rw [e2, hk0]; exact i2
 have hQ : Gb.LetsOut (bodyPost Try.prog Try.f104 (RetC noF k0 (IsTup2 (IsV r.1) (IsV r.2)))) := letsOutC
 have hg : Chg noF k0 k := by rw [hk0]; exact Chg.refl _ k0
 refine stepL 2 (⟨some (IsI 0), []⟩ :: ⟨some (IsV false), []⟩ :: []) rfl ⟨hg, hs, hd⟩ (by kernel_rfl) ⟨aI rfl rfl, ob1 rfl fun _ _ h n => ok_assign rfl (isV_bool.2 rfl), trivial⟩ [⟨_, _⟩, ⟨_, _⟩, ⟨_, _⟩] (fun b q p => ⟨p.ke 0 rfl i0, p.ke 1 rfl i1, p.ke 2 rfl i2, trivial⟩) ?_
 rintro a k ⟨⟨hg, hs, hd⟩, i0, i1, i2, _⟩
 refine stepL 3 (_ :: _ :: _ :: []) rfl ⟨hg, hs, hd⟩ (by kernel_rfl) ⟨mu rfl i0, o1 [(12, some 0)] rfl fun _ _ h n => ok_len rfl rfl Try.underlying88 (IsV.rd n.1), cp 1 rfl rfl, trivial⟩ [⟨_, _⟩, ⟨_, _⟩, ⟨_, _⟩, ⟨_, _⟩] (fun b q p => ⟨p.ke 0 rfl i0, p.ke 1 rfl i1, p.ke 2 rfl i2, p.ou 2 8 rfl, trivial⟩) ?_
 rintro a k ⟨⟨hg, hs, hd⟩, i0, i1, i2, i8, _⟩
 refine stepL 3 (_ :: ⟨some (IsI 0), []⟩ :: _ :: []) rfl ⟨hg, hs, hd⟩ (by kernel_rfl) ⟨mu rfl i8, aI rfl rfl, cp 0 rfl rfl, trivial⟩ [⟨_, _⟩, ⟨_, _⟩, ⟨_, _⟩, ⟨_, _⟩, ⟨_, _⟩, ⟨_, _⟩] (fun b q p => ⟨p.ke 0 rfl i0, p.ke 1 rfl i1, p.ke 2 rfl i2, p.ke 8 rfl i8, p.ou 1 9 rfl, p.ou 2 10 rfl, trivial⟩) ?_
 rintro a k ⟨⟨hg, hs, hd⟩, i0, i1, i2, i8, i9, i10, _⟩
 refine wp_seq ?_
 refine wp_block ?_
 obtain ⟨f1, hf1, hr⟩ := bind_some hr
 refine cutFe f1 (fun s' c l => Bs noF k0 49 c l ∧ IsV x_ (c.get 0) l ∧ IsV target_ (c.get 1) l ∧ IsFn2 Try.prog cmp_ (c.get 2) l ∧ IsL x_ (c.get 8) l ∧ IsV s'.1 (c.get 9) l ∧ IsV s'.2 (c.get 10) l ∧ True) (fun i' s' c l => (i' = 0 ∧ Bs noF k0 49 c l ∧ IsV x_ (c.get 0) l ∧ IsV target_ (c.get 1) l ∧ IsFn2 Try.prog cmp_ (c.get 2) l ∧ IsL x_ (c.get 8) l ∧ IsV s'.1 (c.get 9) l ∧ True)) (fun r' c l => bodyPost Try.prog Try.f104 (RetC noF k0 (IsTup2 (IsV r'.1) (IsV r'.2))) .ret c l.w) ?_ hQ ?_ ?_ ?_
 ·intro Q1 W1 hgo hex hret
  refine sim_loop ?_ _ _ _ _ _ hf1 ⟨⟨hg, hs, hd⟩, i0, i1, i2, i8, i9, i10, trivial⟩ Q1 W1 hgo hex hret
  clear hr hf1 hgo hex hret W1 hQ hg hs hd i0 i1 i10 i2 i8 i9
  intro s1 fl_ a k hr hS Q hQ hgo1938 hex1939 hret1940
  obtain ⟨⟨hg, hs, hd⟩, i0, i1, i2, i8, i9, i10, _⟩ := hS
  unfold slices_BinarySearchFunc_strip_int_L0 at hr
  refine wp_seq ?_
  refine stepL 3 (_ :: _ :: _ :: []) rfl ⟨hg, hs, hd⟩ (by kernel_rfl) ⟨mu rfl i9, mu rfl i10, o1 [(15, some 0), (16, some 1)] rfl fun _ _ h n => ok_lss rfl n.1 n.2.1, trivial⟩ [⟨_, _⟩, ⟨_, _⟩, ⟨_, _⟩, ⟨_, _⟩, ⟨_, _⟩, ⟨_, _⟩, ⟨_, _⟩] (fun b q p => ⟨p.ke 0 rfl i0, p.ke 1 rfl i1, p.ke 2 rfl i2, p.ke 8 rfl i8, p.ke 9 rfl i9, p.ke 10 rfl i10, p.ou 2 17 rfl, trivial⟩) ?_
  rintro a k ⟨⟨hg, hs, hd⟩, i0, i1, i2, i8, i9, i10, i17, _⟩
  refine wp_cond_split (isBool i17) (fun hc1958 => ?_) (fun hc1958 => ?_)
  ·rw [if_pos hc1958] at hr
   refine wp_skip ?_
   refine wp_block ?_
   refine wp_seq ?_
   obtain ⟨x1, hx1, hr⟩ := bind_some hr
   refine cut (fun a' k' => Bs noF k0 49 a' k' ∧ (IsV x_) (a'.get 0) k' ∧ (IsV target_) (a'.get 1) k' ∧ (IsFn2 Try.prog cmp_) (a'.get 2) k' ∧ (IsL x_) (a'.get 8) k' ∧ (IsV s1.1) (a'.get 9) k' ∧ (IsV s1.2) (a'.get 10) k' ∧ (IsI (IntKind.i64.wrap (IK.shr (IK.mk (IntKind.u64.wrap x1) : IK .u64) 1).n)) (a'.get 11) k' ∧ True) ?_ hQ ?_
   ·intro Q2 W2 w1
    refine gS 7 (_ :: _ :: _ :: ⟨some (IsV (IK.mk (IntKind.u64.wrap x1) : IK .u64)), [(20, some 2)]⟩ :: ⟨some (IsV (IK.shr (IK.mk (IntKind.u64.wrap x1) : IK .u64) 1)), [(21, some 3)]⟩ :: ⟨some (IsI (IntKind.i64.wrap (IK.shr (IK.mk (IntKind.u64.wrap x1) : IK .u64) 1).n)), [(22, some 4)]⟩ :: _ :: []) hs (by kernel_rfl) ⟨mu rfl i9, mu rfl i10, o1 [(18, some 0), (19, some 1)] rfl fun _ _ h n => ok_add rfl n.1 n.2.1 hx1, ob1 rfl fun _ _ h n => ok_conv_ik rfl (by rw [Try.underlying3]; rfl) Try.underlying105 n.1, ob1 rfl fun _ _ h n => ok_shrK rfl n.1 (by decide) (by decide), ob1 rfl fun _ _ h n => ok_conv_ki rfl (by rw [Try.underlying105]; rfl) Try.underlying3 n.1, cp 5 rfl rfl, trivial⟩ W2 fun b q p => ?_
    exact tail_done (k := q) (w1 _ _ ⟨Bs.post ⟨hg, hs, hd⟩ p, p.ke 0 rfl i0, p.ke 1 rfl i1, p.ke 2 rfl i2, p.ke 8 rfl i8, p.ke 9 rfl i9, p.ke 10 rfl i10, p.ou 6 11 rfl, trivial⟩)
   rintro a k ⟨⟨hg, hs, hd⟩, i0, i1, i2, i8, i9, i10, i11, _⟩
   refine wp_seq ?_
   obtain ⟨x2, hx2, hr⟩ := bind_some hr
   obtain ⟨x3, hx3, hr⟩ := bind_some hr
   refine cut (fun a' k' => Bs noF k0 49 a' k' ∧ (IsV x_) (a'.get 0) k' ∧ (IsV target_) (a'.get 1) k' ∧ (IsFn2 Try.prog cmp_) (a'.get 2) k' ∧ (IsL x_) (a'.get 8) k' ∧ (IsV s1.1) (a'.get 9) k' ∧ (IsV s1.2) (a'.get 10) k' ∧ (IsI (IntKind.i64.wrap (IK.shr (IK.mk (IntKind.u64.wrap x1) : IK .u64) 1).n)) (a'.get 11) k' ∧ (IsV (decide (x3 < 0))) (a'.get 31) k' ∧ True) ?_ hQ ?_
   ·intro Q3 W3 w2
    refine gS 8 (_ :: _ :: _ :: _ :: _ :: _ :: ⟨some (IsV x3), [(24, some 0), (28, some 4), (29, some 5)]⟩ :: _ :: []) hs (by kernel_rfl) ⟨mu rfl i2, mu rfl i0, mu rfl i11, o1 [(25, some 1), (26, some 2)] rfl fun _ _ h n => ok_indexAddr rfl Try.underlying88 ty111 (IsV.rd n.1) n.2.1 hx2, o1 [(27, some 3)] rfl fun _ _ h n => ok_load rfl ty111 n.1, mu rfl i1, ob1 rfl fun _ _ h n => ok_callF2 rfl n.1 n.2.1 n.2.2.1 hx3, o1 [(30, some 6)] rfl fun _ _ h n => ok_lss rfl n.1 (cI rfl), trivial⟩ W3 fun b q p => ?_
    exact tail_done (k := q) (w2 _ _ ⟨Bs.post ⟨hg, hs, hd⟩ p, p.ke 0 rfl i0, p.ke 1 rfl i1, p.ke 2 rfl i2, p.ke 8 rfl i8, p.ke 9 rfl i9, p.ke 10 rfl i10, p.ke 11 rfl i11, p.ou 7 31 rfl, trivial⟩)
   rintro a k ⟨⟨hg, hs, hd⟩, i0, i1, i2, i8, i9, i10, i11, i31, _⟩
   obtain ⟨s2, hs2, hr⟩ := bind_some hr
   refine cut (fun a' k' => Bs noF k0 49 a' k' ∧ (IsV x_) (a'.get 0) k' ∧ (IsV target_) (a'.get 1) k' ∧ (IsFn2 Try.prog cmp_) (a'.get 2) k' ∧ (IsL x_) (a'.get 8) k' ∧ (IsV s2.1) (a'.get 9) k' ∧ (IsV s2.2) (a'.get 10) k' ∧ True) ?_ hQ ?_
   ·intro Q4 W4 w3
    replace hr := hs2
    clear hQ
    have hQ := W4
    refine wp_cond_split (isBool i31) (fun hc1952 => ?_) (fun hc1952 => ?_)
    ·rw [if_pos hc1952] at hr
     obtain ⟨x4, hx4, hr⟩ := bind_some hr
     refine cut (fun a' k' => Bs noF k0 49 a' k' ∧ (IsV x_) (a'.get 0) k' ∧ (IsV target_) (a'.get 1) k' ∧ (IsFn2 Try.prog cmp_) (a'.get 2) k' ∧ (IsL x_) (a'.get 8) k' ∧ (IsV x4) (a'.get 9) k' ∧ (IsV s1.2) (a'.get 10) k' ∧ True) ?_ hQ ?_
     ·intro Q5 W5 w4
      refine gS 3 (_ :: _ :: _ :: []) hs (by kernel_rfl) ⟨mu rfl i11, o1 [(32, some 0)] rfl fun _ _ h n => ok_add rfl n.1 (cI rfl) hx4, cp 1 rfl rfl, trivial⟩ W5 fun b q p => ?_
      exact tail_done (k := q) (w4 _ _ ⟨Bs.post ⟨hg, hs, hd⟩ p, p.ke 0 rfl i0, p.ke 1 rfl i1, p.ke 2 rfl i2, p.ke 8 rfl i8, p.ou 2 9 rfl, p.ke 10 rfl i10, trivial⟩)
     rintro a k ⟨⟨hg, hs, hd⟩, i0, i1, i2, i8, i9, i10, _⟩
     obtain rfl := Option.some.inj hr
     exact w3 _ _ ⟨⟨hg, hs, hd⟩, i0, i1, i2, i8, i9, i10, trivial⟩
    rw [if_neg (by rw [hc1952]; decide)] at hr
    refine cut (fun a' k' => Bs noF k0 49 a' k' ∧ (IsV x_) (a'.get 0) k' ∧ (IsV target_) (a'.get 1) k' ∧ (IsFn2 Try.prog cmp_) (a'.get 2) k' ∧ (IsL x_) (a'.get 8) k' ∧ (IsV s1.1) (a'.get 9) k' ∧ (IsI (IntKind.i64.wrap (IK.shr (IK.mk (IntKind.u64.wrap x1) : IK .u64) 1).n)) (a'.get 10) k' ∧ True) ?_ hQ ?_
    ·intro Q6 W6 w5
     refine gS 2 (_ :: _ :: []) hs (by kernel_rfl) ⟨mu rfl i11, cp 0 rfl rfl, trivial⟩ W6 fun b q p => ?_
     exact tail_done (k := q) (w5 _ _ ⟨Bs.post ⟨hg, hs, hd⟩ p, p.ke 0 rfl i0, p.ke 1 rfl i1, p.ke 2 rfl i2, p.ke 8 rfl i8, p.ke 9 rfl i9, p.ou 1 10 rfl, trivial⟩)
    rintro a k ⟨⟨hg, hs, hd⟩, i0, i1, i2, i8, i9, i10, _⟩
    obtain rfl := Option.some.inj hr
    exact w3 _ _ ⟨⟨hg, hs, hd⟩, i0, i1, i2, i8, i9, i10, trivial⟩
   clear hs2
   rintro a k ⟨⟨hg, hs, hd⟩, i0, i1, i2, i8, i9, i10, _⟩
   exact hgo1938 _ _ _ (Option.some.inj hr).symm ⟨⟨hg, hs, hd⟩, i0, i1, i2, i8, i9, i10, trivial⟩
  rw [if_neg (by rw [hc1958]; decide)] at hr
  refine wp_exit ?_
  exact hex1939 _ _ _ _ (Option.some.inj hr).symm ⟨rfl, ⟨hg, hs, hd⟩, i0, i1, i2, i8, i9, trivial⟩
 ·rintro r1 a k rfl hR
  dsimp only at hr
  obtain rfl := Option.some.inj hr
  exact hR
 ·rintro _ _ _ rfl _
  simp at hr
 clear hf1
 rintro _ s3 a k rfl ⟨rfl, ⟨hg, hs, hd⟩, i0, i1, i2, i8, i9, _⟩
 dsimp only at hr
 refine wp_seq ?_
 obtain ⟨x5, hx5, hr⟩ := bind_some hr
 obtain ⟨x6, hx6, hx5⟩ := ite_bind hx5
 obtain ⟨x7, hx7, hx5⟩ := ite_bind hx5
 refine cut (fun a' k' => Bs noF k0 49 a' k' ∧ (IsV s3.1) (a'.get 6) k' ∧ (IsV x5) (a'.get 7) k' ∧ True) ?_ hQ ?_
 ·intro Q7 W7 w6
  refine gS 16 (_ :: _ :: _ :: _ :: _ :: _ :: _ :: _ :: _ :: _ :: _ :: ⟨some (Gd ((decide (s3.1 < (x_.length : Int))) = true) (IsV x7)), [(40, some 5), (44, some 9), (45, some 10)]⟩ :: _ :: _ :: _ :: _ :: []) hs (by kernel_rfl) ⟨mu rfl i9, mu rfl i9, mu rfl i8, o1 [(36, some 1), (37, some 2)] rfl fun _ _ h n => ok_lss rfl n.1 n.2.1, cm 3 rfl rfl, mT rfl rfl i2, mT rfl rfl i0, mT rfl rfl i9, gT [(41, some 6), (42, some 7)] rfl rfl fun hp _ _ h n => ok_indexAddr rfl Try.underlying88 ty111 (IsV.rd (Gd.get n.1 hp)) (Gd.get n.2.1 hp) (hx6 hp), gT [(43, some 8)] rfl rfl fun hp _ _ h n => ok_load rfl ty111 (Gd.get n.1 hp), mT rfl rfl i1, gdT rfl rfl fun hp _ _ h n => ok_callF2 rfl (Gd.get n.1 hp) (Gd.get n.2.1 hp) (Gd.get n.2.2.1 hp) (hx7 hp), gT [(46, some 11)] rfl rfl fun hp _ _ h n => ok_eqI rfl (Gd.get n.1 hp) (cI rfl), o1 [(39, some 4), (47, some 12)] rfl fun _ _ h n => ok_pickM rfl n.1 hx5 (Gd.get n.2.1) (cB rfl), cp 0 rfl rfl, cp 13 rfl rfl, trivial⟩ W7 fun b q p => ?_
  exact tail_done (k := q) (w6 _ _ ⟨Bs.post ⟨hg, hs, hd⟩ p, p.ou 14 6 rfl, p.ou 15 7 rfl, trivial⟩)
 rintro a k ⟨⟨hg, hs, hd⟩, i6, i7, _⟩
 refine wp_ret ?_
 obtain rfl := Option.some.inj hr
 exact retC2 rfl hd hg i6 i7
def region_at_1 (s_ : RegionStrip) (x_ : Int) : Option (Int) :=
 if (decide (s_.x1 ≤ x_)) then
  some (-1)
 else
  some 1
theorem region_at_1_ok {k0 : K} {v0 v1 : Value} {s_ : RegionStrip} {x_ : Int} {r : Int} (i0 : (IsV s_) v0 k0) (i1 : (IsV x_) v1 k0) (hr : region_at_1 s_ x_ = some r) :
  Calls Try.prog 105 #[v0, v1] k0.w (Ret k0 (IsV r)) := by
 unfold region_at_1 at hr
 refine Ret.ofC ?_
 refine enterK Try.func105 rfl Try.ntmps105 (show 2 ≤ 9 by decide) fun a k hk0 hs hd ha => ?_
 obtain ⟨e0, e1, _⟩ := ha
 replace i0 : (IsV s_) (a.get 0) k := by rw [e0, hk0]; exact i0
 replace i1 : (IsV x_) (a.get 1) k := by rw [e1, hk0]; exact i1
 have hQ : Gb.LetsOut (bodyPost Try.prog Try.f105 (RetC noF k0 (IsV r))) := letsOutC
 have hg : Chg noF k0 k := by rw [hk0]; exact Chg.refl _ k0
 refine stepL 2 (⟨some (IsRef s_), [(0, none)]⟩ :: ⟨some (IsI 0), []⟩ :: []) rfl ⟨hg, hs, hd⟩ (by kernel_rfl) ⟨ob1 rfl fun _ _ h n => ok_boxR rfl (up i0 h n.1), aI rfl rfl, trivial⟩ [⟨_, _⟩, ⟨_, _⟩] (fun b q p => ⟨p.ke 1 rfl i1, p.ou 0 2 rfl, trivial⟩) ?_
 rintro a k ⟨⟨hg, hs, hd⟩, i1, i2, _⟩
 refine wp_seq ?_
 refine stepL 4 (_ :: _ :: _ :: _ :: []) rfl ⟨hg, hs, hd⟩ (by kernel_rfl) ⟨o1 [(2, none)] rfl fun _ _ h n => ok_fieldAddr rfl fo111_1 (at_RegionStrip_1 _) ((up i2 h n.1)).ptr, o1 [(5, some 0)] rfl fun _ _ h n => ok_load rfl ty3 n.1, mu rfl i1, o1 [(6, some 1), (7, some 2)] rfl fun _ _ h n => ok_leq rfl n.1 n.2.1, trivial⟩ [⟨_, _⟩] (fun b q p => ⟨p.ou 3 8 rfl, trivial⟩) ?_
 rintro a k ⟨⟨hg, hs, hd⟩, i8, _⟩
 refine wp_cond_split (isBool i8) (fun hc1982 => ?_) (fun hc1982 => ?_)
 ·rw [if_pos hc1982] at hr
  refine stepL 1 (⟨some (IsI (-1)), []⟩ :: []) rfl ⟨hg, hs, hd⟩ (by kernel_rfl) ⟨aI rfl rfl, trivial⟩ [⟨_, _⟩] (fun b q p => ⟨p.ou 0 4 rfl, trivial⟩) ?_
  rintro a k ⟨⟨hg, hs, hd⟩, i4, _⟩
  refine wp_ret ?_
  obtain rfl := Option.some.inj hr
  exact retC1 rfl hd hg i4
 rw [if_neg (by rw [hc1982]; decide)] at hr
 refine wp_skip ?_
 refine stepL 1 (⟨some (IsI 1), []⟩ :: []) rfl ⟨hg, hs, hd⟩ (by kernel_rfl) ⟨aI rfl rfl, trivial⟩ [⟨_, _⟩] (fun b q p => ⟨p.ou 0 4 rfl, trivial⟩) ?_
 rintro a k ⟨⟨hg, hs, hd⟩, i4, _⟩
 refine wp_ret ?_
 obtain rfl := Option.some.inj hr
 exact retC1 rfl hd hg i4
def region_at (l_ : (List RegionStrip)) (x_ : Int) : Option ((List RegionSpan)) :=
 (slices_BinarySearchFunc_strip_int l_ x_ region_at_1).bind fun x1 =>
 (if (decide (x1.1 < (l_.length : Int))) then
  (getI l_ x1.1).bind fun x2 =>
  some (decide (x2.x0 ≤ x_))
 else
  some false).bind fun x3 =>
 if x3 then
  (getI l_ x1.1).bind fun x4 =>
  some x4.column
 else
  some ([] : List RegionSpan)
theorem region_at_ok {k0 : K} {v0 v1 : Value} {l_ : (List RegionStrip)} {x_ : Int} {r : (List RegionSpan)} (i0 : (IsV l_) v0 k0) (i1 : (IsV x_) v1 k0) (hr : region_at l_ x_ = some r) :
  Calls Try.prog 85 #[v0, v1] k0.w (Ret k0 (IsV r)) := by
 unfold region_at at hr
 refine Ret.ofC ?_
 refine enterK Try.func85 rfl Try.ntmps85 (show 2 ≤ 31 by decide) fun a k hk0 hs hd ha => ?_
 obtain ⟨e0, e1, _⟩ := ha
 replace i0 : (IsV l_) (a.get 0) k := by rw [e0, hk0]; exact i0
 replace i1 : (IsV x_) (a.get 1) k := by rw [e1, hk0]; exact i1
 have hQ : Gb.LetsOut (bodyPost Try.prog Try.f85 (RetC noF k0 (IsV r))) := letsOutC
 have hg : Chg noF k0 k := by rw [hk0]; exact Chg.refl _ k0
 refine stepL 1 (⟨some IsE0, []⟩ :: []) rfl ⟨hg, hs, hd⟩ (by kernel_rfl) ⟨ob1 rfl fun b q h n => ok_assign rfl isE0_nil, trivial⟩ [⟨_, _⟩, ⟨_, _⟩] (fun b q p => ⟨p.ke 0 rfl i0, p.ke 1 rfl i1, trivial⟩) ?_
 rintro a k ⟨⟨hg, hs, hd⟩, i0, i1, _⟩
 refine wp_seq ?_
 obtain ⟨x1, hx1, hr⟩ := bind_some hr
 refine cut (fun a' k' => Bs noF k0 31 a' k' ∧ (IsV l_) (a'.get 0) k' ∧ (IsV x_) (a'.get 1) k' ∧ (IsV x1.1) (a'.get 5) k' ∧ True) ?_ hQ ?_
 ·intro Q1 W1 w1
  refine gS 8 (_ :: _ :: _ :: _ :: _ :: _ :: _ :: _ :: []) hs (by kernel_rfl) ⟨mu rfl i0, mu rfl i1, o1 [(8, some 0), (9, some 1)] rfl fun _ _ h n => ok_call rfl Try.call104 (slices_BinarySearchFunc_strip_int_ok n.1 n.2.1 ⟨105, _, _, rfl, Try.call105, fun k9 hk9 _ _ _ _ _ hx0 hx1 hy9 => by simpa [evalT] using region_at_1_ok hx0 hx1 hy9⟩ hx1), cm 2 rfl rfl, o1 [(7, some 3)] rfl fun _ _ h n => ok_ext2_0 rfl n.1, o1 [(7, some 3)] rfl fun _ _ h n => ok_ext2_1 rfl n.1, cp 4 rfl rfl, cp 5 rfl rfl, trivial⟩ W1 fun b q p => ?_
  exact tail_done (k := q) (w1 _ _ ⟨Bs.post ⟨hg, hs, hd⟩ p, p.ke 0 rfl i0, p.ke 1 rfl i1, p.ou 6 5 rfl, trivial⟩)
 rintro a k ⟨⟨hg, hs, hd⟩, i0, i1, i5, _⟩
 refine wp_seq ?_
 refine wp_seq ?_
 obtain ⟨x2, hx2, hr⟩ := bind_some hr
 obtain ⟨x3, hx3, hx2⟩ := ite_bind hx2
 refine cut (fun a' k' => Bs noF k0 31 a' k' ∧ (IsV l_) (a'.get 0) k' ∧ (IsV x1.1) (a'.get 5) k' ∧ (IsV x2) (a'.get 25) k' ∧ True) ?_ hQ ?_
 ·intro Q2 W2 w2
  refine gS 13 (_ :: _ :: _ :: _ :: _ :: _ :: _ :: _ :: _ :: _ :: _ :: _ :: _ :: []) hs (by kernel_rfl) ⟨mu rfl i5, mu rfl i0, o1 [(14, some 1)] rfl fun _ _ h n => ok_len rfl rfl Try.underlying88 (IsV.rd n.1), o1 [(13, some 0), (15, some 2)] rfl fun _ _ h n => ok_lss rfl n.1 n.2.1, cm 3 rfl rfl, mT rfl rfl i0, mT rfl rfl i5, gT [(18, some 5), (19, some 6)] rfl rfl fun hp _ _ h n => ok_indexAddr rfl Try.underlying88 ty111 (IsV.rd (Gd.get n.1 hp)) (Gd.get n.2.1 hp) (hx3 hp), gT [(20, some 7)] rfl rfl fun hp _ _ h n => ok_fieldAddr rfl fo111_0 (at_RegionStrip_0 _) (Gd.get n.1 hp), gT [(21, some 8)] rfl rfl fun hp _ _ h n => ok_load rfl ty3 (Gd.get n.1 hp), mT rfl rfl i1, gT [(22, some 9), (23, some 10)] rfl rfl fun hp _ _ h n => ok_leq rfl (Gd.get n.1 hp) (Gd.get n.2.1 hp), o1 [(17, some 4), (24, some 11)] rfl fun _ _ h n => ok_pickM rfl n.1 hx2 (Gd.get n.2.1) (cB rfl), trivial⟩ W2 fun b q p => ?_
  exact tail_done (k := q) (w2 _ _ ⟨Bs.post ⟨hg, hs, hd⟩ p, p.ke 0 rfl i0, p.ke 5 rfl i5, p.ou 12 25 rfl, trivial⟩)
 rintro a k ⟨⟨hg, hs, hd⟩, i0, i5, i25, _⟩
 refine wp_cond_split (isBool i25) (fun hc1996 => ?_) (fun hc1996 => ?_)
 ·rw [if_pos hc1996] at hr
  refine wp_seq ?_
  obtain ⟨x4, hx4, hr⟩ := bind_some hr
  refine cut (fun a' k' => Bs noF k0 31 a' k' ∧ (IsV x4.column) (a'.get 4) k' ∧ True) ?_ hQ ?_
  ·intro Q3 W3 w3
   refine gS 6 (_ :: _ :: _ :: _ :: _ :: _ :: []) hs (by kernel_rfl) ⟨mu rfl i0, mu rfl i5, o1 [(26, some 0), (27, some 1)] rfl fun _ _ h n => ok_indexAddr rfl Try.underlying88 ty111 (IsV.rd n.1) n.2.1 hx4, o1 [(28, some 2)] rfl fun _ _ h n => ok_fieldAddr rfl fo111_2 (at_RegionStrip_2 _) n.1, o1 [(29, some 3)] rfl fun _ _ h n => ok_load rfl ty107 n.1, cp 4 rfl rfl, trivial⟩ W3 fun b q p => ?_
   exact tail_done (k := q) (w3 _ _ ⟨Bs.post ⟨hg, hs, hd⟩ p, p.ou 5 4 rfl, trivial⟩)
  rintro a k ⟨⟨hg, hs, hd⟩, i4, _⟩
  refine wp_ret ?_
  obtain rfl := Option.some.inj hr
  exact retC1 rfl hd hg i4
 rw [if_neg (by rw [hc1996]; decide)] at hr
 refine wp_skip ?_
 refine cutL noF k0 31 [⟨4, IsV ([] : List RegionSpan)⟩] ?_ ?_
 ·intro Q4 W4 w4
  refine gS 1 (⟨some IsE0, []⟩ :: []) hs (by kernel_rfl) ⟨ob1 rfl fun b q h n => ok_assign rfl isE0_nil, trivial⟩ W4 fun b q p => ?_
  have hgq := hg.then p.grow
  have hsb := p.size.trans hs
  have hdb := p.defers.trans hd
  have j4 : IsE0 (b.get 4) q := p.ou 0 4 rfl
  replace j4 : IsV ([] : List RegionSpan) (b.get 4) q := j4.isV
  exact tail_done (k := q) (w4 _ _ ⟨⟨hgq, hsb, hdb⟩, j4, trivial⟩)
 rintro a k ⟨⟨hg, hs, hd⟩, i4, _⟩
 refine wp_ret ?_
 obtain rfl := Option.some.inj hr
 exact retC1 rfl hd hg i4
section
open Go.Proofs Go.RowKit Go.Lib Go.Sort Go.Shelf
def Try.growL113_ren : Go.Shelf.Ren := ⟨fun | 4 => 113 | n => n, fun | 22 => 107 | 25 => 109 | 3 => 3 | 4 => 4 | 9 => 9 | 20 => 20 | 0 => 0 | 2 => 3 | n => n, fun | n => n⟩
theorem Try.growL113 : Go.Proofs.Lays8.n4 Try.prog Try.growL113_ren := {
 mixed := by kernel_rfl,
 f4 := ⟨Try.f113.name, by decide, Try.func113.trans (congrArg some (by kernel_rfl))⟩,
 t0 := Try.underlying0,
 a0 := Try.isAgg0,
 z0 := Try.sizeOf0,
 v0 := Try.zeroValue0,
 t3 := Try.underlying3,
 a3 := Try.isAgg3,
 z3 := Try.sizeOf3,
 v3 := Try.zeroValue3,
 t4 := Try.underlying4,
 a4 := Try.isAgg4,
 z4 := Try.sizeOf4,
 v4 := Try.zeroValue4,
 t9 := Try.underlying9,
 a9 := Try.isAgg9,
 z9 := Try.sizeOf9,
 v9 := Try.zeroValue9,
 t20 := Try.underlying20,
 a20 := Try.isAgg20,
 z20 := Try.sizeOf20,
 v20 := Try.zeroValue20,
 t22 := Try.underlying107,
 a22 := Try.isAgg107,
 z22 := Try.sizeOf107,
 v22 := Try.zeroValue107 }
theorem slices_Grow_span_okO {k0 : K} {v0 v1 : Value} {n : Int} {r : List RegionSpan} (i0 : v0 = .slice none 0 0) (i1 : IsV n v1 k0) (hr : growI RegionSpan n = some r) : Calls Try.prog 113 #[v0, v1] k0.w (Ret k0 (IsOwn k0.w.heap.size 109 r)) := by
 refine grow_own eo109 i0 i1 hr ?_ fun m i z h0 hm hi hz hs hb => ?_
 ·have hcon := Any8.slices_Grow_room Try.growL113 none 0 0 0 k0.w (by omega) (by omega) (by omega) (by omega)
  change Calls Try.prog 113 _ _ _ at hcon
  exact hcon
 ·have hcon := Any8.slices_Grow_grow Try.growL113 i z hi hz hs none 0 0 m [] k0.w (by omega) (by omega) (by
   have : (0 + m) * i.bytes ≤ 1073741824 * 65536 := Nat.mul_le_mul (by omega) hb
   omega) (by omega) (by simp) (fun _ => rfl) (fun a h => by simp at h)
  change Calls Try.prog 113 _ _ _ at hcon
  exact hcon
end
def slices_Concat_span_L0 (slices_ : (List (List RegionSpan))) (s1 : Int × Int) : Option (Flow (Int × Int) ((List RegionSpan))) :=
 if (decide (s1.2 < (slices_.length : Int))) then
  (getI slices_ s1.2).bind fun x1 =>
  (addI s1.1 (x1.length : Int)).bind fun x2 =>
  if (decide (x2 < 0)) then
   none
  else
   (addI s1.2 1).bind fun x3 =>
   some (.go (x2, x3))
 else
  some (.ex 0 (s1.1, s1.2))
def slices_Concat_span_L1 (slices_ : (List (List RegionSpan))) (s1 : (List RegionSpan) × Int) : Option (Flow ((List RegionSpan) × Int) ((List RegionSpan))) :=
 if (decide (s1.2 < (slices_.length : Int))) then
  (getI slices_ s1.2).bind fun x1 =>
  (appI s1.1 x1).bind fun x2 =>
  (addI s1.2 1).bind fun x3 =>
  some (.go (x2, x3))
 else
  some (.ex 2 (s1.1, s1.2))
def slices_Concat_span (slices_ : (List (List RegionSpan))) : Option ((List RegionSpan)) :=
 (iterL (slices_Concat_span_L0 slices_) (slices_.length + 1) (0, 0)).bind fun f1 => match f1 with
  | .go _ => none
  | .ex _ s1 =>
   (growI RegionSpan s1.1).bind fun x1 =>
   (iterL (slices_Concat_span_L1 slices_) (slices_.length + 1) (x1, 0)).bind fun f2 => match f2 with
    | .go _ => none
    | .ex _ s2 =>
     some s2.1
    | .ret r1 => some r1
  | .ret r2 => some r2
theorem slices_Concat_span_okO {k0 : K} {v0 : Value} {slices_ : (List (List RegionSpan))} {r : (List RegionSpan)} (i0 : (IsV slices_) v0 k0) (hr : slices_Concat_span slices_ = some r) :
  Calls Try.prog 102 #[v0] k0.w (Ret k0 (IsOwn k0.w.heap.size 109 r)) := by
 unfold slices_Concat_span at hr
 refine Ret.ofC ?_
 refine enterK Try.func102 rfl Try.ntmps102 (show 1 ≤ 36 by decide) fun a k hk0 hs hd ha => ?_
 obtain ⟨e0, _⟩ := ha
 replace i0 : (IsV slices_) (a.get 0) k := by rw [e0, hk0]; exact i0
 have hQ : Gb.LetsOut (bodyPost Try.prog Try.f102 (RetC noF k0 (IsOwn k0.w.heap.size 109 r))) := letsOutC
 have hg : Chg noF k0 k := by rw [hk0]; exact Chg.refl _ k0
 refine stepL 1 (⟨some IsE0, []⟩ :: []) rfl ⟨hg, hs, hd⟩ (by kernel_rfl) ⟨ob1 rfl fun b q h n => ok_assign rfl isE0_nil, trivial⟩ [⟨_, _⟩] (fun b q p => ⟨p.ke 0 rfl i0, trivial⟩) ?_
 rintro a k ⟨⟨hg, hs, hd⟩, i0, _⟩
 refine stepL 1 (⟨some (IsI 0), []⟩ :: []) rfl ⟨hg, hs, hd⟩ (by kernel_rfl) ⟨aI rfl rfl, trivial⟩ [⟨_, _⟩, ⟨_, _⟩] (fun b q p => ⟨p.ke 0 rfl i0, p.ou 0 3 rfl, trivial⟩) ?_
 rintro a k ⟨⟨hg, hs, hd⟩, i0, i3, _⟩
 refine wp_seq ?_
 refine stepL 3 (_ :: _ :: ⟨some (IsI 0), []⟩ :: []) rfl ⟨hg, hs, hd⟩ (by kernel_rfl) ⟨mu rfl i0, o1 [(9, some 0)] rfl fun _ _ h n => ok_len rfl rfl Try.underlying144 (IsV.rd n.1), ob1 rfl fun _ _ h n => ok_move rfl (cI rfl), trivial⟩ [⟨_, _⟩, ⟨_, _⟩, ⟨_, _⟩, ⟨_, _⟩, ⟨_, _⟩] (fun b q p => ⟨p.ke 0 rfl i0, p.ke 3 rfl i3, p.ou 0 9 rfl, p.ou 1 10 rfl, p.ou 2 11 rfl, trivial⟩) ?_
 rintro a k ⟨⟨hg, hs, hd⟩, i0, i3, i9, i10, i11, _⟩
 refine wp_block ?_
 obtain ⟨f1, hf1, hr⟩ := bind_some hr
 refine cutFe f1 (fun s' c l => Bs noF k0 36 c l ∧ IsV slices_ (c.get 0) l ∧ IsV s'.1 (c.get 3) l ∧ IsV slices_ (c.get 9) l ∧ IsL slices_ (c.get 10) l ∧ IsV s'.2 (c.get 11) l ∧ True) (fun i' s' c l => (i' = 0 ∧ Bs noF k0 36 c l ∧ IsV slices_ (c.get 0) l ∧ IsV s'.1 (c.get 3) l ∧ True)) (fun r' c l => bodyPost Try.prog Try.f102 (RetC noF k0 (IsOwn k0.w.heap.size 109 r')) .ret c l.w) ?_ hQ ?_ ?_ ?_
 ·intro Q1 W1 hgo hex hret
  refine sim_loop ?_ _ _ _ _ _ hf1 ⟨⟨hg, hs, hd⟩, i0, i3, i9, i10, i11, trivial⟩ Q1 W1 hgo hex hret
  clear hr hf1 hgo hex hret W1 hQ hg hs hd i0 i10 i11 i3 i9
  intro s1 fl_ a k hr hS Q hQ hgo2007 hex2008 hret2009
  obtain ⟨⟨hg, hs, hd⟩, i0, i3, i9, i10, i11, _⟩ := hS
  unfold slices_Concat_span_L0 at hr
  refine stepL 1 (_ :: []) rfl ⟨hg, hs, hd⟩ (by kernel_rfl) ⟨o1 [(11, none), (10, none)] rfl fun _ _ h n => ok_lss rfl (up i11 h n.1) (up i10 h n.2.1), trivial⟩ [⟨_, _⟩, ⟨_, _⟩, ⟨_, _⟩, ⟨_, _⟩, ⟨_, _⟩, ⟨_, _⟩] (fun b q p => ⟨p.ke 0 rfl i0, p.ke 3 rfl i3, p.ke 9 rfl i9, p.ke 10 rfl i10, p.ke 11 rfl i11, p.ou 0 12 rfl, trivial⟩) ?_
  rintro a k ⟨⟨hg, hs, hd⟩, i0, i3, i9, i10, i11, i12, _⟩
  refine wp_seq ?_
  refine wp_cond_split (isBool i12) (fun hc2024 => ?_) (fun hc2024 => ?_)
  ·rw [if_pos hc2024] at hr
   refine wp_skip ?_
   refine wp_seq ?_
   refine wp_block ?_
   refine wp_seq ?_
   obtain ⟨x1, hx1, hr⟩ := bind_some hr
   refine cut (fun a' k' => Bs noF k0 36 a' k' ∧ (IsV slices_) (a'.get 0) k' ∧ (IsV s1.1) (a'.get 3) k' ∧ (IsV x1) (a'.get 5) k' ∧ (IsV slices_) (a'.get 9) k' ∧ (IsL slices_) (a'.get 10) k' ∧ (IsV s1.2) (a'.get 11) k' ∧ True) ?_ hQ ?_
   ·intro Q2 W2 w1
    refine gS 3 (_ :: _ :: _ :: []) hs (by kernel_rfl) ⟨o1 [(9, none), (11, none)] rfl fun _ _ h n => ok_indexAddr rfl Try.underlying144 ty107 (IsV.rd (up i9 h n.1)) (up i11 h n.2.1) hx1, o1 [(13, some 0)] rfl fun _ _ h n => ok_load rfl ty107 n.1, cp 1 rfl rfl, trivial⟩ W2 fun b q p => ?_
    exact tail_done (k := q) (w1 _ _ ⟨Bs.post ⟨hg, hs, hd⟩ p, p.ke 0 rfl i0, p.ke 3 rfl i3, p.ou 2 5 rfl, p.ke 9 rfl i9, p.ke 10 rfl i10, p.ke 11 rfl i11, trivial⟩)
   rintro a k ⟨⟨hg, hs, hd⟩, i0, i3, i5, i9, i10, i11, _⟩
   refine wp_seq ?_
   obtain ⟨x2, hx2, hr⟩ := bind_some hr
   refine cut (fun a' k' => Bs noF k0 36 a' k' ∧ (IsV slices_) (a'.get 0) k' ∧ (IsV x2) (a'.get 3) k' ∧ (IsV slices_) (a'.get 9) k' ∧ (IsL slices_) (a'.get 10) k' ∧ (IsV s1.2) (a'.get 11) k' ∧ True) ?_ hQ ?_
   ·intro Q3 W3 w2
    refine gS 5 (_ :: _ :: _ :: _ :: _ :: []) hs (by kernel_rfl) ⟨mu rfl i3, mu rfl i5, o1 [(16, some 1)] rfl fun _ _ h n => ok_len rfl rfl Try.underlying107 (IsV.rd n.1), o1 [(15, some 0), (17, some 2)] rfl fun _ _ h n => ok_add rfl n.1 n.2.1 hx2, cp 3 rfl rfl, trivial⟩ W3 fun b q p => ?_
    exact tail_done (k := q) (w2 _ _ ⟨Bs.post ⟨hg, hs, hd⟩ p, p.ke 0 rfl i0, p.ou 4 3 rfl, p.ke 9 rfl i9, p.ke 10 rfl i10, p.ke 11 rfl i11, trivial⟩)
   rintro a k ⟨⟨hg, hs, hd⟩, i0, i3, i9, i10, i11, _⟩
   refine stepL 2 (_ :: _ :: []) rfl ⟨hg, hs, hd⟩ (by kernel_rfl) ⟨mu rfl i3, o1 [(19, some 0)] rfl fun _ _ h n => ok_lss rfl n.1 (cI rfl), trivial⟩ [⟨_, _⟩, ⟨_, _⟩, ⟨_, _⟩, ⟨_, _⟩, ⟨_, _⟩, ⟨_, _⟩] (fun b q p => ⟨p.ke 0 rfl i0, p.ke 3 rfl i3, p.ke 9 rfl i9, p.ke 10 rfl i10, p.ke 11 rfl i11, p.ou 1 20 rfl, trivial⟩) ?_
   rintro a k ⟨⟨hg, hs, hd⟩, i0, i3, i9, i10, i11, i20, _⟩
   refine wp_cond_split (isBool i20) (fun hc2017 => ?_) (fun hc2017 => ?_)
   ·rw [if_pos hc2017] at hr
    simp at hr
   rw [if_neg (by rw [hc2017]; decide)] at hr
   refine wp_skip ?_
   obtain ⟨x3, hx3, hr⟩ := bind_some hr
   refine cut (fun a' k' => Bs noF k0 36 a' k' ∧ (IsV slices_) (a'.get 0) k' ∧ (IsV x2) (a'.get 3) k' ∧ (IsV slices_) (a'.get 9) k' ∧ (IsL slices_) (a'.get 10) k' ∧ (IsV x3) (a'.get 11) k' ∧ True) ?_ hQ ?_
   ·intro Q4 W4 w3
    refine gS 2 (_ :: _ :: []) hs (by kernel_rfl) ⟨o1 [(11, none)] rfl fun _ _ h n => ok_add rfl (up i11 h n.1) (cI rfl) hx3, cm 0 rfl rfl, trivial⟩ W4 fun b q p => ?_
    exact tail_done (k := q) (w3 _ _ ⟨Bs.post ⟨hg, hs, hd⟩ p, p.ke 0 rfl i0, p.ke 3 rfl i3, p.ke 9 rfl i9, p.ke 10 rfl i10, p.ou 1 11 rfl, trivial⟩)
   rintro a k ⟨⟨hg, hs, hd⟩, i0, i3, i9, i10, i11, _⟩
   exact hgo2007 _ _ _ (Option.some.inj hr).symm ⟨⟨hg, hs, hd⟩, i0, i3, i9, i10, i11, trivial⟩
  rw [if_neg (by rw [hc2024]; decide)] at hr
  refine wp_exit ?_
  exact hex2008 _ _ _ _ (Option.some.inj hr).symm ⟨rfl, ⟨hg, hs, hd⟩, i0, i3, trivial⟩
 ·rintro r1 a k rfl hR
  dsimp only at hr
  obtain rfl := Option.some.inj hr
  exact hR
 ·rintro _ _ _ rfl _
  simp at hr
 clear hf1
 rintro _ s2 a k rfl ⟨rfl, ⟨hg, hs, hd⟩, i0, i3, _⟩
 dsimp only at hr
 refine wp_seq ?_
 obtain ⟨x4, hx4, hr⟩ := bind_some hr
 refine cut (fun a' k' => Bs noF k0 36 a' k' ∧ (IsV slices_) (a'.get 0) k' ∧ IsOwn 0 109 x4 (a'.get 6) k' ∧ Lo k0 (obF (a'.get 6)) ∧ True) ?_ hQ ?_
 ·intro Q5 W5 w4
  refine gS 3 (_ :: _ :: _ :: []) hs (by kernel_rfl) ⟨mu rfl i3, o1 [(23, some 0)] rfl fun _ _ h n => ok_call rfl Try.call113 (ret_weaken h.size (slices_Grow_span_okO rfl n.1 hx4)), cp 1 rfl rfl, trivial⟩ W5 fun b q p => ?_
  have hgq := hg.then p.grow
  have hsb := p.size.trans hs
  have hdb := p.defers.trans hd
  have j0 := p.ke 0 rfl i0
  have j6 : (IsOwn k.w.heap.size 109 x4) (b.get 6) q := p.ou 2 6 rfl
  have x6 : Lo k (obF (b.get 6)) := j6.loF
  have y6 := x6.chg hg
  replace j6 := j6.weaken (Nat.zero_le _)
  exact tail_done (k := q) (w4 _ _ ⟨⟨hgq, hsb, hdb⟩, j0, j6, y6, trivial⟩)
 rintro a k ⟨⟨hg, hs, hd⟩, i0, i6, n6, _⟩
 refine wp_seq ?_
 refine cutS (fun c l => Bs noF k0 36 c l ∧ IsOwn 0 109 x4 (c.get 6) l ∧ Lo k0 (obF (c.get 6)) ∧ IsV slices_ (c.get 25) l ∧ IsL slices_ (c.get 26) l ∧ IsI 0 (c.get 27) l ∧ True) ?_ ?_
 ·intro Q6 W6 w5
  refine gS 3 (_ :: _ :: ⟨some (IsI 0), []⟩ :: []) hs (by kernel_rfl) ⟨mu rfl i0, o1 [(25, some 0)] rfl fun _ _ h n => ok_len rfl rfl Try.underlying144 (IsV.rd n.1), ob1 rfl fun _ _ h n => ok_move rfl (cI rfl), trivial⟩ W6 fun b q p => ?_
  exact tail_done (k := q) (w5 _ _ ⟨Bs.post ⟨hg, hs, hd⟩ p, p.ke 6 rfl i6, (by rw [p.old 6 rfl]; exact n6), p.ou 0 25 rfl, p.ou 1 26 rfl, p.ou 2 27 rfl, trivial⟩)
 rintro a k ⟨⟨hg, hs, hd⟩, i6, n6, i25, i26, i27, _⟩
 refine wp_block ?_
 obtain ⟨f2, hf2, hr⟩ := bind_some hr
 refine cutFe f2 (fun s' c l => Bs noF k0 36 c l ∧ IsOwn 0 109 s'.1 (c.get 6) l ∧ Lo k0 (obF (c.get 6)) ∧ IsV slices_ (c.get 25) l ∧ IsL slices_ (c.get 26) l ∧ IsV s'.2 (c.get 27) l ∧ True) (fun i' s' c l => (i' = 2 ∧ Bs noF k0 36 c l ∧ IsOwn 0 109 s'.1 (c.get 6) l ∧ Lo k0 (obF (c.get 6)) ∧ True)) (fun r' c l => bodyPost Try.prog Try.f102 (RetC noF k0 (IsOwn k0.w.heap.size 109 r')) .ret c l.w) ?_ hQ ?_ ?_ ?_
 ·intro Q7 W7 hgo hex hret
  refine sim_loop ?_ _ _ _ _ _ hf2 ⟨⟨hg, hs, hd⟩, i6, n6, i25, i26, i27, trivial⟩ Q7 W7 hgo hex hret
  clear hr hf2 hgo hex hret W7 hQ hg hs hd i25 i26 i27 i6 n6
  intro s3 fl_ a k hr hS Q hQ hgo2032 hex2033 hret2034
  obtain ⟨⟨hg, hs, hd⟩, i6, n6, i25, i26, i27, _⟩ := hS
  unfold slices_Concat_span_L1 at hr
  refine cutS (fun c l => Bs noF k0 36 c l ∧ IsOwn 0 109 s3.1 (c.get 6) l ∧ Lo k0 (obF (c.get 6)) ∧ IsV slices_ (c.get 25) l ∧ IsL slices_ (c.get 26) l ∧ IsV s3.2 (c.get 27) l ∧ (IsV (decide (s3.2 < (slices_.length : Int)))) (c.get 28) l ∧ True) ?_ ?_
  ·intro Q8 W8 w6
   refine gS 1 (_ :: []) hs (by kernel_rfl) ⟨o1 [(27, none), (26, none)] rfl fun _ _ h n => ok_lss rfl (up i27 h n.1) (up i26 h n.2.1), trivial⟩ W8 fun b q p => ?_
   exact tail_done (k := q) (w6 _ _ ⟨Bs.post ⟨hg, hs, hd⟩ p, p.ke 6 rfl i6, (by rw [p.old 6 rfl]; exact n6), p.ke 25 rfl i25, p.ke 26 rfl i26, p.ke 27 rfl i27, p.ou 0 28 rfl, trivial⟩)
  rintro a k ⟨⟨hg, hs, hd⟩, i6, n6, i25, i26, i27, i28, _⟩
  refine wp_seq ?_
  refine wp_cond_split (isBool i28) (fun hc2045 => ?_) (fun hc2045 => ?_)
  ·rw [if_pos hc2045] at hr
   refine wp_skip ?_
   refine wp_seq ?_
   refine wp_block ?_
   refine wp_seq ?_
   obtain ⟨x5, hx5, hr⟩ := bind_some hr
   refine cut (fun a' k' => Bs noF k0 36 a' k' ∧ IsOwn 0 109 s3.1 (a'.get 6) k' ∧ Lo k0 (obF (a'.get 6)) ∧ (IsV x5) (a'.get 8) k' ∧ (IsV slices_) (a'.get 25) k' ∧ (IsL slices_) (a'.get 26) k' ∧ (IsV s3.2) (a'.get 27) k' ∧ True) ?_ hQ ?_
   ·intro Q9 W9 w7
    refine gS 3 (_ :: _ :: _ :: []) hs (by kernel_rfl) ⟨o1 [(25, none), (27, none)] rfl fun _ _ h n => ok_indexAddr rfl Try.underlying144 ty107 (IsV.rd (up i25 h n.1)) (up i27 h n.2.1) hx5, o1 [(29, some 0)] rfl fun _ _ h n => ok_load rfl ty107 n.1, cp 1 rfl rfl, trivial⟩ W9 fun b q p => ?_
    exact tail_done (k := q) (w7 _ _ ⟨Bs.post ⟨hg, hs, hd⟩ p, p.ke 6 rfl i6, (by rw [p.old 6 rfl]; exact n6), p.ou 2 8 rfl, p.ke 25 rfl i25, p.ke 26 rfl i26, p.ke 27 rfl i27, trivial⟩)
   rintro a k ⟨⟨hg, hs, hd⟩, i6, n6, i8, i25, i26, i27, _⟩
   obtain ⟨x7, hx7, hr⟩ := bind_some hr
   refine cut (fun a' k' => Bs noF k0 36 a' k' ∧ IsOwn 0 109 x7 (a'.get 6) k' ∧ Lo k0 (obF (a'.get 6)) ∧ (IsV slices_) (a'.get 25) k' ∧ (IsL slices_) (a'.get 26) k' ∧ (IsV s3.2) (a'.get 27) k' ∧ True) ?_ hQ ?_
   ·intro Q10 W10 w8
    refine gS 2 (⟨some (OwnAt (a.get 6) 0 109 s3.1), [(6, none)]⟩ :: _ :: []) hs (by kernel_rfl) ⟨ob1 rfl fun _ _ h n => ok_moveOA (.inl rfl) (ownAt n.1 (up i6 h n.1)), mu rfl i8, trivial⟩ W10 fun b q p => ?_
    have hgq := hg.then p.grow
    have hsb := p.size.trans hs
    have hdb := p.defers.trans hd
    have j25 := p.ke 25 rfl i25
    have j26 := p.ke 26 rfl i26
    have j27 := p.ke 27 rfl i27
    have e31 : b.get 31 = a.get 6 := (p.ou 0 31 rfl).1
    have j31 : IsOwn 0 109 s3.1 (b.get 31) q := (p.ou 0 31 rfl).2
    have y31 : Lo k0 (obF (b.get 31)) := by rw [e31]; exact n6
    have j32 : (IsV x5) (b.get 32) q := p.ou 1 32 rfl
    have hns := j31.nshF
    refine tail_appendS (i := 2) (d := 33) rfl rfl rfl rfl (by rw [hsb]; decide) (e := 109) Try.underlying107 eo109 j31 (IsV.rd j32) hx7 fun b2 q2 hsz hdf hoth hch hown hob => ?_
    have hle := hch.le hns
    have yn : Lo k0 (obF (b2.get 33)) := y31.app hgq hob
    replace j25 := Pers.pers hle j25
    replace j26 := Pers.pers hle j26
    replace j27 := Pers.pers hle j27
    replace j32 := Pers.pers hle j32
    replace hgq := hgq.step hch y31.wr
    rw [← hoth 25 (by decide)] at j25
    rw [← hoth 26 (by decide)] at j26
    rw [← hoth 27 (by decide)] at j27
    rw [← hoth 32 (by decide)] at j32
    have j33 := hown
    have y33 := yn
    replace hsb := hsz.trans hsb
    replace hdb := hdf.trans hdb
    clear hle hch hown hob hns yn hsz hdf hoth
    obtain ⟨b, hbb⟩ : ∃ b, b = b2 := ⟨b2, rfl⟩
    subst hbb
    obtain ⟨q, hqq⟩ : ∃ q, q = q2 := ⟨q2, rfl⟩
    subst hqq
    refine tail_assign (i := 3) (d := 6) rfl rfl (.inl rfl) rfl (by rw [hsb]; decide) fun b2 hsz hdf hnew hoth => ?_
    have jn : (IsOwn 0 109 x7) (b2.get 6) q := by rw [hnew]; exact j33
    have yn : Lo k0 (obF (b2.get 6)) := by rw [hnew]; exact y33
    rw [← hoth 25 (by decide)] at j25
    rw [← hoth 26 (by decide)] at j26
    rw [← hoth 27 (by decide)] at j27
    rw [← hoth 32 (by decide)] at j32
    have j6 := jn
    have y6 := yn
    replace hsb := hsz.trans hsb
    replace hdb := hdf.trans hdb
    clear hsz hdf hoth
    obtain ⟨b, hbb⟩ : ∃ b, b = b2 := ⟨b2, rfl⟩
    subst hbb
    exact tail_done (k := q) (w8 _ _ ⟨⟨hgq, hsb, hdb⟩, j6, y6, j25, j26, j27, trivial⟩)
   rintro a k ⟨⟨hg, hs, hd⟩, i6, n6, i25, i26, i27, _⟩
   obtain ⟨x8, hx8, hr⟩ := bind_some hr
   refine cut (fun a' k' => Bs noF k0 36 a' k' ∧ IsOwn 0 109 x7 (a'.get 6) k' ∧ Lo k0 (obF (a'.get 6)) ∧ (IsV slices_) (a'.get 25) k' ∧ (IsL slices_) (a'.get 26) k' ∧ (IsV x8) (a'.get 27) k' ∧ True) ?_ hQ ?_
   ·intro Q11 W11 w9
    refine gS 2 (_ :: _ :: []) hs (by kernel_rfl) ⟨o1 [(27, none)] rfl fun _ _ h n => ok_add rfl (up i27 h n.1) (cI rfl) hx8, cm 0 rfl rfl, trivial⟩ W11 fun b q p => ?_
    exact tail_done (k := q) (w9 _ _ ⟨Bs.post ⟨hg, hs, hd⟩ p, p.ke 6 rfl i6, (by rw [p.old 6 rfl]; exact n6), p.ke 25 rfl i25, p.ke 26 rfl i26, p.ou 1 27 rfl, trivial⟩)
   rintro a k ⟨⟨hg, hs, hd⟩, i6, n6, i25, i26, i27, _⟩
   exact hgo2032 _ _ _ (Option.some.inj hr).symm ⟨⟨hg, hs, hd⟩, i6, n6, i25, i26, i27, trivial⟩
  rw [if_neg (by rw [hc2045]; decide)] at hr
  refine wp_exit ?_
  exact hex2033 _ _ _ _ (Option.some.inj hr).symm ⟨rfl, ⟨hg, hs, hd⟩, i6, n6, trivial⟩
 ·rintro r2 a k rfl hR
  dsimp only at hr
  obtain rfl := Option.some.inj hr
  exact hR
 ·rintro _ _ _ rfl _
  simp at hr
 clear hf2
 rintro _ s4 a k rfl ⟨rfl, ⟨hg, hs, hd⟩, i6, n6, _⟩
 dsimp only at hr
 refine cutS (fun c l => Bs noF k0 36 c l ∧ IsOwn 0 109 s4.1 (c.get 2) l ∧ Lo k0 (obF (c.get 2)) ∧ True) ?_ ?_
 ·intro Q12 W12 w10
  refine gS 2 (⟨some (OwnAt (a.get 6) 0 109 s4.1), [(6, none)]⟩ :: ⟨some (OwnAt (a.get 6) 0 109 s4.1), [(35, some 0)]⟩ :: []) hs (by kernel_rfl) ⟨ob1 rfl fun _ _ h n => ok_moveOA (.inl rfl) (ownAt n.1 (up i6 h n.1)), ob1 rfl fun _ _ h n => ok_moveOA (.inr rfl) n.1, trivial⟩ W12 fun b q p => ?_
  have hgq := hg.then p.grow
  have hsb := p.size.trans hs
  have hdb := p.defers.trans hd
  have e2 : b.get 2 = a.get 6 := (p.ou 1 2 rfl).1
  have j2 : IsOwn 0 109 s4.1 (b.get 2) q := (p.ou 1 2 rfl).2
  have y2 : Lo k0 (obF (b.get 2)) := by rw [e2]; exact n6
  exact tail_done (k := q) (w10 _ _ ⟨⟨hgq, hsb, hdb⟩, j2, y2, trivial⟩)
 rintro a k ⟨⟨hg, hs, hd⟩, i2, n2, _⟩
 refine wp_ret ?_
 obtain rfl := Option.some.inj hr
 exact retC1 rfl hd hg (show ResOk _ _ _ (.tmp 2) _ from IsOwn.raise (k0 := k0) i2 n2)
theorem slices_Concat_span_ok {k0 : K} {v0 : Value} {slices_ : (List (List RegionSpan))} {r : (List RegionSpan)} (i0 : (IsV slices_) v0 k0) (hr : slices_Concat_span slices_ = some r) :
  Calls Try.prog 102 #[v0] k0.w (Ret k0 (IsV r)) :=
 ret_give (slices_Concat_span_okO i0 hr)
end Go.Proofs.Ytbpecfmimgjakaa
