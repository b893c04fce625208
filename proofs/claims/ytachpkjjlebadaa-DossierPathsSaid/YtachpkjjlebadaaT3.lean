/- What the functions compute that the law reaches, part 3 -/
import Derived.Test.YtachpkjjlebadaaT2
namespace Go.Proofs.Ytachpkjjlebadaa
open Go.Gb
set_option linter.unusedVariables false
set_option linter.unusedSimpArgs false
set_option maxRecDepth 100000
def dossier_takes_L0 (b_ : Phase) (s1 : (List Volume) × Int) : Option (Flow ((List Volume) × Int) (Bool)) :=
 if (decide (s1.2 < (b_.Volumes.length : Int))) then
  (getI b_.Volumes s1.2).bind fun x1 =>
  (if (decide (0 < (s1.1.length : Int))) then
   (getI s1.1 0).bind fun x2 =>
   (dossier_lower x2 x1).bind fun x3 =>
   some x3
  else
   some false).bind fun x4 =>
  (if x4 then
   (sliceI s1.1 1 (s1.1.length : Int)).bind fun x5 =>
   some x5
  else
   some s1.1).bind fun s2 =>
  (addI s1.2 1).bind fun x6 =>
  some (.go (s2, x6))
 else
  some (.ex 0 (s1.1, s1.2))
def dossier_takes (a_ : Phase) (b_ : Phase) : Option (Bool) :=
 (iterL (dossier_takes_L0 b_) (b_.Volumes.length + 1) (a_.Volumes, 0)).bind fun f1 => match f1 with
  | .go _ => none
  | .ex _ s1 =>
   (if ((s1.1.length : Int) == 0) then
    (slices_Equal_Entry a_.Gives b_.Gives).bind fun x1 =>
    some x1
   else
    some false).bind fun x2 =>
   some x2
  | .ret r1 => some r1
theorem dossier_takes_ok {k0 : K} {v0 v1 : Value} {a_ : Phase} {b_ : Phase} {r : Bool} (i0 : (IsV a_) v0 k0) (i1 : (IsV b_) v1 k0) (hr : dossier_takes a_ b_ = some r) :
  Calls Try.prog 27 #[v0, v1] k0.w (Ret k0 (IsV r)) := by
 unfold dossier_takes at hr
 refine Ret.ofC ?_
 refine enterK Try.func27 rfl Try.ntmps27 (show 2 ≤ 40 by decide) fun a k hk0 hs hd ha => ?_
 obtain ⟨e0, e1, _⟩ := ha
 replace i0 : (IsV a_) (a.get 0) k := by rw [e0, hk0]; exact i0
 replace i1 : (IsV b_) (a.get 1) k := by rw [e1, hk0]; exact i1
 have hQ : Gb.LetsOut (bodyPost Try.prog Try.f27 (RetC noF k0 (IsV r))) := letsOutC
 have hg : Chg noF k0 k := by rw [hk0]; exact Chg.refl _ k0
 refine stepL 3 (⟨some (IsRef a_), [(0, none)]⟩ :: ⟨some (IsRef b_), [(1, none)]⟩ :: ⟨some (IsV false), []⟩ :: []) rfl ⟨hg, hs, hd⟩ (by kernel_rfl) ⟨ob1 rfl fun _ _ h n => ok_boxR rfl (up i0 h n.1), ob1 rfl fun _ _ h n => ok_boxR rfl (up i1 h n.1), ob1 rfl fun _ _ h n => ok_assign rfl (isV_bool.2 rfl), trivial⟩ [⟨_, _⟩, ⟨_, _⟩] (fun b q p => ⟨p.ou 0 2 rfl, p.ou 1 3 rfl, trivial⟩) ?_
 rintro a k ⟨⟨hg, hs, hd⟩, i2, i3, _⟩
 refine stepL 3 (_ :: _ :: _ :: []) rfl ⟨hg, hs, hd⟩ (by kernel_rfl) ⟨o1 [(2, none)] rfl fun _ _ h n => ok_fieldAddr rfl fo67_0 (at_Phase_0 _) ((up i2 h n.1)).ptr, o1 [(8, some 0)] rfl fun _ _ h n => ok_load rfl ty64 n.1, cp 1 rfl rfl, trivial⟩ [⟨_, _⟩, ⟨_, _⟩, ⟨_, _⟩] (fun b q p => ⟨p.ke 2 rfl i2, p.ke 3 rfl i3, p.ou 2 5 rfl, trivial⟩) ?_
 rintro a k ⟨⟨hg, hs, hd⟩, i2, i3, i5, _⟩
 refine wp_seq ?_
 refine stepL 4 (_ :: _ :: _ :: ⟨some (IsI 0), []⟩ :: []) rfl ⟨hg, hs, hd⟩ (by kernel_rfl) ⟨o1 [(3, none)] rfl fun _ _ h n => ok_fieldAddr rfl fo67_0 (at_Phase_0 _) ((up i3 h n.1)).ptr, o1 [(10, some 0)] rfl fun _ _ h n => ok_load rfl ty64 n.1, o1 [(11, some 1)] rfl fun _ _ h n => ok_len rfl rfl Try.underlying64 (IsV.rd n.1), ob1 rfl fun _ _ h n => ok_move rfl (cI rfl), trivial⟩ [⟨_, _⟩, ⟨_, _⟩, ⟨_, _⟩, ⟨_, _⟩, ⟨_, _⟩, ⟨_, _⟩] (fun b q p => ⟨p.ke 2 rfl i2, p.ke 3 rfl i3, p.ke 5 rfl i5, p.ou 1 11 rfl, p.ou 2 12 rfl, p.ou 3 13 rfl, trivial⟩) ?_
 rintro a k ⟨⟨hg, hs, hd⟩, i2, i3, i5, i11, i12, i13, _⟩
 refine wp_block ?_
 obtain ⟨f1, hf1, hr⟩ := bind_some hr
 refine cutFe f1 (fun s' c l => Bs noF k0 40 c l ∧ IsRef a_ (c.get 2) l ∧ IsRef b_ (c.get 3) l ∧ IsV s'.1 (c.get 5) l ∧ IsV b_.Volumes (c.get 11) l ∧ IsI (b_.Volumes.length : Int) (c.get 12) l ∧ IsV s'.2 (c.get 13) l ∧ True) (fun i' s' c l => (i' = 0 ∧ Bs noF k0 40 c l ∧ IsRef a_ (c.get 2) l ∧ IsRef b_ (c.get 3) l ∧ IsV s'.1 (c.get 5) l ∧ True)) (fun r' c l => bodyPost Try.prog Try.f27 (RetC noF k0 (IsV r')) .ret c l.w) ?_ hQ ?_ ?_ ?_
 ·intro Q1 W1 hgo hex hret
  refine sim_loop ?_ _ _ _ _ _ hf1 ⟨⟨hg, hs, hd⟩, i2, i3, i5, i11, i12, i13, trivial⟩ Q1 W1 hgo hex hret
  clear hr hf1 hgo hex hret W1 hQ hg hs hd i11 i12 i13 i2 i3 i5
  intro s1 fl_ a k hr hS Q hQ hgo855 hex856 hret857
  obtain ⟨⟨hg, hs, hd⟩, i2, i3, i5, i11, i12, i13, _⟩ := hS
  unfold dossier_takes_L0 at hr
  refine stepL 1 (_ :: []) rfl ⟨hg, hs, hd⟩ (by kernel_rfl) ⟨o1 [(13, none), (12, none)] rfl fun _ _ h n => ok_lss rfl (up i13 h n.1) (up i12 h n.2.1), trivial⟩ [⟨_, _⟩, ⟨_, _⟩, ⟨_, _⟩, ⟨_, _⟩, ⟨_, _⟩, ⟨_, _⟩, ⟨_, _⟩] (fun b q p => ⟨p.ke 2 rfl i2, p.ke 3 rfl i3, p.ke 5 rfl i5, p.ke 11 rfl i11, p.ke 12 rfl i12, p.ke 13 rfl i13, p.ou 0 14 rfl, trivial⟩) ?_
  rintro a k ⟨⟨hg, hs, hd⟩, i2, i3, i5, i11, i12, i13, i14, _⟩
  refine wp_seq ?_
  refine wp_cond_split (isBool i14) (fun hc875 => ?_) (fun hc875 => ?_)
  ·rw [if_pos hc875] at hr
   refine wp_skip ?_
   refine wp_seq ?_
   refine wp_block ?_
   refine wp_seq ?_
   obtain ⟨x1, hx1, hr⟩ := bind_some hr
   refine cut (fun a' k' => Bs noF k0 40 a' k' ∧ (IsRef a_) (a'.get 2) k' ∧ (IsRef b_) (a'.get 3) k' ∧ (IsV s1.1) (a'.get 5) k' ∧ (IsRef x1) (a'.get 7) k' ∧ (IsV b_.Volumes) (a'.get 11) k' ∧ (IsI (b_.Volumes.length : Int)) (a'.get 12) k' ∧ (IsV s1.2) (a'.get 13) k' ∧ True) ?_ hQ ?_
   ·intro Q2 W2 w1
    refine gS 3 (_ :: _ :: ⟨some (IsBox k.w.heap.size (⟨(⟨(⟨0, 0, 0, 0⟩ : Rect), 0, 0⟩ : Box), 0, 0, false⟩ : Volume)), []⟩ :: []) hs (by kernel_rfl) ⟨o1 [(11, none), (13, none)] rfl fun _ _ h n => ok_indexAddr rfl Try.underlying64 ty77 (IsV.rd (up i11 h n.1)) (up i13 h n.2.1) hx1, o1 [(15, some 0)] rfl fun _ _ h n => ok_load rfl ty77 n.1, ob1 rfl fun _ _ h n => ok_alloc _ h.size rfl z77, trivial⟩ W2 fun b q p => ?_
    have hgq := hg.then p.grow
    have hsb := p.size.trans hs
    have hdb := p.defers.trans hd
    have j2 := p.ke 2 rfl i2
    have j3 := p.ke 3 rfl i3
    have j5 := p.ke 5 rfl i5
    obtain ⟨b7, j7, x7, z7⟩ : (IsBox k.w.heap.size (⟨(⟨(⟨0, 0, 0, 0⟩ : Rect), 0, 0⟩ : Box), 0, 0, false⟩ : Volume)) (b.get 7) q := p.ou 2 7 rfl
    replace x7 : Lo k (Eq b7) := Lo.eq x7
    have y7 : Lo k0 (Eq b7) := x7.chg hg
    have j11 := p.ke 11 rfl i11
    have j12 := p.ke 12 rfl i12
    have j13 := p.ke 13 rfl i13
    have j16 : (IsV x1) (b.get 16) q := p.ou 1 16 rfl
    have hns := z7.nshF
    refine tail_storeB (i := 3) rfl rfl rfl rfl szf77 (Upd.self (α := Volume)) j7 z7 j16 fun q2 hch hz => ?_
    replace hgq := hgq.step hch y7.wr
    have hle := hch.le hns
    replace j2 := Pers.pers hle j2
    replace j3 := Pers.pers hle j3
    replace j5 := Pers.pers hle j5
    replace j11 := Pers.pers hle j11
    replace j12 := Pers.pers hle j12
    replace j13 := Pers.pers hle j13
    replace j16 := Pers.pers hle j16
    replace z7 := hz
    clear hns hle hch
    obtain ⟨q, hqq⟩ : ∃ q, q = q2 := ⟨q2, rfl⟩
    subst hqq
    obtain ⟨q2, hsh, jn⟩ := z7.give
    replace j2 := Pers.pers hsh.le j2
    replace j3 := Pers.pers hsh.le j3
    replace j5 := Pers.pers hsh.le j5
    replace j11 := Pers.pers hsh.le j11
    replace j12 := Pers.pers hsh.le j12
    replace j13 := Pers.pers hsh.le j13
    rw [← j7] at jn
    replace j7 := jn
    replace hgq := hgq.hand hsh y7.wr
    rw [← hsh.w]
    clear hsh
    obtain ⟨q, hqq⟩ : ∃ q, q = q2 := ⟨q2, rfl⟩
    subst hqq
    exact tail_done (k := q) (w1 _ _ ⟨⟨hgq, hsb, hdb⟩, j2, j3, j5, j7, j11, j12, j13, trivial⟩)
   rintro a k ⟨⟨hg, hs, hd⟩, i2, i3, i5, i7, i11, i12, i13, _⟩
   refine wp_seq ?_
   obtain ⟨x2, hx2, hr⟩ := bind_some hr
   obtain ⟨x3, hx3, hx2⟩ := ite_bind hx2
   obtain ⟨x4, hx4, hx2⟩ := ite_bind hx2
   refine cut (fun a' k' => Bs noF k0 40 a' k' ∧ (IsRef a_) (a'.get 2) k' ∧ (IsRef b_) (a'.get 3) k' ∧ (IsV s1.1) (a'.get 5) k' ∧ (IsV b_.Volumes) (a'.get 11) k' ∧ (IsI (b_.Volumes.length : Int)) (a'.get 12) k' ∧ (IsV s1.2) (a'.get 13) k' ∧ (IsV x2) (a'.get 26) k' ∧ True) ?_ hQ ?_
   ·intro Q3 W3 w2
    refine region (m := 10) (_ :: _ :: _ :: _ :: _ :: _ :: _ :: _ :: _ :: _ :: []) hmix hs (by kernel_rfl) ⟨mu rfl i5, o1 [(17, some 0)] rfl fun _ _ h n => ok_len rfl rfl Try.underlying64 (IsV.rd n.1), o1 [(18, some 1)] rfl fun _ _ h n => ok_gtr rfl n.1 (cI rfl), cm 2 rfl rfl, mT rfl rfl i5, gT [(21, some 4)] rfl rfl fun hp _ _ h n => ok_indexAddr rfl Try.underlying64 ty77 (IsV.rd (Gd.get n.1 hp)) (cI rfl) (hx3 hp), gT [(22, some 5)] rfl rfl fun hp _ _ h n => ok_load rfl ty77 (Gd.get n.1 hp), gT [(7, none)] rfl rfl fun hp _ _ h n => ok_load rfl ty77 ((up i7 h n.1)).ptr, gT [(23, some 6), (24, some 7)] rfl rfl fun hp _ _ h n => ok_call rfl Try.call44 (dossier_lower_ok (Gd.get n.1 hp) (Gd.get n.2.1 hp) (hx4 hp)), o1 [(20, some 3), (25, some 8)] rfl fun _ _ h n => ok_pickM rfl n.1 hx2 (Gd.get n.2.1) (cB rfl), trivial⟩ W3 fun b q p => ?_
    exact tail_done (k := q) (w2 _ _ ⟨Bs.post ⟨hg, hs, hd⟩ p, p.ke 2 rfl i2, p.ke 3 rfl i3, p.ke 5 rfl i5, p.ke 11 rfl i11, p.ke 12 rfl i12, p.ke 13 rfl i13, p.ou 9 26 rfl, trivial⟩)
   rintro a k ⟨⟨hg, hs, hd⟩, i2, i3, i5, i11, i12, i13, i26, _⟩
   obtain ⟨s2, hs2, hr⟩ := bind_some hr
   refine cut (fun a' k' => Bs noF k0 40 a' k' ∧ (IsRef a_) (a'.get 2) k' ∧ (IsRef b_) (a'.get 3) k' ∧ (IsV s2) (a'.get 5) k' ∧ (IsV b_.Volumes) (a'.get 11) k' ∧ (IsI (b_.Volumes.length : Int)) (a'.get 12) k' ∧ (IsV s1.2) (a'.get 13) k' ∧ True) ?_ hQ ?_
   ·intro Q4 W4 w3
    replace hr := hs2
    clear hQ
    have hQ := W4
    refine wp_cond_split (isBool i26) (fun hc866 => ?_) (fun hc866 => ?_)
    ·rw [if_pos hc866] at hr
     obtain ⟨x5, hx5, hr⟩ := bind_some hr
     refine cut (fun a' k' => Bs noF k0 40 a' k' ∧ (IsRef a_) (a'.get 2) k' ∧ (IsRef b_) (a'.get 3) k' ∧ (IsV x5) (a'.get 5) k' ∧ (IsV b_.Volumes) (a'.get 11) k' ∧ (IsI (b_.Volumes.length : Int)) (a'.get 12) k' ∧ (IsV s1.2) (a'.get 13) k' ∧ True) ?_ hQ ?_
     ·intro Q5 W5 w4
      refine gS 3 (_ :: ⟨some (IsV x5), [(27, some 0)]⟩ :: _ :: []) hs (by kernel_rfl) ⟨mu rfl i5, ob1 rfl fun _ _ h n => ok_slice_lo rfl Try.underlying64 szf77 n.1 (cI rfl) hx5, cp 1 rfl rfl, trivial⟩ W5 fun b q p => ?_
      exact tail_done (k := q) (w4 _ _ ⟨Bs.post ⟨hg, hs, hd⟩ p, p.ke 2 rfl i2, p.ke 3 rfl i3, p.ou 2 5 rfl, p.ke 11 rfl i11, p.ke 12 rfl i12, p.ke 13 rfl i13, trivial⟩)
     rintro a k ⟨⟨hg, hs, hd⟩, i2, i3, i5, i11, i12, i13, _⟩
     obtain rfl := Option.some.inj hr
     exact w3 _ _ ⟨⟨hg, hs, hd⟩, i2, i3, i5, i11, i12, i13, trivial⟩
    rw [if_neg (by rw [hc866]; decide)] at hr
    refine wp_skip ?_
    obtain rfl := Option.some.inj hr
    exact w3 _ _ ⟨⟨hg, hs, hd⟩, i2, i3, i5, i11, i12, i13, trivial⟩
   clear hs2
   rintro a k ⟨⟨hg, hs, hd⟩, i2, i3, i5, i11, i12, i13, _⟩
   obtain ⟨x6, hx6, hr⟩ := bind_some hr
   refine cut (fun a' k' => Bs noF k0 40 a' k' ∧ (IsRef a_) (a'.get 2) k' ∧ (IsRef b_) (a'.get 3) k' ∧ (IsV s2) (a'.get 5) k' ∧ (IsV b_.Volumes) (a'.get 11) k' ∧ (IsI (b_.Volumes.length : Int)) (a'.get 12) k' ∧ (IsV x6) (a'.get 13) k' ∧ True) ?_ hQ ?_
   ·intro Q6 W6 w5
    refine gS 2 (_ :: _ :: []) hs (by kernel_rfl) ⟨o1 [(13, none)] rfl fun _ _ h n => ok_add rfl (up i13 h n.1) (cI rfl) hx6, cm 0 rfl rfl, trivial⟩ W6 fun b q p => ?_
    exact tail_done (k := q) (w5 _ _ ⟨Bs.post ⟨hg, hs, hd⟩ p, p.ke 2 rfl i2, p.ke 3 rfl i3, p.ke 5 rfl i5, p.ke 11 rfl i11, p.ke 12 rfl i12, p.ou 1 13 rfl, trivial⟩)
   rintro a k ⟨⟨hg, hs, hd⟩, i2, i3, i5, i11, i12, i13, _⟩
   exact hgo855 _ _ _ (Option.some.inj hr).symm ⟨⟨hg, hs, hd⟩, i2, i3, i5, i11, i12, i13, trivial⟩
  rw [if_neg (by rw [hc875]; decide)] at hr
  refine wp_exit ?_
  exact hex856 _ _ _ _ (Option.some.inj hr).symm ⟨rfl, ⟨hg, hs, hd⟩, i2, i3, i5, trivial⟩
 ·rintro r1 a k rfl hR
  dsimp only at hr
  obtain rfl := Option.some.inj hr
  exact hR
 ·rintro _ _ _ rfl _
  simp at hr
 clear hf1
 rintro _ s3 a k rfl ⟨rfl, ⟨hg, hs, hd⟩, i2, i3, i5, _⟩
 dsimp only at hr
 refine wp_seq ?_
 obtain ⟨x8, hx8, hr⟩ := bind_some hr
 obtain ⟨x9, hx9, hx8⟩ := ite_bind hx8
 refine cut (fun a' k' => Bs noF k0 40 a' k' ∧ (IsV x8) (a'.get 4) k' ∧ True) ?_ hQ ?_
 ·intro Q7 W7 w6
  refine gS 11 (_ :: _ :: _ :: _ :: _ :: _ :: _ :: _ :: _ :: _ :: _ :: []) hs (by kernel_rfl) ⟨mu rfl i5, o1 [(30, some 0)] rfl fun _ _ h n => ok_len rfl rfl Try.underlying64 (IsV.rd n.1), o1 [(31, some 1)] rfl fun _ _ h n => ok_eqI rfl n.1 (cI rfl), cm 2 rfl rfl, gT [(2, none)] rfl rfl fun hp _ _ h n => ok_fieldAddr rfl fo67_1 (at_Phase_1 _) ((up i2 h n.1)).ptr, gT [(34, some 4)] rfl rfl fun hp _ _ h n => ok_load rfl ty65 (Gd.get n.1 hp), gT [(3, none)] rfl rfl fun hp _ _ h n => ok_fieldAddr rfl fo67_1 (at_Phase_1 _) ((up i3 h n.1)).ptr, gT [(36, some 6)] rfl rfl fun hp _ _ h n => ok_load rfl ty65 (Gd.get n.1 hp), gT [(35, some 5), (37, some 7)] rfl rfl fun hp _ _ h n => ok_call rfl Try.call45 (slices_Equal_Entry_ok (Gd.get n.1 hp) (Gd.get n.2.1 hp) (hx9 hp)), o1 [(33, some 3), (38, some 8)] rfl fun _ _ h n => ok_pickM rfl n.1 hx8 (Gd.get n.2.1) (cB rfl), cp 9 rfl rfl, trivial⟩ W7 fun b q p => ?_
  exact tail_done (k := q) (w6 _ _ ⟨Bs.post ⟨hg, hs, hd⟩ p, p.ou 10 4 rfl, trivial⟩)
 rintro a k ⟨⟨hg, hs, hd⟩, i4, _⟩
 refine wp_ret ?_
 obtain rfl := Option.some.inj hr
 exact retC1 rfl hd hg i4
def dossier_Less_1 (x_ : Drawing) (y_ : Drawing) : Option (Bool) :=
 (if (x_.Lot == y_.Lot) then
  (slices_EqualFunc_Phase_Phase_Phase x_.Phases y_.Phases dossier_takes).bind fun x1 =>
  some x1
 else
  some false).bind fun x2 =>
 some x2
theorem dossier_Less_1_ok {k0 : K} {v0 v1 : Value} {x_ : Drawing} {y_ : Drawing} {r : Bool} (i0 : (IsV x_) v0 k0) (i1 : (IsV y_) v1 k0) (hr : dossier_Less_1 x_ y_ = some r) :
  Calls Try.prog 25 #[v0, v1] k0.w (Ret k0 (IsV r)) := by
 unfold dossier_Less_1 at hr
 refine Ret.ofC ?_
 refine enterK Try.func25 rfl Try.ntmps25 (show 2 ≤ 17 by decide) fun a k hk0 hs hd ha => ?_
 obtain ⟨e0, e1, _⟩ := ha
 replace i0 : (IsV x_) (a.get 0) k := by rw [e0, hk0]; exact i0
 replace i1 : (IsV y_) (a.get 1) k := by rw [e1, hk0]; exact i1
 have hQ : Gb.LetsOut (bodyPost Try.prog Try.f25 (RetC noF k0 (IsV r))) := letsOutC
 have hg : Chg noF k0 k := by rw [hk0]; exact Chg.refl _ k0
 refine stepL 3 (⟨some (IsRef x_), [(0, none)]⟩ :: ⟨some (IsRef y_), [(1, none)]⟩ :: ⟨some (IsV false), []⟩ :: []) rfl ⟨hg, hs, hd⟩ (by kernel_rfl) ⟨ob1 rfl fun _ _ h n => ok_boxR rfl (up i0 h n.1), ob1 rfl fun _ _ h n => ok_boxR rfl (up i1 h n.1), ob1 rfl fun _ _ h n => ok_assign rfl (isV_bool.2 rfl), trivial⟩ [⟨_, _⟩, ⟨_, _⟩] (fun b q p => ⟨p.ou 0 2 rfl, p.ou 1 3 rfl, trivial⟩) ?_
 rintro a k ⟨⟨hg, hs, hd⟩, i2, i3, _⟩
 refine wp_seq ?_
 obtain ⟨x1, hx1, hr⟩ := bind_some hr
 obtain ⟨x2, hx2, hx1⟩ := ite_bind hx1
 refine cut (fun a' k' => Bs noF k0 17 a' k' ∧ (IsV x1) (a'.get 4) k' ∧ True) ?_ hQ ?_
 ·intro Q1 W1 w1
  refine gS 13 (_ :: _ :: _ :: _ :: _ :: _ :: _ :: _ :: _ :: _ :: _ :: _ :: _ :: []) hs (by kernel_rfl) ⟨o1 [(2, none)] rfl fun _ _ h n => ok_fieldAddr rfl fo48_0 (at_Drawing_0 _) ((up i2 h n.1)).ptr, o1 [(5, some 0)] rfl fun _ _ h n => ok_load rfl ty3 n.1, o1 [(3, none)] rfl fun _ _ h n => ok_fieldAddr rfl fo48_0 (at_Drawing_0 _) ((up i3 h n.1)).ptr, o1 [(7, some 2)] rfl fun _ _ h n => ok_load rfl ty3 n.1, o1 [(6, some 1), (8, some 3)] rfl fun _ _ h n => ok_eqI rfl n.1 n.2.1, cm 4 rfl rfl, gT [(2, none)] rfl rfl fun hp _ _ h n => ok_fieldAddr rfl fo48_1 (at_Drawing_1 _) ((up i2 h n.1)).ptr, gT [(11, some 6)] rfl rfl fun hp _ _ h n => ok_load rfl ty46 (Gd.get n.1 hp), gT [(3, none)] rfl rfl fun hp _ _ h n => ok_fieldAddr rfl fo48_1 (at_Drawing_1 _) ((up i3 h n.1)).ptr, gT [(13, some 8)] rfl rfl fun hp _ _ h n => ok_load rfl ty46 (Gd.get n.1 hp), gT [(12, some 7), (14, some 9)] rfl rfl fun hp _ _ h n => ok_call rfl Try.call26 (slices_EqualFunc_Phase_Phase_Phase_ok (Gd.get n.1 hp) (Gd.get n.2.1 hp) ⟨27, _, _, rfl, Try.call27, fun k9 hk9 _ _ _ _ _ hx0 hx1 hy9 => by simpa [evalT] using dossier_takes_ok hx0 hx1 hy9⟩ (hx2 hp)), o1 [(10, some 5), (15, some 10)] rfl fun _ _ h n => ok_pickM rfl n.1 hx1 (Gd.get n.2.1) (cB rfl), cp 11 rfl rfl, trivial⟩ W1 fun b q p => ?_
  exact tail_done (k := q) (w1 _ _ ⟨Bs.post ⟨hg, hs, hd⟩ p, p.ou 12 4 rfl, trivial⟩)
 rintro a k ⟨⟨hg, hs, hd⟩, i4, _⟩
 refine wp_ret ?_
 obtain rfl := Option.some.inj hr
 exact retC1 rfl hd hg i4
def dossier_Less (a_ : (List Drawing)) (b_ : (List Drawing)) : Option (Bool) :=
 (slices_EqualFunc_Drawing_Drawing_Drawing a_ b_ dossier_Less_1).bind fun x1 =>
 some x1
theorem dossier_Less_ok {k0 : K} {v0 v1 : Value} {a_ : (List Drawing)} {b_ : (List Drawing)} {r : Bool} (i0 : (IsV a_) v0 k0) (i1 : (IsV b_) v1 k0) (hr : dossier_Less a_ b_ = some r) :
  Calls Try.prog 11 #[v0, v1] k0.w (Ret k0 (IsV r)) := by
 unfold dossier_Less at hr
 refine Ret.ofC ?_
 refine enterK Try.func11 rfl Try.ntmps11 (show 2 ≤ 8 by decide) fun a k hk0 hs hd ha => ?_
 obtain ⟨e0, e1, _⟩ := ha
 replace i0 : (IsV a_) (a.get 0) k := by rw [e0, hk0]; exact i0
 replace i1 : (IsV b_) (a.get 1) k := by rw [e1, hk0]; exact i1
 have hQ : Gb.LetsOut (bodyPost Try.prog Try.f11 (RetC noF k0 (IsV r))) := letsOutC
 have hg : Chg noF k0 k := by rw [hk0]; exact Chg.refl _ k0
 refine stepL 1 (⟨some (IsV false), []⟩ :: []) rfl ⟨hg, hs, hd⟩ (by kernel_rfl) ⟨ob1 rfl fun _ _ h n => ok_assign rfl (isV_bool.2 rfl), trivial⟩ [⟨_, _⟩, ⟨_, _⟩] (fun b q p => ⟨p.ke 0 rfl i0, p.ke 1 rfl i1, trivial⟩) ?_
 rintro a k ⟨⟨hg, hs, hd⟩, i0, i1, _⟩
 refine wp_seq ?_
 obtain ⟨x1, hx1, hr⟩ := bind_some hr
 refine cut (fun a' k' => Bs noF k0 8 a' k' ∧ (IsV x1) (a'.get 4) k' ∧ True) ?_ hQ ?_
 ·intro Q1 W1 w1
  refine gS 4 (_ :: _ :: _ :: _ :: []) hs (by kernel_rfl) ⟨mu rfl i0, mu rfl i1, o1 [(5, some 0), (6, some 1)] rfl fun _ _ h n => ok_call rfl Try.call24 (slices_EqualFunc_Drawing_Drawing_Drawing_ok n.1 n.2.1 ⟨25, _, _, rfl, Try.call25, fun k9 hk9 _ _ _ _ _ hx0 hx1 hy9 => by simpa [evalT] using dossier_Less_1_ok hx0 hx1 hy9⟩ hx1), cp 2 rfl rfl, trivial⟩ W1 fun b q p => ?_
  exact tail_done (k := q) (w1 _ _ ⟨Bs.post ⟨hg, hs, hd⟩ p, p.ou 3 4 rfl, trivial⟩)
 rintro a k ⟨⟨hg, hs, hd⟩, i4, _⟩
 refine wp_ret ?_
 obtain rfl := Option.some.inj hr
 exact retC1 rfl hd hg i4
noncomputable def k11 := mkO 11 [.list (.st 3), .list (.st 3)] [.bool] (fun x => dossier_Less x.1 x.2) Try.call11 fun k0 vs x r hG h hr => by obtain ⟨v0, vs, rfl, i0, h⟩ := h.cons; obtain ⟨v1, rfl, i1⟩ := h.one; exact dossier_Less_ok i0 i1 hr
def dossier_amend (d_ : Dossier) (l_ : (List Drawing)) : Option (Dossier × Int) :=
 (dossier_formed l_).bind fun x1 =>
 if (!x1) then
  some ((⟨0, 0, 0, 0, 0, [], 0, 0⟩ : Dossier), 1)
 else
  (if (decide (2 ≤ d_.State)) then
   (dossier_Less l_ d_.Drawings).bind fun x2 =>
   some (!x2)
  else
   some false).bind fun x3 =>
  (if x3 then
   some { { d_ with State := 1 } with Rule := 0 }
  else
   some d_).bind fun s1 =>
  (dossier_clone l_).bind fun x4 =>
  some ({ { s1 with Drawings := x4 } with Choice := 0 }, 0)
noncomputable def k43 := mkg 43 [.st 6, .list (.st 3)] [.st 6, .int] (fun x => dossier_amend x.1 x.2) [k20, k11.lift glv giv gl0, k22.lift glv giv gl0] [2, 4] Try.f43 (.s .n (.s .n (.s (.s .n (.j [] [(2, .b (.st 6))] ([], []) (.s .n .n))) .n))) Try.func43 Try.call43 rfl rfl fun x => by kernel_rfl
def dossier_change (p_ : Plan) (d_ : Dossier) (a_ : Act) (before_ : Int) : Option (Dossier × Int) :=
 (if (a_.Kind == 0) then
  some (.go ({ d_ with State := 1 }, (⟨0, 0, 0, 0, 0, [], 0, 0⟩ : Dossier)))
 else
  (if (a_.Kind == 1) then
   (clause_May p_ a_.Day a_.N).bind fun x1 =>
   if (!x1) then
    some (.ret ((⟨0, 0, 0, 0, 0, [], 0, 0⟩ : Dossier), 20))
   else
    some (.go ({ { d_ with State := 2 } with Rule := a_.N }, (⟨0, 0, 0, 0, 0, [], 0, 0⟩ : Dossier)))
  else
   if (a_.Kind == 2) then
    (dossier_amend d_ a_.Drawings).bind fun x2 =>
    some (.ret (x2.1, x2.2))
   else
    (if (a_.Kind == 3) then
     some (.go ({ d_ with State := 3 }, (⟨0, 0, 0, 0, 0, [], 0, 0⟩ : Dossier)))
    else
     (if (a_.Kind == 4) then
      some (.go ({ d_ with State := 4 }, (⟨0, 0, 0, 0, 0, [], 0, 0⟩ : Dossier)))
     else
      (if (a_.Kind == 5) then
       if ((decide (a_.N < 0)) || (decide ((d_.Drawings.length : Int) ≤ a_.N))) then
        some (.ret ((⟨0, 0, 0, 0, 0, [], 0, 0⟩ : Dossier), 1))
       else
        some (.go ({ { d_ with State := 5 } with Choice := a_.N }, (⟨0, 0, 0, 0, 0, [], 0, 0⟩ : Dossier)))
      else
       (if (a_.Kind == 6) then
        some (.go ({ d_ with State := 6 }, (⟨0, 0, 0, 0, 0, [], 0, 0⟩ : Dossier)))
       else
        (if (a_.Kind == 7) then
         some (.go ({ d_ with State := 7 }, (⟨0, 0, 0, 0, 0, [], 0, 0⟩ : Dossier)))
        else
         (if (a_.Kind == 8) then
          (subI a_.Day before_).bind fun x3 =>
          if (decide (x3 < 365)) then
           some (.ret ((⟨0, 0, 0, 0, 0, [], 0, 0⟩ : Dossier), 20))
          else
           some (.go ({ d_ with State := 8 }, (⟨0, 0, 0, 0, 0, [], 0, 0⟩ : Dossier)))
         else
          (if (a_.Kind == 9) then
           if ((decide (a_.N < 0)) || (a_.N == d_.Holder)) then
            some (.ret ((⟨0, 0, 0, 0, 0, [], 0, 0⟩ : Dossier), 1))
           else
            some (.go ({ d_ with Holder := a_.N }, (⟨0, 0, 0, 0, 0, [], 0, 0⟩ : Dossier)))
          else
           (if (a_.Kind == 10) then
            if ((decide (a_.N < 1)) || (a_.N == d_.Id)) then
             some (.ret ((⟨0, 0, 0, 0, 0, [], 0, 0⟩ : Dossier), 1))
            else
             some (.go ({ { d_ with State := 9 } with Into := a_.N }, (⟨0, 0, 0, 0, 0, [], 0, 0⟩ : Dossier)))
           else
            some (.go (d_, (⟨0, 0, 0, 0, 0, [], 0, 0⟩ : Dossier))) : Option (Flow (Dossier × Dossier) (Dossier × Int))).bind fun f1 => match f1 with
            | .go s1 =>
             some (.go (s1.1, s1.2))
            | .ex _ _ => none
            | .ret r1 => some (.ret r1) : Option (Flow (Dossier × Dossier) (Dossier × Int))).bind fun f2 => match f2 with
           | .go s2 =>
            some (.go (s2.1, s2.2))
           | .ex _ _ => none
           | .ret r2 => some (.ret r2) : Option (Flow (Dossier × Dossier) (Dossier × Int))).bind fun f3 => match f3 with
          | .go s3 =>
           some (.go (s3.1, s3.2))
          | .ex _ _ => none
          | .ret r3 => some (.ret r3) : Option (Flow (Dossier × Dossier) (Dossier × Int))).bind fun f4 => match f4 with
         | .go s4 =>
          some (.go (s4.1, s4.2))
         | .ex _ _ => none
         | .ret r4 => some (.ret r4) : Option (Flow (Dossier × Dossier) (Dossier × Int))).bind fun f5 => match f5 with
        | .go s5 =>
         some (.go (s5.1, s5.2))
        | .ex _ _ => none
        | .ret r5 => some (.ret r5) : Option (Flow (Dossier × Dossier) (Dossier × Int))).bind fun f6 => match f6 with
       | .go s6 =>
        some (.go (s6.1, s6.2))
       | .ex _ _ => none
       | .ret r6 => some (.ret r6) : Option (Flow (Dossier × Dossier) (Dossier × Int))).bind fun f7 => match f7 with
      | .go s7 =>
       some (.go (s7.1, s7.2))
      | .ex _ _ => none
      | .ret r7 => some (.ret r7) : Option (Flow (Dossier × Dossier) (Dossier × Int))).bind fun f8 => match f8 with
     | .go s8 =>
      some (.go (s8.1, s8.2))
     | .ex _ _ => none
     | .ret r8 => some (.ret r8) : Option (Flow (Dossier × Dossier) (Dossier × Int))).bind fun f9 => match f9 with
   | .go s9 =>
    some (.go (s9.1, s9.2))
   | .ex _ _ => none
   | .ret r9 => some (.ret r9) : Option (Flow (Dossier × Dossier) (Dossier × Int))).bind fun f10 => match f10 with
  | .go s10 =>
   some (s10.1, 0)
  | .ex _ _ => none
  | .ret r10 => some r10
noncomputable def k23 := mkg 23 [.st 7, .st 6, .st 18, .int] [.st 6, .int] (fun x => dossier_change x.1 x.2.1 x.2.2.1 x.2.2.2) [k12.lift glv giv gl0, k43] [5, 8] Try.f23 (.s .n (.s (.s .n (.s .n (.jf [] [(5, .b (.st 6)), (8, .b (.st 6))] ([], []) [] (.s .n (.s .n (.jf [] [(5, .b (.st 6)), (8, .b (.st 6))] ([], []) [] (.s .n (.s .n (.s .n (.s .n (.jf [] [(5, .b (.st 6)), (8, .b (.st 6))] ([], []) [] (.s .n (.s .n (.jf [] [(5, .b (.st 6)), (8, .b (.st 6))] ([], []) [] (.s .n (.s .n (.jf [] [(5, .b (.st 6)), (8, .b (.st 6))] ([], []) [] (.s .n (.s .n (.jf [] [(5, .b (.st 6)), (8, .b (.st 6))] ([], []) [] (.s .n (.s .n (.jf [] [(5, .b (.st 6)), (8, .b (.st 6))] ([], []) [] (.s .n (.s .n (.jf [] [(5, .b (.st 6)), (8, .b (.st 6))] ([], []) [] (.s .n (.s .n (.jf [] [(5, .b (.st 6)), (8, .b (.st 6))] ([], []) [] (.s .n (.s .n (.jf [] [(5, .b (.st 6)), (8, .b (.st 6))] ([], []) [] (.s .n .n))))))))))))))))))))))))))))))))) .n)) Try.func23 Try.call23 rfl rfl fun x => by kernel_rfl
def dossier_Step (p_ : Plan) (d_ : Dossier) (a_ : Act) : Option (Dossier × Int) :=
 (dossier_Right d_).bind fun x1 =>
 (if (!x1) then
  some (!x1)
 else
  (if (decide (a_.Kind < 0)) then
   some (decide (a_.Kind < 0))
  else
   (if (decide (11 ≤ a_.Kind)) then
    some (decide (11 ≤ a_.Kind))
   else
    some ((decide (0 < (a_.Drawings.length : Int))) && (a_.Kind != 2))).bind fun s1 =>
   some s1).bind fun s2 =>
  some s2).bind fun s3 =>
 if s3 then
  some ((⟨0, 0, 0, 0, 0, [], 0, 0⟩ : Dossier), 1)
 else
  (if (decide (a_.Day < d_.Day)) then
   some (decide (a_.Day < d_.Day))
  else
   some (decide (1073741824 < a_.Day))).bind fun s4 =>
  if s4 then
   some ((⟨0, 0, 0, 0, 0, [], 0, 0⟩ : Dossier), 20)
  else
   (dossier_Acts d_.State).bind fun x2 =>
   (slices_Contains_int x2 a_.Kind).bind fun x3 =>
   if (!x3) then
    some ((⟨0, 0, 0, 0, 0, [], 0, 0⟩ : Dossier), 7)
   else
    (dossier_clone d_.Drawings).bind fun x4 =>
    (dossier_change p_ ({ { d_ with Day := a_.Day } with Drawings := x4 }) a_ d_.Day).bind fun x5 =>
    some (x5.1, x5.2)
noncomputable def k10 := mkg 10 [.st 7, .st 6, .st 18] [.st 6, .int] (fun x => dossier_Step x.1 x.2.1 x.2.2) [k9, k14.lift glv giv gl0, k21.lift glv giv gl0, k22.lift glv giv gl0, k23] [4, 6] Try.f10 (.s .n (.s (.s (.s .n (.j [] [(9, .v .bool)] ([], []) (.s .n (.s .n (.j [] [(9, .v .bool)] ([], []) (.s .n (.s .n (.j [] [(9, .v .bool)] ([], []) (.s .n .n))))))))) (.s .n (.s (.s .n (.j [] [(29, .v .bool)] ([], []) (.s .n .n))) .n))) .n)) Try.func10 Try.call10 rfl rfl fun x => by kernel_rfl
theorem dossier_Step_ok {k0 : K} {v0 v1 v2 : Value} {x0 : Plan} {x1 : Dossier} {x2 : Act} {r : Dossier × Int} (hG : GOk tbg k0) (i0 : IsV x0 v0 k0) (i1 : IsV x1 v1 k0) (i2 : IsV x2 v2 k0) (hr : dossier_Step x0 x1 x2 = some r) : Calls Try.prog 10 #[v0, v1, v2] k0.w (Ret k0 (IsTup2 (IsV r.1) (IsV r.2))) := ret2T (T := tbg) (k10.ok.ok k0 [v0, v1, v2] (x0, x1, x2) r hG ⟨i0, i1, i2⟩ hr)
def ref01_SameNums_L0 (a_ : (List Int)) (b_ : (List Int)) (s1 : Int) : Option (Flow (Int) (Bool)) :=
 if (decide (s1 < (a_.length : Int))) then
  (getI a_ s1).bind fun x1 =>
  (getI b_ s1).bind fun x2 =>
  if (x1 != x2) then
   some (.ret false)
  else
   (addI s1 1).bind fun x3 =>
   some (.go x3)
 else
  some (.ex 0 s1)
def ref01_SameNums (a_ : (List Int)) (b_ : (List Int)) : Option (Bool) :=
 if ((a_.length : Int) != (b_.length : Int)) then
  some false
 else
  (iterL (ref01_SameNums_L0 a_ b_) (a_.length + b_.length + 1) 0).bind fun f1 => match f1 with
   | .go _ => none
   | .ex _ _ =>
    some true
   | .ret r1 => some r1
noncomputable def k18 := mk 18 [.list .int, .list .int] [.bool] (fun x => ref01_SameNums x.1 x.2) [] [] Try.f18 (.s .n (.s .n (.s (.s .n (.l [] [(5, .v .int)] [(0, [5], [])] (fL [0, 1]) .n)) .n))) Try.func18 Try.call18 rfl rfl fun x => by kernel_rfl
theorem ref01_SameNums_ok {k0 : K} {v0 v1 : Value} {x0 : (List Int)} {x1 : (List Int)} {r : Bool} (i0 : IsV x0 v0 k0) (i1 : IsV x1 v1 k0) (hr : ref01_SameNums x0 x1 = some r) : Calls Try.prog 18 #[v0, v1] k0.w (Ret k0 (IsV r)) := (k18.ok.ok k0 [v0, v1] (x0, x1) r (GOk.none (fun _ => rfl) fun _ e => by cases e) ⟨i0, i1⟩ hr)
def law30_small  : Option (Bool) :=
 (law30_box 9).bind fun x1 =>
 (dossier_Step (⟨[], [], [], [], [], [], [], 0⟩ : Plan) (⟨1, 0, 0, 3, 0, x1, 0, 0⟩ : Dossier) (⟨1, 5, 5, []⟩ : Act)).bind fun x2 =>
 (dossier_Step (⟨[], [], [], [], [], [], [], 0⟩ : Plan) x2.1 (⟨3, 4, 0, []⟩ : Act)).bind fun x3 =>
 (law30_box 6).bind fun x4 =>
 (dossier_Step (⟨[], [], [], [], [], [], [], 0⟩ : Plan) x2.1 (⟨2, 6, 0, x4⟩ : Act)).bind fun x5 =>
 (law30_box 12).bind fun x6 =>
 (dossier_Step (⟨[], [], [], [], [], [], [], 0⟩ : Plan) x2.1 (⟨2, 6, 0, x6⟩ : Act)).bind fun x7 =>
 (if ((((((x2.2 == 0) && (x2.1.State == 2)) && (x2.1.Day == 5)) && (x2.1.Rule == 5)) && (x3.2 == 20)) && (((((((x5.2 == 0) && (x5.1.State == 2)) && (x5.1.Rule == 5)) && (x5.1.Day == 6)) && (x7.2 == 0)) && (x7.1.State == 1)) && (x7.1.Rule == 0))) then
  (dossier_Right (⟨1, 0, 0, 3, 0, x1, 0, 0⟩ : Dossier)).bind fun x8 =>
  some x8
 else
  some false).bind fun x9 =>
 (if x9 then
  (law30_box 6).bind fun x10 =>
  (law30_box 9).bind fun x11 =>
  (dossier_Less x10 x11).bind fun x12 =>
  some x12
 else
  some false).bind fun x13 =>
 (if x13 then
  (law30_box 12).bind fun x14 =>
  (law30_box 9).bind fun x15 =>
  (dossier_Less x14 x15).bind fun x16 =>
  some (!x16)
 else
  some false).bind fun x17 =>
 (if x17 then
  (dossier_Acts 4).bind fun x18 =>
  (ref01_SameNums x18 ([5, 6, 7, 9])).bind fun x19 =>
  some x19
 else
  some false).bind fun x20 =>
 some x20
theorem law30_small_ok {k0 : K} {r : Bool} (hG : GOk tbg k0) (hr : law30_small = some r) :
  Calls Try.prog 7 #[] k0.w (Ret k0 (IsV r)) := by
 unfold law30_small at hr
 refine Ret.ofC ?_
 refine enterK Try.func7 rfl Try.ntmps7 (show 0 ≤ 120 by decide) fun a k hk0 hs hd ha => ?_
 have hQ : Gb.LetsOut (bodyPost Try.prog Try.f7 (RetC noF k0 (IsV r))) := letsOutC
 have hg : Chg noF k0 k := by rw [hk0]; exact Chg.refl _ k0
 refine cutL noF k0 120 [] ?_ ?_
 ·intro Q1 W1 w1
  refine gS 1 (⟨some (IsV false), []⟩ :: []) hs (by kernel_rfl) ⟨ob1 rfl fun _ _ h n => ok_assign rfl (isV_bool.2 rfl), trivial⟩ W1 fun b q p => ?_
  exact tail_done (k := q) (w1 _ _ ⟨Bs.post ⟨hg, hs, hd⟩ p, trivial⟩)
 rintro a k ⟨⟨hg, hs, hd⟩, _⟩
 refine wp_seq ?_
 obtain ⟨x3, hx3, hr⟩ := bind_some hr
 refine cut (fun a' k' => Bs noF k0 120 a' k' ∧ (IsRef (⟨1, 0, 0, 3, 0, x3, 0, 0⟩ : Dossier)) (a'.get 1) k' ∧ True) ?_ hQ ?_
 ·intro Q2 W2 w2
  refine gS 3 (_ :: ⟨some (IsV (⟨1, 0, 0, 3, 0, x3, 0, 0⟩ : Dossier)), [(12, some 0)]⟩ :: ⟨some (IsBox k.w.heap.size (⟨0, 0, 0, 0, 0, [], 0, 0⟩ : Dossier)), []⟩ :: []) hs (by kernel_rfl) ⟨o1 [] rfl fun _ _ h n => ok_call rfl Try.call17 (law30_box_ok (cI rfl) hx3), ob1 rfl fun _ _ h n => ok_build rfl (bld33_0_3_5 (cI rfl) (cI rfl) n.1), ob1 rfl fun _ _ h n => ok_alloc _ h.size rfl z33, trivial⟩ W2 fun b q p => ?_
  have hgq := hg.then p.grow
  have hsb := p.size.trans hs
  have hdb := p.defers.trans hd
  obtain ⟨b1, j1, x1, z1⟩ : (IsBox k.w.heap.size (⟨0, 0, 0, 0, 0, [], 0, 0⟩ : Dossier)) (b.get 1) q := p.ou 2 1 rfl
  replace x1 : Lo k (Eq b1) := Lo.eq x1
  have y1 : Lo k0 (Eq b1) := x1.chg hg
  have j13 : (IsV (⟨1, 0, 0, 3, 0, x3, 0, 0⟩ : Dossier)) (b.get 13) q := p.ou 1 13 rfl
  have hns := z1.nshF
  refine tail_storeB (i := 3) rfl rfl rfl rfl szf33 (Upd.self (α := Dossier)) j1 z1 j13 fun q2 hch hz => ?_
  replace hgq := hgq.step hch y1.wr
  have hle := hch.le hns
  replace j13 := Pers.pers hle j13
  replace z1 := hz
  clear hns hle hch
  obtain ⟨q, hqq⟩ : ∃ q, q = q2 := ⟨q2, rfl⟩
  subst hqq
  obtain ⟨q2, hsh, jn⟩ := z1.give
  rw [← j1] at jn
  replace j1 := jn
  replace hgq := hgq.hand hsh y1.wr
  rw [← hsh.w]
  clear hsh
  obtain ⟨q, hqq⟩ : ∃ q, q = q2 := ⟨q2, rfl⟩
  subst hqq
  exact tail_done (k := q) (w2 _ _ ⟨⟨hgq, hsb, hdb⟩, j1, trivial⟩)
 rintro a k ⟨⟨hg, hs, hd⟩, i1, _⟩
 refine wp_seq ?_
 obtain ⟨x5, hx5, hr⟩ := bind_some hr
 refine cut (fun a' k' => Bs noF k0 120 a' k' ∧ (IsRef (⟨1, 0, 0, 3, 0, x3, 0, 0⟩ : Dossier)) (a'.get 1) k' ∧ (IsRef x5.1) (a'.get 2) k' ∧ (IsV x5.2) (a'.get 3) k' ∧ True) ?_ hQ ?_
 ·intro Q3 W3 w3
  refine gS 8 (⟨some (IsV (⟨[], [], [], [], [], [], [], 0⟩ : Plan)), []⟩ :: _ :: ⟨some (IsV (⟨1, 5, 5, []⟩ : Act)), []⟩ :: _ :: _ :: _ :: _ :: ⟨some (IsBox k.w.heap.size (⟨0, 0, 0, 0, 0, [], 0, 0⟩ : Dossier)), []⟩ :: []) hs (by kernel_rfl) ⟨ob1 rfl fun _ _ h n => ok_build rfl (bld30_ ), o1 [(1, none)] rfl fun _ _ h n => ok_load rfl ty33 ((up i1 h n.1)).ptr, ob1 rfl fun _ _ h n => ok_build rfl (bld42_0_1_2 (cI rfl) (cI rfl) (cI rfl)), o1 [(15, some 0), (16, some 1), (17, some 2)] rfl fun _ _ h n => ok_call rfl Try.call10 (dossier_Step_ok (hG.at hg h) n.1 n.2.1 n.2.2.1 hx5), cm 3 rfl rfl, o1 [(14, some 4)] rfl fun _ _ h n => ok_ext2_0 rfl n.1, o1 [(14, some 4)] rfl fun _ _ h n => ok_ext2_1 rfl n.1, ob1 rfl fun _ _ h n => ok_alloc _ h.size rfl z33, trivial⟩ W3 fun b q p => ?_
  have hgq := hg.then p.grow
  have hsb := p.size.trans hs
  have hdb := p.defers.trans hd
  have j1 := p.ke 1 rfl i1
  obtain ⟨b2, j2, x2, z2⟩ : (IsBox k.w.heap.size (⟨0, 0, 0, 0, 0, [], 0, 0⟩ : Dossier)) (b.get 2) q := p.ou 7 2 rfl
  replace x2 : Lo k (Eq b2) := Lo.eq x2
  have y2 : Lo k0 (Eq b2) := x2.chg hg
  have j19 : (IsV x5.1) (b.get 19) q := p.ou 5 19 rfl
  have j20 : (IsV x5.2) (b.get 20) q := p.ou 6 20 rfl
  have hns := z2.nshF
  refine tail_storeB (i := 8) rfl rfl rfl rfl szf33 (Upd.self (α := Dossier)) j2 z2 j19 fun q2 hch hz => ?_
  replace hgq := hgq.step hch y2.wr
  have hle := hch.le hns
  replace j1 := Pers.pers hle j1
  replace j19 := Pers.pers hle j19
  replace j20 := Pers.pers hle j20
  replace z2 := hz
  clear hns hle hch
  obtain ⟨q, hqq⟩ : ∃ q, q = q2 := ⟨q2, rfl⟩
  subst hqq
  refine tail_assign (i := 9) (d := 3) rfl rfl (.inl rfl) rfl (by rw [hsb]; decide) fun b2 hsz hdf hnew hoth => ?_
  have jn : (IsV x5.2) (b2.get 3) q := by rw [hnew]; exact j20
  rw [← hoth 1 (by decide)] at j1
  rw [← hoth 2 (by decide)] at j2
  rw [← hoth 19 (by decide)] at j19
  rw [← hoth 20 (by decide)] at j20
  have j3 := jn
  replace hsb := hsz.trans hsb
  replace hdb := hdf.trans hdb
  clear hsz hdf hoth
  obtain ⟨b, hbb⟩ : ∃ b, b = b2 := ⟨b2, rfl⟩
  subst hbb
  obtain ⟨q2, hsh, jn⟩ := z2.give
  replace j1 := Pers.pers hsh.le j1
  replace j3 := Pers.pers hsh.le j3
  rw [← j2] at jn
  replace j2 := jn
  replace hgq := hgq.hand hsh y2.wr
  rw [← hsh.w]
  clear hsh
  obtain ⟨q, hqq⟩ : ∃ q, q = q2 := ⟨q2, rfl⟩
  subst hqq
  exact tail_done (k := q) (w3 _ _ ⟨⟨hgq, hsb, hdb⟩, j1, j2, j3, trivial⟩)
 rintro a k ⟨⟨hg, hs, hd⟩, i1, i2, i3, _⟩
 refine wp_seq ?_
 obtain ⟨x6, hx6, hr⟩ := bind_some hr
 refine cut (fun a' k' => Bs noF k0 120 a' k' ∧ (IsRef (⟨1, 0, 0, 3, 0, x3, 0, 0⟩ : Dossier)) (a'.get 1) k' ∧ (IsRef x5.1) (a'.get 2) k' ∧ (IsV x5.2) (a'.get 3) k' ∧ (IsV x6.2) (a'.get 5) k' ∧ True) ?_ hQ ?_
 ·intro Q4 W4 w4
  refine gS 8 (⟨some (IsV (⟨[], [], [], [], [], [], [], 0⟩ : Plan)), []⟩ :: _ :: ⟨some (IsV (⟨3, 4, 0, []⟩ : Act)), []⟩ :: _ :: _ :: _ :: _ :: ⟨some (IsBox k.w.heap.size (⟨0, 0, 0, 0, 0, [], 0, 0⟩ : Dossier)), []⟩ :: []) hs (by kernel_rfl) ⟨ob1 rfl fun _ _ h n => ok_build rfl (bld30_ ), o1 [(2, none)] rfl fun _ _ h n => ok_load rfl ty33 ((up i2 h n.1)).ptr, ob1 rfl fun _ _ h n => ok_build rfl (bld42_0_1 (cI rfl) (cI rfl)), o1 [(22, some 0), (23, some 1), (24, some 2)] rfl fun _ _ h n => ok_call rfl Try.call10 (dossier_Step_ok (hG.at hg h) n.1 n.2.1 n.2.2.1 hx6), cm 3 rfl rfl, o1 [(21, some 4)] rfl fun _ _ h n => ok_ext2_0 rfl n.1, o1 [(21, some 4)] rfl fun _ _ h n => ok_ext2_1 rfl n.1, ob1 rfl fun _ _ h n => ok_alloc _ h.size rfl z33, trivial⟩ W4 fun b q p => ?_
  have hgq := hg.then p.grow
  have hsb := p.size.trans hs
  have hdb := p.defers.trans hd
  have j1 := p.ke 1 rfl i1
  have j2 := p.ke 2 rfl i2
  have j3 := p.ke 3 rfl i3
  obtain ⟨b4, j4, x4, z4⟩ : (IsBox k.w.heap.size (⟨0, 0, 0, 0, 0, [], 0, 0⟩ : Dossier)) (b.get 4) q := p.ou 7 4 rfl
  replace x4 : Lo k (Eq b4) := Lo.eq x4
  have y4 : Lo k0 (Eq b4) := x4.chg hg
  have j26 : (IsV x6.1) (b.get 26) q := p.ou 5 26 rfl
  have j27 : (IsV x6.2) (b.get 27) q := p.ou 6 27 rfl
  have hns := z4.nshF
  refine tail_storeB (i := 8) rfl rfl rfl rfl szf33 (Upd.self (α := Dossier)) j4 z4 j26 fun q2 hch hz => ?_
  replace hgq := hgq.step hch y4.wr
  have hle := hch.le hns
  replace j1 := Pers.pers hle j1
  replace j2 := Pers.pers hle j2
  replace j3 := Pers.pers hle j3
  replace j26 := Pers.pers hle j26
  replace j27 := Pers.pers hle j27
  replace z4 := hz
  clear hns hle hch
  obtain ⟨q, hqq⟩ : ∃ q, q = q2 := ⟨q2, rfl⟩
  subst hqq
  refine tail_assign (i := 9) (d := 5) rfl rfl (.inl rfl) rfl (by rw [hsb]; decide) fun b2 hsz hdf hnew hoth => ?_
  have jn : (IsV x6.2) (b2.get 5) q := by rw [hnew]; exact j27
  rw [← hoth 1 (by decide)] at j1
  rw [← hoth 2 (by decide)] at j2
  rw [← hoth 3 (by decide)] at j3
  rw [← hoth 4 (by decide)] at j4
  rw [← hoth 26 (by decide)] at j26
  rw [← hoth 27 (by decide)] at j27
  have j5 := jn
  replace hsb := hsz.trans hsb
  replace hdb := hdf.trans hdb
  clear hsz hdf hoth
  obtain ⟨b, hbb⟩ : ∃ b, b = b2 := ⟨b2, rfl⟩
  subst hbb
  exact tail_done (k := q) (w4 _ _ ⟨⟨hgq, hsb, hdb⟩, j1, j2, j3, j5, trivial⟩)
 rintro a k ⟨⟨hg, hs, hd⟩, i1, i2, i3, i5, _⟩
 refine wp_seq ?_
 obtain ⟨x7, hx7, hr⟩ := bind_some hr
 obtain ⟨x8, hx8, hr⟩ := bind_some hr
 refine cut (fun a' k' => Bs noF k0 120 a' k' ∧ (IsRef (⟨1, 0, 0, 3, 0, x3, 0, 0⟩ : Dossier)) (a'.get 1) k' ∧ (IsRef x5.1) (a'.get 2) k' ∧ (IsV x5.2) (a'.get 3) k' ∧ (IsV x6.2) (a'.get 5) k' ∧ (IsRef x8.1) (a'.get 6) k' ∧ (IsV x8.2) (a'.get 7) k' ∧ True) ?_ hQ ?_
 ·intro Q5 W5 w5
  refine regionN (m := 9) (es := ⟨some (IsV (⟨[], [], [], [], [], [], [], 0⟩ : Plan)), []⟩ :: ⟨some (IsV x5.1), [(2, none)]⟩ :: ⟨some (IsV x7), []⟩ :: ⟨some (IsV (⟨2, 6, 0, x7⟩ : Act)), [(31, some 2)]⟩ :: ⟨some (IsTup2 (IsV x8.1) (IsV x8.2)), [(29, some 0), (30, some 1), (32, some 3)]⟩ :: ⟨some (IsTup2 (IsV x8.1) (IsV x8.2)), [(33, some 4)]⟩ :: ⟨some (IsV x8.1), [(28, some 5)]⟩ :: ⟨some (IsV x8.2), [(28, some 5)]⟩ :: ⟨some (IsBoxS Dossier k.w.heap.size), []⟩ :: []) (pt := 6) (yt := 34) (ja := 8) (jy := 6) hmix hs (by kernel_rfl) ⟨.inr fun _ _ _ h => Pers.pers h, .inr fun _ _ _ h => Pers.pers h, .inr fun _ _ _ h => Pers.pers h, .inr fun _ _ _ h => Pers.pers h, .inr fun _ _ _ h => Pers.pers h, .inr fun _ _ _ h => Pers.pers h, .inr fun _ _ _ h => Pers.pers h, .inr fun _ _ _ h => Pers.pers h, .inl rfl, trivial⟩ (fun kb hle9 hz9 => by
   have i2 := Pers.pers hle9 i2
   exact ⟨ob1 rfl fun b q hk hn => ok_build rfl (bld30_ ), ob1 rfl fun b q hk hn => ok_load rfl ty33 ((up i2 hk hn.1)).ptr, ob1 rfl fun b q hk hn => ok_call rfl Try.call17 (law30_box_ok (isV_int.2 rfl) hx7), ob1 rfl fun b q hk hn => ok_build rfl (bld42_0_1_3 (isV_int.2 rfl) (isV_int.2 rfl) hn.1), ob1 rfl fun b q hk hn => ok_call rfl Try.call10 (dossier_Step_ok (GOk.le hk.le (GOk.le hle9 (hG.at hg (Grow.refl _)))) hn.1 hn.2.1 hn.2.2.1 hx8), ob1 rfl fun b q hk hn => ok_move rfl hn.1, ob1 rfl fun b q hk hn => ok_ext2_0 rfl hn.1, ob1 rfl fun b q hk hn => ok_ext2_1 rfl hn.1, ob1 rfl fun b q hk hn => does_imp (ok_alloc _ (Nat.le_trans hz9 hk.size) rfl z33) fun _ _ _ h => ⟨_, h⟩, trivial⟩)
   rfl rfl rfl rfl rfl rfl (by kernel_rfl) (by kernel_rfl) rfl rfl (by kernel_rfl) szf33 fun k1 kb b q b6 gk hch p j6 hsz9 hns z6 => ?_
  have y6 : Lo k0 (Eq b6) := (show Lo k (Eq b6) from Lo.eq hsz9).chg hg
  have hgq := ((hg.then gk).step hch y6.wr).then p.grow
  have hsb := p.size.trans hs
  have hdb := p.defers.trans hd
  have hle9 : Le k kb := gk.le.trans (hch.le fun c hc => by subst hc; exact hns)
  replace i1 := Pers.pers hle9 i1
  replace i2 := Pers.pers hle9 i2
  replace i3 := Pers.pers hle9 i3
  replace i5 := Pers.pers hle9 i5
  have j1 := p.ke 1 rfl i1
  have j2 := p.ke 2 rfl i2
  have j3 := p.ke 3 rfl i3
  have j5 := p.ke 5 rfl i5
  have j34 : (IsV x8.1) (b.get 34) q := p.ou 6 34 rfl
  have j35 : (IsV x8.2) (b.get 35) q := p.ou 7 35 rfl
  clear hch gk hle9 hns
  refine tail_assign (i := 10) (d := 7) rfl rfl (.inl rfl) rfl (by rw [hsb]; decide) fun b2 hsz hdf hnew hoth => ?_
  have jn : (IsV x8.2) (b2.get 7) q := by rw [hnew]; exact j35
  rw [← hoth 1 (by decide)] at j1
  rw [← hoth 2 (by decide)] at j2
  rw [← hoth 3 (by decide)] at j3
  rw [← hoth 5 (by decide)] at j5
  rw [← hoth 6 (by decide)] at j6
  rw [← hoth 34 (by decide)] at j34
  rw [← hoth 35 (by decide)] at j35
  have j7 := jn
  replace hsb := hsz.trans hsb
  replace hdb := hdf.trans hdb
  clear hsz hdf hoth
  obtain ⟨b, hbb⟩ : ∃ b, b = b2 := ⟨b2, rfl⟩
  subst hbb
  obtain ⟨q2, hsh, jn⟩ := z6.give
  replace j1 := Pers.pers hsh.le j1
  replace j2 := Pers.pers hsh.le j2
  replace j3 := Pers.pers hsh.le j3
  replace j5 := Pers.pers hsh.le j5
  replace j7 := Pers.pers hsh.le j7
  rw [← j6] at jn
  replace j6 := jn
  replace hgq := hgq.hand hsh y6.wr
  rw [← hsh.w]
  clear hsh
  obtain ⟨q, hqq⟩ : ∃ q, q = q2 := ⟨q2, rfl⟩
  subst hqq
  exact tail_done (k := q) (w5 _ _ ⟨⟨hgq, hsb, hdb⟩, j1, j2, j3, j5, j6, j7, trivial⟩)
 rintro a k ⟨⟨hg, hs, hd⟩, i1, i2, i3, i5, i6, i7, _⟩
 refine wp_seq ?_
 obtain ⟨x9, hx9, hr⟩ := bind_some hr
 obtain ⟨x10, hx10, hr⟩ := bind_some hr
 refine cut (fun a' k' => Bs noF k0 120 a' k' ∧ (IsRef (⟨1, 0, 0, 3, 0, x3, 0, 0⟩ : Dossier)) (a'.get 1) k' ∧ (IsRef x5.1) (a'.get 2) k' ∧ (IsV x5.2) (a'.get 3) k' ∧ (IsV x6.2) (a'.get 5) k' ∧ (IsRef x8.1) (a'.get 6) k' ∧ (IsV x8.2) (a'.get 7) k' ∧ (IsRef x10.1) (a'.get 8) k' ∧ (IsV x10.2) (a'.get 9) k' ∧ True) ?_ hQ ?_
 ·intro Q6 W6 w6
  refine regionN (m := 9) (es := ⟨some (IsV (⟨[], [], [], [], [], [], [], 0⟩ : Plan)), []⟩ :: ⟨some (IsV x5.1), [(2, none)]⟩ :: ⟨some (IsV x9), []⟩ :: ⟨some (IsV (⟨2, 6, 0, x9⟩ : Act)), [(39, some 2)]⟩ :: ⟨some (IsTup2 (IsV x10.1) (IsV x10.2)), [(37, some 0), (38, some 1), (40, some 3)]⟩ :: ⟨some (IsTup2 (IsV x10.1) (IsV x10.2)), [(41, some 4)]⟩ :: ⟨some (IsV x10.1), [(36, some 5)]⟩ :: ⟨some (IsV x10.2), [(36, some 5)]⟩ :: ⟨some (IsBoxS Dossier k.w.heap.size), []⟩ :: []) (pt := 8) (yt := 42) (ja := 8) (jy := 6) hmix hs (by kernel_rfl) ⟨.inr fun _ _ _ h => Pers.pers h, .inr fun _ _ _ h => Pers.pers h, .inr fun _ _ _ h => Pers.pers h, .inr fun _ _ _ h => Pers.pers h, .inr fun _ _ _ h => Pers.pers h, .inr fun _ _ _ h => Pers.pers h, .inr fun _ _ _ h => Pers.pers h, .inr fun _ _ _ h => Pers.pers h, .inl rfl, trivial⟩ (fun kb hle9 hz9 => by
   have i2 := Pers.pers hle9 i2
   exact ⟨ob1 rfl fun b q hk hn => ok_build rfl (bld30_ ), ob1 rfl fun b q hk hn => ok_load rfl ty33 ((up i2 hk hn.1)).ptr, ob1 rfl fun b q hk hn => ok_call rfl Try.call17 (law30_box_ok (isV_int.2 rfl) hx9), ob1 rfl fun b q hk hn => ok_build rfl (bld42_0_1_3 (isV_int.2 rfl) (isV_int.2 rfl) hn.1), ob1 rfl fun b q hk hn => ok_call rfl Try.call10 (dossier_Step_ok (GOk.le hk.le (GOk.le hle9 (hG.at hg (Grow.refl _)))) hn.1 hn.2.1 hn.2.2.1 hx10), ob1 rfl fun b q hk hn => ok_move rfl hn.1, ob1 rfl fun b q hk hn => ok_ext2_0 rfl hn.1, ob1 rfl fun b q hk hn => ok_ext2_1 rfl hn.1, ob1 rfl fun b q hk hn => does_imp (ok_alloc _ (Nat.le_trans hz9 hk.size) rfl z33) fun _ _ _ h => ⟨_, h⟩, trivial⟩)
   rfl rfl rfl rfl rfl rfl (by kernel_rfl) (by kernel_rfl) rfl rfl (by kernel_rfl) szf33 fun k1 kb b q b8 gk hch p j8 hsz9 hns z8 => ?_
  have y8 : Lo k0 (Eq b8) := (show Lo k (Eq b8) from Lo.eq hsz9).chg hg
  have hgq := ((hg.then gk).step hch y8.wr).then p.grow
  have hsb := p.size.trans hs
  have hdb := p.defers.trans hd
  have hle9 : Le k kb := gk.le.trans (hch.le fun c hc => by subst hc; exact hns)
  replace i1 := Pers.pers hle9 i1
  replace i2 := Pers.pers hle9 i2
  replace i3 := Pers.pers hle9 i3
  replace i5 := Pers.pers hle9 i5
  replace i6 := Pers.pers hle9 i6
  replace i7 := Pers.pers hle9 i7
  have j1 := p.ke 1 rfl i1
  have j2 := p.ke 2 rfl i2
  have j3 := p.ke 3 rfl i3
  have j5 := p.ke 5 rfl i5
  have j6 := p.ke 6 rfl i6
  have j7 := p.ke 7 rfl i7
  have j42 : (IsV x10.1) (b.get 42) q := p.ou 6 42 rfl
  have j43 : (IsV x10.2) (b.get 43) q := p.ou 7 43 rfl
  clear hch gk hle9 hns
  refine tail_assign (i := 10) (d := 9) rfl rfl (.inl rfl) rfl (by rw [hsb]; decide) fun b2 hsz hdf hnew hoth => ?_
  have jn : (IsV x10.2) (b2.get 9) q := by rw [hnew]; exact j43
  rw [← hoth 1 (by decide)] at j1
  rw [← hoth 2 (by decide)] at j2
  rw [← hoth 3 (by decide)] at j3
  rw [← hoth 5 (by decide)] at j5
  rw [← hoth 6 (by decide)] at j6
  rw [← hoth 7 (by decide)] at j7
  rw [← hoth 8 (by decide)] at j8
  rw [← hoth 42 (by decide)] at j42
  rw [← hoth 43 (by decide)] at j43
  have j9 := jn
  replace hsb := hsz.trans hsb
  replace hdb := hdf.trans hdb
  clear hsz hdf hoth
  obtain ⟨b, hbb⟩ : ∃ b, b = b2 := ⟨b2, rfl⟩
  subst hbb
  obtain ⟨q2, hsh, jn⟩ := z8.give
  replace j1 := Pers.pers hsh.le j1
  replace j2 := Pers.pers hsh.le j2
  replace j3 := Pers.pers hsh.le j3
  replace j5 := Pers.pers hsh.le j5
  replace j6 := Pers.pers hsh.le j6
  replace j7 := Pers.pers hsh.le j7
  replace j9 := Pers.pers hsh.le j9
  rw [← j8] at jn
  replace j8 := jn
  replace hgq := hgq.hand hsh y8.wr
  rw [← hsh.w]
  clear hsh
  obtain ⟨q, hqq⟩ : ∃ q, q = q2 := ⟨q2, rfl⟩
  subst hqq
  exact tail_done (k := q) (w6 _ _ ⟨⟨hgq, hsb, hdb⟩, j1, j2, j3, j5, j6, j7, j8, j9, trivial⟩)
 rintro a k ⟨⟨hg, hs, hd⟩, i1, i2, i3, i5, i6, i7, i8, i9, _⟩
 refine stepL 22 (_ :: _ :: _ :: _ :: _ :: _ :: _ :: _ :: _ :: _ :: _ :: _ :: _ :: _ :: _ :: _ :: _ :: _ :: _ :: _ :: _ :: _ :: []) rfl ⟨hg, hs, hd⟩ (by kernel_rfl) ⟨mu rfl i3, o1 [(44, some 0)] rfl fun _ _ h n => ok_eqI rfl n.1 (cI rfl), cm 1 rfl rfl, gT [(2, none)] rfl rfl fun hp _ _ h n => ok_fieldAddr rfl fo33_2 (at_Dossier_2 _) ((up i2 h n.1)).ptr, gT [(47, some 3)] rfl rfl fun hp _ _ h n => ok_load rfl ty3 (Gd.get n.1 hp), gT [(48, some 4)] rfl rfl fun hp _ _ h n => ok_eqI rfl (Gd.get n.1 hp) (cI rfl), o1 [(46, some 2), (49, some 5)] rfl fun _ _ h n => ok_pickAnd rfl n.1 (Gd.get n.2.1) (cB rfl), cm 6 rfl rfl, gT [(2, none)] rfl rfl fun hp _ _ h n => ok_fieldAddr rfl fo33_3 (at_Dossier_3 _) ((up i2 h n.1)).ptr, gT [(52, some 8)] rfl rfl fun hp _ _ h n => ok_load rfl ty3 (Gd.get n.1 hp), gT [(53, some 9)] rfl rfl fun hp _ _ h n => ok_eqI rfl (Gd.get n.1 hp) (cI rfl), o1 [(51, some 7), (54, some 10)] rfl fun _ _ h n => ok_pickAnd rfl n.1 (Gd.get n.2.1) (cB rfl), cm 11 rfl rfl, gT [(2, none)] rfl rfl fun hp _ _ h n => ok_fieldAddr rfl fo33_4 (at_Dossier_4 _) ((up i2 h n.1)).ptr, gT [(57, some 13)] rfl rfl fun hp _ _ h n => ok_load rfl ty3 (Gd.get n.1 hp), gT [(58, some 14)] rfl rfl fun hp _ _ h n => ok_eqI rfl (Gd.get n.1 hp) (cI rfl), o1 [(56, some 12), (59, some 15)] rfl fun _ _ h n => ok_pickAnd rfl n.1 (Gd.get n.2.1) (cB rfl), cm 16 rfl rfl, mT rfl rfl i5, gT [(62, some 18)] rfl rfl fun hp _ _ h n => ok_eqI rfl (Gd.get n.1 hp) (cI rfl), o1 [(61, some 17), (63, some 19)] rfl fun _ _ h n => ok_pickAnd rfl n.1 (Gd.get n.2.1) (cB rfl), cp 20 rfl rfl, trivial⟩ [⟨_, _⟩, ⟨_, _⟩, ⟨_, _⟩, ⟨_, _⟩, ⟨_, _⟩, ⟨_, _⟩] (fun b q p => ⟨p.ke 1 rfl i1, p.ke 6 rfl i6, p.ke 7 rfl i7, p.ke 8 rfl i8, p.ke 9 rfl i9, p.ou 21 10 rfl, trivial⟩) ?_
 rintro a k ⟨⟨hg, hs, hd⟩, i1, i6, i7, i8, i9, i10, _⟩
 refine stepL 32 (_ :: _ :: _ :: _ :: _ :: _ :: _ :: _ :: _ :: _ :: _ :: _ :: _ :: _ :: _ :: _ :: _ :: _ :: _ :: _ :: _ :: _ :: _ :: _ :: _ :: _ :: _ :: _ :: _ :: _ :: _ :: _ :: []) rfl ⟨hg, hs, hd⟩ (by kernel_rfl) ⟨mu rfl i7, o1 [(65, some 0)] rfl fun _ _ h n => ok_eqI rfl n.1 (cI rfl), cm 1 rfl rfl, gT [(6, none)] rfl rfl fun hp _ _ h n => ok_fieldAddr rfl fo33_2 (at_Dossier_2 _) ((up i6 h n.1)).ptr, gT [(68, some 3)] rfl rfl fun hp _ _ h n => ok_load rfl ty3 (Gd.get n.1 hp), gT [(69, some 4)] rfl rfl fun hp _ _ h n => ok_eqI rfl (Gd.get n.1 hp) (cI rfl), o1 [(67, some 2), (70, some 5)] rfl fun _ _ h n => ok_pickAnd rfl n.1 (Gd.get n.2.1) (cB rfl), cm 6 rfl rfl, gT [(6, none)] rfl rfl fun hp _ _ h n => ok_fieldAddr rfl fo33_4 (at_Dossier_4 _) ((up i6 h n.1)).ptr, gT [(73, some 8)] rfl rfl fun hp _ _ h n => ok_load rfl ty3 (Gd.get n.1 hp), gT [(74, some 9)] rfl rfl fun hp _ _ h n => ok_eqI rfl (Gd.get n.1 hp) (cI rfl), o1 [(72, some 7), (75, some 10)] rfl fun _ _ h n => ok_pickAnd rfl n.1 (Gd.get n.2.1) (cB rfl), cm 11 rfl rfl, gT [(6, none)] rfl rfl fun hp _ _ h n => ok_fieldAddr rfl fo33_3 (at_Dossier_3 _) ((up i6 h n.1)).ptr, gT [(78, some 13)] rfl rfl fun hp _ _ h n => ok_load rfl ty3 (Gd.get n.1 hp), gT [(79, some 14)] rfl rfl fun hp _ _ h n => ok_eqI rfl (Gd.get n.1 hp) (cI rfl), o1 [(77, some 12), (80, some 15)] rfl fun _ _ h n => ok_pickAnd rfl n.1 (Gd.get n.2.1) (cB rfl), cm 16 rfl rfl, mT rfl rfl i9, gT [(83, some 18)] rfl rfl fun hp _ _ h n => ok_eqI rfl (Gd.get n.1 hp) (cI rfl), o1 [(82, some 17), (84, some 19)] rfl fun _ _ h n => ok_pickAnd rfl n.1 (Gd.get n.2.1) (cB rfl), cm 20 rfl rfl, gT [(8, none)] rfl rfl fun hp _ _ h n => ok_fieldAddr rfl fo33_2 (at_Dossier_2 _) ((up i8 h n.1)).ptr, gT [(87, some 22)] rfl rfl fun hp _ _ h n => ok_load rfl ty3 (Gd.get n.1 hp), gT [(88, some 23)] rfl rfl fun hp _ _ h n => ok_eqI rfl (Gd.get n.1 hp) (cI rfl), o1 [(86, some 21), (89, some 24)] rfl fun _ _ h n => ok_pickAnd rfl n.1 (Gd.get n.2.1) (cB rfl), cm 25 rfl rfl, gT [(8, none)] rfl rfl fun hp _ _ h n => ok_fieldAddr rfl fo33_4 (at_Dossier_4 _) ((up i8 h n.1)).ptr, gT [(92, some 27)] rfl rfl fun hp _ _ h n => ok_load rfl ty3 (Gd.get n.1 hp), gT [(93, some 28)] rfl rfl fun hp _ _ h n => ok_eqI rfl (Gd.get n.1 hp) (cI rfl), o1 [(91, some 26), (94, some 29)] rfl fun _ _ h n => ok_pickAnd rfl n.1 (Gd.get n.2.1) (cB rfl), cp 30 rfl rfl, trivial⟩ [⟨_, _⟩, ⟨_, _⟩, ⟨_, _⟩] (fun b q p => ⟨p.ke 1 rfl i1, p.ke 10 rfl i10, p.ou 31 11 rfl, trivial⟩) ?_
 rintro a k ⟨⟨hg, hs, hd⟩, i1, i10, i11, _⟩
 refine wp_seq ?_
 obtain ⟨x11, hx11, hr⟩ := bind_some hr
 obtain ⟨x12, hx12, hx11⟩ := ite_bind hx11
 obtain ⟨x13, hx13, hr⟩ := bind_some hr
 obtain ⟨x14, hx14, hx13⟩ := ite_bind hx13
 obtain ⟨x15, hx15, hx13⟩ := ite_bind hx13
 obtain ⟨x16, hx16, hx13⟩ := ite_bind hx13
 obtain ⟨x17, hx17, hr⟩ := bind_some hr
 obtain ⟨x18, hx18, hx17⟩ := ite_bind hx17
 obtain ⟨x19, hx19, hx17⟩ := ite_bind hx17
 obtain ⟨x20, hx20, hx17⟩ := ite_bind hx17
 obtain ⟨x21, hx21, hr⟩ := bind_some hr
 obtain ⟨x22, hx22, hx21⟩ := ite_bind hx21
 obtain ⟨x23, hx23, hx21⟩ := ite_bind hx21
 refine cut (fun a' k' => Bs noF k0 120 a' k' ∧ (IsV x21) (a'.get 0) k' ∧ True) ?_ hQ ?_
 ·intro Q7 W7 w7
  refine gS 25 (_ :: _ :: _ :: _ :: _ :: _ :: _ :: _ :: _ :: _ :: _ :: _ :: _ :: _ :: _ :: _ :: _ :: _ :: _ :: _ :: _ :: ⟨some (Gd (x17 = true) (IsV (α := (List Int)) ([5, 6, 7, 9]))), []⟩ :: _ :: _ :: _ :: []) hs (by kernel_rfl) ⟨mu rfl i10, cm 0 rfl rfl, mT rfl rfl i11, o1 [(97, some 1), (98, some 2)] rfl fun _ _ h n => ok_pickAnd rfl n.1 (Gd.get n.2.1) (cB rfl), cm 3 rfl rfl, gT [(1, none)] rfl rfl fun hp _ _ h n => ok_load rfl ty33 ((up i1 h n.1)).ptr, gT [(101, some 5)] rfl rfl fun hp _ _ h n => ok_call rfl Try.call9 (dossier_Right_ok (hG.at hg h) (Gd.get n.1 hp) (hx12 hp)), o1 [(100, some 4), (102, some 6)] rfl fun _ _ h n => ok_pickM rfl n.1 hx11 (Gd.get n.2.1) (cB rfl), cm 7 rfl rfl, gT [] rfl rfl fun hp _ _ h n => ok_call rfl Try.call17 (law30_box_ok (cI rfl) (hx14 hp)), gT [] rfl rfl fun hp _ _ h n => ok_call rfl Try.call17 (law30_box_ok (cI rfl) (hx15 hp)), gT [(105, some 9), (106, some 10)] rfl rfl fun hp _ _ h n => ok_call rfl Try.call11 (dossier_Less_ok (Gd.get n.1 hp) (Gd.get n.2.1 hp) (hx16 hp)), o1 [(104, some 8), (107, some 11)] rfl fun _ _ h n => ok_pickM rfl n.1 hx13 (Gd.get n.2.1) (cB rfl), cm 12 rfl rfl, gT [] rfl rfl fun hp _ _ h n => ok_call rfl Try.call17 (law30_box_ok (cI rfl) (hx18 hp)), gT [] rfl rfl fun hp _ _ h n => ok_call rfl Try.call17 (law30_box_ok (cI rfl) (hx19 hp)), gT [(110, some 14), (111, some 15)] rfl rfl fun hp _ _ h n => ok_call rfl Try.call11 (dossier_Less_ok (Gd.get n.1 hp) (Gd.get n.2.1 hp) (hx20 hp)), gT [(112, some 16)] rfl rfl fun hp _ _ h n => ok_not rfl (Gd.get n.1 hp), o1 [(109, some 13), (113, some 17)] rfl fun _ _ h n => ok_pickM rfl n.1 hx17 (Gd.get n.2.1) (cB rfl), cm 18 rfl rfl, gT [] rfl rfl fun hp _ _ h n => ok_call rfl Try.call14 (dossier_Acts_ok (cI rfl) (hx22 hp)), gdT rfl rfl fun hp _ _ h n => ok_buildSlice rfl Try.underlying49 eo3 rfl (by decide) (by decide) ⟨rfl, (cI rfl), rfl, (cI rfl), rfl, (cI rfl), rfl, (cI rfl), trivial⟩, gT [(116, some 20), (117, some 21)] rfl rfl fun hp _ _ h n => ok_call rfl Try.call18 (ref01_SameNums_ok (Gd.get n.1 hp) (Gd.get n.2.1 hp) (hx23 hp)), o1 [(115, some 19), (118, some 22)] rfl fun _ _ h n => ok_pickM rfl n.1 hx21 (Gd.get n.2.1) (cB rfl), cp 23 rfl rfl, trivial⟩ W7 fun b q p => ?_
  exact tail_done (k := q) (w7 _ _ ⟨Bs.post ⟨hg, hs, hd⟩ p, p.ou 24 0 rfl, trivial⟩)
 rintro a k ⟨⟨hg, hs, hd⟩, i0, _⟩
 refine wp_ret ?_
 obtain rfl := Option.some.inj hr
 exact retC1 rfl hd hg i0
noncomputable def k7 := mkOg 7 [] [.bool] (fun x => law30_small) Try.call7 fun k0 vs x r hG h hr => by obtain rfl := h.nil; exact law30_small_ok hG hr
def ref30_fewDrawings_L1 (l_ : (List Drawing)) (s1 : Int) (s2 : Int) : Option (Flow (Int) (Bool)) :=
 (getI l_ s1).bind fun x1 =>
 if (decide (s2 < (x1.Phases.length : Int))) then
  (getI l_ s1).bind fun x2 =>
  (getI x2.Phases s2).bind fun x3 =>
  (if (decide (12 < (x3.Volumes.length : Int))) then
   some true
  else
   (getI l_ s1).bind fun x4 =>
   (getI x4.Phases s2).bind fun x5 =>
   some (decide (6 < (x5.Gives.length : Int)))).bind fun x6 =>
  if x6 then
   some (.ret false)
  else
   (addI s2 1).bind fun x7 =>
   some (.go x7)
 else
  some (.ex 2 s2)
def ref30_fewDrawings_L0 (l_ : (List Drawing)) (s1 : Int) : Option (Flow (Int) (Bool)) :=
 if (decide (s1 < (l_.length : Int))) then
  (iterL (ref30_fewDrawings_L1 l_ s1) ((l_.flatMap fun d => d.Phases).length + 1) 0).bind fun f1 => match f1 with
   | .go _ => none
   | .ex _ _ =>
    (getI l_ s1).bind fun x1 =>
    if (decide (9 < (x1.Phases.length : Int))) then
     some (.ret false)
    else
     (addI s1 1).bind fun x2 =>
     some (.go x2)
   | .ret r1 => some (.ret r1)
 else
  some (.ex 0 s1)
def ref30_fewDrawings (l_ : (List Drawing)) : Option (Bool) :=
 (iterL (ref30_fewDrawings_L0 l_) (l_.length + 1) 0).bind fun f1 => match f1 with
  | .go _ => none
  | .ex _ _ =>
   some (decide ((l_.length : Int) ≤ 9))
  | .ret r1 => some r1
noncomputable def k19 := mk 19 [.list (.st 3)] [.bool] (fun x => ref30_fewDrawings x) [] [] Try.f19 (.s .n (.s (.s .n (.l [] [(3, .v .int)] [(0, [3], [])] (fL [0]) (.s .n (.s (.s (.s .n (.l [] [(4, .v .int)] [(2, [4], [])] (fun e => (List.flatMap (fun d => d.Phases) (gt e 0 (.list (.st 3)) : List Drawing)).length + 1) .n)) .n) .n)))) .n)) Try.func19 Try.call19 rfl rfl fun x => by kernel_rfl
def ref30_Few_L0 (l_ : (List Act)) (s1 : Int) : Option (Flow (Int) (Bool)) :=
 if (decide (s1 < (l_.length : Int))) then
  (getI l_ s1).bind fun x1 =>
  (ref30_fewDrawings x1.Drawings).bind fun x2 =>
  if (!x2) then
   some (.ret false)
  else
   (addI s1 1).bind fun x3 =>
   some (.go x3)
 else
  some (.ex 0 s1)
def ref30_Few (p_ : Plan) (d_ : Dossier) (l_ : (List Act)) : Option (Bool) :=
 (iterL (ref30_Few_L0 l_) (l_.length + 1) 0).bind fun f1 => match f1 with
  | .go _ => none
  | .ex _ _ =>
   (if ((decide ((p_.Rules.length : Int) ≤ 20)) && (decide ((l_.length : Int) ≤ 14))) then
    (ref30_fewDrawings d_.Drawings).bind fun x1 =>
    some x1
   else
    some false).bind fun x2 =>
   some x2
  | .ret r1 => some r1
noncomputable def k8 := mk 8 [.st 7, .st 6, .list (.st 18)] [.bool] (fun x => ref30_Few x.1 x.2.1 x.2.2) [k19] [] Try.f8 (.s .n (.s (.s .n (.l [] [(7, .v .int)] [(0, [7], [])] (fL [2]) .n)) .n)) Try.func8 Try.call8 rfl rfl fun x => by kernel_rfl
def law30_DossierPaths_L0 (p_ : Plan) (l_ : (List Act)) (s1 : Int × Int × Int × Int × Int × Dossier) : Option (Flow (Int × Int × Int × Int × Int × Dossier) (Bool)) :=
 if (decide (s1.2.2.2.2.1 < (l_.length : Int))) then
  ((getI l_ s1.2.2.2.2.1).bind fun x1 =>
  (dossier_Step p_ s1.2.2.2.2.2 x1).bind fun x2 =>
  if (x2.2 != 0) then
   some (.go (s1.1, s1.2.1, s1.2.2.1, s1.2.2.2.1, s1.2.2.2.2.2))
  else
   (getI l_ s1.2.2.2.2.1).bind fun x3 =>
   (if (x3.Kind == 1) then
    some (.go (s1.2.2.2.2.1, s1.2.1, s1.2.2.1, s1.2.2.2.1))
   else
    (if (x3.Kind == 3) then
     some (.go (s1.1, s1.2.2.2.2.1, s1.2.2.1, s1.2.2.2.1))
    else
     (if (x3.Kind == 4) then
      some (.go (s1.1, s1.2.1, s1.2.2.2.2.1, s1.2.2.2.1))
     else
      (if (x3.Kind == 5) then
       (addI s1.2.2.2.1 1).bind fun x4 =>
       if (((decide (s1.2.2.1 < 0)) || (decide (s1.2.1 < 0))) || (decide (s1.1 < 0))) then
        some (.ret false)
       else
        some (.go (s1.1, s1.2.1, s1.2.2.1, x4))
      else
       (if (x3.Kind == 2) then
        (getI l_ s1.2.2.2.2.1).bind fun x5 =>
        (dossier_Less x5.Drawings s1.2.2.2.2.2.Drawings).bind fun x6 =>
        (if (!x6) then
         some ((-1), (-1), (-1))
        else
         some (s1.1, s1.2.1, s1.2.2.1)).bind fun s2 =>
        some (s2.1, s2.2.1, s2.2.2)
       else
        some (s1.1, s1.2.1, s1.2.2.1)).bind fun s3 =>
       some (.go (s3.1, s3.2.1, s3.2.2, s1.2.2.2.1)) : Option (Flow (Int × Int × Int × Int) (Bool))).bind fun f1 => match f1 with
       | .go s4 =>
        some (.go (s4.1, s4.2.1, s4.2.2.1, s4.2.2.2))
       | .ex _ _ => none
       | .ret r1 => some (.ret r1) : Option (Flow (Int × Int × Int × Int) (Bool))).bind fun f2 => match f2 with
      | .go s5 =>
       some (.go (s5.1, s5.2.1, s5.2.2.1, s5.2.2.2))
      | .ex _ _ => none
      | .ret r2 => some (.ret r2) : Option (Flow (Int × Int × Int × Int) (Bool))).bind fun f3 => match f3 with
     | .go s6 =>
      some (.go (s6.1, s6.2.1, s6.2.2.1, s6.2.2.2))
     | .ex _ _ => none
     | .ret r3 => some (.ret r3) : Option (Flow (Int × Int × Int × Int) (Bool))).bind fun f4 => match f4 with
    | .go s7 =>
     some (.go (s7.1, s7.2.1, s7.2.2.1, s7.2.2.2, x2.1))
    | .ex _ _ => none
    | .ret r4 => some (.ret r4) : Option (Flow (Int × Int × Int × Int × Dossier) (Bool))).bind fun f5 => match f5 with
   | .go s8 =>
    (addI s1.2.2.2.2.1 1).bind fun x7 =>
    some (.go (s8.1, s8.2.1, s8.2.2.1, s8.2.2.2.1, x7, s8.2.2.2.2))
   | .ex _ _ => none
   | .ret r5 => some (.ret r5)
 else
  some (.ex 0 (s1.1, s1.2.1, s1.2.2.1, s1.2.2.2.1, s1.2.2.2.2.1, s1.2.2.2.2.2))
def law30_DossierPaths (p_ : Plan) (d_ : Dossier) (l_ : (List Act)) : Option (Bool) :=
 (law30_small).bind fun x1 =>
 (ref30_Few p_ d_ l_).bind fun x2 =>
 (if (!x2) then
  some true
 else
  (dossier_Right d_).bind fun x3 =>
  some (!x3)).bind fun x4 =>
 if (x4 || (d_.State != 0)) then
  some x1
 else
  (iterL (law30_DossierPaths_L0 p_ l_) (l_.length + 1) ((-1), (-1), (-1), 0, 0, d_)).bind fun f1 => match f1 with
   | .go _ => none
   | .ex _ s1 =>
    if (s1.2.2.2.2.2.State != 5) then
     some (x1 && (s1.2.2.2.1 == 0))
    else
     if ((((((decide (s1.1 < 0)) || (decide (s1.2.1 < s1.1))) || (decide (s1.2.2.1 < s1.2.1))) || (s1.2.2.2.1 != 1)) || (decide (s1.2.2.2.2.2.Choice < 0))) || (decide ((s1.2.2.2.2.2.Drawings.length : Int) ≤ s1.2.2.2.2.2.Choice))) then
      some false
     else
      (if x1 then
       (getI l_ s1.1).bind fun x5 =>
       some (s1.2.2.2.2.2.Rule == x5.N)
      else
       some false).bind fun x6 =>
      (if x6 then
       (getI l_ s1.1).bind fun x7 =>
       (clause_May p_ x7.Day s1.2.2.2.2.2.Rule).bind fun x8 =>
       some x8
      else
       some false).bind fun x9 =>
      (if x9 then
       (dossier_Right s1.2.2.2.2.2).bind fun x10 =>
       some x10
      else
       some false).bind fun x11 =>
      (if x11 then
       (getI s1.2.2.2.2.2.Drawings s1.2.2.2.2.2.Choice).bind fun x12 =>
       (drawing_Form x12).bind fun x13 =>
       some x13
      else
       some false).bind fun x14 =>
      some x14
   | .ret r1 => some r1
noncomputable def k3 := mkg 3 [.st 7, .st 6, .list (.st 18)] [.bool] (fun x => law30_DossierPaths x.1 x.2.1 x.2.2) [k7, k8.lift glv giv gl0, k9, k10, k11.lift glv giv gl0, k12.lift glv giv gl0, k13] [12] Try.f3 (.s .n (.s .n (.s .n (.s .n (.s .n (.s .n (.s .n (.s .n (.s (.s .n (.l [] [(8, .v .int), (9, .v .int), (10, .v .int), (11, .v .int), (13, .v .int), (12, .b (.st 6))] [(0, [13], [])] (fL [2]) (.s .n (.s (.jf [] [(8, .v .int), (9, .v .int), (10, .v .int), (11, .v .int), (12, .b (.st 6))] ([], []) [] (.s .n (.s .n (.s (.s .n (.s .n (.jf [] [(8, .v .int), (9, .v .int), (10, .v .int), (11, .v .int)] ([], []) [] (.s .n (.s .n (.jf [] [(8, .v .int), (9, .v .int), (10, .v .int), (11, .v .int)] ([], []) [] (.s .n (.s .n (.jf [] [(8, .v .int), (9, .v .int), (10, .v .int), (11, .v .int)] ([], []) [] (.s .n (.s .n (.jf [] [(8, .v .int), (9, .v .int), (10, .v .int), (11, .v .int)] ([], []) [] (.s .n (.s .n (.j [] [(8, .v .int), (9, .v .int), (10, .v .int)] ([], []) (.s (.s .n (.j [] [(8, .v .int), (9, .v .int), (10, .v .int)] ([], []) (.s .n .n))) .n)))))))))))))))) .n)))) .n)))) .n))))))))) Try.func3 Try.call3 rfl rfl fun x => by kernel_rfl
theorem law30_DossierPaths_ok {k0 : K} {v0 v1 v2 : Value} {x0 : Plan} {x1 : Dossier} {x2 : (List Act)} {r : Bool} (hG : GOk tbg k0) (i0 : IsV x0 v0 k0) (i1 : IsV x1 v1 k0) (i2 : IsV x2 v2 k0) (hr : law30_DossierPaths x0 x1 x2 = some r) : Calls Try.prog 3 #[v0, v1, v2] k0.w (Ret k0 (IsV r)) := (k3.ok.ok k0 [v0, v1, v2] (x0, x1, x2) r hG ⟨i0, i1, i2⟩ hr)
end Go.Proofs.Ytachpkjjlebadaa
