/- What the functions compute that the law reaches, part 3 -/
import Derived.Test.YtekbjeagbfbbcaaT2
namespace Go.Proofs.Ytekbjeagbfbbcaa
open Go.Gb
set_option linter.unusedVariables false
set_option linter.unusedSimpArgs false
set_option maxRecDepth 100000
def solid_heights_L1 (x1 : (List Slab)) (s1 : (List Int) × Int) : Option (Flow ((List Int) × Int) ((List Int))) :=
 if (decide (s1.2 < (x1.length : Int))) then
  (getI x1 s1.2).bind fun x2 =>
  (appI s1.1 ([x2.Z0, x2.Z1])).bind fun x3 =>
  (addI s1.2 1).bind fun x4 =>
  some (.go (x3, x4))
 else
  some (.ex 2 (s1.1, s1.2))
def solid_heights_L0 (lists_ : (List (List Slab))) (s1 : (List Int) × Int) : Option (Flow ((List Int) × Int) ((List Int))) :=
 if (decide (s1.2 < (lists_.length : Int))) then
  (getI lists_ s1.2).bind fun x1 =>
  (iterL (solid_heights_L1 x1) (x1.length + 1) (s1.1, 0)).bind fun f1 => match f1 with
   | .go _ => none
   | .ex _ s2 =>
    (addI s1.2 1).bind fun x2 =>
    some (.go (s2.1, x2))
   | .ret r1 => some (.ret r1)
 else
  some (.ex 0 (s1.1, s1.2))
def solid_heights (lists_ : (List (List Slab))) : Option ((List Int)) :=
 (iterL (solid_heights_L0 lists_) (lists_.length + 1) (([] : List Int), 0)).bind fun f1 => match f1 with
  | .go _ => none
  | .ex _ s1 =>
   (sortInts s1.1).bind fun x1 =>
   (compactInts x1).bind fun x2 =>
   some x2
  | .ret r1 => some r1
theorem solid_heights_ok {k0 : K} {v0 : Value} {lists_ : (List (List Slab))} {r : (List Int)} (i0 : (IsV lists_) v0 k0) (hr : solid_heights lists_ = some r) :
  Calls Try.prog 31 #[v0] k0.w (Ret k0 (IsV r)) := by
 unfold solid_heights at hr
 refine Ret.ofC ?_
 refine enterK Try.func31 rfl Try.ntmps31 (show 1 ≤ 33 by decide) fun a k hk0 hs hd ha => ?_
 obtain ⟨e0, _⟩ := ha
 replace i0 : (IsV lists_) (a.get 0) k := by rw [e0, hk0]; exact i0
 have hQ : Gb.LetsOut (bodyPost Try.prog Try.f31 (RetC noF k0 (IsV r))) := letsOutC
 have hg : Chg noF k0 k := by rw [hk0]; exact Chg.refl _ k0
 refine stepL 1 (⟨some IsE0, []⟩ :: []) rfl ⟨hg, hs, hd⟩ (by kernel_rfl) ⟨ob1 rfl fun b q h n => ok_assign rfl isE0_nil, trivial⟩ [⟨_, _⟩] (fun b q p => ⟨p.ke 0 rfl i0, trivial⟩) ?_
 rintro a k ⟨⟨hg, hs, hd⟩, i0, _⟩
 refine cutS (fun c l => Bs noF k0 33 c l ∧ IsV lists_ (c.get 0) l ∧ IsOwn 0 3 ([] : List Int) (c.get 3) l ∧ Lo k0 (obF (c.get 3)) ∧ True) ?_ ?_
 ·intro Q1 W1 w1
  refine gS 1 (⟨some IsE0, []⟩ :: []) hs (by kernel_rfl) ⟨ob1 rfl fun b q h n => ok_assign rfl isE0_nil, trivial⟩ W1 fun b q p => ?_
  have hgq := hg.then p.grow
  have hsb := p.size.trans hs
  have hdb := p.defers.trans hd
  have j0 := p.ke 0 rfl i0
  have j3 : IsE0 (b.get 3) q := p.ou 0 3 rfl
  have y3 : Lo k0 (obF (b.get 3)) := j3.lo
  replace j3 : IsOwn 0 3 ([] : List Int) (b.get 3) q := j3.own0
  exact tail_done (k := q) (w1 _ _ ⟨⟨hgq, hsb, hdb⟩, j0, j3, y3, trivial⟩)
 rintro a k ⟨⟨hg, hs, hd⟩, i0, i3, n3, _⟩
 refine wp_seq ?_
 refine cutS (fun c l => Bs noF k0 33 c l ∧ IsOwn 0 3 ([] : List Int) (c.get 3) l ∧ Lo k0 (obF (c.get 3)) ∧ IsV lists_ (c.get 8) l ∧ IsL lists_ (c.get 9) l ∧ IsI 0 (c.get 10) l ∧ True) ?_ ?_
 ·intro Q2 W2 w2
  refine gS 3 (_ :: _ :: ⟨some (IsI 0), []⟩ :: []) hs (by kernel_rfl) ⟨mu rfl i0, o1 [(8, some 0)] rfl fun _ _ h n => ok_len rfl rfl Try.underlying28 (IsV.rd n.1), ob1 rfl fun _ _ h n => ok_move rfl (cI rfl), trivial⟩ W2 fun b q p => ?_
  exact tail_done (k := q) (w2 _ _ ⟨Bs.post ⟨hg, hs, hd⟩ p, p.ke 3 rfl i3, (by rw [p.old 3 rfl]; exact n3), p.ou 0 8 rfl, p.ou 1 9 rfl, p.ou 2 10 rfl, trivial⟩)
 rintro a k ⟨⟨hg, hs, hd⟩, i3, n3, i8, i9, i10, _⟩
 refine wp_block ?_
 obtain ⟨f1, hf1, hr⟩ := bind_some hr
 refine cutFe f1 (fun s' c l => Bs noF k0 33 c l ∧ IsOwn 0 3 s'.1 (c.get 3) l ∧ Lo k0 (obF (c.get 3)) ∧ IsV lists_ (c.get 8) l ∧ IsL lists_ (c.get 9) l ∧ IsV s'.2 (c.get 10) l ∧ True) (fun i' s' c l => (i' = 0 ∧ Bs noF k0 33 c l ∧ IsOwn 0 3 s'.1 (c.get 3) l ∧ Lo k0 (obF (c.get 3)) ∧ True)) (fun r' c l => bodyPost Try.prog Try.f31 (RetC noF k0 (IsV r')) .ret c l.w) ?_ hQ ?_ ?_ ?_
 ·intro Q3 W3 hgo hex hret
  refine sim_loop ?_ _ _ _ _ _ hf1 ⟨⟨hg, hs, hd⟩, i3, n3, i8, i9, i10, trivial⟩ Q3 W3 hgo hex hret
  clear hr hf1 hgo hex hret W3 hQ hg hs hd i10 i3 i8 i9 n3
  intro s1 fl_ a k hr hS Q hQ hgo1033 hex1034 hret1035
  obtain ⟨⟨hg, hs, hd⟩, i3, n3, i8, i9, i10, _⟩ := hS
  unfold solid_heights_L0 at hr
  refine cutS (fun c l => Bs noF k0 33 c l ∧ IsOwn 0 3 s1.1 (c.get 3) l ∧ Lo k0 (obF (c.get 3)) ∧ IsV lists_ (c.get 8) l ∧ IsL lists_ (c.get 9) l ∧ IsV s1.2 (c.get 10) l ∧ (IsV (decide (s1.2 < (lists_.length : Int)))) (c.get 11) l ∧ True) ?_ ?_
  ·intro Q4 W4 w3
   refine gS 1 (_ :: []) hs (by kernel_rfl) ⟨o1 [(10, none), (9, none)] rfl fun _ _ h n => ok_lss rfl (up i10 h n.1) (up i9 h n.2.1), trivial⟩ W4 fun b q p => ?_
   exact tail_done (k := q) (w3 _ _ ⟨Bs.post ⟨hg, hs, hd⟩ p, p.ke 3 rfl i3, (by rw [p.old 3 rfl]; exact n3), p.ke 8 rfl i8, p.ke 9 rfl i9, p.ke 10 rfl i10, p.ou 0 11 rfl, trivial⟩)
  rintro a k ⟨⟨hg, hs, hd⟩, i3, n3, i8, i9, i10, i11, _⟩
  refine wp_seq ?_
  refine wp_cond_split (isBool i11) (fun hc1067 => ?_) (fun hc1067 => ?_)
  ·rw [if_pos hc1067] at hr
   refine wp_skip ?_
   refine wp_seq ?_
   refine wp_block ?_
   refine wp_seq ?_
   obtain ⟨x1, hx1, hr⟩ := bind_some hr
   refine cut (fun a' k' => Bs noF k0 33 a' k' ∧ IsOwn 0 3 s1.1 (a'.get 3) k' ∧ Lo k0 (obF (a'.get 3)) ∧ (IsV x1) (a'.get 5) k' ∧ (IsV lists_) (a'.get 8) k' ∧ (IsL lists_) (a'.get 9) k' ∧ (IsV s1.2) (a'.get 10) k' ∧ True) ?_ hQ ?_
   ·intro Q5 W5 w4
    refine gS 3 (_ :: _ :: _ :: []) hs (by kernel_rfl) ⟨o1 [(8, none), (10, none)] rfl fun _ _ h n => ok_indexAddr rfl Try.underlying28 ty23 (IsV.rd (up i8 h n.1)) (up i10 h n.2.1) hx1, o1 [(12, some 0)] rfl fun _ _ h n => ok_load rfl ty23 n.1, cp 1 rfl rfl, trivial⟩ W5 fun b q p => ?_
    exact tail_done (k := q) (w4 _ _ ⟨Bs.post ⟨hg, hs, hd⟩ p, p.ke 3 rfl i3, (by rw [p.old 3 rfl]; exact n3), p.ou 2 5 rfl, p.ke 8 rfl i8, p.ke 9 rfl i9, p.ke 10 rfl i10, trivial⟩)
   rintro a k ⟨⟨hg, hs, hd⟩, i3, n3, i5, i8, i9, i10, _⟩
   refine cutS (fun c l => Bs noF k0 33 c l ∧ IsOwn 0 3 s1.1 (c.get 3) l ∧ Lo k0 (obF (c.get 3)) ∧ IsV lists_ (c.get 8) l ∧ IsL lists_ (c.get 9) l ∧ IsV s1.2 (c.get 10) l ∧ IsV x1 (c.get 14) l ∧ IsL x1 (c.get 15) l ∧ IsI 0 (c.get 16) l ∧ True) ?_ ?_
   ·intro Q6 W6 w5
    refine gS 3 (_ :: _ :: ⟨some (IsI 0), []⟩ :: []) hs (by kernel_rfl) ⟨mu rfl i5, o1 [(14, some 0)] rfl fun _ _ h n => ok_len rfl rfl Try.underlying23 (IsV.rd n.1), ob1 rfl fun _ _ h n => ok_move rfl (cI rfl), trivial⟩ W6 fun b q p => ?_
    exact tail_done (k := q) (w5 _ _ ⟨Bs.post ⟨hg, hs, hd⟩ p, p.ke 3 rfl i3, (by rw [p.old 3 rfl]; exact n3), p.ke 8 rfl i8, p.ke 9 rfl i9, p.ke 10 rfl i10, p.ou 0 14 rfl, p.ou 1 15 rfl, p.ou 2 16 rfl, trivial⟩)
   rintro a k ⟨⟨hg, hs, hd⟩, i3, n3, i8, i9, i10, i14, i15, i16, _⟩
   refine wp_block ?_
   obtain ⟨f2, hf2, hr⟩ := bind_some hr
   refine cutFe f2 (fun s' c l => Bs noF k0 33 c l ∧ IsOwn 0 3 s'.1 (c.get 3) l ∧ Lo k0 (obF (c.get 3)) ∧ IsV lists_ (c.get 8) l ∧ IsL lists_ (c.get 9) l ∧ IsV s1.2 (c.get 10) l ∧ IsV x1 (c.get 14) l ∧ IsL x1 (c.get 15) l ∧ IsV s'.2 (c.get 16) l ∧ True) (fun i' s' c l => (i' = 2 ∧ Bs noF k0 33 c l ∧ IsOwn 0 3 s'.1 (c.get 3) l ∧ Lo k0 (obF (c.get 3)) ∧ IsV lists_ (c.get 8) l ∧ IsL lists_ (c.get 9) l ∧ IsV s1.2 (c.get 10) l ∧ True)) (fun r' c l => bodyPost Try.prog Try.f31 (RetC noF k0 (IsV r')) .ret c l.w) ?_ hQ ?_ ?_ ?_
   ·intro Q7 W7 hgo hex hret
    refine sim_loop ?_ _ _ _ _ _ hf2 ⟨⟨hg, hs, hd⟩, i3, n3, i8, i9, i10, i14, i15, i16, trivial⟩ Q7 W7 hgo hex hret
    clear hr hf2 hgo hex hret W7 hQ hg hs hd i10 i14 i15 i16 i3 i8 i9 n3
    intro s2 fl_ a k hr hS Q hQ hgo1040 hex1041 hret1042
    obtain ⟨⟨hg, hs, hd⟩, i3, n3, i8, i9, i10, i14, i15, i16, _⟩ := hS
    unfold solid_heights_L1 at hr
    refine cutS (fun c l => Bs noF k0 33 c l ∧ IsOwn 0 3 s2.1 (c.get 3) l ∧ Lo k0 (obF (c.get 3)) ∧ IsV lists_ (c.get 8) l ∧ IsL lists_ (c.get 9) l ∧ IsV s1.2 (c.get 10) l ∧ IsV x1 (c.get 14) l ∧ IsL x1 (c.get 15) l ∧ IsV s2.2 (c.get 16) l ∧ (IsV (decide (s2.2 < (x1.length : Int)))) (c.get 17) l ∧ True) ?_ ?_
    ·intro Q8 W8 w6
     refine gS 1 (_ :: []) hs (by kernel_rfl) ⟨o1 [(16, none), (15, none)] rfl fun _ _ h n => ok_lss rfl (up i16 h n.1) (up i15 h n.2.1), trivial⟩ W8 fun b q p => ?_
     exact tail_done (k := q) (w6 _ _ ⟨Bs.post ⟨hg, hs, hd⟩ p, p.ke 3 rfl i3, (by rw [p.old 3 rfl]; exact n3), p.ke 8 rfl i8, p.ke 9 rfl i9, p.ke 10 rfl i10, p.ke 14 rfl i14, p.ke 15 rfl i15, p.ke 16 rfl i16, p.ou 0 17 rfl, trivial⟩)
    rintro a k ⟨⟨hg, hs, hd⟩, i3, n3, i8, i9, i10, i14, i15, i16, i17, _⟩
    refine wp_seq ?_
    refine wp_cond_split (isBool i17) (fun hc1053 => ?_) (fun hc1053 => ?_)
    ·rw [if_pos hc1053] at hr
     refine wp_skip ?_
     refine wp_seq ?_
     refine wp_block ?_
     refine wp_seq ?_
     obtain ⟨x2, hx2, hr⟩ := bind_some hr
     refine cut (fun a' k' => Bs noF k0 33 a' k' ∧ IsOwn 0 3 s2.1 (a'.get 3) k' ∧ Lo k0 (obF (a'.get 3)) ∧ (IsRef x2) (a'.get 7) k' ∧ (IsV lists_) (a'.get 8) k' ∧ (IsL lists_) (a'.get 9) k' ∧ (IsV s1.2) (a'.get 10) k' ∧ (IsV x1) (a'.get 14) k' ∧ (IsL x1) (a'.get 15) k' ∧ (IsV s2.2) (a'.get 16) k' ∧ True) ?_ hQ ?_
     ·intro Q9 W9 w7
      refine gS 3 (_ :: _ :: ⟨some (IsBox k.w.heap.size (⟨0, 0, []⟩ : Slab)), []⟩ :: []) hs (by kernel_rfl) ⟨o1 [(14, none), (16, none)] rfl fun _ _ h n => ok_indexAddr rfl Try.underlying23 ty50 (IsV.rd (up i14 h n.1)) (up i16 h n.2.1) hx2, o1 [(18, some 0)] rfl fun _ _ h n => ok_load rfl ty50 n.1, ob1 rfl fun _ _ h n => ok_alloc _ h.size rfl z50, trivial⟩ W9 fun b q p => ?_
      have hgq := hg.then p.grow
      have hsb := p.size.trans hs
      have hdb := p.defers.trans hd
      have j3 := p.ke 3 rfl i3
      have y3 : Lo k0 (obF (b.get 3)) := by rw [p.old 3 rfl]; exact n3
      obtain ⟨b7, j7, x7, z7⟩ : (IsBox k.w.heap.size (⟨0, 0, []⟩ : Slab)) (b.get 7) q := p.ou 2 7 rfl
      replace x7 : Lo k (Eq b7) := Lo.eq x7
      have y7 : Lo k0 (Eq b7) := x7.chg hg
      have j8 := p.ke 8 rfl i8
      have j9 := p.ke 9 rfl i9
      have j10 := p.ke 10 rfl i10
      have j14 := p.ke 14 rfl i14
      have j15 := p.ke 15 rfl i15
      have j16 := p.ke 16 rfl i16
      have j19 : (IsV x2) (b.get 19) q := p.ou 1 19 rfl
      have w3_7 : Apart (obF (b.get 3)) (Eq b7) := Apart.new (by rw [p.old 3 rfl]; exact i3.ltF) x7
      have hns := z7.nshF
      refine tail_storeB (i := 3) rfl rfl rfl rfl szf50 (Upd.self (α := Slab)) j7 z7 j19 fun q2 hch hz => ?_
      replace hgq := hgq.step hch y7.wr
      have hle := hch.le hns
      replace j3 := j3.keep hch w3_7 hns
      replace j8 := Pers.pers hle j8
      replace j9 := Pers.pers hle j9
      replace j10 := Pers.pers hle j10
      replace j14 := Pers.pers hle j14
      replace j15 := Pers.pers hle j15
      replace j16 := Pers.pers hle j16
      replace j19 := Pers.pers hle j19
      replace z7 := hz
      clear hns hle hch
      obtain ⟨q, hqq⟩ : ∃ q, q = q2 := ⟨q2, rfl⟩
      subst hqq
      obtain ⟨q2, hsh, jn⟩ := z7.give
      replace j3 := j3.handed hsh w3_7
      replace j8 := Pers.pers hsh.le j8
      replace j9 := Pers.pers hsh.le j9
      replace j10 := Pers.pers hsh.le j10
      replace j14 := Pers.pers hsh.le j14
      replace j15 := Pers.pers hsh.le j15
      replace j16 := Pers.pers hsh.le j16
      rw [← j7] at jn
      replace j7 := jn
      replace hgq := hgq.hand hsh y7.wr
      rw [← hsh.w]
      clear hsh
      obtain ⟨q, hqq⟩ : ∃ q, q = q2 := ⟨q2, rfl⟩
      subst hqq
      exact tail_done (k := q) (w7 _ _ ⟨⟨hgq, hsb, hdb⟩, j3, y3, j7, j8, j9, j10, j14, j15, j16, trivial⟩)
     rintro a k ⟨⟨hg, hs, hd⟩, i3, n3, i7, i8, i9, i10, i14, i15, i16, _⟩
     obtain ⟨x3, hx3, hr⟩ := bind_some hr
     refine cut (fun a' k' => Bs noF k0 33 a' k' ∧ IsOwn 0 3 x3 (a'.get 3) k' ∧ Lo k0 (obF (a'.get 3)) ∧ (IsV lists_) (a'.get 8) k' ∧ (IsL lists_) (a'.get 9) k' ∧ (IsV s1.2) (a'.get 10) k' ∧ (IsV x1) (a'.get 14) k' ∧ (IsL x1) (a'.get 15) k' ∧ (IsV s2.2) (a'.get 16) k' ∧ True) ?_ hQ ?_
     ·intro Q10 W10 w8
      refine gS 6 (⟨some (OwnAt (a.get 3) 0 3 s2.1), [(3, none)]⟩ :: _ :: _ :: _ :: _ :: ⟨some (IsV (α := (List Int)) ([x2.Z0, x2.Z1])), [(22, some 2), (24, some 4)]⟩ :: []) hs (by kernel_rfl) ⟨ob1 rfl fun _ _ h n => ok_moveOA (.inl rfl) (ownAt n.1 (up i3 h n.1)), o1 [(7, none)] rfl fun _ _ h n => ok_fieldAddr rfl fo50_0 (at_Slab_0 _) ((up i7 h n.1)).ptr, o1 [(21, some 1)] rfl fun _ _ h n => ok_load rfl ty3 n.1, o1 [(7, none)] rfl fun _ _ h n => ok_fieldAddr rfl fo50_1 (at_Slab_1 _) ((up i7 h n.1)).ptr, o1 [(23, some 3)] rfl fun _ _ h n => ok_load rfl ty3 n.1, ob1 rfl fun _ _ h n => ok_buildSlice rfl Try.underlying57 eo3 rfl (by decide) (by decide) ⟨rfl, n.1, rfl, n.2.1, trivial⟩, trivial⟩ W10 fun b q p => ?_
      have hgq := hg.then p.grow
      have hsb := p.size.trans hs
      have hdb := p.defers.trans hd
      have j8 := p.ke 8 rfl i8
      have j9 := p.ke 9 rfl i9
      have j10 := p.ke 10 rfl i10
      have j14 := p.ke 14 rfl i14
      have j15 := p.ke 15 rfl i15
      have j16 := p.ke 16 rfl i16
      have e20 : b.get 20 = a.get 3 := (p.ou 0 20 rfl).1
      have j20 : IsOwn 0 3 s2.1 (b.get 20) q := (p.ou 0 20 rfl).2
      have y20 : Lo k0 (obF (b.get 20)) := by rw [e20]; exact n3
      have j25 : (IsV (α := (List Int)) ([x2.Z0, x2.Z1])) (b.get 25) q := p.ou 5 25 rfl
      have hns := j20.nshF
      refine tail_appendS (i := 6) (d := 26) rfl rfl rfl rfl (by rw [hsb]; decide) (e := 3) Try.underlying57 eo3 j20 (IsV.rd j25) hx3 fun b2 q2 hsz hdf hoth hch hown hob => ?_
      have hle := hch.le hns
      have yn : Lo k0 (obF (b2.get 26)) := y20.app hgq hob
      replace j8 := Pers.pers hle j8
      replace j9 := Pers.pers hle j9
      replace j10 := Pers.pers hle j10
      replace j14 := Pers.pers hle j14
      replace j15 := Pers.pers hle j15
      replace j16 := Pers.pers hle j16
      replace j25 := Pers.pers hle j25
      replace hgq := hgq.step hch y20.wr
      rw [← hoth 8 (by decide)] at j8
      rw [← hoth 9 (by decide)] at j9
      rw [← hoth 10 (by decide)] at j10
      rw [← hoth 14 (by decide)] at j14
      rw [← hoth 15 (by decide)] at j15
      rw [← hoth 16 (by decide)] at j16
      rw [← hoth 25 (by decide)] at j25
      have j26 := hown
      have y26 := yn
      replace hsb := hsz.trans hsb
      replace hdb := hdf.trans hdb
      clear hle hch hown hob hns yn hsz hdf hoth
      obtain ⟨b, hbb⟩ : ∃ b, b = b2 := ⟨b2, rfl⟩
      subst hbb
      obtain ⟨q, hqq⟩ : ∃ q, q = q2 := ⟨q2, rfl⟩
      subst hqq
      refine tail_assign (i := 7) (d := 3) rfl rfl (.inl rfl) rfl (by rw [hsb]; decide) fun b2 hsz hdf hnew hoth => ?_
      have jn : (IsOwn 0 3 x3) (b2.get 3) q := by rw [hnew]; exact j26
      have yn : Lo k0 (obF (b2.get 3)) := by rw [hnew]; exact y26
      rw [← hoth 8 (by decide)] at j8
      rw [← hoth 9 (by decide)] at j9
      rw [← hoth 10 (by decide)] at j10
      rw [← hoth 14 (by decide)] at j14
      rw [← hoth 15 (by decide)] at j15
      rw [← hoth 16 (by decide)] at j16
      rw [← hoth 25 (by decide)] at j25
      have j3 := jn
      have y3 := yn
      replace hsb := hsz.trans hsb
      replace hdb := hdf.trans hdb
      clear hsz hdf hoth
      obtain ⟨b, hbb⟩ : ∃ b, b = b2 := ⟨b2, rfl⟩
      subst hbb
      exact tail_done (k := q) (w8 _ _ ⟨⟨hgq, hsb, hdb⟩, j3, y3, j8, j9, j10, j14, j15, j16, trivial⟩)
     rintro a k ⟨⟨hg, hs, hd⟩, i3, n3, i8, i9, i10, i14, i15, i16, _⟩
     obtain ⟨x4, hx4, hr⟩ := bind_some hr
     refine cut (fun a' k' => Bs noF k0 33 a' k' ∧ IsOwn 0 3 x3 (a'.get 3) k' ∧ Lo k0 (obF (a'.get 3)) ∧ (IsV lists_) (a'.get 8) k' ∧ (IsL lists_) (a'.get 9) k' ∧ (IsV s1.2) (a'.get 10) k' ∧ (IsV x1) (a'.get 14) k' ∧ (IsL x1) (a'.get 15) k' ∧ (IsV x4) (a'.get 16) k' ∧ True) ?_ hQ ?_
     ·intro Q11 W11 w9
      refine gS 2 (_ :: _ :: []) hs (by kernel_rfl) ⟨o1 [(16, none)] rfl fun _ _ h n => ok_add rfl (up i16 h n.1) (cI rfl) hx4, cm 0 rfl rfl, trivial⟩ W11 fun b q p => ?_
      exact tail_done (k := q) (w9 _ _ ⟨Bs.post ⟨hg, hs, hd⟩ p, p.ke 3 rfl i3, (by rw [p.old 3 rfl]; exact n3), p.ke 8 rfl i8, p.ke 9 rfl i9, p.ke 10 rfl i10, p.ke 14 rfl i14, p.ke 15 rfl i15, p.ou 1 16 rfl, trivial⟩)
     rintro a k ⟨⟨hg, hs, hd⟩, i3, n3, i8, i9, i10, i14, i15, i16, _⟩
     exact hgo1040 _ _ _ (Option.some.inj hr).symm ⟨⟨hg, hs, hd⟩, i3, n3, i8, i9, i10, i14, i15, i16, trivial⟩
    rw [if_neg (by rw [hc1053]; decide)] at hr
    refine wp_exit ?_
    exact hex1041 _ _ _ _ (Option.some.inj hr).symm ⟨rfl, ⟨hg, hs, hd⟩, i3, n3, i8, i9, i10, trivial⟩
   ·rintro r1 a k rfl hR
    dsimp only at hr
    exact hret1035 _ _ _ (Option.some.inj hr).symm hR
   ·rintro _ _ _ rfl _
    simp at hr
   clear hf2
   rintro _ s3 a k rfl ⟨rfl, ⟨hg, hs, hd⟩, i3, n3, i8, i9, i10, _⟩
   dsimp only at hr
   obtain ⟨x5, hx5, hr⟩ := bind_some hr
   refine cut (fun a' k' => Bs noF k0 33 a' k' ∧ IsOwn 0 3 s3.1 (a'.get 3) k' ∧ Lo k0 (obF (a'.get 3)) ∧ (IsV lists_) (a'.get 8) k' ∧ (IsL lists_) (a'.get 9) k' ∧ (IsV x5) (a'.get 10) k' ∧ True) ?_ hQ ?_
   ·intro Q12 W12 w10
    refine gS 2 (_ :: _ :: []) hs (by kernel_rfl) ⟨o1 [(10, none)] rfl fun _ _ h n => ok_add rfl (up i10 h n.1) (cI rfl) hx5, cm 0 rfl rfl, trivial⟩ W12 fun b q p => ?_
    exact tail_done (k := q) (w10 _ _ ⟨Bs.post ⟨hg, hs, hd⟩ p, p.ke 3 rfl i3, (by rw [p.old 3 rfl]; exact n3), p.ke 8 rfl i8, p.ke 9 rfl i9, p.ou 1 10 rfl, trivial⟩)
   rintro a k ⟨⟨hg, hs, hd⟩, i3, n3, i8, i9, i10, _⟩
   exact hgo1033 _ _ _ (Option.some.inj hr).symm ⟨⟨hg, hs, hd⟩, i3, n3, i8, i9, i10, trivial⟩
  rw [if_neg (by rw [hc1067]; decide)] at hr
  refine wp_exit ?_
  exact hex1034 _ _ _ _ (Option.some.inj hr).symm ⟨rfl, ⟨hg, hs, hd⟩, i3, n3, trivial⟩
 ·rintro r2 a k rfl hR
  dsimp only at hr
  obtain rfl := Option.some.inj hr
  exact hR
 ·rintro _ _ _ rfl _
  simp at hr
 clear hf1
 rintro _ s4 a k rfl ⟨rfl, ⟨hg, hs, hd⟩, i3, n3, _⟩
 dsimp only at hr
 refine wp_seq ?_
 obtain ⟨x6, hx6, hr⟩ := bind_some hr
 refine cut (fun a' k' => Bs noF k0 33 a' k' ∧ IsOwn 0 3 x6 (a'.get 3) k' ∧ Lo k0 (obF (a'.get 3)) ∧ True) ?_ hQ ?_
 ·intro Q13 W13 w11
  refine gS 1 (⟨some (OwnAt (a.get 3) 0 3 s4.1), [(3, none)]⟩ :: []) hs (by kernel_rfl) ⟨ob1 rfl fun _ _ h n => ok_moveOA (.inl rfl) (ownAt n.1 (up i3 h n.1)), trivial⟩ W13 fun b q p => ?_
  have hgq := hg.then p.grow
  have hsb := p.size.trans hs
  have hdb := p.defers.trans hd
  have j3 := p.ke 3 rfl i3
  have y3 : Lo k0 (obF (b.get 3)) := by rw [p.old 3 rfl]; exact n3
  have e29 : b.get 29 = a.get 3 := (p.ou 0 29 rfl).1
  have j29 : IsOwn 0 3 s4.1 (b.get 29) q := (p.ou 0 29 rfl).2
  have y29 : Lo k0 (obF (b.get 29)) := by rw [e29]; exact n3
  have hns := j29.nshF
  have eS : b.get 3 = b.get 29 := (p.old 3 rfl).trans e29.symm
  refine tail_call (F := obF (b.get 29)) (i := 1) (d := 30) rfl rfl rfl rfl (by rw [hsb]; decide) Try.call43 W13 (sortInts_ok j29 hx6) fun b2 q2 hsz hdf hoth hch hres => ?_
  have hle := hch.le hns
  replace hgq := hgq.step hch y29.wr
  replace j3 : IsOwn 0 3 x6 (b.get 3) q2 := by rw [eS]; exact hres
  clear hres eS
  rw [← hoth 3 (by decide)] at j3
  rw [← hoth 3 (by decide)] at y3
  replace hsb := hsz.trans hsb
  replace hdb := hdf.trans hdb
  clear hle hch hns hsz hdf hoth
  obtain ⟨b, hbb⟩ : ∃ b, b = b2 := ⟨b2, rfl⟩
  subst hbb
  obtain ⟨q, hqq⟩ : ∃ q, q = q2 := ⟨q2, rfl⟩
  subst hqq
  exact tail_done (k := q) (w11 _ _ ⟨⟨hgq, hsb, hdb⟩, j3, y3, trivial⟩)
 rintro a k ⟨⟨hg, hs, hd⟩, i3, n3, _⟩
 refine wp_seq ?_
 obtain ⟨x8, hx8, hr⟩ := bind_some hr
 refine cut (fun a' k' => Bs noF k0 33 a' k' ∧ IsOwn 0 3 x8 (a'.get 2) k' ∧ Lo k0 (obF (a'.get 2)) ∧ True) ?_ hQ ?_
 ·intro Q14 W14 w12
  refine gS 1 (⟨some (OwnAt (a.get 3) 0 3 x6), [(3, none)]⟩ :: []) hs (by kernel_rfl) ⟨ob1 rfl fun _ _ h n => ok_moveOA (.inl rfl) (ownAt n.1 (up i3 h n.1)), trivial⟩ W14 fun b q p => ?_
  have hgq := hg.then p.grow
  have hsb := p.size.trans hs
  have hdb := p.defers.trans hd
  have e31 : b.get 31 = a.get 3 := (p.ou 0 31 rfl).1
  have j31 : IsOwn 0 3 x6 (b.get 31) q := (p.ou 0 31 rfl).2
  have y31 : Lo k0 (obF (b.get 31)) := by rw [e31]; exact n3
  have hns := j31.nshF
  refine tail_call (F := obF (b.get 31)) (i := 1) (d := 32) rfl rfl rfl rfl (by rw [hsb]; decide) Try.call44 W14 (compactInts_ok j31 hx8) fun b2 q2 hsz hdf hoth hch hres => ?_
  have hle := hch.le hns
  obtain ⟨hown, hob⟩ := hres
  have yn : Lo k0 (obF (b2.get 32)) := y31.app hgq hob
  replace hgq := hgq.step hch y31.wr
  have j32 := hown
  have y32 := yn
  have hres := True.intro
  clear hown hob yn
  replace hsb := hsz.trans hsb
  replace hdb := hdf.trans hdb
  clear hle hch hres hns hsz hdf hoth
  obtain ⟨b, hbb⟩ : ∃ b, b = b2 := ⟨b2, rfl⟩
  subst hbb
  obtain ⟨q, hqq⟩ : ∃ q, q = q2 := ⟨q2, rfl⟩
  subst hqq
  refine tail_assign (i := 2) (d := 2) rfl rfl (.inl rfl) rfl (by rw [hsb]; decide) fun b2 hsz hdf hnew hoth => ?_
  have jn : (IsOwn 0 3 x8) (b2.get 2) q := by rw [hnew]; exact j32
  have yn : Lo k0 (obF (b2.get 2)) := by rw [hnew]; exact y32
  have j2 := jn
  have y2 := yn
  replace hsb := hsz.trans hsb
  replace hdb := hdf.trans hdb
  clear hsz hdf hoth
  obtain ⟨b, hbb⟩ : ∃ b, b = b2 := ⟨b2, rfl⟩
  subst hbb
  exact tail_done (k := q) (w12 _ _ ⟨⟨hgq, hsb, hdb⟩, j2, y2, trivial⟩)
 rintro a k ⟨⟨hg, hs, hd⟩, i2, n2, _⟩
 refine wp_ret ?_
 obtain ⟨kk, sh1074, ii2⟩ := i2.give
 replace i2 := ii2
 replace hg := hg.hand sh1074 n2.wr
 rw [← sh1074.w]
 clear sh1074
 obtain ⟨k, hkk⟩ : ∃ k, k = kk := ⟨kk, rfl⟩
 subst hkk
 obtain rfl := Option.some.inj hr
 exact retC1 rfl hd hg i2
def solid_put (out_ : (List Slab)) (x_ : Slab) : Option ((List Slab)) :=
 if ((x_.Area.length : Int) == 0) then
  some out_
 else
  (subI (out_.length : Int) 1).bind fun x1 =>
  (if (decide (0 ≤ x1)) then
   (getI out_ x1).bind fun x2 =>
   some (x2.Z1 == x_.Z0)
  else
   some false).bind fun x3 =>
  (if x3 then
   (getI out_ x1).bind fun x4 =>
   (region_Same x4.Area x_.Area).bind fun x5 =>
   some x5
  else
   some false).bind fun x6 =>
  if x6 then
   (getI out_ x1).bind fun x7 =>
   (some (out_.set (x1).toNat ({ x7 with Z1 := x_.Z1 }))).bind fun x8 =>
   some x8
  else
   (appI out_ ([x_])).bind fun x9 =>
   some x9
theorem solid_put_ok {k0 : K} {v0 v1 : Value} {out_ : (List Slab)} {x_ : Slab} {r : (List Slab)} (i0 : (IsOwn 0 50 out_) v0 k0) (i1 : (IsV x_) v1 k0) (hr : solid_put out_ x_ = some r) :
  Calls Try.prog 33 #[v0, v1] k0.w (RetC (obF v0) k0 (IsOwnW v0 k0 50 r)) := by
 unfold solid_put at hr
 refine enterK Try.func33 rfl Try.ntmps33 (show 2 ≤ 47 by decide) fun a k hk0 hs hd ha => ?_
 obtain ⟨e0, e1, _⟩ := ha
 replace i0 : (IsOwn 0 50 out_) (a.get 0) k := by rw [e0, hk0]; exact i0
 replace i1 : (IsV x_) (a.get 1) k := by rw [e1, hk0]; exact i1
 have n0 : Wr (obF v0) k0 (obF (a.get 0)) := fun b h => .inl (by rwa [e0] at h)
 have hQ : Gb.LetsOut (bodyPost Try.prog Try.f33 (RetC (obF v0) k0 (IsOwnW v0 k0 50 r))) := letsOutC
 have hg : Chg (obF v0) k0 k := by rw [hk0]; exact Chg.refl _ k0
 refine cutS (fun c l => Bs (obF v0) k0 47 c l ∧ IsOwn 0 50 out_ (c.get 0) l ∧ Wr (obF v0) k0 (obF (c.get 0)) ∧ IsRef x_ (c.get 3) l ∧ True) ?_ ?_
 ·intro Q1 W1 w1
  refine gS 2 (⟨some (IsRef x_), [(1, none)]⟩ :: ⟨some IsE0, []⟩ :: []) hs (by kernel_rfl) ⟨ob1 rfl fun _ _ h n => ok_boxR rfl (up i1 h n.1), ob1 rfl fun b q h n => ok_assign rfl isE0_nil, trivial⟩ W1 fun b q p => ?_
  exact tail_done (k := q) (w1 _ _ ⟨Bs.post ⟨hg, hs, hd⟩ p, p.ke 0 rfl i0, (by rw [p.old 0 rfl]; exact n0), p.ou 0 3 rfl, trivial⟩)
 rintro a k ⟨⟨hg, hs, hd⟩, i0, n0, i3, _⟩
 refine wp_seq ?_
 refine cutS (fun c l => Bs (obF v0) k0 47 c l ∧ IsOwn 0 50 out_ (c.get 0) l ∧ Wr (obF v0) k0 (obF (c.get 0)) ∧ IsRef x_ (c.get 3) l ∧ IsV ((x_.Area.length : Int) == 0) (c.get 9) l ∧ True) ?_ ?_
 ·intro Q2 W2 w2
  refine gS 4 (_ :: _ :: _ :: _ :: []) hs (by kernel_rfl) ⟨o1 [(3, none)] rfl fun _ _ h n => ok_fieldAddr rfl fo50_2 (at_Slab_2 _) ((up i3 h n.1)).ptr, o1 [(6, some 0)] rfl fun _ _ h n => ok_load rfl ty48 n.1, o1 [(7, some 1)] rfl fun _ _ h n => ok_len rfl rfl Try.underlying48 (IsV.rd n.1), o1 [(8, some 2)] rfl fun _ _ h n => ok_eqI rfl n.1 (cI rfl), trivial⟩ W2 fun b q p => ?_
  exact tail_done (k := q) (w2 _ _ ⟨Bs.post ⟨hg, hs, hd⟩ p, p.ke 0 rfl i0, (by rw [p.old 0 rfl]; exact n0), p.ke 3 rfl i3, p.ou 3 9 rfl, trivial⟩)
 rintro a k ⟨⟨hg, hs, hd⟩, i0, n0, i3, i9, _⟩
 refine wp_cond_split (isBool i9) (fun hc1108 => ?_) (fun hc1108 => ?_)
 ·rw [if_pos hc1108] at hr
  refine cutS (fun c l => Bs (obF v0) k0 47 c l ∧ IsOwn 0 50 out_ (c.get 4) l ∧ Wr (obF v0) k0 (obF (c.get 4)) ∧ True) ?_ ?_
  ·intro Q3 W3 w3
   refine gS 2 (⟨some (OwnAt (a.get 0) 0 50 out_), [(0, none)]⟩ :: ⟨some (OwnAt (a.get 0) 0 50 out_), [(10, some 0)]⟩ :: []) hs (by kernel_rfl) ⟨ob1 rfl fun _ _ h n => ok_moveOA (.inl rfl) (ownAt n.1 (up i0 h n.1)), ob1 rfl fun _ _ h n => ok_moveOA (.inr rfl) n.1, trivial⟩ W3 fun b q p => ?_
   have hgq := hg.then p.grow
   have hsb := p.size.trans hs
   have hdb := p.defers.trans hd
   have e4 : b.get 4 = a.get 0 := (p.ou 1 4 rfl).1
   have j4 : IsOwn 0 50 out_ (b.get 4) q := (p.ou 1 4 rfl).2
   have y4 : Wr (obF v0) k0 (obF (b.get 4)) := by rw [e4]; exact n0
   exact tail_done (k := q) (w3 _ _ ⟨⟨hgq, hsb, hdb⟩, j4, y4, trivial⟩)
  rintro a k ⟨⟨hg, hs, hd⟩, i4, n4, _⟩
  refine wp_ret ?_
  obtain rfl := Option.some.inj hr
  exact retC1 rfl hd hg (show ResOk _ _ _ (.tmp 4) (IsOwnW _ _ _ _) from ⟨i4, n4⟩)
 rw [if_neg (by rw [hc1108]; decide)] at hr
 refine wp_skip ?_
 refine wp_seq ?_
 refine wp_seq ?_
 obtain ⟨x1, hx1, hr⟩ := bind_some hr
 refine cut (fun a' k' => Bs (obF v0) k0 47 a' k' ∧ IsOwn 0 50 out_ (a'.get 0) k' ∧ Wr (obF v0) k0 (obF (a'.get 0)) ∧ (IsRef x_) (a'.get 3) k' ∧ (IsV x1) (a'.get 5) k' ∧ True) ?_ hQ ?_
 ·intro Q4 W4 w4
  refine gS 4 (⟨some (OwnAt (a.get 0) 0 50 out_), [(0, none)]⟩ :: _ :: _ :: _ :: []) hs (by kernel_rfl) ⟨ob1 rfl fun _ _ h n => ok_moveOA (.inl rfl) (ownAt n.1 (up i0 h n.1)), o1 [(11, some 0)] rfl fun _ _ h n => ok_len rfl rfl Try.underlying23 (IsOwn.rd (n.1).2), o1 [(12, some 1)] rfl fun _ _ h n => ok_sub rfl n.1 (cI rfl) hx1, cp 2 rfl rfl, trivial⟩ W4 fun b q p => ?_
  exact tail_done (k := q) (w4 _ _ ⟨Bs.post ⟨hg, hs, hd⟩ p, p.ke 0 rfl i0, (by rw [p.old 0 rfl]; exact n0), p.ke 3 rfl i3, p.ou 3 5 rfl, trivial⟩)
 rintro a k ⟨⟨hg, hs, hd⟩, i0, n0, i3, i5, _⟩
 refine wp_seq ?_
 obtain ⟨x2, hx2, hr⟩ := bind_some hr
 obtain ⟨x3, hx3, hx2⟩ := ite_bind hx2
 obtain ⟨x4, hx4, hr⟩ := bind_some hr
 obtain ⟨x5, hx5, hx4⟩ := ite_bind hx4
 obtain ⟨x6, hx6, hx4⟩ := ite_bind hx4
 refine cut (fun a' k' => Bs (obF v0) k0 47 a' k' ∧ IsOwn 0 50 out_ (a'.get 0) k' ∧ Wr (obF v0) k0 (obF (a'.get 0)) ∧ (IsRef x_) (a'.get 3) k' ∧ (IsV x1) (a'.get 5) k' ∧ (IsV x4) (a'.get 35) k' ∧ True) ?_ hQ ?_
 ·intro Q5 W5 w5
  refine region (m := 22) (_ :: _ :: _ :: ⟨some (Gd ((decide (0 ≤ x1)) = true) (OwnAt (a.get 0) 0 50 out_)), [(0, none)]⟩ :: _ :: _ :: _ :: _ :: _ :: _ :: _ :: _ :: _ :: ⟨some (Gd (x2 = true) (OwnAt (a.get 0) 0 50 out_)), [(0, none)]⟩ :: _ :: _ :: _ :: _ :: _ :: _ :: _ :: _ :: []) hmix hs (by kernel_rfl) ⟨mu rfl i5, o1 [(14, some 0)] rfl fun _ _ h n => ok_geq rfl n.1 (cI rfl), cm 1 rfl rfl, gdT rfl rfl fun hp _ _ h n => ok_moveOA (.inl rfl) (ownAt n.1 (up i0 h n.1)), mT rfl rfl i5, gT [(17, some 3), (18, some 4)] rfl rfl fun hp _ _ h n => ok_indexAddr rfl Try.underlying23 ty50 (IsOwn.rd ((Gd.get n.1 hp)).2) (Gd.get n.2.1 hp) (hx3 hp), gT [(19, some 5)] rfl rfl fun hp _ _ h n => ok_fieldAddr rfl fo50_1 (at_Slab_1 _) (Gd.get n.1 hp), gT [(20, some 6)] rfl rfl fun hp _ _ h n => ok_load rfl ty3 (Gd.get n.1 hp), gT [(3, none)] rfl rfl fun hp _ _ h n => ok_fieldAddr rfl fo50_0 (at_Slab_0 _) ((up i3 h n.1)).ptr, gT [(22, some 8)] rfl rfl fun hp _ _ h n => ok_load rfl ty3 (Gd.get n.1 hp), gT [(21, some 7), (23, some 9)] rfl rfl fun hp _ _ h n => ok_eqI rfl (Gd.get n.1 hp) (Gd.get n.2.1 hp), o1 [(16, some 2), (24, some 10)] rfl fun _ _ h n => ok_pickM rfl n.1 hx2 (Gd.get n.2.1) (cB rfl), cm 11 rfl rfl, gdT rfl rfl fun hp _ _ h n => ok_moveOA (.inl rfl) (ownAt n.1 (up i0 h n.1)), mT rfl rfl i5, gT [(27, some 13), (28, some 14)] rfl rfl fun hp _ _ h n => ok_indexAddr rfl Try.underlying23 ty50 (IsOwn.rd ((Gd.get n.1 hp)).2) (Gd.get n.2.1 hp) (hx5 hp), gT [(29, some 15)] rfl rfl fun hp _ _ h n => ok_fieldAddr rfl fo50_2 (at_Slab_2 _) (Gd.get n.1 hp), gT [(30, some 16)] rfl rfl fun hp _ _ h n => ok_load rfl ty48 (Gd.get n.1 hp), gT [(3, none)] rfl rfl fun hp _ _ h n => ok_fieldAddr rfl fo50_2 (at_Slab_2 _) ((up i3 h n.1)).ptr, gT [(32, some 18)] rfl rfl fun hp _ _ h n => ok_load rfl ty48 (Gd.get n.1 hp), gT [(31, some 17), (33, some 19)] rfl rfl fun hp _ _ h n => ok_call rfl Try.call48 (region_Same_ok (Gd.get n.1 hp) (Gd.get n.2.1 hp) (hx6 hp)), o1 [(26, some 12), (34, some 20)] rfl fun _ _ h n => ok_pickM rfl n.1 hx4 (Gd.get n.2.1) (cB rfl), trivial⟩ W5 fun b q p => ?_
  exact tail_done (k := q) (w5 _ _ ⟨Bs.post ⟨hg, hs, hd⟩ p, p.ke 0 rfl i0, (by rw [p.old 0 rfl]; exact n0), p.ke 3 rfl i3, p.ke 5 rfl i5, p.ou 21 35 rfl, trivial⟩)
 rintro a k ⟨⟨hg, hs, hd⟩, i0, n0, i3, i5, i35, _⟩
 refine wp_cond_split (isBool i35) (fun hc1103 => ?_) (fun hc1103 => ?_)
 ·rw [if_pos hc1103] at hr
  refine wp_seq ?_
  obtain ⟨x7, hx7, hr⟩ := bind_some hr
  obtain ⟨x8, hx8, hr⟩ := bind_some hr
  refine cut (fun a' k' => Bs (obF v0) k0 47 a' k' ∧ IsOwn 0 50 x8 (a'.get 0) k' ∧ Wr (obF v0) k0 (obF (a'.get 0)) ∧ True) ?_ hQ ?_
  ·intro Q6 W6 w6
   refine gS 6 (⟨some (OwnAt (a.get 0) 0 50 out_), [(0, none)]⟩ :: _ :: _ :: _ :: ⟨some (IsAdrO (a.get 0) ((x1).toNat * Enc.sz Slab)), [(36, some 0), (37, some 1)]⟩ :: _ :: []) hs (by kernel_rfl) ⟨ob1 rfl fun _ _ h n => ok_moveOA (.inl rfl) (ownAt n.1 (up i0 h n.1)), mu rfl i5, o1 [(3, none)] rfl fun _ _ h n => ok_fieldAddr rfl fo50_1 (at_Slab_1 _) ((up i3 h n.1)).ptr, o1 [(38, some 2)] rfl fun _ _ h n => ok_load rfl ty3 n.1, ob1 rfl fun _ _ h n => ok_indexO rfl Try.underlying23 ty50 n.1 n.2.1 hx7, o1 [(40, some 4)] rfl fun _ _ h n => ok_fieldAdrO rfl fo50_1 n.1, trivial⟩ W6 fun b q p => ?_
   have hgq := hg.then p.grow
   have hsb := p.size.trans hs
   have hdb := p.defers.trans hd
   have j0 := p.ke 0 rfl i0
   have y0 : Wr (obF v0) k0 (obF (b.get 0)) := by rw [p.old 0 rfl]; exact n0
   have j39 : (IsV x_.Z1) (b.get 39) q := p.ou 3 39 rfl
   have j41 : IsAdrO (a.get 0) ((x1).toNat * Enc.sz Slab + 1) (b.get 41) q := p.ou 5 41 rfl
   have eo : b.get 0 = a.get 0 := p.old 0 rfl
   have hns := j0.nshF
   refine tail_storeS (i := 6) (u := b.get 0) (m := (x1).toNat) (off := 0 + 1) rfl rfl rfl rfl szf3 upd_F50_1 (by rw [eo]; exact j41) j0 (getI_spec hx7).2.1 j39 fun q2 hch hz => ?_
   replace hgq := hgq.step hch y0
   have hle := hch.le hns
   replace j39 := Pers.pers hle j39
   replace j41 := Pers.pers hle j41
   replace j0 := hz
   rw [Option.some.inj hx8] at j0
   clear hns hle hch eo hz
   obtain ⟨q, hqq⟩ : ∃ q, q = q2 := ⟨q2, rfl⟩
   subst hqq
   exact tail_done (k := q) (w6 _ _ ⟨⟨hgq, hsb, hdb⟩, j0, y0, trivial⟩)
  rintro a k ⟨⟨hg, hs, hd⟩, i0, n0, _⟩
  refine cutS (fun c l => Bs (obF v0) k0 47 c l ∧ IsOwn 0 50 x8 (c.get 4) l ∧ Wr (obF v0) k0 (obF (c.get 4)) ∧ True) ?_ ?_
  ·intro Q7 W7 w7
   refine gS 2 (⟨some (OwnAt (a.get 0) 0 50 x8), [(0, none)]⟩ :: ⟨some (OwnAt (a.get 0) 0 50 x8), [(42, some 0)]⟩ :: []) hs (by kernel_rfl) ⟨ob1 rfl fun _ _ h n => ok_moveOA (.inl rfl) (ownAt n.1 (up i0 h n.1)), ob1 rfl fun _ _ h n => ok_moveOA (.inr rfl) n.1, trivial⟩ W7 fun b q p => ?_
   have hgq := hg.then p.grow
   have hsb := p.size.trans hs
   have hdb := p.defers.trans hd
   have e4 : b.get 4 = a.get 0 := (p.ou 1 4 rfl).1
   have j4 : IsOwn 0 50 x8 (b.get 4) q := (p.ou 1 4 rfl).2
   have y4 : Wr (obF v0) k0 (obF (b.get 4)) := by rw [e4]; exact n0
   exact tail_done (k := q) (w7 _ _ ⟨⟨hgq, hsb, hdb⟩, j4, y4, trivial⟩)
  rintro a k ⟨⟨hg, hs, hd⟩, i4, n4, _⟩
  refine wp_ret ?_
  obtain rfl := Option.some.inj hr
  exact retC1 rfl hd hg (show ResOk _ _ _ (.tmp 4) (IsOwnW _ _ _ _) from ⟨i4, n4⟩)
 rw [if_neg (by rw [hc1103]; decide)] at hr
 refine wp_skip ?_
 refine wp_seq ?_
 obtain ⟨x9, hx9, hr⟩ := bind_some hr
 refine cut (fun a' k' => Bs (obF v0) k0 47 a' k' ∧ IsOwn 0 50 x9 (a'.get 4) k' ∧ Wr (obF v0) k0 (obF (a'.get 4)) ∧ True) ?_ hQ ?_
 ·intro Q8 W8 w8
  refine gS 3 (⟨some (OwnAt (a.get 0) 0 50 out_), [(0, none)]⟩ :: _ :: ⟨some (IsV (α := (List Slab)) ([x_])), [(44, some 1)]⟩ :: []) hs (by kernel_rfl) ⟨ob1 rfl fun _ _ h n => ok_moveOA (.inl rfl) (ownAt n.1 (up i0 h n.1)), o1 [(3, none)] rfl fun _ _ h n => ok_load rfl ty50 ((up i3 h n.1)).ptr, ob1 rfl fun _ _ h n => ok_buildSlice rfl Try.underlying23 eo50 rfl (by decide) (by decide) ⟨rfl, n.1, trivial⟩, trivial⟩ W8 fun b q p => ?_
  have hgq := hg.then p.grow
  have hsb := p.size.trans hs
  have hdb := p.defers.trans hd
  have e43 : b.get 43 = a.get 0 := (p.ou 0 43 rfl).1
  have j43 : IsOwn 0 50 out_ (b.get 43) q := (p.ou 0 43 rfl).2
  have y43 : Wr (obF v0) k0 (obF (b.get 43)) := by rw [e43]; exact n0
  have j45 : (IsV (α := (List Slab)) ([x_])) (b.get 45) q := p.ou 2 45 rfl
  have hns := j43.nshF
  refine tail_appendS (i := 3) (d := 46) rfl rfl rfl rfl (by rw [hsb]; decide) (e := 50) Try.underlying23 eo50 j43 (IsV.rd j45) hx9 fun b2 q2 hsz hdf hoth hch hown hob => ?_
  have hle := hch.le hns
  have yn : Wr (obF v0) k0 (obF (b2.get 46)) := y43.app hgq hob
  replace j45 := Pers.pers hle j45
  replace hgq := hgq.step hch y43
  rw [← hoth 45 (by decide)] at j45
  have j46 := hown
  have y46 := yn
  replace hsb := hsz.trans hsb
  replace hdb := hdf.trans hdb
  clear hle hch hown hob hns yn hsz hdf hoth
  obtain ⟨b, hbb⟩ : ∃ b, b = b2 := ⟨b2, rfl⟩
  subst hbb
  obtain ⟨q, hqq⟩ : ∃ q, q = q2 := ⟨q2, rfl⟩
  subst hqq
  refine tail_assign (i := 4) (d := 4) rfl rfl (.inl rfl) rfl (by rw [hsb]; decide) fun b2 hsz hdf hnew hoth => ?_
  have jn : (IsOwn 0 50 x9) (b2.get 4) q := by rw [hnew]; exact j46
  have yn : Wr (obF v0) k0 (obF (b2.get 4)) := by rw [hnew]; exact y46
  rw [← hoth 45 (by decide)] at j45
  have j4 := jn
  have y4 := yn
  replace hsb := hsz.trans hsb
  replace hdb := hdf.trans hdb
  clear hsz hdf hoth
  obtain ⟨b, hbb⟩ : ∃ b, b = b2 := ⟨b2, rfl⟩
  subst hbb
  exact tail_done (k := q) (w8 _ _ ⟨⟨hgq, hsb, hdb⟩, j4, y4, trivial⟩)
 rintro a k ⟨⟨hg, hs, hd⟩, i4, n4, _⟩
 refine wp_ret ?_
 obtain rfl := Option.some.inj hr
 exact retC1 rfl hd hg (show ResOk _ _ _ (.tmp 4) (IsOwnW _ _ _ _) from ⟨i4, n4⟩)
def solid_fits (out_ : (List Slab)) : Option ((List Slab) × Int) :=
 if (decide (80 < (out_.length : Int))) then
  some (([] : List Slab), 6)
 else
  some (out_, 0)
noncomputable def k34 := mk 34 [.list (.st 6)] [.list (.st 6), .int] (fun x => solid_fits x) [] [] Try.f34 (.n) Try.func34 Try.call34 rfl rfl fun x => by kernel_rfl
theorem solid_fits_ok {k0 : K} {v0 : Value} {x0 : (List Slab)} {r : (List Slab) × Int} (i0 : IsV x0 v0 k0) (hr : solid_fits x0 = some r) : Calls Try.prog 34 #[v0] k0.w (Ret k0 (IsTup2 (IsV r.1) (IsV r.2))) := ret2T (T := tb) (k34.ok.ok k0 [v0] x0 r i0 hr)
def solid_Of_L0 (l_ : (List Box)) (s1 : (List Slab) × Int) : Option (Flow ((List Slab) × Int) ((List Slab) × Int)) :=
 if (decide (s1.2 < (l_.length : Int))) then
  (getI l_ s1.2).bind fun x1 =>
  (rect_Right x1.Base).bind fun x2 =>
  if ((((!x2) || (decide (x1.Z0 < 0))) || (decide (x1.Z1 ≤ x1.Z0))) || (decide (4096 < x1.Z1))) then
   some (.ret (([] : List Slab), 1))
  else
   (appI s1.1 ([(⟨x1.Z0, x1.Z1, []⟩ : Slab)])).bind fun x3 =>
   (addI s1.2 1).bind fun x4 =>
   some (.go (x3, x4))
 else
  some (.ex 0 (s1.1, s1.2))
def solid_Of_L2 (l_ : (List Box)) (x1 : (List Int)) (s1 : (List Slab) × Int) (s2 : (List Rect) × Int) : Option (Flow ((List Rect) × Int) ((List Slab) × Int)) :=
 if (decide (s2.2 < (l_.length : Int))) then
  (getI l_ s2.2).bind fun x2 =>
  (getI x1 s1.2).bind fun x3 =>
  (if (decide (x2.Z0 < x3)) then
   (subI s1.2 1).bind fun x4 =>
   (getI x1 x4).bind fun x5 =>
   some (decide (x5 < x2.Z1))
  else
   some false).bind fun x6 =>
  (if x6 then
   (appI s2.1 ([x2.Base])).bind fun x7 =>
   some x7
  else
   some s2.1).bind fun s3 =>
  (addI s2.2 1).bind fun x8 =>
  some (.go (s3, x8))
 else
  some (.ex 4 (s2.1, s2.2))
def solid_Of_L1 (l_ : (List Box)) (x1 : (List Int)) (s1 : (List Slab) × Int) : Option (Flow ((List Slab) × Int) ((List Slab) × Int)) :=
 if (decide (s1.2 < (x1.length : Int))) then
  (iterL (solid_Of_L2 l_ x1 s1) (l_.length + 1) (([] : List Rect), 0)).bind fun f1 => match f1 with
   | .go _ => none
   | .ex _ s2 =>
    (region_Of s2.1).bind fun x2 =>
    if (x2.2 != 0) then
     some (.ret (([] : List Slab), x2.2))
    else
     (subI s1.2 1).bind fun x3 =>
     (getI x1 x3).bind fun x4 =>
     (getI x1 s1.2).bind fun x5 =>
     (solid_put s1.1 (⟨x4, x5, x2.1⟩ : Slab)).bind fun x6 =>
     (addI s1.2 1).bind fun x7 =>
     some (.go (x6, x7))
   | .ret r1 => some (.ret r1)
 else
  some (.ex 2 (s1.1, s1.2))
def solid_Of (l_ : (List Box)) : Option ((List Slab) × Int) :=
 (iterL (solid_Of_L0 l_) (l_.length + 1) (([] : List Slab), 0)).bind fun f1 => match f1 with
  | .go _ => none
  | .ex _ s1 =>
   if (decide (200 < (l_.length : Int))) then
    some (([] : List Slab), 6)
   else
    (solid_heights ([s1.1])).bind fun x1 =>
    (iterL (solid_Of_L1 l_ x1) (l_.length + x1.length + ([] : List Slab).length + 1) (([] : List Slab), 1)).bind fun f2 => match f2 with
     | .go _ => none
     | .ex _ s2 =>
      (solid_fits s2.1).bind fun x2 =>
      some (x2.1, x2.2)
     | .ret r1 => some r1
  | .ret r2 => some r2
theorem solid_Of_ok {k0 : K} {v0 : Value} {l_ : (List Box)} {r : (List Slab) × Int} (i0 : (IsV l_) v0 k0) (hr : solid_Of l_ = some r) :
  Calls Try.prog 21 #[v0] k0.w (Ret k0 (IsTup2 (IsV r.1) (IsV r.2))) := by
 unfold solid_Of at hr
 refine Ret.ofC ?_
 refine enterK Try.func21 rfl Try.ntmps21 (show 1 ≤ 117 by decide) fun a k hk0 hs hd ha => ?_
 obtain ⟨e0, _⟩ := ha
 replace i0 : (IsV l_) (a.get 0) k := by rw [e0, hk0]; exact i0
 have hQ : Gb.LetsOut (bodyPost Try.prog Try.f21 (RetC noF k0 (IsTup2 (IsV r.1) (IsV r.2)))) := letsOutC
 have hg : Chg noF k0 k := by rw [hk0]; exact Chg.refl _ k0
 refine stepL 2 (⟨some IsE0, []⟩ :: ⟨some (IsI 0), []⟩ :: []) rfl ⟨hg, hs, hd⟩ (by kernel_rfl) ⟨ob1 rfl fun b q h n => ok_assign rfl isE0_nil, aI rfl rfl, trivial⟩ [⟨_, _⟩] (fun b q p => ⟨p.ke 0 rfl i0, trivial⟩) ?_
 rintro a k ⟨⟨hg, hs, hd⟩, i0, _⟩
 refine cutS (fun c l => Bs noF k0 117 c l ∧ IsV l_ (c.get 0) l ∧ IsOwn 0 50 ([] : List Slab) (c.get 4) l ∧ Lo k0 (obF (c.get 4)) ∧ True) ?_ ?_
 ·intro Q1 W1 w1
  refine gS 1 (⟨some IsE0, []⟩ :: []) hs (by kernel_rfl) ⟨ob1 rfl fun b q h n => ok_assign rfl isE0_nil, trivial⟩ W1 fun b q p => ?_
  have hgq := hg.then p.grow
  have hsb := p.size.trans hs
  have hdb := p.defers.trans hd
  have j0 := p.ke 0 rfl i0
  have j4 : IsE0 (b.get 4) q := p.ou 0 4 rfl
  have y4 : Lo k0 (obF (b.get 4)) := j4.lo
  replace j4 : IsOwn 0 50 ([] : List Slab) (b.get 4) q := j4.own0
  exact tail_done (k := q) (w1 _ _ ⟨⟨hgq, hsb, hdb⟩, j0, j4, y4, trivial⟩)
 rintro a k ⟨⟨hg, hs, hd⟩, i0, i4, n4, _⟩
 refine wp_seq ?_
 refine cutS (fun c l => Bs noF k0 117 c l ∧ IsV l_ (c.get 0) l ∧ IsOwn 0 50 ([] : List Slab) (c.get 4) l ∧ Lo k0 (obF (c.get 4)) ∧ IsV l_ (c.get 15) l ∧ IsL l_ (c.get 16) l ∧ IsI 0 (c.get 17) l ∧ True) ?_ ?_
 ·intro Q2 W2 w2
  refine gS 3 (_ :: _ :: ⟨some (IsI 0), []⟩ :: []) hs (by kernel_rfl) ⟨mu rfl i0, o1 [(15, some 0)] rfl fun _ _ h n => ok_len rfl rfl Try.underlying35 (IsV.rd n.1), ob1 rfl fun _ _ h n => ok_move rfl (cI rfl), trivial⟩ W2 fun b q p => ?_
  exact tail_done (k := q) (w2 _ _ ⟨Bs.post ⟨hg, hs, hd⟩ p, p.ke 0 rfl i0, p.ke 4 rfl i4, (by rw [p.old 4 rfl]; exact n4), p.ou 0 15 rfl, p.ou 1 16 rfl, p.ou 2 17 rfl, trivial⟩)
 rintro a k ⟨⟨hg, hs, hd⟩, i0, i4, n4, i15, i16, i17, _⟩
 refine wp_block ?_
 obtain ⟨f1, hf1, hr⟩ := bind_some hr
 refine cutFe f1 (fun s' c l => Bs noF k0 117 c l ∧ IsV l_ (c.get 0) l ∧ IsOwn 0 50 s'.1 (c.get 4) l ∧ Lo k0 (obF (c.get 4)) ∧ IsV l_ (c.get 15) l ∧ IsL l_ (c.get 16) l ∧ IsV s'.2 (c.get 17) l ∧ True) (fun i' s' c l => (i' = 0 ∧ Bs noF k0 117 c l ∧ IsV l_ (c.get 0) l ∧ IsV s'.1 (c.get 4) l ∧ True)) (fun r' c l => bodyPost Try.prog Try.f21 (RetC noF k0 (IsTup2 (IsV r'.1) (IsV r'.2))) .ret c l.w) ?_ hQ ?_ ?_ ?_
 ·intro Q3 W3 hgo hex hret
  refine sim_loop ?_ _ _ _ _ _ hf1 ⟨⟨hg, hs, hd⟩, i0, i4, n4, i15, i16, i17, trivial⟩ Q3 W3 hgo hex hret
  clear hr hf1 hgo hex hret W3 hQ hg hs hd i0 i15 i16 i17 i4 n4
  intro s1 fl_ a k hr hS Q hQ hgo1130 hex1131 hret1132
  obtain ⟨⟨hg, hs, hd⟩, i0, i4, n4, i15, i16, i17, _⟩ := hS
  unfold solid_Of_L0 at hr
  refine cutS (fun c l => Bs noF k0 117 c l ∧ IsV l_ (c.get 0) l ∧ IsOwn 0 50 s1.1 (c.get 4) l ∧ Lo k0 (obF (c.get 4)) ∧ IsV l_ (c.get 15) l ∧ IsL l_ (c.get 16) l ∧ IsV s1.2 (c.get 17) l ∧ (IsV (decide (s1.2 < (l_.length : Int)))) (c.get 18) l ∧ True) ?_ ?_
  ·intro Q4 W4 w3
   refine gS 1 (_ :: []) hs (by kernel_rfl) ⟨o1 [(17, none), (16, none)] rfl fun _ _ h n => ok_lss rfl (up i17 h n.1) (up i16 h n.2.1), trivial⟩ W4 fun b q p => ?_
   exact tail_done (k := q) (w3 _ _ ⟨Bs.post ⟨hg, hs, hd⟩ p, p.ke 0 rfl i0, p.ke 4 rfl i4, (by rw [p.old 4 rfl]; exact n4), p.ke 15 rfl i15, p.ke 16 rfl i16, p.ke 17 rfl i17, p.ou 0 18 rfl, trivial⟩)
  rintro a k ⟨⟨hg, hs, hd⟩, i0, i4, n4, i15, i16, i17, i18, _⟩
  refine wp_seq ?_
  refine wp_cond_split (isBool i18) (fun hc1151 => ?_) (fun hc1151 => ?_)
  ·rw [if_pos hc1151] at hr
   refine wp_skip ?_
   refine wp_seq ?_
   refine wp_block ?_
   refine wp_seq ?_
   obtain ⟨x1, hx1, hr⟩ := bind_some hr
   refine cut (fun a' k' => Bs noF k0 117 a' k' ∧ (IsV l_) (a'.get 0) k' ∧ IsOwn 0 50 s1.1 (a'.get 4) k' ∧ Lo k0 (obF (a'.get 4)) ∧ (IsRef x1) (a'.get 6) k' ∧ (IsV l_) (a'.get 15) k' ∧ (IsL l_) (a'.get 16) k' ∧ (IsV s1.2) (a'.get 17) k' ∧ True) ?_ hQ ?_
   ·intro Q5 W5 w4
    refine gS 3 (_ :: _ :: ⟨some (IsBox k.w.heap.size (⟨(⟨0, 0, 0, 0⟩ : Rect), 0, 0⟩ : Box)), []⟩ :: []) hs (by kernel_rfl) ⟨o1 [(15, none), (17, none)] rfl fun _ _ h n => ok_indexAddr rfl Try.underlying35 ty43 (IsV.rd (up i15 h n.1)) (up i17 h n.2.1) hx1, o1 [(19, some 0)] rfl fun _ _ h n => ok_load rfl ty43 n.1, ob1 rfl fun _ _ h n => ok_alloc _ h.size rfl z43, trivial⟩ W5 fun b q p => ?_
    have hgq := hg.then p.grow
    have hsb := p.size.trans hs
    have hdb := p.defers.trans hd
    have j0 := p.ke 0 rfl i0
    have j4 := p.ke 4 rfl i4
    have y4 : Lo k0 (obF (b.get 4)) := by rw [p.old 4 rfl]; exact n4
    obtain ⟨b6, j6, x6, z6⟩ : (IsBox k.w.heap.size (⟨(⟨0, 0, 0, 0⟩ : Rect), 0, 0⟩ : Box)) (b.get 6) q := p.ou 2 6 rfl
    replace x6 : Lo k (Eq b6) := Lo.eq x6
    have y6 : Lo k0 (Eq b6) := x6.chg hg
    have j15 := p.ke 15 rfl i15
    have j16 := p.ke 16 rfl i16
    have j17 := p.ke 17 rfl i17
    have j20 : (IsV x1) (b.get 20) q := p.ou 1 20 rfl
    have w4_6 : Apart (obF (b.get 4)) (Eq b6) := Apart.new (by rw [p.old 4 rfl]; exact i4.ltF) x6
    have hns := z6.nshF
    refine tail_storeB (i := 3) rfl rfl rfl rfl szf43 (Upd.self (α := Box)) j6 z6 j20 fun q2 hch hz => ?_
    replace hgq := hgq.step hch y6.wr
    have hle := hch.le hns
    replace j0 := Pers.pers hle j0
    replace j4 := j4.keep hch w4_6 hns
    replace j15 := Pers.pers hle j15
    replace j16 := Pers.pers hle j16
    replace j17 := Pers.pers hle j17
    replace j20 := Pers.pers hle j20
    replace z6 := hz
    clear hns hle hch
    obtain ⟨q, hqq⟩ : ∃ q, q = q2 := ⟨q2, rfl⟩
    subst hqq
    obtain ⟨q2, hsh, jn⟩ := z6.give
    replace j0 := Pers.pers hsh.le j0
    replace j4 := j4.handed hsh w4_6
    replace j15 := Pers.pers hsh.le j15
    replace j16 := Pers.pers hsh.le j16
    replace j17 := Pers.pers hsh.le j17
    rw [← j6] at jn
    replace j6 := jn
    replace hgq := hgq.hand hsh y6.wr
    rw [← hsh.w]
    clear hsh
    obtain ⟨q, hqq⟩ : ∃ q, q = q2 := ⟨q2, rfl⟩
    subst hqq
    exact tail_done (k := q) (w4 _ _ ⟨⟨hgq, hsb, hdb⟩, j0, j4, y4, j6, j15, j16, j17, trivial⟩)
   rintro a k ⟨⟨hg, hs, hd⟩, i0, i4, n4, i6, i15, i16, i17, _⟩
   refine wp_seq ?_
   refine wp_seq ?_
   obtain ⟨x2, hx2, hr⟩ := bind_some hr
   refine cut (fun a' k' => Bs noF k0 117 a' k' ∧ (IsV l_) (a'.get 0) k' ∧ IsOwn 0 50 s1.1 (a'.get 4) k' ∧ Lo k0 (obF (a'.get 4)) ∧ (IsRef x1) (a'.get 6) k' ∧ (IsV l_) (a'.get 15) k' ∧ (IsL l_) (a'.get 16) k' ∧ (IsV s1.2) (a'.get 17) k' ∧ (IsV ((((!x2) || (decide (x1.Z0 < 0))) || (decide (x1.Z1 ≤ x1.Z0))) || (decide (4096 < x1.Z1)))) (a'.get 41) k' ∧ True) ?_ hQ ?_
   ·intro Q6 W6 w5
    refine gS 21 (_ :: _ :: _ :: _ :: _ :: _ :: _ :: _ :: _ :: _ :: _ :: _ :: _ :: _ :: _ :: _ :: _ :: _ :: _ :: _ :: _ :: []) hs (by kernel_rfl) ⟨o1 [(6, none)] rfl fun _ _ h n => ok_fieldAddr rfl fo43_0 (at_Box_0 _) ((up i6 h n.1)).ptr, o1 [(21, some 0)] rfl fun _ _ h n => ok_load rfl ty41 n.1, o1 [(22, some 1)] rfl fun _ _ h n => ok_call rfl Try.call30 (rect_Right_ok n.1 hx2), o1 [(23, some 2)] rfl fun _ _ h n => ok_not rfl n.1, cm 3 rfl rfl, gF [(6, none)] rfl rfl fun hp _ _ h n => ok_fieldAddr rfl fo43_1 (at_Box_1 _) ((up i6 h n.1)).ptr, gF [(26, some 5)] rfl rfl fun hp _ _ h n => ok_load rfl ty3 (Gd.get n.1 hp), gF [(27, some 6)] rfl rfl fun hp _ _ h n => ok_lss rfl (Gd.get n.1 hp) (cI rfl), o1 [(25, some 4), (28, some 7)] rfl fun _ _ h n => ok_pickOr rfl n.1 (cB rfl) (Gd.get n.2.1), cm 8 rfl rfl, gF [(6, none)] rfl rfl fun hp _ _ h n => ok_fieldAddr rfl fo43_1 (at_Box_1 _) ((up i6 h n.1)).ptr, gF [(31, some 10)] rfl rfl fun hp _ _ h n => ok_load rfl ty3 (Gd.get n.1 hp), gF [(6, none)] rfl rfl fun hp _ _ h n => ok_fieldAddr rfl fo43_2 (at_Box_2 _) ((up i6 h n.1)).ptr, gF [(33, some 12)] rfl rfl fun hp _ _ h n => ok_load rfl ty3 (Gd.get n.1 hp), gF [(32, some 11), (34, some 13)] rfl rfl fun hp _ _ h n => ok_geq rfl (Gd.get n.1 hp) (Gd.get n.2.1 hp), o1 [(30, some 9), (35, some 14)] rfl fun _ _ h n => ok_pickOr rfl n.1 (cB rfl) (Gd.get n.2.1), cm 15 rfl rfl, gF [(6, none)] rfl rfl fun hp _ _ h n => ok_fieldAddr rfl fo43_2 (at_Box_2 _) ((up i6 h n.1)).ptr, gF [(38, some 17)] rfl rfl fun hp _ _ h n => ok_load rfl ty3 (Gd.get n.1 hp), gF [(39, some 18)] rfl rfl fun hp _ _ h n => ok_gtr rfl (Gd.get n.1 hp) (cI rfl), o1 [(37, some 16), (40, some 19)] rfl fun _ _ h n => ok_pickOr rfl n.1 (cB rfl) (Gd.get n.2.1), trivial⟩ W6 fun b q p => ?_
    exact tail_done (k := q) (w5 _ _ ⟨Bs.post ⟨hg, hs, hd⟩ p, p.ke 0 rfl i0, p.ke 4 rfl i4, (by rw [p.old 4 rfl]; exact n4), p.ke 6 rfl i6, p.ke 15 rfl i15, p.ke 16 rfl i16, p.ke 17 rfl i17, p.ou 20 41 rfl, trivial⟩)
   rintro a k ⟨⟨hg, hs, hd⟩, i0, i4, n4, i6, i15, i16, i17, i41, _⟩
   refine wp_cond_split (isBool i41) (fun hc1145 => ?_) (fun hc1145 => ?_)
   ·rw [if_pos hc1145] at hr
    refine cutL noF k0 117 [⟨2, IsV ([] : List Slab)⟩, ⟨3, IsI 1⟩] ?_ ?_
    ·intro Q7 W7 w6
     refine gS 2 (⟨some IsE0, []⟩ :: ⟨some (IsI 1), []⟩ :: []) hs (by kernel_rfl) ⟨ob1 rfl fun b q h n => ok_assign rfl isE0_nil, aI rfl rfl, trivial⟩ W7 fun b q p => ?_
     have hgq := hg.then p.grow
     have hsb := p.size.trans hs
     have hdb := p.defers.trans hd
     have j2 : IsE0 (b.get 2) q := p.ou 0 2 rfl
     have j3 : (IsI 1) (b.get 3) q := p.ou 1 3 rfl
     replace j2 : IsV ([] : List Slab) (b.get 2) q := j2.isV
     exact tail_done (k := q) (w6 _ _ ⟨⟨hgq, hsb, hdb⟩, j2, j3, trivial⟩)
    rintro a k ⟨⟨hg, hs, hd⟩, i2, i3, _⟩
    refine wp_ret ?_
    exact hret1132 _ _ _ (Option.some.inj hr).symm (retC2 rfl hd hg i2 i3)
   rw [if_neg (by rw [hc1145]; decide)] at hr
   refine wp_skip ?_
   obtain ⟨x3, hx3, hr⟩ := bind_some hr
   refine cut (fun a' k' => Bs noF k0 117 a' k' ∧ (IsV l_) (a'.get 0) k' ∧ IsOwn 0 50 x3 (a'.get 4) k' ∧ Lo k0 (obF (a'.get 4)) ∧ (IsV l_) (a'.get 15) k' ∧ (IsL l_) (a'.get 16) k' ∧ (IsV s1.2) (a'.get 17) k' ∧ True) ?_ hQ ?_
   ·intro Q8 W8 w7
    refine gS 7 (⟨some (OwnAt (a.get 4) 0 50 s1.1), [(4, none)]⟩ :: _ :: _ :: _ :: _ :: ⟨some (IsV (⟨x1.Z0, x1.Z1, []⟩ : Slab)), [(44, some 2), (46, some 4)]⟩ :: ⟨some (IsV (α := (List Slab)) ([(⟨x1.Z0, x1.Z1, []⟩ : Slab)])), [(47, some 5)]⟩ :: []) hs (by kernel_rfl) ⟨ob1 rfl fun _ _ h n => ok_moveOA (.inl rfl) (ownAt n.1 (up i4 h n.1)), o1 [(6, none)] rfl fun _ _ h n => ok_fieldAddr rfl fo43_1 (at_Box_1 _) ((up i6 h n.1)).ptr, o1 [(43, some 1)] rfl fun _ _ h n => ok_load rfl ty3 n.1, o1 [(6, none)] rfl fun _ _ h n => ok_fieldAddr rfl fo43_2 (at_Box_2 _) ((up i6 h n.1)).ptr, o1 [(45, some 3)] rfl fun _ _ h n => ok_load rfl ty3 n.1, ob1 rfl fun _ _ h n => ok_build rfl (bld50_0_1 n.1 n.2.1), ob1 rfl fun _ _ h n => ok_buildSlice rfl Try.underlying23 eo50 rfl (by decide) (by decide) ⟨rfl, n.1, trivial⟩, trivial⟩ W8 fun b q p => ?_
    have hgq := hg.then p.grow
    have hsb := p.size.trans hs
    have hdb := p.defers.trans hd
    have j0 := p.ke 0 rfl i0
    have j15 := p.ke 15 rfl i15
    have j16 := p.ke 16 rfl i16
    have j17 := p.ke 17 rfl i17
    have e42 : b.get 42 = a.get 4 := (p.ou 0 42 rfl).1
    have j42 : IsOwn 0 50 s1.1 (b.get 42) q := (p.ou 0 42 rfl).2
    have y42 : Lo k0 (obF (b.get 42)) := by rw [e42]; exact n4
    have j48 : (IsV (α := (List Slab)) ([(⟨x1.Z0, x1.Z1, []⟩ : Slab)])) (b.get 48) q := p.ou 6 48 rfl
    have hns := j42.nshF
    refine tail_appendS (i := 7) (d := 49) rfl rfl rfl rfl (by rw [hsb]; decide) (e := 50) Try.underlying23 eo50 j42 (IsV.rd j48) hx3 fun b2 q2 hsz hdf hoth hch hown hob => ?_
    have hle := hch.le hns
    have yn : Lo k0 (obF (b2.get 49)) := y42.app hgq hob
    replace j0 := Pers.pers hle j0
    replace j15 := Pers.pers hle j15
    replace j16 := Pers.pers hle j16
    replace j17 := Pers.pers hle j17
    replace j48 := Pers.pers hle j48
    replace hgq := hgq.step hch y42.wr
    rw [← hoth 0 (by decide)] at j0
    rw [← hoth 15 (by decide)] at j15
    rw [← hoth 16 (by decide)] at j16
    rw [← hoth 17 (by decide)] at j17
    rw [← hoth 48 (by decide)] at j48
    have j49 := hown
    have y49 := yn
    replace hsb := hsz.trans hsb
    replace hdb := hdf.trans hdb
    clear hle hch hown hob hns yn hsz hdf hoth
    obtain ⟨b, hbb⟩ : ∃ b, b = b2 := ⟨b2, rfl⟩
    subst hbb
    obtain ⟨q, hqq⟩ : ∃ q, q = q2 := ⟨q2, rfl⟩
    subst hqq
    refine tail_assign (i := 8) (d := 4) rfl rfl (.inl rfl) rfl (by rw [hsb]; decide) fun b2 hsz hdf hnew hoth => ?_
    have jn : (IsOwn 0 50 x3) (b2.get 4) q := by rw [hnew]; exact j49
    have yn : Lo k0 (obF (b2.get 4)) := by rw [hnew]; exact y49
    rw [← hoth 0 (by decide)] at j0
    rw [← hoth 15 (by decide)] at j15
    rw [← hoth 16 (by decide)] at j16
    rw [← hoth 17 (by decide)] at j17
    rw [← hoth 48 (by decide)] at j48
    have j4 := jn
    have y4 := yn
    replace hsb := hsz.trans hsb
    replace hdb := hdf.trans hdb
    clear hsz hdf hoth
    obtain ⟨b, hbb⟩ : ∃ b, b = b2 := ⟨b2, rfl⟩
    subst hbb
    exact tail_done (k := q) (w7 _ _ ⟨⟨hgq, hsb, hdb⟩, j0, j4, y4, j15, j16, j17, trivial⟩)
   rintro a k ⟨⟨hg, hs, hd⟩, i0, i4, n4, i15, i16, i17, _⟩
   obtain ⟨x4, hx4, hr⟩ := bind_some hr
   refine cut (fun a' k' => Bs noF k0 117 a' k' ∧ (IsV l_) (a'.get 0) k' ∧ IsOwn 0 50 x3 (a'.get 4) k' ∧ Lo k0 (obF (a'.get 4)) ∧ (IsV l_) (a'.get 15) k' ∧ (IsL l_) (a'.get 16) k' ∧ (IsV x4) (a'.get 17) k' ∧ True) ?_ hQ ?_
   ·intro Q9 W9 w8
    refine gS 2 (_ :: _ :: []) hs (by kernel_rfl) ⟨o1 [(17, none)] rfl fun _ _ h n => ok_add rfl (up i17 h n.1) (cI rfl) hx4, cm 0 rfl rfl, trivial⟩ W9 fun b q p => ?_
    exact tail_done (k := q) (w8 _ _ ⟨Bs.post ⟨hg, hs, hd⟩ p, p.ke 0 rfl i0, p.ke 4 rfl i4, (by rw [p.old 4 rfl]; exact n4), p.ke 15 rfl i15, p.ke 16 rfl i16, p.ou 1 17 rfl, trivial⟩)
   rintro a k ⟨⟨hg, hs, hd⟩, i0, i4, n4, i15, i16, i17, _⟩
   exact hgo1130 _ _ _ (Option.some.inj hr).symm ⟨⟨hg, hs, hd⟩, i0, i4, n4, i15, i16, i17, trivial⟩
  rw [if_neg (by rw [hc1151]; decide)] at hr
  refine wp_exit ?_
  obtain ⟨kk, sh1150, ii4⟩ := i4.give
  replace i0 := Pers.pers sh1150.le i0
  replace i4 := ii4
  replace hg := hg.hand sh1150 n4.wr
  rw [← sh1150.w]
  clear sh1150
  obtain ⟨k, hkk⟩ : ∃ k, k = kk := ⟨kk, rfl⟩
  subst hkk
  exact hex1131 _ _ _ _ (Option.some.inj hr).symm ⟨rfl, ⟨hg, hs, hd⟩, i0, i4, trivial⟩
 ·rintro r1 a k rfl hR
  dsimp only at hr
  obtain rfl := Option.some.inj hr
  exact hR
 ·rintro _ _ _ rfl _
  simp at hr
 clear hf1
 rintro _ s2 a k rfl ⟨rfl, ⟨hg, hs, hd⟩, i0, i4, _⟩
 dsimp only at hr
 refine wp_seq ?_
 refine stepL 3 (_ :: _ :: _ :: []) rfl ⟨hg, hs, hd⟩ (by kernel_rfl) ⟨mu rfl i0, o1 [(51, some 0)] rfl fun _ _ h n => ok_len rfl rfl Try.underlying35 (IsV.rd n.1), o1 [(52, some 1)] rfl fun _ _ h n => ok_gtr rfl n.1 (cI rfl), trivial⟩ [⟨_, _⟩, ⟨_, _⟩, ⟨_, _⟩] (fun b q p => ⟨p.ke 0 rfl i0, p.ke 4 rfl i4, p.ou 2 53 rfl, trivial⟩) ?_
 rintro a k ⟨⟨hg, hs, hd⟩, i0, i4, i53, _⟩
 refine wp_cond_split (isBool i53) (fun hc1236 => ?_) (fun hc1236 => ?_)
 ·rw [if_pos hc1236] at hr
  refine cutL noF k0 117 [⟨2, IsV ([] : List Slab)⟩, ⟨3, IsI 6⟩] ?_ ?_
  ·intro Q10 W10 w9
   refine gS 2 (⟨some IsE0, []⟩ :: ⟨some (IsI 6), []⟩ :: []) hs (by kernel_rfl) ⟨ob1 rfl fun b q h n => ok_assign rfl isE0_nil, aI rfl rfl, trivial⟩ W10 fun b q p => ?_
   have hgq := hg.then p.grow
   have hsb := p.size.trans hs
   have hdb := p.defers.trans hd
   have j2 : IsE0 (b.get 2) q := p.ou 0 2 rfl
   have j3 : (IsI 6) (b.get 3) q := p.ou 1 3 rfl
   replace j2 : IsV ([] : List Slab) (b.get 2) q := j2.isV
   exact tail_done (k := q) (w9 _ _ ⟨⟨hgq, hsb, hdb⟩, j2, j3, trivial⟩)
  rintro a k ⟨⟨hg, hs, hd⟩, i2, i3, _⟩
  refine wp_ret ?_
  obtain rfl := Option.some.inj hr
  exact retC2 rfl hd hg i2 i3
 rw [if_neg (by rw [hc1236]; decide)] at hr
 refine wp_skip ?_
 refine wp_seq ?_
 obtain ⟨x5, hx5, hr⟩ := bind_some hr
 refine cut (fun a' k' => Bs noF k0 117 a' k' ∧ (IsV l_) (a'.get 0) k' ∧ (IsV x5) (a'.get 7) k' ∧ True) ?_ hQ ?_
 ·intro Q11 W11 w10
  refine gS 4 (_ :: ⟨some (IsV (α := (List (List Slab))) ([s2.1])), [(54, some 0)]⟩ :: _ :: _ :: []) hs (by kernel_rfl) ⟨mu rfl i4, ob1 rfl fun _ _ h n => ok_buildSlice rfl Try.underlying28 eo23 rfl (by decide) (by decide) ⟨rfl, n.1, trivial⟩, o1 [(55, some 1)] rfl fun _ _ h n => ok_call rfl Try.call31 (solid_heights_ok n.1 hx5), cp 2 rfl rfl, trivial⟩ W11 fun b q p => ?_
  exact tail_done (k := q) (w10 _ _ ⟨Bs.post ⟨hg, hs, hd⟩ p, p.ke 0 rfl i0, p.ou 3 7 rfl, trivial⟩)
 rintro a k ⟨⟨hg, hs, hd⟩, i0, i7, _⟩
 refine cutS (fun c l => Bs noF k0 117 c l ∧ IsV l_ (c.get 0) l ∧ IsV x5 (c.get 7) l ∧ IsOwn 0 50 ([] : List Slab) (c.get 8) l ∧ Lo k0 (obF (c.get 8)) ∧ True) ?_ ?_
 ·intro Q12 W12 w11
  refine gS 1 (⟨some IsE0, []⟩ :: []) hs (by kernel_rfl) ⟨ob1 rfl fun b q h n => ok_assign rfl isE0_nil, trivial⟩ W12 fun b q p => ?_
  have hgq := hg.then p.grow
  have hsb := p.size.trans hs
  have hdb := p.defers.trans hd
  have j0 := p.ke 0 rfl i0
  have j7 := p.ke 7 rfl i7
  have j8 : IsE0 (b.get 8) q := p.ou 0 8 rfl
  have y8 : Lo k0 (obF (b.get 8)) := j8.lo
  replace j8 : IsOwn 0 50 ([] : List Slab) (b.get 8) q := j8.own0
  exact tail_done (k := q) (w11 _ _ ⟨⟨hgq, hsb, hdb⟩, j0, j7, j8, y8, trivial⟩)
 rintro a k ⟨⟨hg, hs, hd⟩, i0, i7, i8, n8, _⟩
 refine wp_seq ?_
 refine cutS (fun c l => Bs noF k0 117 c l ∧ IsV l_ (c.get 0) l ∧ IsV x5 (c.get 7) l ∧ IsOwn 0 50 ([] : List Slab) (c.get 8) l ∧ Lo k0 (obF (c.get 8)) ∧ IsI 1 (c.get 9) l ∧ True) ?_ ?_
 ·intro Q13 W13 w12
  refine gS 1 (⟨some (IsI 1), []⟩ :: []) hs (by kernel_rfl) ⟨aI rfl rfl, trivial⟩ W13 fun b q p => ?_
  exact tail_done (k := q) (w12 _ _ ⟨Bs.post ⟨hg, hs, hd⟩ p, p.ke 0 rfl i0, p.ke 7 rfl i7, p.ke 8 rfl i8, (by rw [p.old 8 rfl]; exact n8), p.ou 0 9 rfl, trivial⟩)
 rintro a k ⟨⟨hg, hs, hd⟩, i0, i7, i8, n8, i9, _⟩
 refine wp_block ?_
 obtain ⟨f2, hf2, hr⟩ := bind_some hr
 refine cutFe f2 (fun s' c l => Bs noF k0 117 c l ∧ IsV l_ (c.get 0) l ∧ IsV x5 (c.get 7) l ∧ IsOwn 0 50 s'.1 (c.get 8) l ∧ Lo k0 (obF (c.get 8)) ∧ IsV s'.2 (c.get 9) l ∧ True) (fun i' s' c l => (i' = 2 ∧ Bs noF k0 117 c l ∧ IsV s'.1 (c.get 8) l ∧ True)) (fun r' c l => bodyPost Try.prog Try.f21 (RetC noF k0 (IsTup2 (IsV r'.1) (IsV r'.2))) .ret c l.w) ?_ hQ ?_ ?_ ?_
 ·intro Q14 W14 hgo hex hret
  refine sim_loop ?_ _ _ _ _ _ hf2 ⟨⟨hg, hs, hd⟩, i0, i7, i8, n8, i9, trivial⟩ Q14 W14 hgo hex hret
  clear hr hf2 hgo hex hret W14 hQ hg hs hd i0 i7 i8 i9 n8
  intro s3 fl_ a k hr hS Q hQ hgo1164 hex1165 hret1166
  obtain ⟨⟨hg, hs, hd⟩, i0, i7, i8, n8, i9, _⟩ := hS
  unfold solid_Of_L1 at hr
  refine wp_seq ?_
  refine cutS (fun c l => Bs noF k0 117 c l ∧ IsV l_ (c.get 0) l ∧ IsV x5 (c.get 7) l ∧ IsOwn 0 50 s3.1 (c.get 8) l ∧ Lo k0 (obF (c.get 8)) ∧ IsV s3.2 (c.get 9) l ∧ (IsV (decide (s3.2 < (x5.length : Int)))) (c.get 60) l ∧ True) ?_ ?_
  ·intro Q15 W15 w13
   refine gS 4 (_ :: _ :: _ :: _ :: []) hs (by kernel_rfl) ⟨mu rfl i9, mu rfl i7, o1 [(58, some 1)] rfl fun _ _ h n => ok_len rfl rfl Try.underlying57 (IsV.rd n.1), o1 [(57, some 0), (59, some 2)] rfl fun _ _ h n => ok_lss rfl n.1 n.2.1, trivial⟩ W15 fun b q p => ?_
   exact tail_done (k := q) (w13 _ _ ⟨Bs.post ⟨hg, hs, hd⟩ p, p.ke 0 rfl i0, p.ke 7 rfl i7, p.ke 8 rfl i8, (by rw [p.old 8 rfl]; exact n8), p.ke 9 rfl i9, p.ou 3 60 rfl, trivial⟩)
  rintro a k ⟨⟨hg, hs, hd⟩, i0, i7, i8, n8, i9, i60, _⟩
  refine wp_cond_split (isBool i60) (fun hc1220 => ?_) (fun hc1220 => ?_)
  ·rw [if_pos hc1220] at hr
   refine wp_skip ?_
   refine wp_seq ?_
   refine wp_block ?_
   refine cutS (fun c l => Bs noF k0 117 c l ∧ IsV l_ (c.get 0) l ∧ IsV x5 (c.get 7) l ∧ IsOwn 0 50 s3.1 (c.get 8) l ∧ Lo k0 (obF (c.get 8)) ∧ IsV s3.2 (c.get 9) l ∧ IsOwn 0 41 ([] : List Rect) (c.get 10) l ∧ Lo k0 (obF (c.get 10)) ∧ Apart (obF (c.get 8)) (obF (c.get 10)) ∧ True) ?_ ?_
   ·intro Q16 W16 w14
    refine gS 1 (⟨some IsE0, []⟩ :: []) hs (by kernel_rfl) ⟨ob1 rfl fun b q h n => ok_assign rfl isE0_nil, trivial⟩ W16 fun b q p => ?_
    have hgq := hg.then p.grow
    have hsb := p.size.trans hs
    have hdb := p.defers.trans hd
    have j0 := p.ke 0 rfl i0
    have j7 := p.ke 7 rfl i7
    have j8 := p.ke 8 rfl i8
    have y8 : Lo k0 (obF (b.get 8)) := by rw [p.old 8 rfl]; exact n8
    have j9 := p.ke 9 rfl i9
    have j10 : IsE0 (b.get 10) q := p.ou 0 10 rfl
    have y10 : Lo k0 (obF (b.get 10)) := j10.lo
    have w8_10 : Apart (obF (b.get 8)) (obF (b.get 10)) := j10.apart.symm
    replace j10 : IsOwn 0 41 ([] : List Rect) (b.get 10) q := j10.own0
    exact tail_done (k := q) (w14 _ _ ⟨⟨hgq, hsb, hdb⟩, j0, j7, j8, y8, j9, j10, y10, w8_10, trivial⟩)
   rintro a k ⟨⟨hg, hs, hd⟩, i0, i7, i8, n8, i9, i10, n10, d8_10, _⟩
   refine wp_seq ?_
   refine cutS (fun c l => Bs noF k0 117 c l ∧ IsV l_ (c.get 0) l ∧ IsV x5 (c.get 7) l ∧ IsOwn 0 50 s3.1 (c.get 8) l ∧ Lo k0 (obF (c.get 8)) ∧ IsV s3.2 (c.get 9) l ∧ IsOwn 0 41 ([] : List Rect) (c.get 10) l ∧ Lo k0 (obF (c.get 10)) ∧ IsV l_ (c.get 63) l ∧ IsL l_ (c.get 64) l ∧ IsI 0 (c.get 65) l ∧ Apart (obF (c.get 8)) (obF (c.get 10)) ∧ True) ?_ ?_
   ·intro Q17 W17 w15
    refine gS 3 (_ :: _ :: ⟨some (IsI 0), []⟩ :: []) hs (by kernel_rfl) ⟨mu rfl i0, o1 [(63, some 0)] rfl fun _ _ h n => ok_len rfl rfl Try.underlying35 (IsV.rd n.1), ob1 rfl fun _ _ h n => ok_move rfl (cI rfl), trivial⟩ W17 fun b q p => ?_
    exact tail_done (k := q) (w15 _ _ ⟨Bs.post ⟨hg, hs, hd⟩ p, p.ke 0 rfl i0, p.ke 7 rfl i7, p.ke 8 rfl i8, (by rw [p.old 8 rfl]; exact n8), p.ke 9 rfl i9, p.ke 10 rfl i10, (by rw [p.old 10 rfl]; exact n10), p.ou 0 63 rfl, p.ou 1 64 rfl, p.ou 2 65 rfl, (by rw [p.old 8 rfl, p.old 10 rfl]; exact d8_10), trivial⟩)
   rintro a k ⟨⟨hg, hs, hd⟩, i0, i7, i8, n8, i9, i10, n10, i63, i64, i65, d8_10, _⟩
   refine wp_block ?_
   obtain ⟨f3, hf3, hr⟩ := bind_some hr
   refine cutFe f3 (fun s' c l => Bs noF k0 117 c l ∧ IsV l_ (c.get 0) l ∧ IsV x5 (c.get 7) l ∧ IsOwn 0 50 s3.1 (c.get 8) l ∧ Lo k0 (obF (c.get 8)) ∧ IsV s3.2 (c.get 9) l ∧ IsOwn 0 41 s'.1 (c.get 10) l ∧ Lo k0 (obF (c.get 10)) ∧ IsV l_ (c.get 63) l ∧ IsL l_ (c.get 64) l ∧ IsV s'.2 (c.get 65) l ∧ Apart (obF (c.get 8)) (obF (c.get 10)) ∧ True) (fun i' s' c l => (i' = 4 ∧ Bs noF k0 117 c l ∧ IsV l_ (c.get 0) l ∧ IsV x5 (c.get 7) l ∧ IsOwn 0 50 s3.1 (c.get 8) l ∧ Lo k0 (obF (c.get 8)) ∧ IsV s3.2 (c.get 9) l ∧ IsV s'.1 (c.get 10) l ∧ True)) (fun r' c l => bodyPost Try.prog Try.f21 (RetC noF k0 (IsTup2 (IsV r'.1) (IsV r'.2))) .ret c l.w) ?_ hQ ?_ ?_ ?_
   ·intro Q18 W18 hgo hex hret
    refine sim_loop ?_ _ _ _ _ _ hf3 ⟨⟨hg, hs, hd⟩, i0, i7, i8, n8, i9, i10, n10, i63, i64, i65, d8_10, trivial⟩ Q18 W18 hgo hex hret
    clear hr hf3 hgo hex hret W18 hQ hg hs hd d8_10 i0 i10 i63 i64 i65 i7 i8 i9 n10 n8
    intro s4 fl_ a k hr hS Q hQ hgo1171 hex1172 hret1173
    obtain ⟨⟨hg, hs, hd⟩, i0, i7, i8, n8, i9, i10, n10, i63, i64, i65, d8_10, _⟩ := hS
    unfold solid_Of_L2 at hr
    refine cutS (fun c l => Bs noF k0 117 c l ∧ IsV l_ (c.get 0) l ∧ IsV x5 (c.get 7) l ∧ IsOwn 0 50 s3.1 (c.get 8) l ∧ Lo k0 (obF (c.get 8)) ∧ IsV s3.2 (c.get 9) l ∧ IsOwn 0 41 s4.1 (c.get 10) l ∧ Lo k0 (obF (c.get 10)) ∧ IsV l_ (c.get 63) l ∧ IsL l_ (c.get 64) l ∧ IsV s4.2 (c.get 65) l ∧ (IsV (decide (s4.2 < (l_.length : Int)))) (c.get 66) l ∧ Apart (obF (c.get 8)) (obF (c.get 10)) ∧ True) ?_ ?_
    ·intro Q19 W19 w16
     refine gS 1 (_ :: []) hs (by kernel_rfl) ⟨o1 [(65, none), (64, none)] rfl fun _ _ h n => ok_lss rfl (up i65 h n.1) (up i64 h n.2.1), trivial⟩ W19 fun b q p => ?_
     exact tail_done (k := q) (w16 _ _ ⟨Bs.post ⟨hg, hs, hd⟩ p, p.ke 0 rfl i0, p.ke 7 rfl i7, p.ke 8 rfl i8, (by rw [p.old 8 rfl]; exact n8), p.ke 9 rfl i9, p.ke 10 rfl i10, (by rw [p.old 10 rfl]; exact n10), p.ke 63 rfl i63, p.ke 64 rfl i64, p.ke 65 rfl i65, p.ou 0 66 rfl, (by rw [p.old 8 rfl, p.old 10 rfl]; exact d8_10), trivial⟩)
    rintro a k ⟨⟨hg, hs, hd⟩, i0, i7, i8, n8, i9, i10, n10, i63, i64, i65, i66, d8_10, _⟩
    refine wp_seq ?_
    refine wp_cond_split (isBool i66) (fun hc1192 => ?_) (fun hc1192 => ?_)
    ·rw [if_pos hc1192] at hr
     refine wp_skip ?_
     refine wp_seq ?_
     refine wp_block ?_
     refine wp_seq ?_
     obtain ⟨x7, hx7, hr⟩ := bind_some hr
     refine cut (fun a' k' => Bs noF k0 117 a' k' ∧ (IsV l_) (a'.get 0) k' ∧ (IsV x5) (a'.get 7) k' ∧ IsOwn 0 50 s3.1 (a'.get 8) k' ∧ Lo k0 (obF (a'.get 8)) ∧ (IsV s3.2) (a'.get 9) k' ∧ IsOwn 0 41 s4.1 (a'.get 10) k' ∧ Lo k0 (obF (a'.get 10)) ∧ (IsRef x7) (a'.get 12) k' ∧ (IsV l_) (a'.get 63) k' ∧ (IsL l_) (a'.get 64) k' ∧ (IsV s4.2) (a'.get 65) k' ∧ Apart (obF (a'.get 8)) (obF (a'.get 10)) ∧ True) ?_ hQ ?_
     ·intro Q20 W20 w17
      refine gS 3 (_ :: _ :: ⟨some (IsBox k.w.heap.size (⟨(⟨0, 0, 0, 0⟩ : Rect), 0, 0⟩ : Box)), []⟩ :: []) hs (by kernel_rfl) ⟨o1 [(63, none), (65, none)] rfl fun _ _ h n => ok_indexAddr rfl Try.underlying35 ty43 (IsV.rd (up i63 h n.1)) (up i65 h n.2.1) hx7, o1 [(67, some 0)] rfl fun _ _ h n => ok_load rfl ty43 n.1, ob1 rfl fun _ _ h n => ok_alloc _ h.size rfl z43, trivial⟩ W20 fun b q p => ?_
      have hgq := hg.then p.grow
      have hsb := p.size.trans hs
      have hdb := p.defers.trans hd
      have j0 := p.ke 0 rfl i0
      have j7 := p.ke 7 rfl i7
      have j8 := p.ke 8 rfl i8
      have y8 : Lo k0 (obF (b.get 8)) := by rw [p.old 8 rfl]; exact n8
      have j9 := p.ke 9 rfl i9
      have j10 := p.ke 10 rfl i10
      have y10 : Lo k0 (obF (b.get 10)) := by rw [p.old 10 rfl]; exact n10
      obtain ⟨b12, j12, x12, z12⟩ : (IsBox k.w.heap.size (⟨(⟨0, 0, 0, 0⟩ : Rect), 0, 0⟩ : Box)) (b.get 12) q := p.ou 2 12 rfl
      replace x12 : Lo k (Eq b12) := Lo.eq x12
      have y12 : Lo k0 (Eq b12) := x12.chg hg
      have j63 := p.ke 63 rfl i63
      have j64 := p.ke 64 rfl i64
      have j65 := p.ke 65 rfl i65
      have j68 : (IsV x7) (b.get 68) q := p.ou 1 68 rfl
      have w8_10 : Apart (obF (b.get 8)) (obF (b.get 10)) := by rw [p.old 8 rfl, p.old 10 rfl]; exact d8_10
      have w8_12 : Apart (obF (b.get 8)) (Eq b12) := Apart.new (by rw [p.old 8 rfl]; exact i8.ltF) x12
      have w10_12 : Apart (obF (b.get 10)) (Eq b12) := Apart.new (by rw [p.old 10 rfl]; exact i10.ltF) x12
      have hns := z12.nshF
      refine tail_storeB (i := 3) rfl rfl rfl rfl szf43 (Upd.self (α := Box)) j12 z12 j68 fun q2 hch hz => ?_
      replace hgq := hgq.step hch y12.wr
      have hle := hch.le hns
      replace j0 := Pers.pers hle j0
      replace j7 := Pers.pers hle j7
      replace j8 := j8.keep hch w8_12 hns
      replace j9 := Pers.pers hle j9
      replace j10 := j10.keep hch w10_12 hns
      replace j63 := Pers.pers hle j63
      replace j64 := Pers.pers hle j64
      replace j65 := Pers.pers hle j65
      replace j68 := Pers.pers hle j68
      replace z12 := hz
      clear hns hle hch
      obtain ⟨q, hqq⟩ : ∃ q, q = q2 := ⟨q2, rfl⟩
      subst hqq
      obtain ⟨q2, hsh, jn⟩ := z12.give
      replace j0 := Pers.pers hsh.le j0
      replace j7 := Pers.pers hsh.le j7
      replace j8 := j8.handed hsh w8_12
      replace j9 := Pers.pers hsh.le j9
      replace j10 := j10.handed hsh w10_12
      replace j63 := Pers.pers hsh.le j63
      replace j64 := Pers.pers hsh.le j64
      replace j65 := Pers.pers hsh.le j65
      rw [← j12] at jn
      replace j12 := jn
      replace hgq := hgq.hand hsh y12.wr
      rw [← hsh.w]
      clear hsh
      obtain ⟨q, hqq⟩ : ∃ q, q = q2 := ⟨q2, rfl⟩
      subst hqq
      exact tail_done (k := q) (w17 _ _ ⟨⟨hgq, hsb, hdb⟩, j0, j7, j8, y8, j9, j10, y10, j12, j63, j64, j65, w8_10, trivial⟩)
     rintro a k ⟨⟨hg, hs, hd⟩, i0, i7, i8, n8, i9, i10, n10, i12, i63, i64, i65, d8_10, _⟩
     refine wp_seq ?_
     obtain ⟨x8, hx8, hr⟩ := bind_some hr
     obtain ⟨x9, hx9, hr⟩ := bind_some hr
     obtain ⟨x10, hx10, hx9⟩ := ite_bind hx9
     obtain ⟨x11, hx11, hx9⟩ := ite_bind hx9
     refine cut (fun a' k' => Bs noF k0 117 a' k' ∧ (IsV l_) (a'.get 0) k' ∧ (IsV x5) (a'.get 7) k' ∧ IsOwn 0 50 s3.1 (a'.get 8) k' ∧ Lo k0 (obF (a'.get 8)) ∧ (IsV s3.2) (a'.get 9) k' ∧ IsOwn 0 41 s4.1 (a'.get 10) k' ∧ Lo k0 (obF (a'.get 10)) ∧ (IsRef x7) (a'.get 12) k' ∧ (IsV l_) (a'.get 63) k' ∧ (IsL l_) (a'.get 64) k' ∧ (IsV s4.2) (a'.get 65) k' ∧ (IsV x9) (a'.get 85) k' ∧ Apart (obF (a'.get 8)) (obF (a'.get 10)) ∧ True) ?_ hQ ?_
     ·intro Q21 W21 w18
      refine region (m := 17) (_ :: _ :: _ :: _ :: _ :: _ :: _ :: _ :: _ :: _ :: _ :: _ :: _ :: _ :: _ :: _ :: _ :: []) hmix hs (by kernel_rfl) ⟨o1 [(12, none)] rfl fun _ _ h n => ok_fieldAddr rfl fo43_1 (at_Box_1 _) ((up i12 h n.1)).ptr, o1 [(69, some 0)] rfl fun _ _ h n => ok_load rfl ty3 n.1, mu rfl i7, mu rfl i9, o1 [(71, some 2), (72, some 3)] rfl fun _ _ h n => ok_indexAddr rfl Try.underlying57 ty3 (IsV.rd n.1) n.2.1 hx8, o1 [(73, some 4)] rfl fun _ _ h n => ok_load rfl ty3 n.1, o1 [(70, some 1), (74, some 5)] rfl fun _ _ h n => ok_lss rfl n.1 n.2.1, cm 6 rfl rfl, mT rfl rfl i7, mT rfl rfl i9, gT [(78, some 9)] rfl rfl fun hp _ _ h n => ok_sub rfl (Gd.get n.1 hp) (cI rfl) (hx10 hp), gT [(77, some 8), (79, some 10)] rfl rfl fun hp _ _ h n => ok_indexAddr rfl Try.underlying57 ty3 (IsV.rd (Gd.get n.1 hp)) (Gd.get n.2.1 hp) (hx11 hp), gT [(80, some 11)] rfl rfl fun hp _ _ h n => ok_load rfl ty3 (Gd.get n.1 hp), gT [(12, none)] rfl rfl fun hp _ _ h n => ok_fieldAddr rfl fo43_2 (at_Box_2 _) ((up i12 h n.1)).ptr, gT [(82, some 13)] rfl rfl fun hp _ _ h n => ok_load rfl ty3 (Gd.get n.1 hp), gT [(81, some 12), (83, some 14)] rfl rfl fun hp _ _ h n => ok_lss rfl (Gd.get n.1 hp) (Gd.get n.2.1 hp), o1 [(76, some 7), (84, some 15)] rfl fun _ _ h n => ok_pickM rfl n.1 hx9 (Gd.get n.2.1) (cB rfl), trivial⟩ W21 fun b q p => ?_
      exact tail_done (k := q) (w18 _ _ ⟨Bs.post ⟨hg, hs, hd⟩ p, p.ke 0 rfl i0, p.ke 7 rfl i7, p.ke 8 rfl i8, (by rw [p.old 8 rfl]; exact n8), p.ke 9 rfl i9, p.ke 10 rfl i10, (by rw [p.old 10 rfl]; exact n10), p.ke 12 rfl i12, p.ke 63 rfl i63, p.ke 64 rfl i64, p.ke 65 rfl i65, p.ou 16 85 rfl, (by rw [p.old 8 rfl, p.old 10 rfl]; exact d8_10), trivial⟩)
     rintro a k ⟨⟨hg, hs, hd⟩, i0, i7, i8, n8, i9, i10, n10, i12, i63, i64, i65, i85, d8_10, _⟩
     obtain ⟨s5, hs5, hr⟩ := bind_some hr
     refine cut (fun a' k' => Bs noF k0 117 a' k' ∧ (IsV l_) (a'.get 0) k' ∧ (IsV x5) (a'.get 7) k' ∧ IsOwn 0 50 s3.1 (a'.get 8) k' ∧ Lo k0 (obF (a'.get 8)) ∧ (IsV s3.2) (a'.get 9) k' ∧ IsOwn 0 41 s5 (a'.get 10) k' ∧ Lo k0 (obF (a'.get 10)) ∧ (IsV l_) (a'.get 63) k' ∧ (IsL l_) (a'.get 64) k' ∧ (IsV s4.2) (a'.get 65) k' ∧ Apart (obF (a'.get 8)) (obF (a'.get 10)) ∧ True) ?_ hQ ?_
     ·intro Q22 W22 w19
      replace hr := hs5
      clear hQ
      have hQ := W22
      refine wp_cond_split (isBool i85) (fun hc1182 => ?_) (fun hc1182 => ?_)
      ·rw [if_pos hc1182] at hr
       obtain ⟨x13, hx13, hr⟩ := bind_some hr
       refine cut (fun a' k' => Bs noF k0 117 a' k' ∧ (IsV l_) (a'.get 0) k' ∧ (IsV x5) (a'.get 7) k' ∧ IsOwn 0 50 s3.1 (a'.get 8) k' ∧ Lo k0 (obF (a'.get 8)) ∧ (IsV s3.2) (a'.get 9) k' ∧ IsOwn 0 41 x13 (a'.get 10) k' ∧ Lo k0 (obF (a'.get 10)) ∧ (IsV l_) (a'.get 63) k' ∧ (IsL l_) (a'.get 64) k' ∧ (IsV s4.2) (a'.get 65) k' ∧ Apart (obF (a'.get 8)) (obF (a'.get 10)) ∧ True) ?_ hQ ?_
       ·intro Q23 W23 w20
        refine gS 4 (⟨some (OwnAt (a.get 10) 0 41 s4.1), [(10, none)]⟩ :: _ :: _ :: ⟨some (IsV (α := (List Rect)) ([x7.Base])), [(88, some 2)]⟩ :: []) hs (by kernel_rfl) ⟨ob1 rfl fun _ _ h n => ok_moveOA (.inl rfl) (ownAt n.1 (up i10 h n.1)), o1 [(12, none)] rfl fun _ _ h n => ok_fieldAddr rfl fo43_0 (at_Box_0 _) ((up i12 h n.1)).ptr, o1 [(87, some 1)] rfl fun _ _ h n => ok_load rfl ty41 n.1, ob1 rfl fun _ _ h n => ok_buildSlice rfl Try.underlying48 eo41 rfl (by decide) (by decide) ⟨rfl, n.1, trivial⟩, trivial⟩ W23 fun b q p => ?_
        have hgq := hg.then p.grow
        have hsb := p.size.trans hs
        have hdb := p.defers.trans hd
        have j0 := p.ke 0 rfl i0
        have j7 := p.ke 7 rfl i7
        have j8 := p.ke 8 rfl i8
        have y8 : Lo k0 (obF (b.get 8)) := by rw [p.old 8 rfl]; exact n8
        have j9 := p.ke 9 rfl i9
        have j63 := p.ke 63 rfl i63
        have j64 := p.ke 64 rfl i64
        have j65 := p.ke 65 rfl i65
        have e86 : b.get 86 = a.get 10 := (p.ou 0 86 rfl).1
        have j86 : IsOwn 0 41 s4.1 (b.get 86) q := (p.ou 0 86 rfl).2
        have y86 : Lo k0 (obF (b.get 86)) := by rw [e86]; exact n10
        have j89 : (IsV (α := (List Rect)) ([x7.Base])) (b.get 89) q := p.ou 3 89 rfl
        have w8_86 : Apart (obF (b.get 8)) (obF (b.get 86)) := by rw [p.old 8 rfl, e86]; exact d8_10
        have hns := j86.nshF
        refine tail_appendS (i := 4) (d := 90) rfl rfl rfl rfl (by rw [hsb]; decide) (e := 41) Try.underlying48 eo41 j86 (IsV.rd j89) hx13 fun b2 q2 hsz hdf hoth hch hown hob => ?_
        have hle := hch.le hns
        have yn : Lo k0 (obF (b2.get 90)) := y86.app hgq hob
        have v8 : Apart (obF (b.get 8)) (obF (b2.get 90)) := Apart.app w8_86 j8.ltF hob
        replace j0 := Pers.pers hle j0
        replace j7 := Pers.pers hle j7
        replace j8 := j8.keep hch w8_86 hns
        replace j9 := Pers.pers hle j9
        replace j63 := Pers.pers hle j63
        replace j64 := Pers.pers hle j64
        replace j65 := Pers.pers hle j65
        replace j89 := Pers.pers hle j89
        replace hgq := hgq.step hch y86.wr
        rw [← hoth 0 (by decide)] at j0
        rw [← hoth 7 (by decide)] at j7
        rw [← hoth 8 (by decide)] at j8
        rw [← hoth 8 (by decide)] at y8
        rw [← hoth 9 (by decide)] at j9
        rw [← hoth 63 (by decide)] at j63
        rw [← hoth 64 (by decide)] at j64
        rw [← hoth 65 (by decide)] at j65
        rw [← hoth 89 (by decide)] at j89
        rw [← hoth 8 (by decide)] at v8
        have w8_90 := v8
        have j90 := hown
        have y90 := yn
        replace hsb := hsz.trans hsb
        replace hdb := hdf.trans hdb
        clear hle hch hown hob hns yn hsz hdf hoth
        obtain ⟨b, hbb⟩ : ∃ b, b = b2 := ⟨b2, rfl⟩
        subst hbb
        obtain ⟨q, hqq⟩ : ∃ q, q = q2 := ⟨q2, rfl⟩
        subst hqq
        refine tail_assign (i := 5) (d := 10) rfl rfl (.inl rfl) rfl (by rw [hsb]; decide) fun b2 hsz hdf hnew hoth => ?_
        have jn : (IsOwn 0 41 x13) (b2.get 10) q := by rw [hnew]; exact j90
        have yn : Lo k0 (obF (b2.get 10)) := by rw [hnew]; exact y90
        have v8 : Apart (obF (b.get 8)) (obF (b2.get 10)) := by rw [hnew]; exact w8_90
        rw [← hoth 0 (by decide)] at j0
        rw [← hoth 7 (by decide)] at j7
        rw [← hoth 8 (by decide)] at j8
        rw [← hoth 8 (by decide)] at y8
        rw [← hoth 9 (by decide)] at j9
        rw [← hoth 63 (by decide)] at j63
        rw [← hoth 64 (by decide)] at j64
        rw [← hoth 65 (by decide)] at j65
        rw [← hoth 89 (by decide)] at j89
        rw [← hoth 8 (by decide)] at v8
        have w8_10 := v8
        have j10 := jn
        have y10 := yn
        replace hsb := hsz.trans hsb
        replace hdb := hdf.trans hdb
        clear hsz hdf hoth
        obtain ⟨b, hbb⟩ : ∃ b, b = b2 := ⟨b2, rfl⟩
        subst hbb
        exact tail_done (k := q) (w20 _ _ ⟨⟨hgq, hsb, hdb⟩, j0, j7, j8, y8, j9, j10, y10, j63, j64, j65, w8_10, trivial⟩)
       rintro a k ⟨⟨hg, hs, hd⟩, i0, i7, i8, n8, i9, i10, n10, i63, i64, i65, d8_10, _⟩
       obtain rfl := Option.some.inj hr
       exact w19 _ _ ⟨⟨hg, hs, hd⟩, i0, i7, i8, n8, i9, i10, n10, i63, i64, i65, d8_10, trivial⟩
      rw [if_neg (by rw [hc1182]; decide)] at hr
      refine wp_skip ?_
      obtain rfl := Option.some.inj hr
      exact w19 _ _ ⟨⟨hg, hs, hd⟩, i0, i7, i8, n8, i9, i10, n10, i63, i64, i65, d8_10, trivial⟩
     clear hs5
     rintro a k ⟨⟨hg, hs, hd⟩, i0, i7, i8, n8, i9, i10, n10, i63, i64, i65, d8_10, _⟩
     obtain ⟨x14, hx14, hr⟩ := bind_some hr
     refine cut (fun a' k' => Bs noF k0 117 a' k' ∧ (IsV l_) (a'.get 0) k' ∧ (IsV x5) (a'.get 7) k' ∧ IsOwn 0 50 s3.1 (a'.get 8) k' ∧ Lo k0 (obF (a'.get 8)) ∧ (IsV s3.2) (a'.get 9) k' ∧ IsOwn 0 41 s5 (a'.get 10) k' ∧ Lo k0 (obF (a'.get 10)) ∧ (IsV l_) (a'.get 63) k' ∧ (IsL l_) (a'.get 64) k' ∧ (IsV x14) (a'.get 65) k' ∧ Apart (obF (a'.get 8)) (obF (a'.get 10)) ∧ True) ?_ hQ ?_
     ·intro Q24 W24 w21
      refine gS 2 (_ :: _ :: []) hs (by kernel_rfl) ⟨o1 [(65, none)] rfl fun _ _ h n => ok_add rfl (up i65 h n.1) (cI rfl) hx14, cm 0 rfl rfl, trivial⟩ W24 fun b q p => ?_
      exact tail_done (k := q) (w21 _ _ ⟨Bs.post ⟨hg, hs, hd⟩ p, p.ke 0 rfl i0, p.ke 7 rfl i7, p.ke 8 rfl i8, (by rw [p.old 8 rfl]; exact n8), p.ke 9 rfl i9, p.ke 10 rfl i10, (by rw [p.old 10 rfl]; exact n10), p.ke 63 rfl i63, p.ke 64 rfl i64, p.ou 1 65 rfl, (by rw [p.old 8 rfl, p.old 10 rfl]; exact d8_10), trivial⟩)
     rintro a k ⟨⟨hg, hs, hd⟩, i0, i7, i8, n8, i9, i10, n10, i63, i64, i65, d8_10, _⟩
     exact hgo1171 _ _ _ (Option.some.inj hr).symm ⟨⟨hg, hs, hd⟩, i0, i7, i8, n8, i9, i10, n10, i63, i64, i65, d8_10, trivial⟩
    rw [if_neg (by rw [hc1192]; decide)] at hr
    refine wp_exit ?_
    obtain ⟨kk, sh1191, ii10⟩ := i10.give
    replace i0 := Pers.pers sh1191.le i0
    replace i7 := Pers.pers sh1191.le i7
    replace i8 := i8.handed sh1191 d8_10
    replace i9 := Pers.pers sh1191.le i9
    replace i10 := ii10
    replace hg := hg.hand sh1191 n10.wr
    rw [← sh1191.w]
    clear sh1191
    obtain ⟨k, hkk⟩ : ∃ k, k = kk := ⟨kk, rfl⟩
    subst hkk
    exact hex1172 _ _ _ _ (Option.some.inj hr).symm ⟨rfl, ⟨hg, hs, hd⟩, i0, i7, i8, n8, i9, i10, trivial⟩
   ·rintro r2 a k rfl hR
    dsimp only at hr
    exact hret1166 _ _ _ (Option.some.inj hr).symm hR
   ·rintro _ _ _ rfl _
    simp at hr
   clear hf3
   rintro _ s6 a k rfl ⟨rfl, ⟨hg, hs, hd⟩, i0, i7, i8, n8, i9, i10, _⟩
   dsimp only at hr
   refine wp_seq ?_
   obtain ⟨x15, hx15, hr⟩ := bind_some hr
   refine cut (fun a' k' => Bs noF k0 117 a' k' ∧ (IsV l_) (a'.get 0) k' ∧ (IsV x5) (a'.get 7) k' ∧ IsOwn 0 50 s3.1 (a'.get 8) k' ∧ Lo k0 (obF (a'.get 8)) ∧ (IsV s3.2) (a'.get 9) k' ∧ (IsV x15.1) (a'.get 13) k' ∧ (IsV x15.2) (a'.get 14) k' ∧ True) ?_ hQ ?_
   ·intro Q25 W25 w22
    refine gS 7 (_ :: _ :: _ :: _ :: _ :: _ :: _ :: []) hs (by kernel_rfl) ⟨mu rfl i10, o1 [(93, some 0)] rfl fun _ _ h n => ok_call rfl Try.call32 (region_Of_ok n.1 hx15), cm 1 rfl rfl, o1 [(92, some 2)] rfl fun _ _ h n => ok_ext2_0 rfl n.1, o1 [(92, some 2)] rfl fun _ _ h n => ok_ext2_1 rfl n.1, cp 3 rfl rfl, cp 4 rfl rfl, trivial⟩ W25 fun b q p => ?_
    exact tail_done (k := q) (w22 _ _ ⟨Bs.post ⟨hg, hs, hd⟩ p, p.ke 0 rfl i0, p.ke 7 rfl i7, p.ke 8 rfl i8, (by rw [p.old 8 rfl]; exact n8), p.ke 9 rfl i9, p.ou 5 13 rfl, p.ou 6 14 rfl, trivial⟩)
   rintro a k ⟨⟨hg, hs, hd⟩, i0, i7, i8, n8, i9, i13, i14, _⟩
   refine wp_seq ?_
   refine cutS (fun c l => Bs noF k0 117 c l ∧ IsV l_ (c.get 0) l ∧ IsV x5 (c.get 7) l ∧ IsOwn 0 50 s3.1 (c.get 8) l ∧ Lo k0 (obF (c.get 8)) ∧ IsV s3.2 (c.get 9) l ∧ IsV x15.1 (c.get 13) l ∧ IsV x15.2 (c.get 14) l ∧ IsV (x15.2 != 0) (c.get 98) l ∧ True) ?_ ?_
   ·intro Q26 W26 w23
    refine gS 2 (_ :: ⟨some (IsV (x15.2 != 0)), [(97, some 0)]⟩ :: []) hs (by kernel_rfl) ⟨mu rfl i14, ob1 rfl fun _ _ h n => ok_neI rfl n.1 (cI rfl), trivial⟩ W26 fun b q p => ?_
    exact tail_done (k := q) (w23 _ _ ⟨Bs.post ⟨hg, hs, hd⟩ p, p.ke 0 rfl i0, p.ke 7 rfl i7, p.ke 8 rfl i8, (by rw [p.old 8 rfl]; exact n8), p.ke 9 rfl i9, p.ke 13 rfl i13, p.ke 14 rfl i14, p.ou 1 98 rfl, trivial⟩)
   rintro a k ⟨⟨hg, hs, hd⟩, i0, i7, i8, n8, i9, i13, i14, i98, _⟩
   refine wp_cond_split (isBool i98) (fun hc1208 => ?_) (fun hc1208 => ?_)
   ·rw [if_pos hc1208] at hr
    refine cutL noF k0 117 [⟨2, IsV ([] : List Slab)⟩, ⟨3, IsV x15.2⟩] ?_ ?_
    ·intro Q27 W27 w24
     refine gS 3 (_ :: ⟨some IsE0, []⟩ :: _ :: []) hs (by kernel_rfl) ⟨mu rfl i14, ob1 rfl fun b q h n => ok_assign rfl isE0_nil, cp 0 rfl rfl, trivial⟩ W27 fun b q p => ?_
     have hgq := hg.then p.grow
     have hsb := p.size.trans hs
     have hdb := p.defers.trans hd
     have j2 : IsE0 (b.get 2) q := p.ou 1 2 rfl
     have j3 : (IsV x15.2) (b.get 3) q := p.ou 2 3 rfl
     replace j2 : IsV ([] : List Slab) (b.get 2) q := j2.isV
     exact tail_done (k := q) (w24 _ _ ⟨⟨hgq, hsb, hdb⟩, j2, j3, trivial⟩)
    rintro a k ⟨⟨hg, hs, hd⟩, i2, i3, _⟩
    refine wp_ret ?_
    exact hret1166 _ _ _ (Option.some.inj hr).symm (retC2 rfl hd hg i2 i3)
   rw [if_neg (by rw [hc1208]; decide)] at hr
   refine wp_skip ?_
   obtain ⟨x16, hx16, hr⟩ := bind_some hr
   obtain ⟨x17, hx17, hr⟩ := bind_some hr
   obtain ⟨x18, hx18, hr⟩ := bind_some hr
   obtain ⟨x19, hx19, hr⟩ := bind_some hr
   refine cut (fun a' k' => Bs noF k0 117 a' k' ∧ (IsV l_) (a'.get 0) k' ∧ (IsV x5) (a'.get 7) k' ∧ IsOwn 0 50 x19 (a'.get 8) k' ∧ Lo k0 (obF (a'.get 8)) ∧ (IsV s3.2) (a'.get 9) k' ∧ True) ?_ hQ ?_
   ·intro Q28 W28 w25
    refine region (m := 12) (⟨some (OwnAt (a.get 8) 0 50 s3.1), [(8, none)]⟩ :: _ :: _ :: _ :: _ :: _ :: _ :: _ :: _ :: _ :: _ :: ⟨some (IsV (⟨x17, x18, x15.1⟩ : Slab)), [(105, some 5), (109, some 9), (110, some 10)]⟩ :: []) hmix hs (by kernel_rfl) ⟨ob1 rfl fun _ _ h n => ok_moveOA (.inl rfl) (ownAt n.1 (up i8 h n.1)), mu rfl i7, mu rfl i9, o1 [(102, some 2)] rfl fun _ _ h n => ok_sub rfl n.1 (cI rfl) hx16, o1 [(101, some 1), (103, some 3)] rfl fun _ _ h n => ok_indexAddr rfl Try.underlying57 ty3 (IsV.rd n.1) n.2.1 hx17, o1 [(104, some 4)] rfl fun _ _ h n => ok_load rfl ty3 n.1, mu rfl i7, mu rfl i9, o1 [(106, some 6), (107, some 7)] rfl fun _ _ h n => ok_indexAddr rfl Try.underlying57 ty3 (IsV.rd n.1) n.2.1 hx18, o1 [(108, some 8)] rfl fun _ _ h n => ok_load rfl ty3 n.1, mu rfl i13, ob1 rfl fun _ _ h n => ok_build rfl (bld50_0_1_2 n.1 n.2.1 n.2.2.1), trivial⟩ W28 fun b q p => ?_
    have hgq := hg.then p.grow
    have hsb := p.size.trans hs
    have hdb := p.defers.trans hd
    have j0 := p.ke 0 rfl i0
    have j7 := p.ke 7 rfl i7
    have j9 := p.ke 9 rfl i9
    have e100 : b.get 100 = a.get 8 := (p.ou 0 100 rfl).1
    have j100 : IsOwn 0 50 s3.1 (b.get 100) q := (p.ou 0 100 rfl).2
    have y100 : Lo k0 (obF (b.get 100)) := by rw [e100]; exact n8
    have j111 : (IsV (⟨x17, x18, x15.1⟩ : Slab)) (b.get 111) q := p.ou 11 111 rfl
    have hns := j100.nshF
    refine tail_call (F := obF (b.get 100)) (i := 12) (d := 112) rfl rfl rfl rfl (by rw [hsb]; decide) Try.call33 W28 (solid_put_ok j100 j111 hx19) fun b2 q2 hsz hdf hoth hch hres => ?_
    have hle := hch.le hns
    obtain ⟨hown, hob⟩ := hres
    have yn : Lo k0 (obF (b2.get 112)) := y100.app hgq hob
    replace j0 := Pers.pers hle j0
    replace j7 := Pers.pers hle j7
    replace j9 := Pers.pers hle j9
    replace j111 := Pers.pers hle j111
    replace hgq := hgq.step hch y100.wr
    rw [← hoth 0 (by decide)] at j0
    rw [← hoth 7 (by decide)] at j7
    rw [← hoth 9 (by decide)] at j9
    rw [← hoth 111 (by decide)] at j111
    have j112 := hown
    have y112 := yn
    have hres := True.intro
    clear hown hob yn
    replace hsb := hsz.trans hsb
    replace hdb := hdf.trans hdb
    clear hle hch hres hns hsz hdf hoth
    obtain ⟨b, hbb⟩ : ∃ b, b = b2 := ⟨b2, rfl⟩
    subst hbb
    obtain ⟨q, hqq⟩ : ∃ q, q = q2 := ⟨q2, rfl⟩
    subst hqq
    refine tail_assign (i := 13) (d := 8) rfl rfl (.inl rfl) rfl (by rw [hsb]; decide) fun b2 hsz hdf hnew hoth => ?_
    have jn : (IsOwn 0 50 x19) (b2.get 8) q := by rw [hnew]; exact j112
    have yn : Lo k0 (obF (b2.get 8)) := by rw [hnew]; exact y112
    rw [← hoth 0 (by decide)] at j0
    rw [← hoth 7 (by decide)] at j7
    rw [← hoth 9 (by decide)] at j9
    rw [← hoth 111 (by decide)] at j111
    have j8 := jn
    have y8 := yn
    replace hsb := hsz.trans hsb
    replace hdb := hdf.trans hdb
    clear hsz hdf hoth
    obtain ⟨b, hbb⟩ : ∃ b, b = b2 := ⟨b2, rfl⟩
    subst hbb
    exact tail_done (k := q) (w25 _ _ ⟨⟨hgq, hsb, hdb⟩, j0, j7, j8, y8, j9, trivial⟩)
   rintro a k ⟨⟨hg, hs, hd⟩, i0, i7, i8, n8, i9, _⟩
   obtain ⟨x20, hx20, hr⟩ := bind_some hr
   refine cut (fun a' k' => Bs noF k0 117 a' k' ∧ (IsV l_) (a'.get 0) k' ∧ (IsV x5) (a'.get 7) k' ∧ IsOwn 0 50 x19 (a'.get 8) k' ∧ Lo k0 (obF (a'.get 8)) ∧ (IsV x20) (a'.get 9) k' ∧ True) ?_ hQ ?_
   ·intro Q29 W29 w26
    refine gS 3 (_ :: _ :: _ :: []) hs (by kernel_rfl) ⟨mu rfl i9, o1 [(61, some 0)] rfl fun _ _ h n => ok_add rfl n.1 (cI rfl) hx20, cp 1 rfl rfl, trivial⟩ W29 fun b q p => ?_
    exact tail_done (k := q) (w26 _ _ ⟨Bs.post ⟨hg, hs, hd⟩ p, p.ke 0 rfl i0, p.ke 7 rfl i7, p.ke 8 rfl i8, (by rw [p.old 8 rfl]; exact n8), p.ou 2 9 rfl, trivial⟩)
   rintro a k ⟨⟨hg, hs, hd⟩, i0, i7, i8, n8, i9, _⟩
   exact hgo1164 _ _ _ (Option.some.inj hr).symm ⟨⟨hg, hs, hd⟩, i0, i7, i8, n8, i9, trivial⟩
  rw [if_neg (by rw [hc1220]; decide)] at hr
  refine wp_exit ?_
  obtain ⟨kk, sh1219, ii8⟩ := i8.give
  replace i8 := ii8
  replace hg := hg.hand sh1219 n8.wr
  rw [← sh1219.w]
  clear sh1219
  obtain ⟨k, hkk⟩ : ∃ k, k = kk := ⟨kk, rfl⟩
  subst hkk
  exact hex1165 _ _ _ _ (Option.some.inj hr).symm ⟨rfl, ⟨hg, hs, hd⟩, i8, trivial⟩
 ·rintro r3 a k rfl hR
  dsimp only at hr
  obtain rfl := Option.some.inj hr
  exact hR
 ·rintro _ _ _ rfl _
  simp at hr
 clear hf2
 rintro _ s7 a k rfl ⟨rfl, ⟨hg, hs, hd⟩, i8, _⟩
 dsimp only at hr
 refine wp_seq ?_
 obtain ⟨x21, hx21, hr⟩ := bind_some hr
 refine cut (fun a' k' => Bs noF k0 117 a' k' ∧ (IsV x21.1) (a'.get 2) k' ∧ (IsV x21.2) (a'.get 3) k' ∧ True) ?_ hQ ?_
 ·intro Q30 W30 w27
  refine gS 6 (_ :: _ :: _ :: _ :: _ :: _ :: []) hs (by kernel_rfl) ⟨mu rfl i8, o1 [(113, some 0)] rfl fun _ _ h n => ok_call rfl Try.call34 (solid_fits_ok n.1 hx21), o1 [(114, some 1)] rfl fun _ _ h n => ok_ext2_0 rfl n.1, o1 [(114, some 1)] rfl fun _ _ h n => ok_ext2_1 rfl n.1, cp 2 rfl rfl, cp 3 rfl rfl, trivial⟩ W30 fun b q p => ?_
  exact tail_done (k := q) (w27 _ _ ⟨Bs.post ⟨hg, hs, hd⟩ p, p.ou 4 2 rfl, p.ou 5 3 rfl, trivial⟩)
 rintro a k ⟨⟨hg, hs, hd⟩, i2, i3, _⟩
 refine wp_ret ?_
 obtain rfl := Option.some.inj hr
 exact retC2 rfl hd hg i2 i3
noncomputable def k21 := mkO 21 [.list (.st 3)] [.list (.st 6), .int] (fun x => solid_Of x) Try.call21 fun k0 vs x r h hr => by obtain ⟨v0, rfl, i0⟩ := h.one; exact ret2F (T := tb) (solid_Of_ok i0 hr)
def law12_SunLess (table_ : (List Point3)) (a_ : (List Box)) (b_ : (List Box)) (p_ : Point3) : Option (Bool) :=
 (law12_small).bind fun x1 =>
 if (((decide (30 < (table_.length : Int))) || (decide (5 < (a_.length : Int)))) || (decide (5 < (b_.length : Int)))) then
  some x1
 else
  (solid_Of a_).bind fun x2 =>
  (appI [] a_).bind fun x3 =>
  (appI x3 b_).bind fun x4 =>
  (solid_Of x4).bind fun x5 =>
  if ((x2.2 != 0) || (x5.2 != 0)) then
   some (x1 && ((x2.2 == 1) || (x5.2 == 1)))
  else
   (sun_Mask table_ x2.1 p_).bind fun x6 =>
   (sun_Mask table_ x5.1 p_).bind fun x7 =>
   (sun_Lost table_ x2.1 x5.1 p_).bind fun x8 =>
   (if (x1 && ((andI x7 x6) == x7)) then
    (subI x6 x7).bind fun x9 =>
    some (x8 == x9)
   else
    some false).bind fun x10 =>
   (if x10 then
    (sun_Lost table_ x5.1 x2.1 p_).bind fun x11 =>
    some (x11 == 0)
   else
    some false).bind fun x12 =>
   (if x12 then
    (sun_Count x7).bind fun x13 =>
    (sun_Count x8).bind fun x14 =>
    (addI x13 x14).bind fun x15 =>
    (sun_Count x6).bind fun x16 =>
    some (x15 == x16)
   else
    some false).bind fun x17 =>
   (if x17 then
    (sun_MaskOf table_ ([x2.1, x5.1]) p_).bind fun x18 =>
    some (x18 == x7)
   else
    some false).bind fun x19 =>
   some x19
noncomputable def k4 := mk 4 [.list (.st 7), .list (.st 3), .list (.st 3), .st 7] [.bool] (fun x => law12_SunLess x.1 x.2.1 x.2.2.1 x.2.2.2) [k7, k21, k11, k17, k19, k15] [38, 40] Try.f4 (.n) Try.func4 Try.call4 rfl rfl fun x => by kernel_rfl
theorem law12_SunLess_ok {k0 : K} {v0 v1 v2 v3 : Value} {x0 : (List Point3)} {x1 : (List Box)} {x2 : (List Box)} {x3 : Point3} {r : Bool} (i0 : IsV x0 v0 k0) (i1 : IsV x1 v1 k0) (i2 : IsV x2 v2 k0) (i3 : IsV x3 v3 k0) (hr : law12_SunLess x0 x1 x2 x3 = some r) : Calls Try.prog 4 #[v0, v1, v2, v3] k0.w (Ret k0 (IsV r)) := (k4.ok.ok k0 [v0, v1, v2, v3] (x0, x1, x2, x3) r ⟨i0, i1, i2, i3⟩ hr)
end Go.Proofs.Ytekbjeagbfbbcaa
