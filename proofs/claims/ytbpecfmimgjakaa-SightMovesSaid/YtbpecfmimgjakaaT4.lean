/- What the functions compute that the law reaches, part 4 -/
import Derived.Test.YtbpecfmimgjakaaT3
namespace Go.Proofs.Ytbpecfmimgjakaa
open Go.Gb
set_option linter.unusedVariables false
set_option linter.unusedSimpArgs false
set_option maxRecDepth 100000
def region_strips_L0 (x1 : (List Rect)) (s1 : (List Int) × Int) : Option (Flow ((List Int) × Int) ((List RegionStrip))) :=
 if (decide (s1.2 < (x1.length : Int))) then
  (getI x1 s1.2).bind fun x2 =>
  (appI s1.1 ([x2.X0, x2.X1])).bind fun x3 =>
  (addI s1.2 1).bind fun x4 =>
  some (.go (x3, x4))
 else
  some (.ex 0 (s1.1, s1.2))
def region_strips_L1 (x1 : (List Rect)) (x2 : (List Int)) (s1 : (List RegionStrip) × Int) : Option (Flow ((List RegionStrip) × Int) ((List RegionStrip))) :=
 if (decide (s1.2 < (x2.length : Int))) then
  (subI s1.2 1).bind fun x3 =>
  (getI x2 x3).bind fun x4 =>
  (getI x2 s1.2).bind fun x5 =>
  (subI s1.2 1).bind fun x6 =>
  (getI x2 x6).bind fun x7 =>
  (region_column x1 x7).bind fun x8 =>
  (appI s1.1 ([(⟨x4, x5, x8⟩ : RegionStrip)])).bind fun x9 =>
  (addI s1.2 1).bind fun x10 =>
  some (.go (x9, x10))
 else
  some (.ex 2 (s1.1, s1.2))
def region_strips (lists_ : (List (List Rect))) : Option ((List RegionStrip)) :=
 (slices_Concat_Rect lists_).bind fun x1 =>
 (iterL (region_strips_L0 x1) (x1.length + 1) (([] : List Int), 0)).bind fun f1 => match f1 with
  | .go _ => none
  | .ex _ s1 =>
   (sortInts s1.1).bind fun x2 =>
   (compactInts x2).bind fun x3 =>
   (iterL (region_strips_L1 x1 x3) (x1.length + x3.length + ([] : List RegionStrip).length + 1) (([] : List RegionStrip), 1)).bind fun f2 => match f2 with
    | .go _ => none
    | .ex _ s2 =>
     some s2.1
    | .ret r1 => some r1
  | .ret r2 => some r2
theorem region_strips_okO {k0 : K} {v0 : Value} {lists_ : (List (List Rect))} {r : (List RegionStrip)} (i0 : (IsV lists_) v0 k0) (hr : region_strips lists_ = some r) :
  Calls Try.prog 63 #[v0] k0.w (Ret k0 (IsOwn k0.w.heap.size 111 r)) := by
 unfold region_strips at hr
 refine Ret.ofC ?_
 refine enterK Try.func63 rfl Try.ntmps63 (show 1 ≤ 56 by decide) fun a k hk0 hs hd ha => ?_
 obtain ⟨e0, _⟩ := ha
 replace i0 : (IsV lists_) (a.get 0) k := by rw [e0, hk0]; exact i0
 have hQ : Gb.LetsOut (bodyPost Try.prog Try.f63 (RetC noF k0 (IsOwn k0.w.heap.size 111 r))) := letsOutC
 have hg : Chg noF k0 k := by rw [hk0]; exact Chg.refl _ k0
 refine stepL 1 (⟨some IsE0, []⟩ :: []) rfl ⟨hg, hs, hd⟩ (by kernel_rfl) ⟨ob1 rfl fun b q h n => ok_assign rfl isE0_nil, trivial⟩ [⟨_, _⟩] (fun b q p => ⟨p.ke 0 rfl i0, trivial⟩) ?_
 rintro a k ⟨⟨hg, hs, hd⟩, i0, _⟩
 refine wp_seq ?_
 obtain ⟨x1, hx1, hr⟩ := bind_some hr
 refine cut (fun a' k' => Bs noF k0 56 a' k' ∧ (IsV x1) (a'.get 3) k' ∧ True) ?_ hQ ?_
 ·intro Q1 W1 w1
  refine gS 3 (_ :: _ :: _ :: []) hs (by kernel_rfl) ⟨mu rfl i0, o1 [(9, some 0)] rfl fun _ _ h n => ok_call rfl Try.call82 (slices_Concat_Rect_ok n.1 hx1), cp 1 rfl rfl, trivial⟩ W1 fun b q p => ?_
  exact tail_done (k := q) (w1 _ _ ⟨Bs.post ⟨hg, hs, hd⟩ p, p.ou 2 3 rfl, trivial⟩)
 rintro a k ⟨⟨hg, hs, hd⟩, i3, _⟩
 refine cutS (fun c l => Bs noF k0 56 c l ∧ IsV x1 (c.get 3) l ∧ IsOwn 0 3 ([] : List Int) (c.get 4) l ∧ Lo k0 (obF (c.get 4)) ∧ True) ?_ ?_
 ·intro Q2 W2 w2
  refine gS 1 (⟨some IsE0, []⟩ :: []) hs (by kernel_rfl) ⟨ob1 rfl fun b q h n => ok_assign rfl isE0_nil, trivial⟩ W2 fun b q p => ?_
  have hgq := hg.then p.grow
  have hsb := p.size.trans hs
  have hdb := p.defers.trans hd
  have j3 := p.ke 3 rfl i3
  have j4 : IsE0 (b.get 4) q := p.ou 0 4 rfl
  have y4 : Lo k0 (obF (b.get 4)) := j4.lo
  replace j4 : IsOwn 0 3 ([] : List Int) (b.get 4) q := j4.own0
  exact tail_done (k := q) (w2 _ _ ⟨⟨hgq, hsb, hdb⟩, j3, j4, y4, trivial⟩)
 rintro a k ⟨⟨hg, hs, hd⟩, i3, i4, n4, _⟩
 refine wp_seq ?_
 refine cutS (fun c l => Bs noF k0 56 c l ∧ IsV x1 (c.get 3) l ∧ IsOwn 0 3 ([] : List Int) (c.get 4) l ∧ Lo k0 (obF (c.get 4)) ∧ IsV x1 (c.get 11) l ∧ IsL x1 (c.get 12) l ∧ IsI 0 (c.get 13) l ∧ True) ?_ ?_
 ·intro Q3 W3 w3
  refine gS 3 (_ :: _ :: ⟨some (IsI 0), []⟩ :: []) hs (by kernel_rfl) ⟨mu rfl i3, o1 [(11, some 0)] rfl fun _ _ h n => ok_len rfl rfl Try.underlying49 (IsV.rd n.1), ob1 rfl fun _ _ h n => ok_move rfl (cI rfl), trivial⟩ W3 fun b q p => ?_
  exact tail_done (k := q) (w3 _ _ ⟨Bs.post ⟨hg, hs, hd⟩ p, p.ke 3 rfl i3, p.ke 4 rfl i4, (by rw [p.old 4 rfl]; exact n4), p.ou 0 11 rfl, p.ou 1 12 rfl, p.ou 2 13 rfl, trivial⟩)
 rintro a k ⟨⟨hg, hs, hd⟩, i3, i4, n4, i11, i12, i13, _⟩
 refine wp_block ?_
 obtain ⟨f1, hf1, hr⟩ := bind_some hr
 refine cutFe f1 (fun s' c l => Bs noF k0 56 c l ∧ IsV x1 (c.get 3) l ∧ IsOwn 0 3 s'.1 (c.get 4) l ∧ Lo k0 (obF (c.get 4)) ∧ IsV x1 (c.get 11) l ∧ IsL x1 (c.get 12) l ∧ IsV s'.2 (c.get 13) l ∧ True) (fun i' s' c l => (i' = 0 ∧ Bs noF k0 56 c l ∧ IsV x1 (c.get 3) l ∧ IsOwn 0 3 s'.1 (c.get 4) l ∧ Lo k0 (obF (c.get 4)) ∧ True)) (fun r' c l => bodyPost Try.prog Try.f63 (RetC noF k0 (IsOwn k0.w.heap.size 111 r')) .ret c l.w) ?_ hQ ?_ ?_ ?_
 ·intro Q4 W4 hgo hex hret
  refine sim_loop ?_ _ _ _ _ _ hf1 ⟨⟨hg, hs, hd⟩, i3, i4, n4, i11, i12, i13, trivial⟩ Q4 W4 hgo hex hret
  clear hr hf1 hgo hex hret W4 hQ hg hs hd i11 i12 i13 i3 i4 n4
  intro s1 fl_ a k hr hS Q hQ hgo990 hex991 hret992
  obtain ⟨⟨hg, hs, hd⟩, i3, i4, n4, i11, i12, i13, _⟩ := hS
  unfold region_strips_L0 at hr
  refine cutS (fun c l => Bs noF k0 56 c l ∧ IsV x1 (c.get 3) l ∧ IsOwn 0 3 s1.1 (c.get 4) l ∧ Lo k0 (obF (c.get 4)) ∧ IsV x1 (c.get 11) l ∧ IsL x1 (c.get 12) l ∧ IsV s1.2 (c.get 13) l ∧ (IsV (decide (s1.2 < (x1.length : Int)))) (c.get 14) l ∧ True) ?_ ?_
  ·intro Q5 W5 w4
   refine gS 1 (_ :: []) hs (by kernel_rfl) ⟨o1 [(13, none), (12, none)] rfl fun _ _ h n => ok_lss rfl (up i13 h n.1) (up i12 h n.2.1), trivial⟩ W5 fun b q p => ?_
   exact tail_done (k := q) (w4 _ _ ⟨Bs.post ⟨hg, hs, hd⟩ p, p.ke 3 rfl i3, p.ke 4 rfl i4, (by rw [p.old 4 rfl]; exact n4), p.ke 11 rfl i11, p.ke 12 rfl i12, p.ke 13 rfl i13, p.ou 0 14 rfl, trivial⟩)
  rintro a k ⟨⟨hg, hs, hd⟩, i3, i4, n4, i11, i12, i13, i14, _⟩
  refine wp_seq ?_
  refine wp_cond_split (isBool i14) (fun hc1003 => ?_) (fun hc1003 => ?_)
  ·rw [if_pos hc1003] at hr
   refine wp_skip ?_
   refine wp_seq ?_
   refine wp_block ?_
   refine wp_seq ?_
   obtain ⟨x2, hx2, hr⟩ := bind_some hr
   refine cut (fun a' k' => Bs noF k0 56 a' k' ∧ (IsV x1) (a'.get 3) k' ∧ IsOwn 0 3 s1.1 (a'.get 4) k' ∧ Lo k0 (obF (a'.get 4)) ∧ (IsRef x2) (a'.get 6) k' ∧ (IsV x1) (a'.get 11) k' ∧ (IsL x1) (a'.get 12) k' ∧ (IsV s1.2) (a'.get 13) k' ∧ True) ?_ hQ ?_
   ·intro Q6 W6 w5
    refine gS 3 (_ :: _ :: ⟨some (IsBox k.w.heap.size (⟨0, 0, 0, 0⟩ : Rect)), []⟩ :: []) hs (by kernel_rfl) ⟨o1 [(11, none), (13, none)] rfl fun _ _ h n => ok_indexAddr rfl Try.underlying49 ty35 (IsV.rd (up i11 h n.1)) (up i13 h n.2.1) hx2, o1 [(15, some 0)] rfl fun _ _ h n => ok_load rfl ty35 n.1, ob1 rfl fun _ _ h n => ok_alloc _ h.size rfl z35, trivial⟩ W6 fun b q p => ?_
    have hgq := hg.then p.grow
    have hsb := p.size.trans hs
    have hdb := p.defers.trans hd
    have j3 := p.ke 3 rfl i3
    have j4 := p.ke 4 rfl i4
    have y4 : Lo k0 (obF (b.get 4)) := by rw [p.old 4 rfl]; exact n4
    obtain ⟨b6, j6, x6, z6⟩ : (IsBox k.w.heap.size (⟨0, 0, 0, 0⟩ : Rect)) (b.get 6) q := p.ou 2 6 rfl
    replace x6 : Lo k (Eq b6) := Lo.eq x6
    have y6 : Lo k0 (Eq b6) := x6.chg hg
    have j11 := p.ke 11 rfl i11
    have j12 := p.ke 12 rfl i12
    have j13 := p.ke 13 rfl i13
    have j16 : (IsV x2) (b.get 16) q := p.ou 1 16 rfl
    have w4_6 : Apart (obF (b.get 4)) (Eq b6) := Apart.new (by rw [p.old 4 rfl]; exact i4.ltF) x6
    have hns := z6.nshF
    refine tail_storeB (i := 3) rfl rfl rfl rfl szf35 (Upd.self (α := Rect)) j6 z6 j16 fun q2 hch hz => ?_
    replace hgq := hgq.step hch y6.wr
    have hle := hch.le hns
    replace j3 := Pers.pers hle j3
    replace j4 := j4.keep hch w4_6 hns
    replace j11 := Pers.pers hle j11
    replace j12 := Pers.pers hle j12
    replace j13 := Pers.pers hle j13
    replace j16 := Pers.pers hle j16
    replace z6 := hz
    clear hns hle hch
    obtain ⟨q, hqq⟩ : ∃ q, q = q2 := ⟨q2, rfl⟩
    subst hqq
    obtain ⟨q2, hsh, jn⟩ := z6.give
    replace j3 := Pers.pers hsh.le j3
    replace j4 := j4.handed hsh w4_6
    replace j11 := Pers.pers hsh.le j11
    replace j12 := Pers.pers hsh.le j12
    replace j13 := Pers.pers hsh.le j13
    rw [← j6] at jn
    replace j6 := jn
    replace hgq := hgq.hand hsh y6.wr
    rw [← hsh.w]
    clear hsh
    obtain ⟨q, hqq⟩ : ∃ q, q = q2 := ⟨q2, rfl⟩
    subst hqq
    exact tail_done (k := q) (w5 _ _ ⟨⟨hgq, hsb, hdb⟩, j3, j4, y4, j6, j11, j12, j13, trivial⟩)
   rintro a k ⟨⟨hg, hs, hd⟩, i3, i4, n4, i6, i11, i12, i13, _⟩
   obtain ⟨x3, hx3, hr⟩ := bind_some hr
   refine cut (fun a' k' => Bs noF k0 56 a' k' ∧ (IsV x1) (a'.get 3) k' ∧ IsOwn 0 3 x3 (a'.get 4) k' ∧ Lo k0 (obF (a'.get 4)) ∧ (IsV x1) (a'.get 11) k' ∧ (IsL x1) (a'.get 12) k' ∧ (IsV s1.2) (a'.get 13) k' ∧ True) ?_ hQ ?_
   ·intro Q7 W7 w6
    refine gS 6 (⟨some (OwnAt (a.get 4) 0 3 s1.1), [(4, none)]⟩ :: _ :: _ :: _ :: _ :: ⟨some (IsV (α := (List Int)) ([x2.X0, x2.X1])), [(19, some 2), (21, some 4)]⟩ :: []) hs (by kernel_rfl) ⟨ob1 rfl fun _ _ h n => ok_moveOA (.inl rfl) (ownAt n.1 (up i4 h n.1)), o1 [(6, none)] rfl fun _ _ h n => ok_fieldAddr rfl fo35_0 (at_Rect_0 _) ((up i6 h n.1)).ptr, o1 [(18, some 1)] rfl fun _ _ h n => ok_load rfl ty3 n.1, o1 [(6, none)] rfl fun _ _ h n => ok_fieldAddr rfl fo35_2 (at_Rect_2 _) ((up i6 h n.1)).ptr, o1 [(20, some 3)] rfl fun _ _ h n => ok_load rfl ty3 n.1, ob1 rfl fun _ _ h n => ok_buildSlice rfl Try.underlying63 eo3 rfl (by decide) (by decide) ⟨rfl, n.1, rfl, n.2.1, trivial⟩, trivial⟩ W7 fun b q p => ?_
    have hgq := hg.then p.grow
    have hsb := p.size.trans hs
    have hdb := p.defers.trans hd
    have j3 := p.ke 3 rfl i3
    have j11 := p.ke 11 rfl i11
    have j12 := p.ke 12 rfl i12
    have j13 := p.ke 13 rfl i13
    have e17 : b.get 17 = a.get 4 := (p.ou 0 17 rfl).1
    have j17 : IsOwn 0 3 s1.1 (b.get 17) q := (p.ou 0 17 rfl).2
    have y17 : Lo k0 (obF (b.get 17)) := by rw [e17]; exact n4
    have j22 : (IsV (α := (List Int)) ([x2.X0, x2.X1])) (b.get 22) q := p.ou 5 22 rfl
    have hns := j17.nshF
    refine tail_appendS (i := 6) (d := 23) rfl rfl rfl rfl (by rw [hsb]; decide) (e := 3) Try.underlying63 eo3 j17 (IsV.rd j22) hx3 fun b2 q2 hsz hdf hoth hch hown hob => ?_
    have hle := hch.le hns
    have yn : Lo k0 (obF (b2.get 23)) := y17.app hgq hob
    replace j3 := Pers.pers hle j3
    replace j11 := Pers.pers hle j11
    replace j12 := Pers.pers hle j12
    replace j13 := Pers.pers hle j13
    replace j22 := Pers.pers hle j22
    replace hgq := hgq.step hch y17.wr
    rw [← hoth 3 (by decide)] at j3
    rw [← hoth 11 (by decide)] at j11
    rw [← hoth 12 (by decide)] at j12
    rw [← hoth 13 (by decide)] at j13
    rw [← hoth 22 (by decide)] at j22
    have j23 := hown
    have y23 := yn
    replace hsb := hsz.trans hsb
    replace hdb := hdf.trans hdb
    clear hle hch hown hob hns yn hsz hdf hoth
    obtain ⟨b, hbb⟩ : ∃ b, b = b2 := ⟨b2, rfl⟩
    subst hbb
    obtain ⟨q, hqq⟩ : ∃ q, q = q2 := ⟨q2, rfl⟩
    subst hqq
    refine tail_assign (i := 7) (d := 4) rfl rfl (.inl rfl) rfl (by rw [hsb]; decide) fun b2 hsz hdf hnew hoth => ?_
    have jn : (IsOwn 0 3 x3) (b2.get 4) q := by rw [hnew]; exact j23
    have yn : Lo k0 (obF (b2.get 4)) := by rw [hnew]; exact y23
    rw [← hoth 3 (by decide)] at j3
    rw [← hoth 11 (by decide)] at j11
    rw [← hoth 12 (by decide)] at j12
    rw [← hoth 13 (by decide)] at j13
    rw [← hoth 22 (by decide)] at j22
    have j4 := jn
    have y4 := yn
    replace hsb := hsz.trans hsb
    replace hdb := hdf.trans hdb
    clear hsz hdf hoth
    obtain ⟨b, hbb⟩ : ∃ b, b = b2 := ⟨b2, rfl⟩
    subst hbb
    exact tail_done (k := q) (w6 _ _ ⟨⟨hgq, hsb, hdb⟩, j3, j4, y4, j11, j12, j13, trivial⟩)
   rintro a k ⟨⟨hg, hs, hd⟩, i3, i4, n4, i11, i12, i13, _⟩
   obtain ⟨x4, hx4, hr⟩ := bind_some hr
   refine cut (fun a' k' => Bs noF k0 56 a' k' ∧ (IsV x1) (a'.get 3) k' ∧ IsOwn 0 3 x3 (a'.get 4) k' ∧ Lo k0 (obF (a'.get 4)) ∧ (IsV x1) (a'.get 11) k' ∧ (IsL x1) (a'.get 12) k' ∧ (IsV x4) (a'.get 13) k' ∧ True) ?_ hQ ?_
   ·intro Q8 W8 w7
    refine gS 2 (_ :: _ :: []) hs (by kernel_rfl) ⟨o1 [(13, none)] rfl fun _ _ h n => ok_add rfl (up i13 h n.1) (cI rfl) hx4, cm 0 rfl rfl, trivial⟩ W8 fun b q p => ?_
    exact tail_done (k := q) (w7 _ _ ⟨Bs.post ⟨hg, hs, hd⟩ p, p.ke 3 rfl i3, p.ke 4 rfl i4, (by rw [p.old 4 rfl]; exact n4), p.ke 11 rfl i11, p.ke 12 rfl i12, p.ou 1 13 rfl, trivial⟩)
   rintro a k ⟨⟨hg, hs, hd⟩, i3, i4, n4, i11, i12, i13, _⟩
   exact hgo990 _ _ _ (Option.some.inj hr).symm ⟨⟨hg, hs, hd⟩, i3, i4, n4, i11, i12, i13, trivial⟩
  rw [if_neg (by rw [hc1003]; decide)] at hr
  refine wp_exit ?_
  exact hex991 _ _ _ _ (Option.some.inj hr).symm ⟨rfl, ⟨hg, hs, hd⟩, i3, i4, n4, trivial⟩
 ·rintro r1 a k rfl hR
  dsimp only at hr
  obtain rfl := Option.some.inj hr
  exact hR
 ·rintro _ _ _ rfl _
  simp at hr
 clear hf1
 rintro _ s2 a k rfl ⟨rfl, ⟨hg, hs, hd⟩, i3, i4, n4, _⟩
 dsimp only at hr
 refine wp_seq ?_
 obtain ⟨x5, hx5, hr⟩ := bind_some hr
 refine cut (fun a' k' => Bs noF k0 56 a' k' ∧ (IsV x1) (a'.get 3) k' ∧ IsOwn 0 3 x5 (a'.get 4) k' ∧ Lo k0 (obF (a'.get 4)) ∧ True) ?_ hQ ?_
 ·intro Q9 W9 w8
  refine gS 1 (⟨some (OwnAt (a.get 4) 0 3 s2.1), [(4, none)]⟩ :: []) hs (by kernel_rfl) ⟨ob1 rfl fun _ _ h n => ok_moveOA (.inl rfl) (ownAt n.1 (up i4 h n.1)), trivial⟩ W9 fun b q p => ?_
  have hgq := hg.then p.grow
  have hsb := p.size.trans hs
  have hdb := p.defers.trans hd
  have j3 := p.ke 3 rfl i3
  have j4 := p.ke 4 rfl i4
  have y4 : Lo k0 (obF (b.get 4)) := by rw [p.old 4 rfl]; exact n4
  have e25 : b.get 25 = a.get 4 := (p.ou 0 25 rfl).1
  have j25 : IsOwn 0 3 s2.1 (b.get 25) q := (p.ou 0 25 rfl).2
  have y25 : Lo k0 (obF (b.get 25)) := by rw [e25]; exact n4
  have hns := j25.nshF
  have eS : b.get 4 = b.get 25 := (p.old 4 rfl).trans e25.symm
  refine tail_call (F := obF (b.get 25)) (i := 1) (d := 26) rfl rfl rfl rfl (by rw [hsb]; decide) Try.call59 W9 (sortInts_ok j25 hx5) fun b2 q2 hsz hdf hoth hch hres => ?_
  have hle := hch.le hns
  replace j3 := Pers.pers hle j3
  replace hgq := hgq.step hch y25.wr
  replace j4 : IsOwn 0 3 x5 (b.get 4) q2 := by rw [eS]; exact hres
  clear hres eS
  rw [← hoth 3 (by decide)] at j3
  rw [← hoth 4 (by decide)] at j4
  rw [← hoth 4 (by decide)] at y4
  replace hsb := hsz.trans hsb
  replace hdb := hdf.trans hdb
  clear hle hch hns hsz hdf hoth
  obtain ⟨b, hbb⟩ : ∃ b, b = b2 := ⟨b2, rfl⟩
  subst hbb
  obtain ⟨q, hqq⟩ : ∃ q, q = q2 := ⟨q2, rfl⟩
  subst hqq
  exact tail_done (k := q) (w8 _ _ ⟨⟨hgq, hsb, hdb⟩, j3, j4, y4, trivial⟩)
 rintro a k ⟨⟨hg, hs, hd⟩, i3, i4, n4, _⟩
 refine wp_seq ?_
 obtain ⟨x7, hx7, hr⟩ := bind_some hr
 refine cut (fun a' k' => Bs noF k0 56 a' k' ∧ (IsV x1) (a'.get 3) k' ∧ IsOwn 0 3 x7 (a'.get 4) k' ∧ Lo k0 (obF (a'.get 4)) ∧ True) ?_ hQ ?_
 ·intro Q10 W10 w9
  refine gS 1 (⟨some (OwnAt (a.get 4) 0 3 x5), [(4, none)]⟩ :: []) hs (by kernel_rfl) ⟨ob1 rfl fun _ _ h n => ok_moveOA (.inl rfl) (ownAt n.1 (up i4 h n.1)), trivial⟩ W10 fun b q p => ?_
  have hgq := hg.then p.grow
  have hsb := p.size.trans hs
  have hdb := p.defers.trans hd
  have j3 := p.ke 3 rfl i3
  have e27 : b.get 27 = a.get 4 := (p.ou 0 27 rfl).1
  have j27 : IsOwn 0 3 x5 (b.get 27) q := (p.ou 0 27 rfl).2
  have y27 : Lo k0 (obF (b.get 27)) := by rw [e27]; exact n4
  have hns := j27.nshF
  refine tail_call (F := obF (b.get 27)) (i := 1) (d := 28) rfl rfl rfl rfl (by rw [hsb]; decide) Try.call60 W10 (compactInts_ok j27 hx7) fun b2 q2 hsz hdf hoth hch hres => ?_
  have hle := hch.le hns
  obtain ⟨hown, hob⟩ := hres
  have yn : Lo k0 (obF (b2.get 28)) := y27.app hgq hob
  replace j3 := Pers.pers hle j3
  replace hgq := hgq.step hch y27.wr
  rw [← hoth 3 (by decide)] at j3
  have j28 := hown
  have y28 := yn
  have hres := True.intro
  clear hown hob yn
  replace hsb := hsz.trans hsb
  replace hdb := hdf.trans hdb
  clear hle hch hres hns hsz hdf hoth
  obtain ⟨b, hbb⟩ : ∃ b, b = b2 := ⟨b2, rfl⟩
  subst hbb
  obtain ⟨q, hqq⟩ : ∃ q, q = q2 := ⟨q2, rfl⟩
  subst hqq
  refine tail_assign (i := 2) (d := 4) rfl rfl (.inl rfl) rfl (by rw [hsb]; decide) fun b2 hsz hdf hnew hoth => ?_
  have jn : (IsOwn 0 3 x7) (b2.get 4) q := by rw [hnew]; exact j28
  have yn : Lo k0 (obF (b2.get 4)) := by rw [hnew]; exact y28
  rw [← hoth 3 (by decide)] at j3
  have j4 := jn
  have y4 := yn
  replace hsb := hsz.trans hsb
  replace hdb := hdf.trans hdb
  clear hsz hdf hoth
  obtain ⟨b, hbb⟩ : ∃ b, b = b2 := ⟨b2, rfl⟩
  subst hbb
  exact tail_done (k := q) (w9 _ _ ⟨⟨hgq, hsb, hdb⟩, j3, j4, y4, trivial⟩)
 rintro a k ⟨⟨hg, hs, hd⟩, i3, i4, n4, _⟩
 refine wp_seq ?_
 obtain ⟨kk, sh1010, ii4⟩ := i4.give
 replace i3 := Pers.pers sh1010.le i3
 replace i4 := ii4
 replace hg := hg.hand sh1010 n4.wr
 rw [← sh1010.w]
 clear sh1010
 obtain ⟨k, hkk⟩ : ∃ k, k = kk := ⟨kk, rfl⟩
 subst hkk
 refine cut (fun a' k' => Bs noF k0 56 a' k' ∧ (IsV x1) (a'.get 3) k' ∧ (IsV x7) (a'.get 4) k' ∧ IsOwn 0 111 ([] : List RegionStrip) (a'.get 7) k' ∧ Lo k0 (obF (a'.get 7)) ∧ True) ?_ hQ ?_
 ·intro Q11 W11 w10
  refine gS 1 (⟨some IsE0, []⟩ :: []) hs (by kernel_rfl) ⟨ob1 rfl fun b q h n => ok_assign rfl isE0_nil, trivial⟩ W11 fun b q p => ?_
  have hgq := hg.then p.grow
  have hsb := p.size.trans hs
  have hdb := p.defers.trans hd
  have j3 := p.ke 3 rfl i3
  have j4 := p.ke 4 rfl i4
  have j7 : IsE0 (b.get 7) q := p.ou 0 7 rfl
  have y7 : Lo k0 (obF (b.get 7)) := j7.lo
  replace j7 : IsOwn 0 111 ([] : List RegionStrip) (b.get 7) q := j7.own0
  exact tail_done (k := q) (w10 _ _ ⟨⟨hgq, hsb, hdb⟩, j3, j4, j7, y7, trivial⟩)
 rintro a k ⟨⟨hg, hs, hd⟩, i3, i4, i7, n7, _⟩
 refine wp_seq ?_
 refine cutS (fun c l => Bs noF k0 56 c l ∧ IsV x1 (c.get 3) l ∧ IsV x7 (c.get 4) l ∧ IsOwn 0 111 ([] : List RegionStrip) (c.get 7) l ∧ Lo k0 (obF (c.get 7)) ∧ IsI 1 (c.get 8) l ∧ True) ?_ ?_
 ·intro Q12 W12 w11
  refine gS 1 (⟨some (IsI 1), []⟩ :: []) hs (by kernel_rfl) ⟨aI rfl rfl, trivial⟩ W12 fun b q p => ?_
  exact tail_done (k := q) (w11 _ _ ⟨Bs.post ⟨hg, hs, hd⟩ p, p.ke 3 rfl i3, p.ke 4 rfl i4, p.ke 7 rfl i7, (by rw [p.old 7 rfl]; exact n7), p.ou 0 8 rfl, trivial⟩)
 rintro a k ⟨⟨hg, hs, hd⟩, i3, i4, i7, n7, i8, _⟩
 refine wp_block ?_
 obtain ⟨f2, hf2, hr⟩ := bind_some hr
 refine cutFe f2 (fun s' c l => Bs noF k0 56 c l ∧ IsV x1 (c.get 3) l ∧ IsV x7 (c.get 4) l ∧ IsOwn 0 111 s'.1 (c.get 7) l ∧ Lo k0 (obF (c.get 7)) ∧ IsV s'.2 (c.get 8) l ∧ True) (fun i' s' c l => (i' = 2 ∧ Bs noF k0 56 c l ∧ IsOwn 0 111 s'.1 (c.get 7) l ∧ Lo k0 (obF (c.get 7)) ∧ True)) (fun r' c l => bodyPost Try.prog Try.f63 (RetC noF k0 (IsOwn k0.w.heap.size 111 r')) .ret c l.w) ?_ hQ ?_ ?_ ?_
 ·intro Q13 W13 hgo hex hret
  refine sim_loop ?_ _ _ _ _ _ hf2 ⟨⟨hg, hs, hd⟩, i3, i4, i7, n7, i8, trivial⟩ Q13 W13 hgo hex hret
  clear hr hf2 hgo hex hret W13 hQ hg hs hd i3 i4 i7 i8 n7
  intro s3 fl_ a k hr hS Q hQ hgo1014 hex1015 hret1016
  obtain ⟨⟨hg, hs, hd⟩, i3, i4, i7, n7, i8, _⟩ := hS
  unfold region_strips_L1 at hr
  refine wp_seq ?_
  refine cutS (fun c l => Bs noF k0 56 c l ∧ IsV x1 (c.get 3) l ∧ IsV x7 (c.get 4) l ∧ IsOwn 0 111 s3.1 (c.get 7) l ∧ Lo k0 (obF (c.get 7)) ∧ IsV s3.2 (c.get 8) l ∧ (IsV (decide (s3.2 < (x7.length : Int)))) (c.get 32) l ∧ True) ?_ ?_
  ·intro Q14 W14 w12
   refine gS 4 (_ :: _ :: _ :: _ :: []) hs (by kernel_rfl) ⟨mu rfl i8, mu rfl i4, o1 [(30, some 1)] rfl fun _ _ h n => ok_len rfl rfl Try.underlying63 (IsV.rd n.1), o1 [(29, some 0), (31, some 2)] rfl fun _ _ h n => ok_lss rfl n.1 n.2.1, trivial⟩ W14 fun b q p => ?_
   exact tail_done (k := q) (w12 _ _ ⟨Bs.post ⟨hg, hs, hd⟩ p, p.ke 3 rfl i3, p.ke 4 rfl i4, p.ke 7 rfl i7, (by rw [p.old 7 rfl]; exact n7), p.ke 8 rfl i8, p.ou 3 32 rfl, trivial⟩)
  rintro a k ⟨⟨hg, hs, hd⟩, i3, i4, i7, n7, i8, i32, _⟩
  refine wp_cond_split (isBool i32) (fun hc1024 => ?_) (fun hc1024 => ?_)
  ·rw [if_pos hc1024] at hr
   refine wp_skip ?_
   refine wp_seq ?_
   refine wp_block ?_
   obtain ⟨x8, hx8, hr⟩ := bind_some hr
   obtain ⟨x9, hx9, hr⟩ := bind_some hr
   obtain ⟨x10, hx10, hr⟩ := bind_some hr
   obtain ⟨x11, hx11, hr⟩ := bind_some hr
   obtain ⟨x12, hx12, hr⟩ := bind_some hr
   obtain ⟨x13, hx13, hr⟩ := bind_some hr
   obtain ⟨x14, hx14, hr⟩ := bind_some hr
   refine cut (fun a' k' => Bs noF k0 56 a' k' ∧ (IsV x1) (a'.get 3) k' ∧ (IsV x7) (a'.get 4) k' ∧ IsOwn 0 111 x14 (a'.get 7) k' ∧ Lo k0 (obF (a'.get 7)) ∧ (IsV s3.2) (a'.get 8) k' ∧ True) ?_ hQ ?_
   ·intro Q15 W15 w13
    refine region (m := 19) (⟨some (OwnAt (a.get 7) 0 111 s3.1), [(7, none)]⟩ :: _ :: _ :: _ :: _ :: _ :: _ :: _ :: _ :: _ :: _ :: _ :: _ :: _ :: _ :: _ :: _ :: ⟨some (IsV (⟨x9, x10, x13⟩ : RegionStrip)), [(40, some 5), (44, some 9), (51, some 16)]⟩ :: ⟨some (IsV (α := (List RegionStrip)) ([(⟨x9, x10, x13⟩ : RegionStrip)])), [(52, some 17)]⟩ :: []) hmix hs (by kernel_rfl) ⟨ob1 rfl fun _ _ h n => ok_moveOA (.inl rfl) (ownAt n.1 (up i7 h n.1)), mu rfl i4, mu rfl i8, o1 [(37, some 2)] rfl fun _ _ h n => ok_sub rfl n.1 (cI rfl) hx8, o1 [(36, some 1), (38, some 3)] rfl fun _ _ h n => ok_indexAddr rfl Try.underlying63 ty3 (IsV.rd n.1) n.2.1 hx9, o1 [(39, some 4)] rfl fun _ _ h n => ok_load rfl ty3 n.1, mu rfl i4, mu rfl i8, o1 [(41, some 6), (42, some 7)] rfl fun _ _ h n => ok_indexAddr rfl Try.underlying63 ty3 (IsV.rd n.1) n.2.1 hx10, o1 [(43, some 8)] rfl fun _ _ h n => ok_load rfl ty3 n.1, mu rfl i3, mu rfl i4, mu rfl i8, o1 [(47, some 12)] rfl fun _ _ h n => ok_sub rfl n.1 (cI rfl) hx11, o1 [(46, some 11), (48, some 13)] rfl fun _ _ h n => ok_indexAddr rfl Try.underlying63 ty3 (IsV.rd n.1) n.2.1 hx12, o1 [(49, some 14)] rfl fun _ _ h n => ok_load rfl ty3 n.1, o1 [(45, some 10), (50, some 15)] rfl fun _ _ h n => ok_call rfl Try.call83 (region_column_ok n.1 n.2.1 hx13), ob1 rfl fun _ _ h n => ok_build rfl (bld111_0_1_2 n.1 n.2.1 n.2.2.1), ob1 rfl fun _ _ h n => ok_buildSlice rfl Try.underlying88 eo111 rfl (by decide) (by decide) ⟨rfl, n.1, trivial⟩, trivial⟩ W15 fun b q p => ?_
    have hgq := hg.then p.grow
    have hsb := p.size.trans hs
    have hdb := p.defers.trans hd
    have j3 := p.ke 3 rfl i3
    have j4 := p.ke 4 rfl i4
    have j8 := p.ke 8 rfl i8
    have e35 : b.get 35 = a.get 7 := (p.ou 0 35 rfl).1
    have j35 : IsOwn 0 111 s3.1 (b.get 35) q := (p.ou 0 35 rfl).2
    have y35 : Lo k0 (obF (b.get 35)) := by rw [e35]; exact n7
    have j53 : (IsV (α := (List RegionStrip)) ([(⟨x9, x10, x13⟩ : RegionStrip)])) (b.get 53) q := p.ou 18 53 rfl
    have hns := j35.nshF
    refine tail_appendS (i := 19) (d := 54) rfl rfl rfl rfl (by rw [hsb]; decide) (e := 111) Try.underlying88 eo111 j35 (IsV.rd j53) hx14 fun b2 q2 hsz hdf hoth hch hown hob => ?_
    have hle := hch.le hns
    have yn : Lo k0 (obF (b2.get 54)) := y35.app hgq hob
    replace j3 := Pers.pers hle j3
    replace j4 := Pers.pers hle j4
    replace j8 := Pers.pers hle j8
    replace j53 := Pers.pers hle j53
    replace hgq := hgq.step hch y35.wr
    rw [← hoth 3 (by decide)] at j3
    rw [← hoth 4 (by decide)] at j4
    rw [← hoth 8 (by decide)] at j8
    rw [← hoth 53 (by decide)] at j53
    have j54 := hown
    have y54 := yn
    replace hsb := hsz.trans hsb
    replace hdb := hdf.trans hdb
    clear hle hch hown hob hns yn hsz hdf hoth
    obtain ⟨b, hbb⟩ : ∃ b, b = b2 := ⟨b2, rfl⟩
    subst hbb
    obtain ⟨q, hqq⟩ : ∃ q, q = q2 := ⟨q2, rfl⟩
    subst hqq
    refine tail_assign (i := 20) (d := 7) rfl rfl (.inl rfl) rfl (by rw [hsb]; decide) fun b2 hsz hdf hnew hoth => ?_
    have jn : (IsOwn 0 111 x14) (b2.get 7) q := by rw [hnew]; exact j54
    have yn : Lo k0 (obF (b2.get 7)) := by rw [hnew]; exact y54
    rw [← hoth 3 (by decide)] at j3
    rw [← hoth 4 (by decide)] at j4
    rw [← hoth 8 (by decide)] at j8
    rw [← hoth 53 (by decide)] at j53
    have j7 := jn
    have y7 := yn
    replace hsb := hsz.trans hsb
    replace hdb := hdf.trans hdb
    clear hsz hdf hoth
    obtain ⟨b, hbb⟩ : ∃ b, b = b2 := ⟨b2, rfl⟩
    subst hbb
    exact tail_done (k := q) (w13 _ _ ⟨⟨hgq, hsb, hdb⟩, j3, j4, j7, y7, j8, trivial⟩)
   rintro a k ⟨⟨hg, hs, hd⟩, i3, i4, i7, n7, i8, _⟩
   obtain ⟨x15, hx15, hr⟩ := bind_some hr
   refine cut (fun a' k' => Bs noF k0 56 a' k' ∧ (IsV x1) (a'.get 3) k' ∧ (IsV x7) (a'.get 4) k' ∧ IsOwn 0 111 x14 (a'.get 7) k' ∧ Lo k0 (obF (a'.get 7)) ∧ (IsV x15) (a'.get 8) k' ∧ True) ?_ hQ ?_
   ·intro Q16 W16 w14
    refine gS 3 (_ :: _ :: _ :: []) hs (by kernel_rfl) ⟨mu rfl i8, o1 [(33, some 0)] rfl fun _ _ h n => ok_add rfl n.1 (cI rfl) hx15, cp 1 rfl rfl, trivial⟩ W16 fun b q p => ?_
    exact tail_done (k := q) (w14 _ _ ⟨Bs.post ⟨hg, hs, hd⟩ p, p.ke 3 rfl i3, p.ke 4 rfl i4, p.ke 7 rfl i7, (by rw [p.old 7 rfl]; exact n7), p.ou 2 8 rfl, trivial⟩)
   rintro a k ⟨⟨hg, hs, hd⟩, i3, i4, i7, n7, i8, _⟩
   exact hgo1014 _ _ _ (Option.some.inj hr).symm ⟨⟨hg, hs, hd⟩, i3, i4, i7, n7, i8, trivial⟩
  rw [if_neg (by rw [hc1024]; decide)] at hr
  refine wp_exit ?_
  exact hex1015 _ _ _ _ (Option.some.inj hr).symm ⟨rfl, ⟨hg, hs, hd⟩, i7, n7, trivial⟩
 ·rintro r2 a k rfl hR
  dsimp only at hr
  obtain rfl := Option.some.inj hr
  exact hR
 ·rintro _ _ _ rfl _
  simp at hr
 clear hf2
 rintro _ s4 a k rfl ⟨rfl, ⟨hg, hs, hd⟩, i7, n7, _⟩
 dsimp only at hr
 refine cutS (fun c l => Bs noF k0 56 c l ∧ IsOwn 0 111 s4.1 (c.get 2) l ∧ Lo k0 (obF (c.get 2)) ∧ True) ?_ ?_
 ·intro Q17 W17 w15
  refine gS 2 (⟨some (OwnAt (a.get 7) 0 111 s4.1), [(7, none)]⟩ :: ⟨some (OwnAt (a.get 7) 0 111 s4.1), [(55, some 0)]⟩ :: []) hs (by kernel_rfl) ⟨ob1 rfl fun _ _ h n => ok_moveOA (.inl rfl) (ownAt n.1 (up i7 h n.1)), ob1 rfl fun _ _ h n => ok_moveOA (.inr rfl) n.1, trivial⟩ W17 fun b q p => ?_
  have hgq := hg.then p.grow
  have hsb := p.size.trans hs
  have hdb := p.defers.trans hd
  have e2 : b.get 2 = a.get 7 := (p.ou 1 2 rfl).1
  have j2 : IsOwn 0 111 s4.1 (b.get 2) q := (p.ou 1 2 rfl).2
  have y2 : Lo k0 (obF (b.get 2)) := by rw [e2]; exact n7
  exact tail_done (k := q) (w15 _ _ ⟨⟨hgq, hsb, hdb⟩, j2, y2, trivial⟩)
 rintro a k ⟨⟨hg, hs, hd⟩, i2, n2, _⟩
 refine wp_ret ?_
 obtain rfl := Option.some.inj hr
 exact retC1 rfl hd hg (show ResOk _ _ _ (.tmp 2) _ from IsOwn.raise (k0 := k0) i2 n2)
theorem region_strips_ok {k0 : K} {v0 : Value} {lists_ : (List (List Rect))} {r : (List RegionStrip)} (i0 : (IsV lists_) v0 k0) (hr : region_strips lists_ = some r) :
  Calls Try.prog 63 #[v0] k0.w (Ret k0 (IsV r)) :=
 ret_give (region_strips_okO i0 hr)
def slices_Equal_span_L0 (s1_ : (List RegionSpan)) (s2_ : (List RegionSpan)) (s1 : Int) : Option (Flow (Int) (Bool)) :=
 if (decide (s1 < (s1_.length : Int))) then
  (getI s1_ s1).bind fun x1 =>
  (getI s2_ s1).bind fun x2 =>
  if (!decide (x1 = x2)) then
   some (.ret false)
  else
   (addI s1 1).bind fun x3 =>
   some (.go x3)
 else
  some (.ex 0 s1)
def slices_Equal_span (s1_ : (List RegionSpan)) (s2_ : (List RegionSpan)) : Option (Bool) :=
 if ((s1_.length : Int) != (s2_.length : Int)) then
  some false
 else
  (iterL (slices_Equal_span_L0 s1_ s2_) (s1_.length + 1) 0).bind fun f1 => match f1 with
   | .go _ => none
   | .ex _ _ =>
    some true
   | .ret r1 => some r1
theorem slices_Equal_span_ok {k0 : K} {v0 v1 : Value} {s1_ : (List RegionSpan)} {s2_ : (List RegionSpan)} {r : Bool} (i0 : (IsV s1_) v0 k0) (i1 : (IsV s2_) v1 k0) (hr : slices_Equal_span s1_ s2_ = some r) :
  Calls Try.prog 81 #[v0, v1] k0.w (Ret k0 (IsV r)) := by
 unfold slices_Equal_span at hr
 refine Ret.ofC ?_
 refine enterK Try.func81 rfl Try.ntmps81 (show 2 ≤ 26 by decide) fun a k hk0 hs hd ha => ?_
 obtain ⟨e0, e1, _⟩ := ha
 replace i0 : (IsV s1_) (a.get 0) k := by rw [e0, hk0]; exact i0
 replace i1 : (IsV s2_) (a.get 1) k := by rw [e1, hk0]; exact i1
 have hQ : Gb.LetsOut (bodyPost Try.prog Try.f81 (RetC noF k0 (IsV r))) := letsOutC
 have hg : Chg noF k0 k := by rw [hk0]; exact Chg.refl _ k0
 refine stepL 1 (⟨some (IsV false), []⟩ :: []) rfl ⟨hg, hs, hd⟩ (by kernel_rfl) ⟨ob1 rfl fun _ _ h n => ok_assign rfl (isV_bool.2 rfl), trivial⟩ [⟨_, _⟩, ⟨_, _⟩] (fun b q p => ⟨p.ke 0 rfl i0, p.ke 1 rfl i1, trivial⟩) ?_
 rintro a k ⟨⟨hg, hs, hd⟩, i0, i1, _⟩
 refine wp_seq ?_
 refine stepL 5 (_ :: _ :: _ :: _ :: ⟨some (IsV ((s1_.length : Int) != (s2_.length : Int))), [(7, some 1), (9, some 3)]⟩ :: []) rfl ⟨hg, hs, hd⟩ (by kernel_rfl) ⟨mu rfl i0, o1 [(6, some 0)] rfl fun _ _ h n => ok_len rfl rfl Try.underlying107 (IsV.rd n.1), mu rfl i1, o1 [(8, some 2)] rfl fun _ _ h n => ok_len rfl rfl Try.underlying107 (IsV.rd n.1), ob1 rfl fun _ _ h n => ok_neI rfl n.1 n.2.1, trivial⟩ [⟨_, _⟩, ⟨_, _⟩, ⟨_, _⟩] (fun b q p => ⟨p.ke 0 rfl i0, p.ke 1 rfl i1, p.ou 4 10 rfl, trivial⟩) ?_
 rintro a k ⟨⟨hg, hs, hd⟩, i0, i1, i10, _⟩
 refine wp_cond_split (isBool i10) (fun hc1088 => ?_) (fun hc1088 => ?_)
 ·rw [if_pos hc1088] at hr
  refine stepL 1 (⟨some (IsV false), []⟩ :: []) rfl ⟨hg, hs, hd⟩ (by kernel_rfl) ⟨ob1 rfl fun _ _ h n => ok_assign rfl (isV_bool.2 rfl), trivial⟩ [⟨_, _⟩] (fun b q p => ⟨p.ou 0 4 rfl, trivial⟩) ?_
  rintro a k ⟨⟨hg, hs, hd⟩, i4, _⟩
  refine wp_ret ?_
  obtain rfl := Option.some.inj hr
  exact retC1 rfl hd hg i4
 rw [if_neg (by rw [hc1088]; decide)] at hr
 refine wp_skip ?_
 refine wp_seq ?_
 refine stepL 3 (_ :: _ :: ⟨some (IsI 0), []⟩ :: []) rfl ⟨hg, hs, hd⟩ (by kernel_rfl) ⟨mu rfl i0, o1 [(11, some 0)] rfl fun _ _ h n => ok_len rfl rfl Try.underlying107 (IsV.rd n.1), ob1 rfl fun _ _ h n => ok_move rfl (cI rfl), trivial⟩ [⟨_, _⟩, ⟨_, _⟩, ⟨_, _⟩, ⟨_, _⟩] (fun b q p => ⟨p.ke 0 rfl i0, p.ke 1 rfl i1, p.ou 1 12 rfl, p.ou 2 13 rfl, trivial⟩) ?_
 rintro a k ⟨⟨hg, hs, hd⟩, i0, i1, i12, i13, _⟩
 refine wp_block ?_
 obtain ⟨f1, hf1, hr⟩ := bind_some hr
 refine cutFe f1 (fun s' c l => Bs noF k0 26 c l ∧ IsV s1_ (c.get 0) l ∧ IsV s2_ (c.get 1) l ∧ IsL s1_ (c.get 12) l ∧ IsV s' (c.get 13) l ∧ True) (fun i' s' c l => (i' = 0 ∧ Bs noF k0 26 c l ∧ True)) (fun r' c l => bodyPost Try.prog Try.f81 (RetC noF k0 (IsV r')) .ret c l.w) ?_ hQ ?_ ?_ ?_
 ·intro Q1 W1 hgo hex hret
  refine sim_loop ?_ _ _ _ _ _ hf1 ⟨⟨hg, hs, hd⟩, i0, i1, i12, i13, trivial⟩ Q1 W1 hgo hex hret
  clear hr hf1 hgo hex hret W1 hQ hg hs hd i0 i1 i12 i13
  intro s1 fl_ a k hr hS Q hQ hgo1059 hex1060 hret1061
  obtain ⟨⟨hg, hs, hd⟩, i0, i1, i12, i13, _⟩ := hS
  unfold slices_Equal_span_L0 at hr
  refine stepL 1 (_ :: []) rfl ⟨hg, hs, hd⟩ (by kernel_rfl) ⟨o1 [(13, none), (12, none)] rfl fun _ _ h n => ok_lss rfl (up i13 h n.1) (up i12 h n.2.1), trivial⟩ [⟨_, _⟩, ⟨_, _⟩, ⟨_, _⟩, ⟨_, _⟩, ⟨_, _⟩] (fun b q p => ⟨p.ke 0 rfl i0, p.ke 1 rfl i1, p.ke 12 rfl i12, p.ke 13 rfl i13, p.ou 0 14 rfl, trivial⟩) ?_
  rintro a k ⟨⟨hg, hs, hd⟩, i0, i1, i12, i13, i14, _⟩
  refine wp_seq ?_
  refine wp_cond_split (isBool i14) (fun hc1076 => ?_) (fun hc1076 => ?_)
  ·rw [if_pos hc1076] at hr
   refine wp_skip ?_
   refine wp_seq ?_
   refine wp_block ?_
   refine stepL 2 (_ :: _ :: []) rfl ⟨hg, hs, hd⟩ (by kernel_rfl) ⟨mu rfl i13, cp 0 rfl rfl, trivial⟩ [⟨_, _⟩, ⟨_, _⟩, ⟨_, _⟩, ⟨_, _⟩, ⟨_, _⟩] (fun b q p => ⟨p.ke 0 rfl i0, p.ke 1 rfl i1, p.ou 1 5 rfl, p.ke 12 rfl i12, p.ke 13 rfl i13, trivial⟩) ?_
   rintro a k ⟨⟨hg, hs, hd⟩, i0, i1, i5, i12, i13, _⟩
   refine wp_seq ?_
   obtain ⟨x1, hx1, hr⟩ := bind_some hr
   obtain ⟨x2, hx2, hr⟩ := bind_some hr
   refine cut (fun a' k' => Bs noF k0 26 a' k' ∧ (IsV s1_) (a'.get 0) k' ∧ (IsV s2_) (a'.get 1) k' ∧ (IsL s1_) (a'.get 12) k' ∧ (IsV s1) (a'.get 13) k' ∧ (IsV (!decide (x1 = x2))) (a'.get 24) k' ∧ True) ?_ hQ ?_
   ·intro Q2 W2 w1
    refine region (m := 9) (_ :: _ :: _ :: _ :: _ :: _ :: _ :: _ :: ⟨some (IsV (!decide (x1 = x2))), [(19, some 3), (23, some 7)]⟩ :: []) hmix hs (by kernel_rfl) ⟨mu rfl i0, mu rfl i5, o1 [(16, some 0), (17, some 1)] rfl fun _ _ h n => ok_indexAddr rfl Try.underlying107 ty109 (IsV.rd n.1) n.2.1 hx1, o1 [(18, some 2)] rfl fun _ _ h n => ok_load rfl ty109 n.1, mu rfl i1, mu rfl i5, o1 [(20, some 4), (21, some 5)] rfl fun _ _ h n => ok_indexAddr rfl Try.underlying107 ty109 (IsV.rd n.1) n.2.1 hx2, o1 [(22, some 6)] rfl fun _ _ h n => ok_load rfl ty109 n.1, ob1 rfl fun _ _ h n => ok_neA rfl eq109 n.1 n.2.1, trivial⟩ W2 fun b q p => ?_
    exact tail_done (k := q) (w1 _ _ ⟨Bs.post ⟨hg, hs, hd⟩ p, p.ke 0 rfl i0, p.ke 1 rfl i1, p.ke 12 rfl i12, p.ke 13 rfl i13, p.ou 8 24 rfl, trivial⟩)
   rintro a k ⟨⟨hg, hs, hd⟩, i0, i1, i12, i13, i24, _⟩
   refine wp_cond_split (isBool i24) (fun hc1071 => ?_) (fun hc1071 => ?_)
   ·rw [if_pos hc1071] at hr
    refine stepL 1 (⟨some (IsV false), []⟩ :: []) rfl ⟨hg, hs, hd⟩ (by kernel_rfl) ⟨ob1 rfl fun _ _ h n => ok_assign rfl (isV_bool.2 rfl), trivial⟩ [⟨_, _⟩] (fun b q p => ⟨p.ou 0 4 rfl, trivial⟩) ?_
    rintro a k ⟨⟨hg, hs, hd⟩, i4, _⟩
    refine wp_ret ?_
    exact hret1061 _ _ _ (Option.some.inj hr).symm (retC1 rfl hd hg i4)
   rw [if_neg (by rw [hc1071]; decide)] at hr
   refine wp_skip ?_
   obtain ⟨x3, hx3, hr⟩ := bind_some hr
   refine cut (fun a' k' => Bs noF k0 26 a' k' ∧ (IsV s1_) (a'.get 0) k' ∧ (IsV s2_) (a'.get 1) k' ∧ (IsL s1_) (a'.get 12) k' ∧ (IsV x3) (a'.get 13) k' ∧ True) ?_ hQ ?_
   ·intro Q3 W3 w2
    refine gS 2 (_ :: _ :: []) hs (by kernel_rfl) ⟨o1 [(13, none)] rfl fun _ _ h n => ok_add rfl (up i13 h n.1) (cI rfl) hx3, cm 0 rfl rfl, trivial⟩ W3 fun b q p => ?_
    exact tail_done (k := q) (w2 _ _ ⟨Bs.post ⟨hg, hs, hd⟩ p, p.ke 0 rfl i0, p.ke 1 rfl i1, p.ke 12 rfl i12, p.ou 1 13 rfl, trivial⟩)
   rintro a k ⟨⟨hg, hs, hd⟩, i0, i1, i12, i13, _⟩
   exact hgo1059 _ _ _ (Option.some.inj hr).symm ⟨⟨hg, hs, hd⟩, i0, i1, i12, i13, trivial⟩
  rw [if_neg (by rw [hc1076]; decide)] at hr
  refine wp_exit ?_
  exact hex1060 _ _ _ _ (Option.some.inj hr).symm ⟨rfl, ⟨hg, hs, hd⟩, trivial⟩
 ·rintro r1 a k rfl hR
  dsimp only at hr
  obtain rfl := Option.some.inj hr
  exact hR
 ·rintro _ _ _ rfl _
  simp at hr
 clear hf1
 rintro _ s2 a k rfl ⟨rfl, ⟨hg, hs, hd⟩, _⟩
 dsimp only at hr
 refine stepL 1 (⟨some (IsV true), []⟩ :: []) rfl ⟨hg, hs, hd⟩ (by kernel_rfl) ⟨ob1 rfl fun _ _ h n => ok_assign rfl (isV_bool.2 rfl), trivial⟩ [⟨_, _⟩] (fun b q p => ⟨p.ou 0 4 rfl, trivial⟩) ?_
 rintro a k ⟨⟨hg, hs, hd⟩, i4, _⟩
 refine wp_ret ?_
 obtain rfl := Option.some.inj hr
 exact retC1 rfl hd hg i4
def region_write_L1 (l_ : (List RegionStrip)) (s1 : (List Rect) × Int) (s2 : Int) : Option (Flow (Int) ((List Rect))) :=
 (if (decide (s2 < (l_.length : Int))) then
  (getI l_ s2).bind fun x1 =>
  (getI l_ s1.2).bind fun x2 =>
  (slices_Equal_span x1.column x2.column).bind fun x3 =>
  some x3
 else
  some false).bind fun x4 =>
 if x4 then
  (addI s2 1).bind fun x5 =>
  some (.go x5)
 else
  some (.ex 2 s2)
def region_write_L2 (l_ : (List RegionStrip)) (s1 : (List Rect) × Int) (s2 : Int) (x2 : RegionStrip) (s3 : (List Rect) × Int) : Option (Flow ((List Rect) × Int) ((List Rect))) :=
 if (decide (s3.2 < (x2.column.length : Int))) then
  (getI x2.column s3.2).bind fun x3 =>
  (getI l_ s1.2).bind fun x4 =>
  (subI s2 1).bind fun x5 =>
  (getI l_ x5).bind fun x6 =>
  (appI s3.1 ([(⟨x4.x0, x3.from_, x6.x1, x3.to_⟩ : Rect)])).bind fun x7 =>
  (addI s3.2 1).bind fun x8 =>
  some (.go (x7, x8))
 else
  some (.ex 4 (s3.1, s3.2))
def region_write_L0 (l_ : (List RegionStrip)) (s1 : (List Rect) × Int) : Option (Flow ((List Rect) × Int) ((List Rect))) :=
 if (decide (s1.2 < (l_.length : Int))) then
  (addI s1.2 1).bind fun x1 =>
  (iterL (region_write_L1 l_ s1) (l_.length + s1.1.length + 1) x1).bind fun f1 => match f1 with
   | .go _ => none
   | .ex _ s2 =>
    (getI l_ s1.2).bind fun x2 =>
    (iterL (region_write_L2 l_ s1 s2 x2) (x2.column.length + 1) (s1.1, 0)).bind fun f2 => match f2 with
     | .go _ => none
     | .ex _ s3 =>
      some (.go (s3.1, s2))
     | .ret r1 => some (.ret r1)
   | .ret r2 => some (.ret r2)
 else
  some (.ex 0 (s1.1, s1.2))
def region_write (l_ : (List RegionStrip)) : Option ((List Rect)) :=
 (iterL (region_write_L0 l_) (l_.length + ([] : List Rect).length + 1) (([] : List Rect), 0)).bind fun f1 => match f1 with
  | .go _ => none
  | .ex _ s1 =>
   some s1.1
  | .ret r1 => some r1
theorem region_write_ok {k0 : K} {v0 : Value} {l_ : (List RegionStrip)} {r : (List Rect)} (i0 : (IsV l_) v0 k0) (hr : region_write l_ = some r) :
  Calls Try.prog 62 #[v0] k0.w (Ret k0 (IsV r)) := by
 unfold region_write at hr
 refine Ret.ofC ?_
 refine enterK Try.func62 rfl Try.ntmps62 (show 1 ≤ 65 by decide) fun a k hk0 hs hd ha => ?_
 obtain ⟨e0, _⟩ := ha
 replace i0 : (IsV l_) (a.get 0) k := by rw [e0, hk0]; exact i0
 have hQ : Gb.LetsOut (bodyPost Try.prog Try.f62 (RetC noF k0 (IsV r))) := letsOutC
 have hg : Chg noF k0 k := by rw [hk0]; exact Chg.refl _ k0
 refine stepL 1 (⟨some IsE0, []⟩ :: []) rfl ⟨hg, hs, hd⟩ (by kernel_rfl) ⟨ob1 rfl fun b q h n => ok_assign rfl isE0_nil, trivial⟩ [⟨_, _⟩] (fun b q p => ⟨p.ke 0 rfl i0, trivial⟩) ?_
 rintro a k ⟨⟨hg, hs, hd⟩, i0, _⟩
 refine cutS (fun c l => Bs noF k0 65 c l ∧ IsV l_ (c.get 0) l ∧ IsOwn 0 35 ([] : List Rect) (c.get 3) l ∧ Lo k0 (obF (c.get 3)) ∧ True) ?_ ?_
 ·intro Q1 W1 w1
  refine gS 1 (⟨some IsE0, []⟩ :: []) hs (by kernel_rfl) ⟨ob1 rfl fun b q h n => ok_assign rfl isE0_nil, trivial⟩ W1 fun b q p => ?_
  have hgq := hg.then p.grow
  have hsb := p.size.trans hs
  have hdb := p.defers.trans hd
  have j0 := p.ke 0 rfl i0
  have j3 : IsE0 (b.get 3) q := p.ou 0 3 rfl
  have y3 : Lo k0 (obF (b.get 3)) := j3.lo
  replace j3 : IsOwn 0 35 ([] : List Rect) (b.get 3) q := j3.own0
  exact tail_done (k := q) (w1 _ _ ⟨⟨hgq, hsb, hdb⟩, j0, j3, y3, trivial⟩)
 rintro a k ⟨⟨hg, hs, hd⟩, i0, i3, n3, _⟩
 refine wp_seq ?_
 refine cutS (fun c l => Bs noF k0 65 c l ∧ IsV l_ (c.get 0) l ∧ IsOwn 0 35 ([] : List Rect) (c.get 3) l ∧ Lo k0 (obF (c.get 3)) ∧ IsI 0 (c.get 4) l ∧ True) ?_ ?_
 ·intro Q2 W2 w2
  refine gS 1 (⟨some (IsI 0), []⟩ :: []) hs (by kernel_rfl) ⟨aI rfl rfl, trivial⟩ W2 fun b q p => ?_
  exact tail_done (k := q) (w2 _ _ ⟨Bs.post ⟨hg, hs, hd⟩ p, p.ke 0 rfl i0, p.ke 3 rfl i3, (by rw [p.old 3 rfl]; exact n3), p.ou 0 4 rfl, trivial⟩)
 rintro a k ⟨⟨hg, hs, hd⟩, i0, i3, n3, i4, _⟩
 refine wp_block ?_
 obtain ⟨f1, hf1, hr⟩ := bind_some hr
 refine cutFe f1 (fun s' c l => Bs noF k0 65 c l ∧ IsV l_ (c.get 0) l ∧ IsOwn 0 35 s'.1 (c.get 3) l ∧ Lo k0 (obF (c.get 3)) ∧ IsV s'.2 (c.get 4) l ∧ True) (fun i' s' c l => (i' = 0 ∧ Bs noF k0 65 c l ∧ IsV s'.1 (c.get 3) l ∧ True)) (fun r' c l => bodyPost Try.prog Try.f62 (RetC noF k0 (IsV r')) .ret c l.w) ?_ hQ ?_ ?_ ?_
 ·intro Q3 W3 hgo hex hret
  refine sim_loop ?_ _ _ _ _ _ hf1 ⟨⟨hg, hs, hd⟩, i0, i3, n3, i4, trivial⟩ Q3 W3 hgo hex hret
  clear hr hf1 hgo hex hret W3 hQ hg hs hd i0 i3 i4 n3
  intro s1 fl_ a k hr hS Q hQ hgo1097 hex1098 hret1099
  obtain ⟨⟨hg, hs, hd⟩, i0, i3, n3, i4, _⟩ := hS
  unfold region_write_L0 at hr
  refine wp_seq ?_
  refine cutS (fun c l => Bs noF k0 65 c l ∧ IsV l_ (c.get 0) l ∧ IsOwn 0 35 s1.1 (c.get 3) l ∧ Lo k0 (obF (c.get 3)) ∧ IsV s1.2 (c.get 4) l ∧ (IsV (decide (s1.2 < (l_.length : Int)))) (c.get 11) l ∧ True) ?_ ?_
  ·intro Q4 W4 w3
   refine gS 4 (_ :: _ :: _ :: _ :: []) hs (by kernel_rfl) ⟨mu rfl i4, mu rfl i0, o1 [(9, some 1)] rfl fun _ _ h n => ok_len rfl rfl Try.underlying88 (IsV.rd n.1), o1 [(8, some 0), (10, some 2)] rfl fun _ _ h n => ok_lss rfl n.1 n.2.1, trivial⟩ W4 fun b q p => ?_
   exact tail_done (k := q) (w3 _ _ ⟨Bs.post ⟨hg, hs, hd⟩ p, p.ke 0 rfl i0, p.ke 3 rfl i3, (by rw [p.old 3 rfl]; exact n3), p.ke 4 rfl i4, p.ou 3 11 rfl, trivial⟩)
  rintro a k ⟨⟨hg, hs, hd⟩, i0, i3, n3, i4, i11, _⟩
  refine wp_cond_split (isBool i11) (fun hc1147 => ?_) (fun hc1147 => ?_)
  ·rw [if_pos hc1147] at hr
   refine wp_skip ?_
   refine wp_block ?_
   refine wp_seq ?_
   obtain ⟨x2, hx2, hr⟩ := bind_some hr
   refine cut (fun a' k' => Bs noF k0 65 a' k' ∧ (IsV l_) (a'.get 0) k' ∧ IsOwn 0 35 s1.1 (a'.get 3) k' ∧ Lo k0 (obF (a'.get 3)) ∧ (IsV s1.2) (a'.get 4) k' ∧ (IsV x2) (a'.get 5) k' ∧ True) ?_ hQ ?_
   ·intro Q5 W5 w4
    refine gS 3 (_ :: _ :: _ :: []) hs (by kernel_rfl) ⟨mu rfl i4, o1 [(12, some 0)] rfl fun _ _ h n => ok_add rfl n.1 (cI rfl) hx2, cp 1 rfl rfl, trivial⟩ W5 fun b q p => ?_
    exact tail_done (k := q) (w4 _ _ ⟨Bs.post ⟨hg, hs, hd⟩ p, p.ke 0 rfl i0, p.ke 3 rfl i3, (by rw [p.old 3 rfl]; exact n3), p.ke 4 rfl i4, p.ou 2 5 rfl, trivial⟩)
   rintro a k ⟨⟨hg, hs, hd⟩, i0, i3, n3, i4, i5, _⟩
   refine wp_seq ?_
   refine wp_block ?_
   obtain ⟨f2, hf2, hr⟩ := bind_some hr
   refine cutFe f2 (fun s' c l => Bs noF k0 65 c l ∧ IsV l_ (c.get 0) l ∧ IsOwn 0 35 s1.1 (c.get 3) l ∧ Lo k0 (obF (c.get 3)) ∧ IsV s1.2 (c.get 4) l ∧ IsV s' (c.get 5) l ∧ True) (fun i' s' c l => (i' = 2 ∧ Bs noF k0 65 c l ∧ IsV l_ (c.get 0) l ∧ IsOwn 0 35 s1.1 (c.get 3) l ∧ Lo k0 (obF (c.get 3)) ∧ IsV s1.2 (c.get 4) l ∧ IsV s' (c.get 5) l ∧ True)) (fun r' c l => bodyPost Try.prog Try.f62 (RetC noF k0 (IsV r')) .ret c l.w) ?_ hQ ?_ ?_ ?_
   ·intro Q6 W6 hgo hex hret
    refine sim_loop ?_ _ _ _ _ _ hf2 ⟨⟨hg, hs, hd⟩, i0, i3, n3, i4, i5, trivial⟩ Q6 W6 hgo hex hret
    clear hr hf2 hgo hex hret W6 hQ hg hs hd i0 i3 i4 i5 n3
    intro s2 fl_ a k hr hS Q hQ hgo1103 hex1104 hret1105
    obtain ⟨⟨hg, hs, hd⟩, i0, i3, n3, i4, i5, _⟩ := hS
    unfold region_write_L1 at hr
    refine wp_seq ?_
    refine wp_seq ?_
    obtain ⟨x3, hx3, hr⟩ := bind_some hr
    obtain ⟨x4, hx4, hx3⟩ := ite_bind hx3
    obtain ⟨x5, hx5, hx3⟩ := ite_bind hx3
    obtain ⟨x6, hx6, hx3⟩ := ite_bind hx3
    refine cut (fun a' k' => Bs noF k0 65 a' k' ∧ (IsV l_) (a'.get 0) k' ∧ IsOwn 0 35 s1.1 (a'.get 3) k' ∧ Lo k0 (obF (a'.get 3)) ∧ (IsV s1.2) (a'.get 4) k' ∧ (IsV s2) (a'.get 5) k' ∧ (IsV x3) (a'.get 30) k' ∧ True) ?_ hQ ?_
    ·intro Q7 W7 w5
     refine region (m := 17) (_ :: _ :: _ :: _ :: _ :: _ :: _ :: _ :: _ :: _ :: _ :: _ :: _ :: _ :: _ :: _ :: _ :: []) hmix hs (by kernel_rfl) ⟨mu rfl i5, mu rfl i0, o1 [(15, some 1)] rfl fun _ _ h n => ok_len rfl rfl Try.underlying88 (IsV.rd n.1), o1 [(14, some 0), (16, some 2)] rfl fun _ _ h n => ok_lss rfl n.1 n.2.1, cm 3 rfl rfl, mT rfl rfl i0, mT rfl rfl i5, gT [(19, some 5), (20, some 6)] rfl rfl fun hp _ _ h n => ok_indexAddr rfl Try.underlying88 ty111 (IsV.rd (Gd.get n.1 hp)) (Gd.get n.2.1 hp) (hx4 hp), gT [(21, some 7)] rfl rfl fun hp _ _ h n => ok_fieldAddr rfl fo111_2 (at_RegionStrip_2 _) (Gd.get n.1 hp), gT [(22, some 8)] rfl rfl fun hp _ _ h n => ok_load rfl ty107 (Gd.get n.1 hp), mT rfl rfl i0, mT rfl rfl i4, gT [(24, some 10), (25, some 11)] rfl rfl fun hp _ _ h n => ok_indexAddr rfl Try.underlying88 ty111 (IsV.rd (Gd.get n.1 hp)) (Gd.get n.2.1 hp) (hx5 hp), gT [(26, some 12)] rfl rfl fun hp _ _ h n => ok_fieldAddr rfl fo111_2 (at_RegionStrip_2 _) (Gd.get n.1 hp), gT [(27, some 13)] rfl rfl fun hp _ _ h n => ok_load rfl ty107 (Gd.get n.1 hp), gT [(23, some 9), (28, some 14)] rfl rfl fun hp _ _ h n => ok_call rfl Try.call81 (slices_Equal_span_ok (Gd.get n.1 hp) (Gd.get n.2.1 hp) (hx6 hp)), o1 [(18, some 4), (29, some 15)] rfl fun _ _ h n => ok_pickM rfl n.1 hx3 (Gd.get n.2.1) (cB rfl), trivial⟩ W7 fun b q p => ?_
     exact tail_done (k := q) (w5 _ _ ⟨Bs.post ⟨hg, hs, hd⟩ p, p.ke 0 rfl i0, p.ke 3 rfl i3, (by rw [p.old 3 rfl]; exact n3), p.ke 4 rfl i4, p.ke 5 rfl i5, p.ou 16 30 rfl, trivial⟩)
    rintro a k ⟨⟨hg, hs, hd⟩, i0, i3, n3, i4, i5, i30, _⟩
    refine wp_cond_split (isBool i30) (fun hc1110 => ?_) (fun hc1110 => ?_)
    ·rw [if_pos hc1110] at hr
     refine wp_skip ?_
     refine wp_block ?_
     obtain ⟨x8, hx8, hr⟩ := bind_some hr
     refine cut (fun a' k' => Bs noF k0 65 a' k' ∧ (IsV l_) (a'.get 0) k' ∧ IsOwn 0 35 s1.1 (a'.get 3) k' ∧ Lo k0 (obF (a'.get 3)) ∧ (IsV s1.2) (a'.get 4) k' ∧ (IsV x8) (a'.get 5) k' ∧ True) ?_ hQ ?_
     ·intro Q8 W8 w6
      refine gS 3 (_ :: _ :: _ :: []) hs (by kernel_rfl) ⟨mu rfl i5, o1 [(31, some 0)] rfl fun _ _ h n => ok_add rfl n.1 (cI rfl) hx8, cp 1 rfl rfl, trivial⟩ W8 fun b q p => ?_
      exact tail_done (k := q) (w6 _ _ ⟨Bs.post ⟨hg, hs, hd⟩ p, p.ke 0 rfl i0, p.ke 3 rfl i3, (by rw [p.old 3 rfl]; exact n3), p.ke 4 rfl i4, p.ou 2 5 rfl, trivial⟩)
     rintro a k ⟨⟨hg, hs, hd⟩, i0, i3, n3, i4, i5, _⟩
     exact hgo1103 _ _ _ (Option.some.inj hr).symm ⟨⟨hg, hs, hd⟩, i0, i3, n3, i4, i5, trivial⟩
    rw [if_neg (by rw [hc1110]; decide)] at hr
    refine wp_exit ?_
    exact hex1104 _ _ _ _ (Option.some.inj hr).symm ⟨rfl, ⟨hg, hs, hd⟩, i0, i3, n3, i4, i5, trivial⟩
   ·rintro r1 a k rfl hR
    dsimp only at hr
    exact hret1099 _ _ _ (Option.some.inj hr).symm hR
   ·rintro _ _ _ rfl _
    simp at hr
   clear hf2
   rintro _ s3 a k rfl ⟨rfl, ⟨hg, hs, hd⟩, i0, i3, n3, i4, i5, _⟩
   dsimp only at hr
   refine wp_seq ?_
   refine wp_seq ?_
   obtain ⟨x9, hx9, hr⟩ := bind_some hr
   refine cut (fun a' k' => Bs noF k0 65 a' k' ∧ (IsV l_) (a'.get 0) k' ∧ IsOwn 0 35 s1.1 (a'.get 3) k' ∧ Lo k0 (obF (a'.get 3)) ∧ (IsV s1.2) (a'.get 4) k' ∧ (IsV s3) (a'.get 5) k' ∧ (IsV x9.column) (a'.get 37) k' ∧ (IsI (x9.column.length : Int)) (a'.get 38) k' ∧ (IsI 0) (a'.get 39) k' ∧ True) ?_ hQ ?_
   ·intro Q9 W9 w7
    refine gS 7 (_ :: _ :: _ :: _ :: _ :: _ :: ⟨some (IsI 0), []⟩ :: []) hs (by kernel_rfl) ⟨mu rfl i0, mu rfl i4, o1 [(33, some 0), (34, some 1)] rfl fun _ _ h n => ok_indexAddr rfl Try.underlying88 ty111 (IsV.rd n.1) n.2.1 hx9, o1 [(35, some 2)] rfl fun _ _ h n => ok_fieldAddr rfl fo111_2 (at_RegionStrip_2 _) n.1, o1 [(36, some 3)] rfl fun _ _ h n => ok_load rfl ty107 n.1, o1 [(37, some 4)] rfl fun _ _ h n => ok_len rfl rfl Try.underlying107 (IsV.rd n.1), ob1 rfl fun _ _ h n => ok_move rfl (cI rfl), trivial⟩ W9 fun b q p => ?_
    exact tail_done (k := q) (w7 _ _ ⟨Bs.post ⟨hg, hs, hd⟩ p, p.ke 0 rfl i0, p.ke 3 rfl i3, (by rw [p.old 3 rfl]; exact n3), p.ke 4 rfl i4, p.ke 5 rfl i5, p.ou 4 37 rfl, p.ou 5 38 rfl, p.ou 6 39 rfl, trivial⟩)
   rintro a k ⟨⟨hg, hs, hd⟩, i0, i3, n3, i4, i5, i37, i38, i39, _⟩
   refine wp_block ?_
   obtain ⟨f3, hf3, hr⟩ := bind_some hr
   refine cutFe f3 (fun s' c l => Bs noF k0 65 c l ∧ IsV l_ (c.get 0) l ∧ IsOwn 0 35 s'.1 (c.get 3) l ∧ Lo k0 (obF (c.get 3)) ∧ IsV s1.2 (c.get 4) l ∧ IsV s3 (c.get 5) l ∧ IsV x9.column (c.get 37) l ∧ IsI (x9.column.length : Int) (c.get 38) l ∧ IsV s'.2 (c.get 39) l ∧ True) (fun i' s' c l => (i' = 4 ∧ Bs noF k0 65 c l ∧ IsV l_ (c.get 0) l ∧ IsOwn 0 35 s'.1 (c.get 3) l ∧ Lo k0 (obF (c.get 3)) ∧ IsV s3 (c.get 5) l ∧ True)) (fun r' c l => bodyPost Try.prog Try.f62 (RetC noF k0 (IsV r')) .ret c l.w) ?_ hQ ?_ ?_ ?_
   ·intro Q10 W10 hgo hex hret
    refine sim_loop ?_ _ _ _ _ _ hf3 ⟨⟨hg, hs, hd⟩, i0, i3, n3, i4, i5, i37, i38, i39, trivial⟩ Q10 W10 hgo hex hret
    clear hr hf3 hgo hex hret W10 hQ hg hs hd i0 i3 i37 i38 i39 i4 i5 n3
    intro s4 fl_ a k hr hS Q hQ hgo1117 hex1118 hret1119
    obtain ⟨⟨hg, hs, hd⟩, i0, i3, n3, i4, i5, i37, i38, i39, _⟩ := hS
    unfold region_write_L2 at hr
    refine cutS (fun c l => Bs noF k0 65 c l ∧ IsV l_ (c.get 0) l ∧ IsOwn 0 35 s4.1 (c.get 3) l ∧ Lo k0 (obF (c.get 3)) ∧ IsV s1.2 (c.get 4) l ∧ IsV s3 (c.get 5) l ∧ IsV x9.column (c.get 37) l ∧ IsI (x9.column.length : Int) (c.get 38) l ∧ IsV s4.2 (c.get 39) l ∧ (IsV (decide (s4.2 < (x9.column.length : Int)))) (c.get 40) l ∧ True) ?_ ?_
    ·intro Q11 W11 w8
     refine gS 1 (_ :: []) hs (by kernel_rfl) ⟨o1 [(39, none), (38, none)] rfl fun _ _ h n => ok_lss rfl (up i39 h n.1) (up i38 h n.2.1), trivial⟩ W11 fun b q p => ?_
     exact tail_done (k := q) (w8 _ _ ⟨Bs.post ⟨hg, hs, hd⟩ p, p.ke 0 rfl i0, p.ke 3 rfl i3, (by rw [p.old 3 rfl]; exact n3), p.ke 4 rfl i4, p.ke 5 rfl i5, p.ke 37 rfl i37, p.ke 38 rfl i38, p.ke 39 rfl i39, p.ou 0 40 rfl, trivial⟩)
    rintro a k ⟨⟨hg, hs, hd⟩, i0, i3, n3, i4, i5, i37, i38, i39, i40, _⟩
    refine wp_seq ?_
    refine wp_cond_split (isBool i40) (fun hc1130 => ?_) (fun hc1130 => ?_)
    ·rw [if_pos hc1130] at hr
     refine wp_skip ?_
     refine wp_seq ?_
     refine wp_block ?_
     refine wp_seq ?_
     obtain ⟨x10, hx10, hr⟩ := bind_some hr
     refine cut (fun a' k' => Bs noF k0 65 a' k' ∧ (IsV l_) (a'.get 0) k' ∧ IsOwn 0 35 s4.1 (a'.get 3) k' ∧ Lo k0 (obF (a'.get 3)) ∧ (IsV s1.2) (a'.get 4) k' ∧ (IsV s3) (a'.get 5) k' ∧ (IsRef x10) (a'.get 7) k' ∧ (IsV x9.column) (a'.get 37) k' ∧ (IsI (x9.column.length : Int)) (a'.get 38) k' ∧ (IsV s4.2) (a'.get 39) k' ∧ True) ?_ hQ ?_
     ·intro Q12 W12 w9
      refine gS 3 (_ :: _ :: ⟨some (IsBox k.w.heap.size (⟨0, 0⟩ : RegionSpan)), []⟩ :: []) hs (by kernel_rfl) ⟨o1 [(37, none), (39, none)] rfl fun _ _ h n => ok_indexAddr rfl Try.underlying107 ty109 (IsV.rd (up i37 h n.1)) (up i39 h n.2.1) hx10, o1 [(41, some 0)] rfl fun _ _ h n => ok_load rfl ty109 n.1, ob1 rfl fun _ _ h n => ok_alloc _ h.size rfl z109, trivial⟩ W12 fun b q p => ?_
      have hgq := hg.then p.grow
      have hsb := p.size.trans hs
      have hdb := p.defers.trans hd
      have j0 := p.ke 0 rfl i0
      have j3 := p.ke 3 rfl i3
      have y3 : Lo k0 (obF (b.get 3)) := by rw [p.old 3 rfl]; exact n3
      have j4 := p.ke 4 rfl i4
      have j5 := p.ke 5 rfl i5
      obtain ⟨b7, j7, x7, z7⟩ : (IsBox k.w.heap.size (⟨0, 0⟩ : RegionSpan)) (b.get 7) q := p.ou 2 7 rfl
      replace x7 : Lo k (Eq b7) := Lo.eq x7
      have y7 : Lo k0 (Eq b7) := x7.chg hg
      have j37 := p.ke 37 rfl i37
      have j38 := p.ke 38 rfl i38
      have j39 := p.ke 39 rfl i39
      have j42 : (IsV x10) (b.get 42) q := p.ou 1 42 rfl
      have w3_7 : Apart (obF (b.get 3)) (Eq b7) := Apart.new (by rw [p.old 3 rfl]; exact i3.ltF) x7
      have hns := z7.nshF
      refine tail_storeB (i := 3) rfl rfl rfl rfl szf109 (Upd.self (α := RegionSpan)) j7 z7 j42 fun q2 hch hz => ?_
      replace hgq := hgq.step hch y7.wr
      have hle := hch.le hns
      replace j0 := Pers.pers hle j0
      replace j3 := j3.keep hch w3_7 hns
      replace j4 := Pers.pers hle j4
      replace j5 := Pers.pers hle j5
      replace j37 := Pers.pers hle j37
      replace j38 := Pers.pers hle j38
      replace j39 := Pers.pers hle j39
      replace j42 := Pers.pers hle j42
      replace z7 := hz
      clear hns hle hch
      obtain ⟨q, hqq⟩ : ∃ q, q = q2 := ⟨q2, rfl⟩
      subst hqq
      obtain ⟨q2, hsh, jn⟩ := z7.give
      replace j0 := Pers.pers hsh.le j0
      replace j3 := j3.handed hsh w3_7
      replace j4 := Pers.pers hsh.le j4
      replace j5 := Pers.pers hsh.le j5
      replace j37 := Pers.pers hsh.le j37
      replace j38 := Pers.pers hsh.le j38
      replace j39 := Pers.pers hsh.le j39
      rw [← j7] at jn
      replace j7 := jn
      replace hgq := hgq.hand hsh y7.wr
      rw [← hsh.w]
      clear hsh
      obtain ⟨q, hqq⟩ : ∃ q, q = q2 := ⟨q2, rfl⟩
      subst hqq
      exact tail_done (k := q) (w9 _ _ ⟨⟨hgq, hsb, hdb⟩, j0, j3, y3, j4, j5, j7, j37, j38, j39, trivial⟩)
     rintro a k ⟨⟨hg, hs, hd⟩, i0, i3, n3, i4, i5, i7, i37, i38, i39, _⟩
     obtain ⟨x11, hx11, hr⟩ := bind_some hr
     obtain ⟨x12, hx12, hr⟩ := bind_some hr
     obtain ⟨x13, hx13, hr⟩ := bind_some hr
     obtain ⟨x14, hx14, hr⟩ := bind_some hr
     refine cut (fun a' k' => Bs noF k0 65 a' k' ∧ (IsV l_) (a'.get 0) k' ∧ IsOwn 0 35 x14 (a'.get 3) k' ∧ Lo k0 (obF (a'.get 3)) ∧ (IsV s1.2) (a'.get 4) k' ∧ (IsV s3) (a'.get 5) k' ∧ (IsV x9.column) (a'.get 37) k' ∧ (IsI (x9.column.length : Int)) (a'.get 38) k' ∧ (IsV s4.2) (a'.get 39) k' ∧ True) ?_ hQ ?_
     ·intro Q13 W13 w10
      refine region (m := 18) (⟨some (OwnAt (a.get 3) 0 35 s4.1), [(3, none)]⟩ :: _ :: _ :: _ :: _ :: _ :: _ :: _ :: _ :: _ :: _ :: _ :: _ :: _ :: _ :: _ :: ⟨some (IsV (⟨x11.x0, x10.from_, x13.x1, x10.to_⟩ : Rect)), [(48, some 5), (50, some 7), (56, some 13), (58, some 15)]⟩ :: ⟨some (IsV (α := (List Rect)) ([(⟨x11.x0, x10.from_, x13.x1, x10.to_⟩ : Rect)])), [(59, some 16)]⟩ :: []) hmix hs (by kernel_rfl) ⟨ob1 rfl fun _ _ h n => ok_moveOA (.inl rfl) (ownAt n.1 (up i3 h n.1)), mu rfl i0, mu rfl i4, o1 [(44, some 1), (45, some 2)] rfl fun _ _ h n => ok_indexAddr rfl Try.underlying88 ty111 (IsV.rd n.1) n.2.1 hx11, o1 [(46, some 3)] rfl fun _ _ h n => ok_fieldAddr rfl fo111_0 (at_RegionStrip_0 _) n.1, o1 [(47, some 4)] rfl fun _ _ h n => ok_load rfl ty3 n.1, o1 [(7, none)] rfl fun _ _ h n => ok_fieldAddr rfl fo109_0 (at_RegionSpan_0 _) ((up i7 h n.1)).ptr, o1 [(49, some 6)] rfl fun _ _ h n => ok_load rfl ty3 n.1, mu rfl i0, mu rfl i5, o1 [(52, some 9)] rfl fun _ _ h n => ok_sub rfl n.1 (cI rfl) hx12, o1 [(51, some 8), (53, some 10)] rfl fun _ _ h n => ok_indexAddr rfl Try.underlying88 ty111 (IsV.rd n.1) n.2.1 hx13, o1 [(54, some 11)] rfl fun _ _ h n => ok_fieldAddr rfl fo111_1 (at_RegionStrip_1 _) n.1, o1 [(55, some 12)] rfl fun _ _ h n => ok_load rfl ty3 n.1, o1 [(7, none)] rfl fun _ _ h n => ok_fieldAddr rfl fo109_1 (at_RegionSpan_1 _) ((up i7 h n.1)).ptr, o1 [(57, some 14)] rfl fun _ _ h n => ok_load rfl ty3 n.1, ob1 rfl fun _ _ h n => ok_build rfl (bld35_0_1_2_3 n.1 n.2.1 n.2.2.1 n.2.2.2.1), ob1 rfl fun _ _ h n => ok_buildSlice rfl Try.underlying49 eo35 rfl (by decide) (by decide) ⟨rfl, n.1, trivial⟩, trivial⟩ W13 fun b q p => ?_
      have hgq := hg.then p.grow
      have hsb := p.size.trans hs
      have hdb := p.defers.trans hd
      have j0 := p.ke 0 rfl i0
      have j4 := p.ke 4 rfl i4
      have j5 := p.ke 5 rfl i5
      have j37 := p.ke 37 rfl i37
      have j38 := p.ke 38 rfl i38
      have j39 := p.ke 39 rfl i39
      have e43 : b.get 43 = a.get 3 := (p.ou 0 43 rfl).1
      have j43 : IsOwn 0 35 s4.1 (b.get 43) q := (p.ou 0 43 rfl).2
      have y43 : Lo k0 (obF (b.get 43)) := by rw [e43]; exact n3
      have j60 : (IsV (α := (List Rect)) ([(⟨x11.x0, x10.from_, x13.x1, x10.to_⟩ : Rect)])) (b.get 60) q := p.ou 17 60 rfl
      have hns := j43.nshF
      refine tail_appendS (i := 18) (d := 61) rfl rfl rfl rfl (by rw [hsb]; decide) (e := 35) Try.underlying49 eo35 j43 (IsV.rd j60) hx14 fun b2 q2 hsz hdf hoth hch hown hob => ?_
      have hle := hch.le hns
      have yn : Lo k0 (obF (b2.get 61)) := y43.app hgq hob
      replace j0 := Pers.pers hle j0
      replace j4 := Pers.pers hle j4
      replace j5 := Pers.pers hle j5
      replace j37 := Pers.pers hle j37
      replace j38 := Pers.pers hle j38
      replace j39 := Pers.pers hle j39
      replace j60 := Pers.pers hle j60
      replace hgq := hgq.step hch y43.wr
      rw [← hoth 0 (by decide)] at j0
      rw [← hoth 4 (by decide)] at j4
      rw [← hoth 5 (by decide)] at j5
      rw [← hoth 37 (by decide)] at j37
      rw [← hoth 38 (by decide)] at j38
      rw [← hoth 39 (by decide)] at j39
      rw [← hoth 60 (by decide)] at j60
      have j61 := hown
      have y61 := yn
      replace hsb := hsz.trans hsb
      replace hdb := hdf.trans hdb
      clear hle hch hown hob hns yn hsz hdf hoth
      obtain ⟨b, hbb⟩ : ∃ b, b = b2 := ⟨b2, rfl⟩
      subst hbb
      obtain ⟨q, hqq⟩ : ∃ q, q = q2 := ⟨q2, rfl⟩
      subst hqq
      refine tail_assign (i := 19) (d := 3) rfl rfl (.inl rfl) rfl (by rw [hsb]; decide) fun b2 hsz hdf hnew hoth => ?_
      have jn : (IsOwn 0 35 x14) (b2.get 3) q := by rw [hnew]; exact j61
      have yn : Lo k0 (obF (b2.get 3)) := by rw [hnew]; exact y61
      rw [← hoth 0 (by decide)] at j0
      rw [← hoth 4 (by decide)] at j4
      rw [← hoth 5 (by decide)] at j5
      rw [← hoth 37 (by decide)] at j37
      rw [← hoth 38 (by decide)] at j38
      rw [← hoth 39 (by decide)] at j39
      rw [← hoth 60 (by decide)] at j60
      have j3 := jn
      have y3 := yn
      replace hsb := hsz.trans hsb
      replace hdb := hdf.trans hdb
      clear hsz hdf hoth
      obtain ⟨b, hbb⟩ : ∃ b, b = b2 := ⟨b2, rfl⟩
      subst hbb
      exact tail_done (k := q) (w10 _ _ ⟨⟨hgq, hsb, hdb⟩, j0, j3, y3, j4, j5, j37, j38, j39, trivial⟩)
     rintro a k ⟨⟨hg, hs, hd⟩, i0, i3, n3, i4, i5, i37, i38, i39, _⟩
     obtain ⟨x15, hx15, hr⟩ := bind_some hr
     refine cut (fun a' k' => Bs noF k0 65 a' k' ∧ (IsV l_) (a'.get 0) k' ∧ IsOwn 0 35 x14 (a'.get 3) k' ∧ Lo k0 (obF (a'.get 3)) ∧ (IsV s1.2) (a'.get 4) k' ∧ (IsV s3) (a'.get 5) k' ∧ (IsV x9.column) (a'.get 37) k' ∧ (IsI (x9.column.length : Int)) (a'.get 38) k' ∧ (IsV x15) (a'.get 39) k' ∧ True) ?_ hQ ?_
     ·intro Q14 W14 w11
      refine gS 2 (_ :: _ :: []) hs (by kernel_rfl) ⟨o1 [(39, none)] rfl fun _ _ h n => ok_add rfl (up i39 h n.1) (cI rfl) hx15, cm 0 rfl rfl, trivial⟩ W14 fun b q p => ?_
      exact tail_done (k := q) (w11 _ _ ⟨Bs.post ⟨hg, hs, hd⟩ p, p.ke 0 rfl i0, p.ke 3 rfl i3, (by rw [p.old 3 rfl]; exact n3), p.ke 4 rfl i4, p.ke 5 rfl i5, p.ke 37 rfl i37, p.ke 38 rfl i38, p.ou 1 39 rfl, trivial⟩)
     rintro a k ⟨⟨hg, hs, hd⟩, i0, i3, n3, i4, i5, i37, i38, i39, _⟩
     exact hgo1117 _ _ _ (Option.some.inj hr).symm ⟨⟨hg, hs, hd⟩, i0, i3, n3, i4, i5, i37, i38, i39, trivial⟩
    rw [if_neg (by rw [hc1130]; decide)] at hr
    refine wp_exit ?_
    exact hex1118 _ _ _ _ (Option.some.inj hr).symm ⟨rfl, ⟨hg, hs, hd⟩, i0, i3, n3, i5, trivial⟩
   ·rintro r2 a k rfl hR
    dsimp only at hr
    exact hret1099 _ _ _ (Option.some.inj hr).symm hR
   ·rintro _ _ _ rfl _
    simp at hr
   clear hf3
   rintro _ s5 a k rfl ⟨rfl, ⟨hg, hs, hd⟩, i0, i3, n3, i5, _⟩
   dsimp only at hr
   refine cut (fun a' k' => Bs noF k0 65 a' k' ∧ (IsV l_) (a'.get 0) k' ∧ IsOwn 0 35 s5.1 (a'.get 3) k' ∧ Lo k0 (obF (a'.get 3)) ∧ (IsV s3) (a'.get 4) k' ∧ True) ?_ hQ ?_
   ·intro Q15 W15 w12
    refine gS 2 (_ :: _ :: []) hs (by kernel_rfl) ⟨mu rfl i5, cp 0 rfl rfl, trivial⟩ W15 fun b q p => ?_
    exact tail_done (k := q) (w12 _ _ ⟨Bs.post ⟨hg, hs, hd⟩ p, p.ke 0 rfl i0, p.ke 3 rfl i3, (by rw [p.old 3 rfl]; exact n3), p.ou 1 4 rfl, trivial⟩)
   rintro a k ⟨⟨hg, hs, hd⟩, i0, i3, n3, i4, _⟩
   exact hgo1097 _ _ _ (Option.some.inj hr).symm ⟨⟨hg, hs, hd⟩, i0, i3, n3, i4, trivial⟩
  rw [if_neg (by rw [hc1147]; decide)] at hr
  refine wp_exit ?_
  obtain ⟨kk, sh1146, ii3⟩ := i3.give
  replace i3 := ii3
  replace hg := hg.hand sh1146 n3.wr
  rw [← sh1146.w]
  clear sh1146
  obtain ⟨k, hkk⟩ : ∃ k, k = kk := ⟨kk, rfl⟩
  subst hkk
  exact hex1098 _ _ _ _ (Option.some.inj hr).symm ⟨rfl, ⟨hg, hs, hd⟩, i3, trivial⟩
 ·rintro r3 a k rfl hR
  dsimp only at hr
  obtain rfl := Option.some.inj hr
  exact hR
 ·rintro _ _ _ rfl _
  simp at hr
 clear hf1
 rintro _ s6 a k rfl ⟨rfl, ⟨hg, hs, hd⟩, i3, _⟩
 dsimp only at hr
 refine stepL 2 (_ :: _ :: []) rfl ⟨hg, hs, hd⟩ (by kernel_rfl) ⟨mu rfl i3, cp 0 rfl rfl, trivial⟩ [⟨_, _⟩] (fun b q p => ⟨p.ou 1 2 rfl, trivial⟩) ?_
 rintro a k ⟨⟨hg, hs, hd⟩, i2, _⟩
 refine wp_ret ?_
 obtain rfl := Option.some.inj hr
 exact retC1 rfl hd hg i2
def region_limited (l_ : (List Rect)) : Option ((List Rect) × Int) :=
 if (decide (200 < (l_.length : Int))) then
  some (([] : List Rect), 6)
 else
  some (l_, 0)
theorem region_limited_ok {k0 : K} {v0 : Value} {l_ : (List Rect)} {r : (List Rect) × Int} (i0 : (IsV l_) v0 k0) (hr : region_limited l_ = some r) :
  Calls Try.prog 61 #[v0] k0.w (Ret k0 (IsTup2 (IsV r.1) (IsV r.2))) := by
 unfold region_limited at hr
 refine Ret.ofC ?_
 refine enterK Try.func61 rfl Try.ntmps61 (show 1 ≤ 8 by decide) fun a k hk0 hs hd ha => ?_
 obtain ⟨e0, _⟩ := ha
 replace i0 : (IsV l_) (a.get 0) k := by rw [e0, hk0]; exact i0
 have hQ : Gb.LetsOut (bodyPost Try.prog Try.f61 (RetC noF k0 (IsTup2 (IsV r.1) (IsV r.2)))) := letsOutC
 have hg : Chg noF k0 k := by rw [hk0]; exact Chg.refl _ k0
 refine stepL 2 (⟨some IsE0, []⟩ :: ⟨some (IsI 0), []⟩ :: []) rfl ⟨hg, hs, hd⟩ (by kernel_rfl) ⟨ob1 rfl fun b q h n => ok_assign rfl isE0_nil, aI rfl rfl, trivial⟩ [⟨_, _⟩] (fun b q p => ⟨p.ke 0 rfl i0, trivial⟩) ?_
 rintro a k ⟨⟨hg, hs, hd⟩, i0, _⟩
 refine wp_seq ?_
 refine stepL 3 (_ :: _ :: _ :: []) rfl ⟨hg, hs, hd⟩ (by kernel_rfl) ⟨mu rfl i0, o1 [(4, some 0)] rfl fun _ _ h n => ok_len rfl rfl Try.underlying49 (IsV.rd n.1), o1 [(5, some 1)] rfl fun _ _ h n => ok_gtr rfl n.1 (cI rfl), trivial⟩ [⟨_, _⟩, ⟨_, _⟩] (fun b q p => ⟨p.ke 0 rfl i0, p.ou 2 6 rfl, trivial⟩) ?_
 rintro a k ⟨⟨hg, hs, hd⟩, i0, i6, _⟩
 refine wp_cond_split (isBool i6) (fun hc1171 => ?_) (fun hc1171 => ?_)
 ·rw [if_pos hc1171] at hr
  refine cutL noF k0 8 [⟨2, IsV ([] : List Rect)⟩, ⟨3, IsI 6⟩] ?_ ?_
  ·intro Q1 W1 w1
   refine gS 2 (⟨some IsE0, []⟩ :: ⟨some (IsI 6), []⟩ :: []) hs (by kernel_rfl) ⟨ob1 rfl fun b q h n => ok_assign rfl isE0_nil, aI rfl rfl, trivial⟩ W1 fun b q p => ?_
   have hgq := hg.then p.grow
   have hsb := p.size.trans hs
   have hdb := p.defers.trans hd
   have j2 : IsE0 (b.get 2) q := p.ou 0 2 rfl
   have j3 : (IsI 6) (b.get 3) q := p.ou 1 3 rfl
   replace j2 : IsV ([] : List Rect) (b.get 2) q := j2.isV
   exact tail_done (k := q) (w1 _ _ ⟨⟨hgq, hsb, hdb⟩, j2, j3, trivial⟩)
  rintro a k ⟨⟨hg, hs, hd⟩, i2, i3, _⟩
  refine wp_ret ?_
  obtain rfl := Option.some.inj hr
  exact retC2 rfl hd hg i2 i3
 rw [if_neg (by rw [hc1171]; decide)] at hr
 refine wp_skip ?_
 refine stepL 3 (_ :: _ :: ⟨some (IsI 0), []⟩ :: []) rfl ⟨hg, hs, hd⟩ (by kernel_rfl) ⟨mu rfl i0, cp 0 rfl rfl, aI rfl rfl, trivial⟩ [⟨_, _⟩, ⟨_, _⟩] (fun b q p => ⟨p.ou 1 2 rfl, p.ou 2 3 rfl, trivial⟩) ?_
 rintro a k ⟨⟨hg, hs, hd⟩, i2, i3, _⟩
 refine wp_ret ?_
 obtain rfl := Option.some.inj hr
 exact retC2 rfl hd hg i2 i3
def region_Of_L0 (l_ : (List Rect)) (s1 : Int) : Option (Flow (Int) ((List Rect) × Int)) :=
 if (decide (s1 < (l_.length : Int))) then
  (getI l_ s1).bind fun x1 =>
  (rect_Right x1).bind fun x2 =>
  if (!x2) then
   some (.ret (([] : List Rect), 1))
  else
   (addI s1 1).bind fun x3 =>
   some (.go x3)
 else
  some (.ex 0 s1)
def region_Of (l_ : (List Rect)) : Option ((List Rect) × Int) :=
 (iterL (region_Of_L0 l_) (l_.length + 1) 0).bind fun f1 => match f1 with
  | .go _ => none
  | .ex _ _ =>
   if (decide (400 < (l_.length : Int))) then
    some (([] : List Rect), 6)
   else
    (region_strips ([l_])).bind fun x1 =>
    (region_write x1).bind fun x2 =>
    (region_limited x2).bind fun x3 =>
    some (x3.1, x3.2)
  | .ret r1 => some r1
theorem region_Of_ok {k0 : K} {v0 : Value} {l_ : (List Rect)} {r : (List Rect) × Int} (i0 : (IsV l_) v0 k0) (hr : region_Of l_ = some r) :
  Calls Try.prog 37 #[v0] k0.w (Ret k0 (IsTup2 (IsV r.1) (IsV r.2))) := by
 unfold region_Of at hr
 refine Ret.ofC ?_
 refine enterK Try.func37 rfl Try.ntmps37 (show 1 ≤ 26 by decide) fun a k hk0 hs hd ha => ?_
 obtain ⟨e0, _⟩ := ha
 replace i0 : (IsV l_) (a.get 0) k := by rw [e0, hk0]; exact i0
 have hQ : Gb.LetsOut (bodyPost Try.prog Try.f37 (RetC noF k0 (IsTup2 (IsV r.1) (IsV r.2)))) := letsOutC
 have hg : Chg noF k0 k := by rw [hk0]; exact Chg.refl _ k0
 refine stepL 2 (⟨some IsE0, []⟩ :: ⟨some (IsI 0), []⟩ :: []) rfl ⟨hg, hs, hd⟩ (by kernel_rfl) ⟨ob1 rfl fun b q h n => ok_assign rfl isE0_nil, aI rfl rfl, trivial⟩ [⟨_, _⟩] (fun b q p => ⟨p.ke 0 rfl i0, trivial⟩) ?_
 rintro a k ⟨⟨hg, hs, hd⟩, i0, _⟩
 refine wp_seq ?_
 refine stepL 3 (_ :: _ :: ⟨some (IsI 0), []⟩ :: []) rfl ⟨hg, hs, hd⟩ (by kernel_rfl) ⟨mu rfl i0, o1 [(6, some 0)] rfl fun _ _ h n => ok_len rfl rfl Try.underlying49 (IsV.rd n.1), ob1 rfl fun _ _ h n => ok_move rfl (cI rfl), trivial⟩ [⟨_, _⟩, ⟨_, _⟩, ⟨_, _⟩, ⟨_, _⟩] (fun b q p => ⟨p.ke 0 rfl i0, p.ou 0 6 rfl, p.ou 1 7 rfl, p.ou 2 8 rfl, trivial⟩) ?_
 rintro a k ⟨⟨hg, hs, hd⟩, i0, i6, i7, i8, _⟩
 refine wp_block ?_
 obtain ⟨f1, hf1, hr⟩ := bind_some hr
 refine cutFe f1 (fun s' c l => Bs noF k0 26 c l ∧ IsV l_ (c.get 0) l ∧ IsV l_ (c.get 6) l ∧ IsL l_ (c.get 7) l ∧ IsV s' (c.get 8) l ∧ True) (fun i' s' c l => (i' = 0 ∧ Bs noF k0 26 c l ∧ IsV l_ (c.get 0) l ∧ True)) (fun r' c l => bodyPost Try.prog Try.f37 (RetC noF k0 (IsTup2 (IsV r'.1) (IsV r'.2))) .ret c l.w) ?_ hQ ?_ ?_ ?_
 ·intro Q1 W1 hgo hex hret
  refine sim_loop ?_ _ _ _ _ _ hf1 ⟨⟨hg, hs, hd⟩, i0, i6, i7, i8, trivial⟩ Q1 W1 hgo hex hret
  clear hr hf1 hgo hex hret W1 hQ hg hs hd i0 i6 i7 i8
  intro s1 fl_ a k hr hS Q hQ hgo1179 hex1180 hret1181
  obtain ⟨⟨hg, hs, hd⟩, i0, i6, i7, i8, _⟩ := hS
  unfold region_Of_L0 at hr
  refine stepL 1 (_ :: []) rfl ⟨hg, hs, hd⟩ (by kernel_rfl) ⟨o1 [(8, none), (7, none)] rfl fun _ _ h n => ok_lss rfl (up i8 h n.1) (up i7 h n.2.1), trivial⟩ [⟨_, _⟩, ⟨_, _⟩, ⟨_, _⟩, ⟨_, _⟩, ⟨_, _⟩] (fun b q p => ⟨p.ke 0 rfl i0, p.ke 6 rfl i6, p.ke 7 rfl i7, p.ke 8 rfl i8, p.ou 0 9 rfl, trivial⟩) ?_
  rintro a k ⟨⟨hg, hs, hd⟩, i0, i6, i7, i8, i9, _⟩
  refine wp_seq ?_
  refine wp_cond_split (isBool i9) (fun hc1196 => ?_) (fun hc1196 => ?_)
  ·rw [if_pos hc1196] at hr
   refine wp_skip ?_
   refine wp_seq ?_
   refine wp_block ?_
   refine wp_seq ?_
   obtain ⟨x1, hx1, hr⟩ := bind_some hr
   refine cut (fun a' k' => Bs noF k0 26 a' k' ∧ (IsV l_) (a'.get 0) k' ∧ (IsRef x1) (a'.get 5) k' ∧ (IsV l_) (a'.get 6) k' ∧ (IsL l_) (a'.get 7) k' ∧ (IsV s1) (a'.get 8) k' ∧ True) ?_ hQ ?_
   ·intro Q2 W2 w1
    refine gS 3 (_ :: _ :: ⟨some (IsBox k.w.heap.size (⟨0, 0, 0, 0⟩ : Rect)), []⟩ :: []) hs (by kernel_rfl) ⟨o1 [(6, none), (8, none)] rfl fun _ _ h n => ok_indexAddr rfl Try.underlying49 ty35 (IsV.rd (up i6 h n.1)) (up i8 h n.2.1) hx1, o1 [(10, some 0)] rfl fun _ _ h n => ok_load rfl ty35 n.1, ob1 rfl fun _ _ h n => ok_alloc _ h.size rfl z35, trivial⟩ W2 fun b q p => ?_
    have hgq := hg.then p.grow
    have hsb := p.size.trans hs
    have hdb := p.defers.trans hd
    have j0 := p.ke 0 rfl i0
    obtain ⟨b5, j5, x5, z5⟩ : (IsBox k.w.heap.size (⟨0, 0, 0, 0⟩ : Rect)) (b.get 5) q := p.ou 2 5 rfl
    replace x5 : Lo k (Eq b5) := Lo.eq x5
    have y5 : Lo k0 (Eq b5) := x5.chg hg
    have j6 := p.ke 6 rfl i6
    have j7 := p.ke 7 rfl i7
    have j8 := p.ke 8 rfl i8
    have j11 : (IsV x1) (b.get 11) q := p.ou 1 11 rfl
    have hns := z5.nshF
    refine tail_storeB (i := 3) rfl rfl rfl rfl szf35 (Upd.self (α := Rect)) j5 z5 j11 fun q2 hch hz => ?_
    replace hgq := hgq.step hch y5.wr
    have hle := hch.le hns
    replace j0 := Pers.pers hle j0
    replace j6 := Pers.pers hle j6
    replace j7 := Pers.pers hle j7
    replace j8 := Pers.pers hle j8
    replace j11 := Pers.pers hle j11
    replace z5 := hz
    clear hns hle hch
    obtain ⟨q, hqq⟩ : ∃ q, q = q2 := ⟨q2, rfl⟩
    subst hqq
    obtain ⟨q2, hsh, jn⟩ := z5.give
    replace j0 := Pers.pers hsh.le j0
    replace j6 := Pers.pers hsh.le j6
    replace j7 := Pers.pers hsh.le j7
    replace j8 := Pers.pers hsh.le j8
    rw [← j5] at jn
    replace j5 := jn
    replace hgq := hgq.hand hsh y5.wr
    rw [← hsh.w]
    clear hsh
    obtain ⟨q, hqq⟩ : ∃ q, q = q2 := ⟨q2, rfl⟩
    subst hqq
    exact tail_done (k := q) (w1 _ _ ⟨⟨hgq, hsb, hdb⟩, j0, j5, j6, j7, j8, trivial⟩)
   rintro a k ⟨⟨hg, hs, hd⟩, i0, i5, i6, i7, i8, _⟩
   refine wp_seq ?_
   obtain ⟨x2, hx2, hr⟩ := bind_some hr
   refine cut (fun a' k' => Bs noF k0 26 a' k' ∧ (IsV l_) (a'.get 0) k' ∧ (IsV l_) (a'.get 6) k' ∧ (IsL l_) (a'.get 7) k' ∧ (IsV s1) (a'.get 8) k' ∧ (IsV (!x2)) (a'.get 14) k' ∧ True) ?_ hQ ?_
   ·intro Q3 W3 w2
    refine gS 3 (_ :: _ :: _ :: []) hs (by kernel_rfl) ⟨o1 [(5, none)] rfl fun _ _ h n => ok_load rfl ty35 ((up i5 h n.1)).ptr, o1 [(12, some 0)] rfl fun _ _ h n => ok_call rfl Try.call35 (rect_Right_ok n.1 hx2), o1 [(13, some 1)] rfl fun _ _ h n => ok_not rfl n.1, trivial⟩ W3 fun b q p => ?_
    exact tail_done (k := q) (w2 _ _ ⟨Bs.post ⟨hg, hs, hd⟩ p, p.ke 0 rfl i0, p.ke 6 rfl i6, p.ke 7 rfl i7, p.ke 8 rfl i8, p.ou 2 14 rfl, trivial⟩)
   rintro a k ⟨⟨hg, hs, hd⟩, i0, i6, i7, i8, i14, _⟩
   refine wp_cond_split (isBool i14) (fun hc1191 => ?_) (fun hc1191 => ?_)
   ·rw [if_pos hc1191] at hr
    refine cutL noF k0 26 [⟨2, IsV ([] : List Rect)⟩, ⟨3, IsI 1⟩] ?_ ?_
    ·intro Q4 W4 w3
     refine gS 2 (⟨some IsE0, []⟩ :: ⟨some (IsI 1), []⟩ :: []) hs (by kernel_rfl) ⟨ob1 rfl fun b q h n => ok_assign rfl isE0_nil, aI rfl rfl, trivial⟩ W4 fun b q p => ?_
     have hgq := hg.then p.grow
     have hsb := p.size.trans hs
     have hdb := p.defers.trans hd
     have j2 : IsE0 (b.get 2) q := p.ou 0 2 rfl
     have j3 : (IsI 1) (b.get 3) q := p.ou 1 3 rfl
     replace j2 : IsV ([] : List Rect) (b.get 2) q := j2.isV
     exact tail_done (k := q) (w3 _ _ ⟨⟨hgq, hsb, hdb⟩, j2, j3, trivial⟩)
    rintro a k ⟨⟨hg, hs, hd⟩, i2, i3, _⟩
    refine wp_ret ?_
    exact hret1181 _ _ _ (Option.some.inj hr).symm (retC2 rfl hd hg i2 i3)
   rw [if_neg (by rw [hc1191]; decide)] at hr
   refine wp_skip ?_
   obtain ⟨x3, hx3, hr⟩ := bind_some hr
   refine cut (fun a' k' => Bs noF k0 26 a' k' ∧ (IsV l_) (a'.get 0) k' ∧ (IsV l_) (a'.get 6) k' ∧ (IsL l_) (a'.get 7) k' ∧ (IsV x3) (a'.get 8) k' ∧ True) ?_ hQ ?_
   ·intro Q5 W5 w4
    refine gS 2 (_ :: _ :: []) hs (by kernel_rfl) ⟨o1 [(8, none)] rfl fun _ _ h n => ok_add rfl (up i8 h n.1) (cI rfl) hx3, cm 0 rfl rfl, trivial⟩ W5 fun b q p => ?_
    exact tail_done (k := q) (w4 _ _ ⟨Bs.post ⟨hg, hs, hd⟩ p, p.ke 0 rfl i0, p.ke 6 rfl i6, p.ke 7 rfl i7, p.ou 1 8 rfl, trivial⟩)
   rintro a k ⟨⟨hg, hs, hd⟩, i0, i6, i7, i8, _⟩
   exact hgo1179 _ _ _ (Option.some.inj hr).symm ⟨⟨hg, hs, hd⟩, i0, i6, i7, i8, trivial⟩
  rw [if_neg (by rw [hc1196]; decide)] at hr
  refine wp_exit ?_
  exact hex1180 _ _ _ _ (Option.some.inj hr).symm ⟨rfl, ⟨hg, hs, hd⟩, i0, trivial⟩
 ·rintro r1 a k rfl hR
  dsimp only at hr
  obtain rfl := Option.some.inj hr
  exact hR
 ·rintro _ _ _ rfl _
  simp at hr
 clear hf1
 rintro _ s2 a k rfl ⟨rfl, ⟨hg, hs, hd⟩, i0, _⟩
 dsimp only at hr
 refine wp_seq ?_
 refine stepL 3 (_ :: _ :: _ :: []) rfl ⟨hg, hs, hd⟩ (by kernel_rfl) ⟨mu rfl i0, o1 [(16, some 0)] rfl fun _ _ h n => ok_len rfl rfl Try.underlying49 (IsV.rd n.1), o1 [(17, some 1)] rfl fun _ _ h n => ok_gtr rfl n.1 (cI rfl), trivial⟩ [⟨_, _⟩, ⟨_, _⟩] (fun b q p => ⟨p.ke 0 rfl i0, p.ou 2 18 rfl, trivial⟩) ?_
 rintro a k ⟨⟨hg, hs, hd⟩, i0, i18, _⟩
 refine wp_cond_split (isBool i18) (fun hc1208 => ?_) (fun hc1208 => ?_)
 ·rw [if_pos hc1208] at hr
  refine cutL noF k0 26 [⟨2, IsV ([] : List Rect)⟩, ⟨3, IsI 6⟩] ?_ ?_
  ·intro Q6 W6 w5
   refine gS 2 (⟨some IsE0, []⟩ :: ⟨some (IsI 6), []⟩ :: []) hs (by kernel_rfl) ⟨ob1 rfl fun b q h n => ok_assign rfl isE0_nil, aI rfl rfl, trivial⟩ W6 fun b q p => ?_
   have hgq := hg.then p.grow
   have hsb := p.size.trans hs
   have hdb := p.defers.trans hd
   have j2 : IsE0 (b.get 2) q := p.ou 0 2 rfl
   have j3 : (IsI 6) (b.get 3) q := p.ou 1 3 rfl
   replace j2 : IsV ([] : List Rect) (b.get 2) q := j2.isV
   exact tail_done (k := q) (w5 _ _ ⟨⟨hgq, hsb, hdb⟩, j2, j3, trivial⟩)
  rintro a k ⟨⟨hg, hs, hd⟩, i2, i3, _⟩
  refine wp_ret ?_
  obtain rfl := Option.some.inj hr
  exact retC2 rfl hd hg i2 i3
 rw [if_neg (by rw [hc1208]; decide)] at hr
 refine wp_skip ?_
 refine wp_seq ?_
 obtain ⟨x4, hx4, hr⟩ := bind_some hr
 obtain ⟨x6, hx6, hr⟩ := bind_some hr
 obtain ⟨x7, hx7, hr⟩ := bind_some hr
 refine cut (fun a' k' => Bs noF k0 26 a' k' ∧ (IsV x7.1) (a'.get 2) k' ∧ (IsV x7.2) (a'.get 3) k' ∧ True) ?_ hQ ?_
 ·intro Q7 W7 w6
  refine gS 9 (_ :: ⟨some (IsV (α := (List (List Rect))) ([l_])), [(19, some 0)]⟩ :: _ :: _ :: _ :: _ :: _ :: _ :: _ :: []) hs (by kernel_rfl) ⟨mu rfl i0, ob1 rfl fun _ _ h n => ok_buildSlice rfl Try.underlying112 eo49 rfl (by decide) (by decide) ⟨rfl, n.1, trivial⟩, o1 [(20, some 1)] rfl fun _ _ h n => ok_call rfl Try.call63 (region_strips_ok n.1 hx4), o1 [(21, some 2)] rfl fun _ _ h n => ok_call rfl Try.call62 (region_write_ok n.1 hx6), o1 [(22, some 3)] rfl fun _ _ h n => ok_call rfl Try.call61 (region_limited_ok n.1 hx7), o1 [(23, some 4)] rfl fun _ _ h n => ok_ext2_0 rfl n.1, o1 [(23, some 4)] rfl fun _ _ h n => ok_ext2_1 rfl n.1, cp 5 rfl rfl, cp 6 rfl rfl, trivial⟩ W7 fun b q p => ?_
  exact tail_done (k := q) (w6 _ _ ⟨Bs.post ⟨hg, hs, hd⟩ p, p.ou 7 2 rfl, p.ou 8 3 rfl, trivial⟩)
 rintro a k ⟨⟨hg, hs, hd⟩, i2, i3, _⟩
 refine wp_ret ?_
 obtain rfl := Option.some.inj hr
 exact retC2 rfl hd hg i2 i3
def slices_Equal_Rect_L0 (s1_ : (List Rect)) (s2_ : (List Rect)) (s1 : Int) : Option (Flow (Int) (Bool)) :=
 if (decide (s1 < (s1_.length : Int))) then
  (getI s1_ s1).bind fun x1 =>
  (getI s2_ s1).bind fun x2 =>
  if (!decide (x1 = x2)) then
   some (.ret false)
  else
   (addI s1 1).bind fun x3 =>
   some (.go x3)
 else
  some (.ex 0 s1)
def slices_Equal_Rect (s1_ : (List Rect)) (s2_ : (List Rect)) : Option (Bool) :=
 if ((s1_.length : Int) != (s2_.length : Int)) then
  some false
 else
  (iterL (slices_Equal_Rect_L0 s1_ s2_) (s1_.length + 1) 0).bind fun f1 => match f1 with
   | .go _ => none
   | .ex _ _ =>
    some true
   | .ret r1 => some r1
theorem slices_Equal_Rect_ok {k0 : K} {v0 v1 : Value} {s1_ : (List Rect)} {s2_ : (List Rect)} {r : Bool} (i0 : (IsV s1_) v0 k0) (i1 : (IsV s2_) v1 k0) (hr : slices_Equal_Rect s1_ s2_ = some r) :
  Calls Try.prog 78 #[v0, v1] k0.w (Ret k0 (IsV r)) := by
 unfold slices_Equal_Rect at hr
 refine Ret.ofC ?_
 refine enterK Try.func78 rfl Try.ntmps78 (show 2 ≤ 26 by decide) fun a k hk0 hs hd ha => ?_
 obtain ⟨e0, e1, _⟩ := ha
 replace i0 : (IsV s1_) (a.get 0) k := by rw [e0, hk0]; exact i0
 replace i1 : (IsV s2_) (a.get 1) k := by rw [e1, hk0]; exact i1
 have hQ : Gb.LetsOut (bodyPost Try.prog Try.f78 (RetC noF k0 (IsV r))) := letsOutC
 have hg : Chg noF k0 k := by rw [hk0]; exact Chg.refl _ k0
 refine stepL 1 (⟨some (IsV false), []⟩ :: []) rfl ⟨hg, hs, hd⟩ (by kernel_rfl) ⟨ob1 rfl fun _ _ h n => ok_assign rfl (isV_bool.2 rfl), trivial⟩ [⟨_, _⟩, ⟨_, _⟩] (fun b q p => ⟨p.ke 0 rfl i0, p.ke 1 rfl i1, trivial⟩) ?_
 rintro a k ⟨⟨hg, hs, hd⟩, i0, i1, _⟩
 refine wp_seq ?_
 refine stepL 5 (_ :: _ :: _ :: _ :: ⟨some (IsV ((s1_.length : Int) != (s2_.length : Int))), [(7, some 1), (9, some 3)]⟩ :: []) rfl ⟨hg, hs, hd⟩ (by kernel_rfl) ⟨mu rfl i0, o1 [(6, some 0)] rfl fun _ _ h n => ok_len rfl rfl Try.underlying49 (IsV.rd n.1), mu rfl i1, o1 [(8, some 2)] rfl fun _ _ h n => ok_len rfl rfl Try.underlying49 (IsV.rd n.1), ob1 rfl fun _ _ h n => ok_neI rfl n.1 n.2.1, trivial⟩ [⟨_, _⟩, ⟨_, _⟩, ⟨_, _⟩] (fun b q p => ⟨p.ke 0 rfl i0, p.ke 1 rfl i1, p.ou 4 10 rfl, trivial⟩) ?_
 rintro a k ⟨⟨hg, hs, hd⟩, i0, i1, i10, _⟩
 refine wp_cond_split (isBool i10) (fun hc1253 => ?_) (fun hc1253 => ?_)
 ·rw [if_pos hc1253] at hr
  refine stepL 1 (⟨some (IsV false), []⟩ :: []) rfl ⟨hg, hs, hd⟩ (by kernel_rfl) ⟨ob1 rfl fun _ _ h n => ok_assign rfl (isV_bool.2 rfl), trivial⟩ [⟨_, _⟩] (fun b q p => ⟨p.ou 0 4 rfl, trivial⟩) ?_
  rintro a k ⟨⟨hg, hs, hd⟩, i4, _⟩
  refine wp_ret ?_
  obtain rfl := Option.some.inj hr
  exact retC1 rfl hd hg i4
 rw [if_neg (by rw [hc1253]; decide)] at hr
 refine wp_skip ?_
 refine wp_seq ?_
 refine stepL 3 (_ :: _ :: ⟨some (IsI 0), []⟩ :: []) rfl ⟨hg, hs, hd⟩ (by kernel_rfl) ⟨mu rfl i0, o1 [(11, some 0)] rfl fun _ _ h n => ok_len rfl rfl Try.underlying49 (IsV.rd n.1), ob1 rfl fun _ _ h n => ok_move rfl (cI rfl), trivial⟩ [⟨_, _⟩, ⟨_, _⟩, ⟨_, _⟩, ⟨_, _⟩] (fun b q p => ⟨p.ke 0 rfl i0, p.ke 1 rfl i1, p.ou 1 12 rfl, p.ou 2 13 rfl, trivial⟩) ?_
 rintro a k ⟨⟨hg, hs, hd⟩, i0, i1, i12, i13, _⟩
 refine wp_block ?_
 obtain ⟨f1, hf1, hr⟩ := bind_some hr
 refine cutFe f1 (fun s' c l => Bs noF k0 26 c l ∧ IsV s1_ (c.get 0) l ∧ IsV s2_ (c.get 1) l ∧ IsL s1_ (c.get 12) l ∧ IsV s' (c.get 13) l ∧ True) (fun i' s' c l => (i' = 0 ∧ Bs noF k0 26 c l ∧ True)) (fun r' c l => bodyPost Try.prog Try.f78 (RetC noF k0 (IsV r')) .ret c l.w) ?_ hQ ?_ ?_ ?_
 ·intro Q1 W1 hgo hex hret
  refine sim_loop ?_ _ _ _ _ _ hf1 ⟨⟨hg, hs, hd⟩, i0, i1, i12, i13, trivial⟩ Q1 W1 hgo hex hret
  clear hr hf1 hgo hex hret W1 hQ hg hs hd i0 i1 i12 i13
  intro s1 fl_ a k hr hS Q hQ hgo1224 hex1225 hret1226
  obtain ⟨⟨hg, hs, hd⟩, i0, i1, i12, i13, _⟩ := hS
  unfold slices_Equal_Rect_L0 at hr
  refine stepL 1 (_ :: []) rfl ⟨hg, hs, hd⟩ (by kernel_rfl) ⟨o1 [(13, none), (12, none)] rfl fun _ _ h n => ok_lss rfl (up i13 h n.1) (up i12 h n.2.1), trivial⟩ [⟨_, _⟩, ⟨_, _⟩, ⟨_, _⟩, ⟨_, _⟩, ⟨_, _⟩] (fun b q p => ⟨p.ke 0 rfl i0, p.ke 1 rfl i1, p.ke 12 rfl i12, p.ke 13 rfl i13, p.ou 0 14 rfl, trivial⟩) ?_
  rintro a k ⟨⟨hg, hs, hd⟩, i0, i1, i12, i13, i14, _⟩
  refine wp_seq ?_
  refine wp_cond_split (isBool i14) (fun hc1241 => ?_) (fun hc1241 => ?_)
  ·rw [if_pos hc1241] at hr
   refine wp_skip ?_
   refine wp_seq ?_
   refine wp_block ?_
   refine stepL 2 (_ :: _ :: []) rfl ⟨hg, hs, hd⟩ (by kernel_rfl) ⟨mu rfl i13, cp 0 rfl rfl, trivial⟩ [⟨_, _⟩, ⟨_, _⟩, ⟨_, _⟩, ⟨_, _⟩, ⟨_, _⟩] (fun b q p => ⟨p.ke 0 rfl i0, p.ke 1 rfl i1, p.ou 1 5 rfl, p.ke 12 rfl i12, p.ke 13 rfl i13, trivial⟩) ?_
   rintro a k ⟨⟨hg, hs, hd⟩, i0, i1, i5, i12, i13, _⟩
   refine wp_seq ?_
   obtain ⟨x1, hx1, hr⟩ := bind_some hr
   obtain ⟨x2, hx2, hr⟩ := bind_some hr
   refine cut (fun a' k' => Bs noF k0 26 a' k' ∧ (IsV s1_) (a'.get 0) k' ∧ (IsV s2_) (a'.get 1) k' ∧ (IsL s1_) (a'.get 12) k' ∧ (IsV s1) (a'.get 13) k' ∧ (IsV (!decide (x1 = x2))) (a'.get 24) k' ∧ True) ?_ hQ ?_
   ·intro Q2 W2 w1
    refine region (m := 9) (_ :: _ :: _ :: _ :: _ :: _ :: _ :: _ :: ⟨some (IsV (!decide (x1 = x2))), [(19, some 3), (23, some 7)]⟩ :: []) hmix hs (by kernel_rfl) ⟨mu rfl i0, mu rfl i5, o1 [(16, some 0), (17, some 1)] rfl fun _ _ h n => ok_indexAddr rfl Try.underlying49 ty35 (IsV.rd n.1) n.2.1 hx1, o1 [(18, some 2)] rfl fun _ _ h n => ok_load rfl ty35 n.1, mu rfl i1, mu rfl i5, o1 [(20, some 4), (21, some 5)] rfl fun _ _ h n => ok_indexAddr rfl Try.underlying49 ty35 (IsV.rd n.1) n.2.1 hx2, o1 [(22, some 6)] rfl fun _ _ h n => ok_load rfl ty35 n.1, ob1 rfl fun _ _ h n => ok_neA rfl eq35 n.1 n.2.1, trivial⟩ W2 fun b q p => ?_
    exact tail_done (k := q) (w1 _ _ ⟨Bs.post ⟨hg, hs, hd⟩ p, p.ke 0 rfl i0, p.ke 1 rfl i1, p.ke 12 rfl i12, p.ke 13 rfl i13, p.ou 8 24 rfl, trivial⟩)
   rintro a k ⟨⟨hg, hs, hd⟩, i0, i1, i12, i13, i24, _⟩
   refine wp_cond_split (isBool i24) (fun hc1236 => ?_) (fun hc1236 => ?_)
   ·rw [if_pos hc1236] at hr
    refine stepL 1 (⟨some (IsV false), []⟩ :: []) rfl ⟨hg, hs, hd⟩ (by kernel_rfl) ⟨ob1 rfl fun _ _ h n => ok_assign rfl (isV_bool.2 rfl), trivial⟩ [⟨_, _⟩] (fun b q p => ⟨p.ou 0 4 rfl, trivial⟩) ?_
    rintro a k ⟨⟨hg, hs, hd⟩, i4, _⟩
    refine wp_ret ?_
    exact hret1226 _ _ _ (Option.some.inj hr).symm (retC1 rfl hd hg i4)
   rw [if_neg (by rw [hc1236]; decide)] at hr
   refine wp_skip ?_
   obtain ⟨x3, hx3, hr⟩ := bind_some hr
   refine cut (fun a' k' => Bs noF k0 26 a' k' ∧ (IsV s1_) (a'.get 0) k' ∧ (IsV s2_) (a'.get 1) k' ∧ (IsL s1_) (a'.get 12) k' ∧ (IsV x3) (a'.get 13) k' ∧ True) ?_ hQ ?_
   ·intro Q3 W3 w2
    refine gS 2 (_ :: _ :: []) hs (by kernel_rfl) ⟨o1 [(13, none)] rfl fun _ _ h n => ok_add rfl (up i13 h n.1) (cI rfl) hx3, cm 0 rfl rfl, trivial⟩ W3 fun b q p => ?_
    exact tail_done (k := q) (w2 _ _ ⟨Bs.post ⟨hg, hs, hd⟩ p, p.ke 0 rfl i0, p.ke 1 rfl i1, p.ke 12 rfl i12, p.ou 1 13 rfl, trivial⟩)
   rintro a k ⟨⟨hg, hs, hd⟩, i0, i1, i12, i13, _⟩
   exact hgo1224 _ _ _ (Option.some.inj hr).symm ⟨⟨hg, hs, hd⟩, i0, i1, i12, i13, trivial⟩
  rw [if_neg (by rw [hc1241]; decide)] at hr
  refine wp_exit ?_
  exact hex1225 _ _ _ _ (Option.some.inj hr).symm ⟨rfl, ⟨hg, hs, hd⟩, trivial⟩
 ·rintro r1 a k rfl hR
  dsimp only at hr
  obtain rfl := Option.some.inj hr
  exact hR
 ·rintro _ _ _ rfl _
  simp at hr
 clear hf1
 rintro _ s2 a k rfl ⟨rfl, ⟨hg, hs, hd⟩, _⟩
 dsimp only at hr
 refine stepL 1 (⟨some (IsV true), []⟩ :: []) rfl ⟨hg, hs, hd⟩ (by kernel_rfl) ⟨ob1 rfl fun _ _ h n => ok_assign rfl (isV_bool.2 rfl), trivial⟩ [⟨_, _⟩] (fun b q p => ⟨p.ou 0 4 rfl, trivial⟩) ?_
 rintro a k ⟨⟨hg, hs, hd⟩, i4, _⟩
 refine wp_ret ?_
 obtain rfl := Option.some.inj hr
 exact retC1 rfl hd hg i4
def region_Right (a_ : (List Rect)) : Option (Bool) :=
 (region_Of a_).bind fun x1 =>
 (if (x1.2 == 0) then
  (slices_Equal_Rect x1.1 a_).bind fun x2 =>
  some x2
 else
  some false).bind fun x3 =>
 some x3
theorem region_Right_ok {k0 : K} {v0 : Value} {a_ : (List Rect)} {r : Bool} (i0 : (IsV a_) v0 k0) (hr : region_Right a_ = some r) :
  Calls Try.prog 55 #[v0] k0.w (Ret k0 (IsV r)) := by
 unfold region_Right at hr
 refine Ret.ofC ?_
 refine enterK Try.func55 rfl Try.ntmps55 (show 1 ≤ 17 by decide) fun a k hk0 hs hd ha => ?_
 obtain ⟨e0, _⟩ := ha
 replace i0 : (IsV a_) (a.get 0) k := by rw [e0, hk0]; exact i0
 have hQ : Gb.LetsOut (bodyPost Try.prog Try.f55 (RetC noF k0 (IsV r))) := letsOutC
 have hg : Chg noF k0 k := by rw [hk0]; exact Chg.refl _ k0
 refine stepL 1 (⟨some (IsV false), []⟩ :: []) rfl ⟨hg, hs, hd⟩ (by kernel_rfl) ⟨ob1 rfl fun _ _ h n => ok_assign rfl (isV_bool.2 rfl), trivial⟩ [⟨_, _⟩] (fun b q p => ⟨p.ke 0 rfl i0, trivial⟩) ?_
 rintro a k ⟨⟨hg, hs, hd⟩, i0, _⟩
 refine wp_seq ?_
 obtain ⟨x1, hx1, hr⟩ := bind_some hr
 refine cut (fun a' k' => Bs noF k0 17 a' k' ∧ (IsV a_) (a'.get 0) k' ∧ (IsV x1.1) (a'.get 3) k' ∧ (IsV x1.2) (a'.get 4) k' ∧ True) ?_ hQ ?_
 ·intro Q1 W1 w1
  refine gS 7 (_ :: _ :: _ :: _ :: _ :: _ :: _ :: []) hs (by kernel_rfl) ⟨mu rfl i0, o1 [(6, some 0)] rfl fun _ _ h n => ok_call rfl Try.call37 (region_Of_ok n.1 hx1), cm 1 rfl rfl, o1 [(5, some 2)] rfl fun _ _ h n => ok_ext2_0 rfl n.1, o1 [(5, some 2)] rfl fun _ _ h n => ok_ext2_1 rfl n.1, cp 3 rfl rfl, cp 4 rfl rfl, trivial⟩ W1 fun b q p => ?_
  exact tail_done (k := q) (w1 _ _ ⟨Bs.post ⟨hg, hs, hd⟩ p, p.ke 0 rfl i0, p.ou 5 3 rfl, p.ou 6 4 rfl, trivial⟩)
 rintro a k ⟨⟨hg, hs, hd⟩, i0, i3, i4, _⟩
 refine wp_seq ?_
 obtain ⟨x2, hx2, hr⟩ := bind_some hr
 obtain ⟨x3, hx3, hx2⟩ := ite_bind hx2
 refine cut (fun a' k' => Bs noF k0 17 a' k' ∧ (IsV x2) (a'.get 2) k' ∧ True) ?_ hQ ?_
 ·intro Q2 W2 w2
  refine gS 8 (_ :: _ :: _ :: _ :: _ :: _ :: _ :: _ :: []) hs (by kernel_rfl) ⟨mu rfl i4, o1 [(10, some 0)] rfl fun _ _ h n => ok_eqI rfl n.1 (cI rfl), cm 1 rfl rfl, mT rfl rfl i3, mT rfl rfl i0, gT [(13, some 3), (14, some 4)] rfl rfl fun hp _ _ h n => ok_call rfl Try.call78 (slices_Equal_Rect_ok (Gd.get n.1 hp) (Gd.get n.2.1 hp) (hx3 hp)), o1 [(12, some 2), (15, some 5)] rfl fun _ _ h n => ok_pickM rfl n.1 hx2 (Gd.get n.2.1) (cB rfl), cp 6 rfl rfl, trivial⟩ W2 fun b q p => ?_
  exact tail_done (k := q) (w2 _ _ ⟨Bs.post ⟨hg, hs, hd⟩ p, p.ou 7 2 rfl, trivial⟩)
 rintro a k ⟨⟨hg, hs, hd⟩, i2, _⟩
 refine wp_ret ?_
 obtain rfl := Option.some.inj hr
 exact retC1 rfl hd hg i2
def region_Same (a_ : (List Rect)) (b_ : (List Rect)) : Option (Bool) :=
 (slices_Equal_Rect a_ b_).bind fun x1 =>
 some x1
theorem region_Same_ok {k0 : K} {v0 v1 : Value} {a_ : (List Rect)} {b_ : (List Rect)} {r : Bool} (i0 : (IsV a_) v0 k0) (i1 : (IsV b_) v1 k0) (hr : region_Same a_ b_ = some r) :
  Calls Try.prog 64 #[v0, v1] k0.w (Ret k0 (IsV r)) := by
 unfold region_Same at hr
 refine Ret.ofC ?_
 refine enterK Try.func64 rfl Try.ntmps64 (show 2 ≤ 8 by decide) fun a k hk0 hs hd ha => ?_
 obtain ⟨e0, e1, _⟩ := ha
 replace i0 : (IsV a_) (a.get 0) k := by rw [e0, hk0]; exact i0
 replace i1 : (IsV b_) (a.get 1) k := by rw [e1, hk0]; exact i1
 have hQ : Gb.LetsOut (bodyPost Try.prog Try.f64 (RetC noF k0 (IsV r))) := letsOutC
 have hg : Chg noF k0 k := by rw [hk0]; exact Chg.refl _ k0
 refine stepL 1 (⟨some (IsV false), []⟩ :: []) rfl ⟨hg, hs, hd⟩ (by kernel_rfl) ⟨ob1 rfl fun _ _ h n => ok_assign rfl (isV_bool.2 rfl), trivial⟩ [⟨_, _⟩, ⟨_, _⟩] (fun b q p => ⟨p.ke 0 rfl i0, p.ke 1 rfl i1, trivial⟩) ?_
 rintro a k ⟨⟨hg, hs, hd⟩, i0, i1, _⟩
 refine wp_seq ?_
 obtain ⟨x1, hx1, hr⟩ := bind_some hr
 refine cut (fun a' k' => Bs noF k0 8 a' k' ∧ (IsV x1) (a'.get 4) k' ∧ True) ?_ hQ ?_
 ·intro Q1 W1 w1
  refine gS 4 (_ :: _ :: _ :: _ :: []) hs (by kernel_rfl) ⟨mu rfl i0, mu rfl i1, o1 [(5, some 0), (6, some 1)] rfl fun _ _ h n => ok_call rfl Try.call78 (slices_Equal_Rect_ok n.1 n.2.1 hx1), cp 2 rfl rfl, trivial⟩ W1 fun b q p => ?_
  exact tail_done (k := q) (w1 _ _ ⟨Bs.post ⟨hg, hs, hd⟩ p, p.ou 3 4 rfl, trivial⟩)
 rintro a k ⟨⟨hg, hs, hd⟩, i4, _⟩
 refine wp_ret ?_
 obtain rfl := Option.some.inj hr
 exact retC1 rfl hd hg i4
def solid_Right_L0 (s_ : (List Slab)) (s1 : Int) : Option (Flow (Int) (Bool)) :=
 if (decide (s1 < (s_.length : Int))) then
  ((getI s_ s1).bind fun x1 =>
  (if ((((decide (x1.Z0 < 0)) || (decide (x1.Z1 ≤ x1.Z0))) || (decide (4096 < x1.Z1))) || ((x1.Area.length : Int) == 0)) then
   some true
  else
   (region_Right x1.Area).bind fun x2 =>
   some (!x2)).bind fun x3 =>
  if x3 then
   some (.ret false)
  else
   if (s1 == 0) then
    some (.go ())
   else
    (subI s1 1).bind fun x4 =>
    (getI s_ x4).bind fun x5 =>
    (if (decide (x1.Z0 < x5.Z1)) then
     some true
    else
     (if (x5.Z1 == x1.Z0) then
      (region_Same x5.Area x1.Area).bind fun x6 =>
      some x6
     else
      some false).bind fun x7 =>
     some x7).bind fun x8 =>
    if x8 then
     some (.ret false)
    else
     some (.go ()) : Option (Flow (Unit) (Bool))).bind fun f1 => match f1 with
   | .go _ =>
    (addI s1 1).bind fun x9 =>
    some (.go x9)
   | .ex _ _ => none
   | .ret r1 => some (.ret r1)
 else
  some (.ex 0 s1)
def solid_Right (s_ : (List Slab)) : Option (Bool) :=
 if (decide (80 < (s_.length : Int))) then
  some false
 else
  (iterL (solid_Right_L0 s_) (s_.length + 1) 0).bind fun f1 => match f1 with
   | .go _ => none
   | .ex _ _ =>
    some true
   | .ret r1 => some r1
theorem solid_Right_ok {k0 : K} {v0 : Value} {s_ : (List Slab)} {r : Bool} (i0 : (IsV s_) v0 k0) (hr : solid_Right s_ = some r) :
  Calls Try.prog 56 #[v0] k0.w (Ret k0 (IsV r)) := by
 unfold solid_Right at hr
 refine Ret.ofC ?_
 refine enterK Try.func56 rfl Try.ntmps56 (show 1 ≤ 70 by decide) fun a k hk0 hs hd ha => ?_
 obtain ⟨e0, _⟩ := ha
 replace i0 : (IsV s_) (a.get 0) k := by rw [e0, hk0]; exact i0
 have hQ : Gb.LetsOut (bodyPost Try.prog Try.f56 (RetC noF k0 (IsV r))) := letsOutC
 have hg : Chg noF k0 k := by rw [hk0]; exact Chg.refl _ k0
 refine stepL 1 (⟨some (IsV false), []⟩ :: []) rfl ⟨hg, hs, hd⟩ (by kernel_rfl) ⟨ob1 rfl fun _ _ h n => ok_assign rfl (isV_bool.2 rfl), trivial⟩ [⟨_, _⟩] (fun b q p => ⟨p.ke 0 rfl i0, trivial⟩) ?_
 rintro a k ⟨⟨hg, hs, hd⟩, i0, _⟩
 refine wp_seq ?_
 refine stepL 3 (_ :: _ :: _ :: []) rfl ⟨hg, hs, hd⟩ (by kernel_rfl) ⟨mu rfl i0, o1 [(6, some 0)] rfl fun _ _ h n => ok_len rfl rfl Try.underlying22 (IsV.rd n.1), o1 [(7, some 1)] rfl fun _ _ h n => ok_gtr rfl n.1 (cI rfl), trivial⟩ [⟨_, _⟩, ⟨_, _⟩] (fun b q p => ⟨p.ke 0 rfl i0, p.ou 2 8 rfl, trivial⟩) ?_
 rintro a k ⟨⟨hg, hs, hd⟩, i0, i8, _⟩
 refine wp_cond_split (isBool i8) (fun hc1332 => ?_) (fun hc1332 => ?_)
 ·rw [if_pos hc1332] at hr
  refine stepL 1 (⟨some (IsV false), []⟩ :: []) rfl ⟨hg, hs, hd⟩ (by kernel_rfl) ⟨ob1 rfl fun _ _ h n => ok_assign rfl (isV_bool.2 rfl), trivial⟩ [⟨_, _⟩] (fun b q p => ⟨p.ou 0 2 rfl, trivial⟩) ?_
  rintro a k ⟨⟨hg, hs, hd⟩, i2, _⟩
  refine wp_ret ?_
  obtain rfl := Option.some.inj hr
  exact retC1 rfl hd hg i2
 rw [if_neg (by rw [hc1332]; decide)] at hr
 refine wp_skip ?_
 refine wp_seq ?_
 refine stepL 3 (_ :: _ :: ⟨some (IsI 0), []⟩ :: []) rfl ⟨hg, hs, hd⟩ (by kernel_rfl) ⟨mu rfl i0, o1 [(9, some 0)] rfl fun _ _ h n => ok_len rfl rfl Try.underlying22 (IsV.rd n.1), ob1 rfl fun _ _ h n => ok_move rfl (cI rfl), trivial⟩ [⟨_, _⟩, ⟨_, _⟩, ⟨_, _⟩, ⟨_, _⟩] (fun b q p => ⟨p.ke 0 rfl i0, p.ou 0 9 rfl, p.ou 1 10 rfl, p.ou 2 11 rfl, trivial⟩) ?_
 rintro a k ⟨⟨hg, hs, hd⟩, i0, i9, i10, i11, _⟩
 refine wp_block ?_
 obtain ⟨f1, hf1, hr⟩ := bind_some hr
 refine cutFe f1 (fun s' c l => Bs noF k0 70 c l ∧ IsV s_ (c.get 0) l ∧ IsV s_ (c.get 9) l ∧ IsL s_ (c.get 10) l ∧ IsV s' (c.get 11) l ∧ True) (fun i' s' c l => (i' = 0 ∧ Bs noF k0 70 c l ∧ True)) (fun r' c l => bodyPost Try.prog Try.f56 (RetC noF k0 (IsV r')) .ret c l.w) ?_ hQ ?_ ?_ ?_
 ·intro Q1 W1 hgo hex hret
  refine sim_loop ?_ _ _ _ _ _ hf1 ⟨⟨hg, hs, hd⟩, i0, i9, i10, i11, trivial⟩ Q1 W1 hgo hex hret
  clear hr hf1 hgo hex hret W1 hQ hg hs hd i0 i10 i11 i9
  intro s1 fl_ a k hr hS Q hQ hgo1280 hex1281 hret1282
  obtain ⟨⟨hg, hs, hd⟩, i0, i9, i10, i11, _⟩ := hS
  unfold solid_Right_L0 at hr
  refine stepL 1 (_ :: []) rfl ⟨hg, hs, hd⟩ (by kernel_rfl) ⟨o1 [(11, none), (10, none)] rfl fun _ _ h n => ok_lss rfl (up i11 h n.1) (up i10 h n.2.1), trivial⟩ [⟨_, _⟩, ⟨_, _⟩, ⟨_, _⟩, ⟨_, _⟩, ⟨_, _⟩] (fun b q p => ⟨p.ke 0 rfl i0, p.ke 9 rfl i9, p.ke 10 rfl i10, p.ke 11 rfl i11, p.ou 0 12 rfl, trivial⟩) ?_
  rintro a k ⟨⟨hg, hs, hd⟩, i0, i9, i10, i11, i12, _⟩
  refine wp_seq ?_
  refine wp_cond_split (isBool i12) (fun hc1320 => ?_) (fun hc1320 => ?_)
  ·rw [if_pos hc1320] at hr
   refine wp_skip ?_
   refine wp_seq ?_
   obtain ⟨f2, hf2, hr⟩ := bind_some hr
   refine cutFg f2 (fun s' c l => Bs noF k0 70 c l ∧ IsV s_ (c.get 0) l ∧ IsV s_ (c.get 9) l ∧ IsL s_ (c.get 10) l ∧ IsV s1 (c.get 11) l ∧ True) (fun i' s' c l => False) (fun r' c l => bodyPost Try.prog Try.f56 (RetC noF k0 (IsV r')) .ret c l.w) ?_ hQ ?_ ?_ ?_
   ·intro Q2 W2 hgo1286 hex1287 hret1288
    replace hr := hf2
    clear hQ
    have hQ := W2
    refine wp_block ?_
    refine wp_seq ?_
    obtain ⟨x1, hx1, hr⟩ := bind_some hr
    refine cut (fun a' k' => Bs noF k0 70 a' k' ∧ (IsV s_) (a'.get 0) k' ∧ (IsV s1) (a'.get 3) k' ∧ (IsRef x1) (a'.get 4) k' ∧ (IsV s_) (a'.get 9) k' ∧ (IsL s_) (a'.get 10) k' ∧ (IsV s1) (a'.get 11) k' ∧ True) ?_ hQ ?_
    ·intro Q3 W3 w1
     refine gS 5 (_ :: _ :: _ :: ⟨some (IsBox k.w.heap.size (⟨0, 0, []⟩ : Slab)), []⟩ :: _ :: []) hs (by kernel_rfl) ⟨mu rfl i11, o1 [(9, none), (11, none)] rfl fun _ _ h n => ok_indexAddr rfl Try.underlying22 ty51 (IsV.rd (up i9 h n.1)) (up i11 h n.2.1) hx1, o1 [(14, some 1)] rfl fun _ _ h n => ok_load rfl ty51 n.1, ob1 rfl fun _ _ h n => ok_alloc _ h.size rfl z51, cp 0 rfl rfl, trivial⟩ W3 fun b q p => ?_
     have hgq := hg.then p.grow
     have hsb := p.size.trans hs
     have hdb := p.defers.trans hd
     have j0 := p.ke 0 rfl i0
     have j3 : (IsV s1) (b.get 3) q := p.ou 4 3 rfl
     obtain ⟨b4, j4, x4, z4⟩ : (IsBox k.w.heap.size (⟨0, 0, []⟩ : Slab)) (b.get 4) q := p.ou 3 4 rfl
     replace x4 : Lo k (Eq b4) := Lo.eq x4
     have y4 : Lo k0 (Eq b4) := x4.chg hg
     have j9 := p.ke 9 rfl i9
     have j10 := p.ke 10 rfl i10
     have j11 := p.ke 11 rfl i11
     have j15 : (IsV x1) (b.get 15) q := p.ou 2 15 rfl
     have hns := z4.nshF
     refine tail_storeB (i := 5) rfl rfl rfl rfl szf51 (Upd.self (α := Slab)) j4 z4 j15 fun q2 hch hz => ?_
     replace hgq := hgq.step hch y4.wr
     have hle := hch.le hns
     replace j0 := Pers.pers hle j0
     replace j3 := Pers.pers hle j3
     replace j9 := Pers.pers hle j9
     replace j10 := Pers.pers hle j10
     replace j11 := Pers.pers hle j11
     replace j15 := Pers.pers hle j15
     replace z4 := hz
     clear hns hle hch
     obtain ⟨q, hqq⟩ : ∃ q, q = q2 := ⟨q2, rfl⟩
     subst hqq
     obtain ⟨q2, hsh, jn⟩ := z4.give
     replace j0 := Pers.pers hsh.le j0
     replace j3 := Pers.pers hsh.le j3
     replace j9 := Pers.pers hsh.le j9
     replace j10 := Pers.pers hsh.le j10
     replace j11 := Pers.pers hsh.le j11
     rw [← j4] at jn
     replace j4 := jn
     replace hgq := hgq.hand hsh y4.wr
     rw [← hsh.w]
     clear hsh
     obtain ⟨q, hqq⟩ : ∃ q, q = q2 := ⟨q2, rfl⟩
     subst hqq
     exact tail_done (k := q) (w1 _ _ ⟨⟨hgq, hsb, hdb⟩, j0, j3, j4, j9, j10, j11, trivial⟩)
    rintro a k ⟨⟨hg, hs, hd⟩, i0, i3, i4, i9, i10, i11, _⟩
    refine wp_seq ?_
    refine wp_seq ?_
    obtain ⟨x2, hx2, hr⟩ := bind_some hr
    obtain ⟨x3, hx3, hx2⟩ := ite_bindF hx2
    refine cut (fun a' k' => Bs noF k0 70 a' k' ∧ (IsV s_) (a'.get 0) k' ∧ (IsV s1) (a'.get 3) k' ∧ (IsRef x1) (a'.get 4) k' ∧ (IsV s_) (a'.get 9) k' ∧ (IsL s_) (a'.get 10) k' ∧ (IsV s1) (a'.get 11) k' ∧ (IsV x2) (a'.get 42) k' ∧ True) ?_ hQ ?_
    ·intro Q4 W4 w2
     refine gS 27 (_ :: _ :: _ :: _ :: _ :: _ :: _ :: _ :: _ :: _ :: _ :: _ :: _ :: _ :: _ :: _ :: _ :: _ :: _ :: _ :: _ :: _ :: _ :: _ :: _ :: _ :: _ :: []) hs (by kernel_rfl) ⟨o1 [(4, none)] rfl fun _ _ h n => ok_fieldAddr rfl fo51_0 (at_Slab_0 _) ((up i4 h n.1)).ptr, o1 [(16, some 0)] rfl fun _ _ h n => ok_load rfl ty3 n.1, o1 [(17, some 1)] rfl fun _ _ h n => ok_lss rfl n.1 (cI rfl), cm 2 rfl rfl, gF [(4, none)] rfl rfl fun hp _ _ h n => ok_fieldAddr rfl fo51_0 (at_Slab_0 _) ((up i4 h n.1)).ptr, gF [(20, some 4)] rfl rfl fun hp _ _ h n => ok_load rfl ty3 (Gd.get n.1 hp), gF [(4, none)] rfl rfl fun hp _ _ h n => ok_fieldAddr rfl fo51_1 (at_Slab_1 _) ((up i4 h n.1)).ptr, gF [(22, some 6)] rfl rfl fun hp _ _ h n => ok_load rfl ty3 (Gd.get n.1 hp), gF [(21, some 5), (23, some 7)] rfl rfl fun hp _ _ h n => ok_geq rfl (Gd.get n.1 hp) (Gd.get n.2.1 hp), o1 [(19, some 3), (24, some 8)] rfl fun _ _ h n => ok_pickOr rfl n.1 (cB rfl) (Gd.get n.2.1), cm 9 rfl rfl, gF [(4, none)] rfl rfl fun hp _ _ h n => ok_fieldAddr rfl fo51_1 (at_Slab_1 _) ((up i4 h n.1)).ptr, gF [(27, some 11)] rfl rfl fun hp _ _ h n => ok_load rfl ty3 (Gd.get n.1 hp), gF [(28, some 12)] rfl rfl fun hp _ _ h n => ok_gtr rfl (Gd.get n.1 hp) (cI rfl), o1 [(26, some 10), (29, some 13)] rfl fun _ _ h n => ok_pickOr rfl n.1 (cB rfl) (Gd.get n.2.1), cm 14 rfl rfl, gF [(4, none)] rfl rfl fun hp _ _ h n => ok_fieldAddr rfl fo51_2 (at_Slab_2 _) ((up i4 h n.1)).ptr, gF [(32, some 16)] rfl rfl fun hp _ _ h n => ok_load rfl ty49 (Gd.get n.1 hp), gF [(33, some 17)] rfl rfl fun hp _ _ h n => ok_len rfl rfl Try.underlying49 (IsV.rd (Gd.get n.1 hp)), gF [(34, some 18)] rfl rfl fun hp _ _ h n => ok_eqI rfl (Gd.get n.1 hp) (cI rfl), o1 [(31, some 15), (35, some 19)] rfl fun _ _ h n => ok_pickOr rfl n.1 (cB rfl) (Gd.get n.2.1), cm 20 rfl rfl, gF [(4, none)] rfl rfl fun hp _ _ h n => ok_fieldAddr rfl fo51_2 (at_Slab_2 _) ((up i4 h n.1)).ptr, gF [(38, some 22)] rfl rfl fun hp _ _ h n => ok_load rfl ty49 (Gd.get n.1 hp), gF [(39, some 23)] rfl rfl fun hp _ _ h n => ok_call rfl Try.call55 (region_Right_ok (Gd.get n.1 hp) (hx3 hp)), gF [(40, some 24)] rfl rfl fun hp _ _ h n => ok_not rfl (Gd.get n.1 hp), o1 [(37, some 21), (41, some 25)] rfl fun _ _ h n => ok_pickM rfl n.1 hx2 (cB rfl) (Gd.get n.2.1), trivial⟩ W4 fun b q p => ?_
     exact tail_done (k := q) (w2 _ _ ⟨Bs.post ⟨hg, hs, hd⟩ p, p.ke 0 rfl i0, p.ke 3 rfl i3, p.ke 4 rfl i4, p.ke 9 rfl i9, p.ke 10 rfl i10, p.ke 11 rfl i11, p.ou 26 42 rfl, trivial⟩)
    rintro a k ⟨⟨hg, hs, hd⟩, i0, i3, i4, i9, i10, i11, i42, _⟩
    refine wp_cond_split (isBool i42) (fun hc1308 => ?_) (fun hc1308 => ?_)
    ·rw [if_pos hc1308] at hr
     refine stepL 1 (⟨some (IsV false), []⟩ :: []) rfl ⟨hg, hs, hd⟩ (by kernel_rfl) ⟨ob1 rfl fun _ _ h n => ok_assign rfl (isV_bool.2 rfl), trivial⟩ [⟨_, _⟩] (fun b q p => ⟨p.ou 0 2 rfl, trivial⟩) ?_
     rintro a k ⟨⟨hg, hs, hd⟩, i2, _⟩
     refine wp_ret ?_
     exact hret1288 _ _ _ (Option.some.inj hr).symm (retC1 rfl hd hg i2)
    rw [if_neg (by rw [hc1308]; decide)] at hr
    refine wp_skip ?_
    refine wp_seq ?_
    refine stepL 2 (_ :: _ :: []) rfl ⟨hg, hs, hd⟩ (by kernel_rfl) ⟨mu rfl i3, o1 [(43, some 0)] rfl fun _ _ h n => ok_eqI rfl n.1 (cI rfl), trivial⟩ [⟨_, _⟩, ⟨_, _⟩, ⟨_, _⟩, ⟨_, _⟩, ⟨_, _⟩, ⟨_, _⟩, ⟨_, _⟩] (fun b q p => ⟨p.ke 0 rfl i0, p.ke 3 rfl i3, p.ke 4 rfl i4, p.ke 9 rfl i9, p.ke 10 rfl i10, p.ke 11 rfl i11, p.ou 1 44 rfl, trivial⟩) ?_
    rintro a k ⟨⟨hg, hs, hd⟩, i0, i3, i4, i9, i10, i11, i44, _⟩
    refine wp_cond_split (isBool i44) (fun hc1305 => ?_) (fun hc1305 => ?_)
    ·rw [if_pos hc1305] at hr
     refine wp_exit ?_
     exact hgo1286 _ _ _ (Option.some.inj hr).symm ⟨⟨hg, hs, hd⟩, i0, i9, i10, i11, trivial⟩
    rw [if_neg (by rw [hc1305]; decide)] at hr
    refine wp_skip ?_
    refine wp_seq ?_
    obtain ⟨x6, hx6, hr⟩ := bind_some hr
    obtain ⟨x7, hx7, hr⟩ := bind_some hr
    refine cut (fun a' k' => Bs noF k0 70 a' k' ∧ (IsV s_) (a'.get 0) k' ∧ (IsRef x1) (a'.get 4) k' ∧ (IsRef x7) (a'.get 5) k' ∧ (IsV s_) (a'.get 9) k' ∧ (IsL s_) (a'.get 10) k' ∧ (IsV s1) (a'.get 11) k' ∧ True) ?_ hQ ?_
    ·intro Q5 W5 w3
     refine gS 6 (_ :: _ :: _ :: _ :: _ :: ⟨some (IsBox k.w.heap.size (⟨0, 0, []⟩ : Slab)), []⟩ :: []) hs (by kernel_rfl) ⟨mu rfl i0, mu rfl i3, o1 [(46, some 1)] rfl fun _ _ h n => ok_sub rfl n.1 (cI rfl) hx6, o1 [(45, some 0), (47, some 2)] rfl fun _ _ h n => ok_indexAddr rfl Try.underlying22 ty51 (IsV.rd n.1) n.2.1 hx7, o1 [(48, some 3)] rfl fun _ _ h n => ok_load rfl ty51 n.1, ob1 rfl fun _ _ h n => ok_alloc _ h.size rfl z51, trivial⟩ W5 fun b q p => ?_
     have hgq := hg.then p.grow
     have hsb := p.size.trans hs
     have hdb := p.defers.trans hd
     have j0 := p.ke 0 rfl i0
     have j4 := p.ke 4 rfl i4
     obtain ⟨b5, j5, x5, z5⟩ : (IsBox k.w.heap.size (⟨0, 0, []⟩ : Slab)) (b.get 5) q := p.ou 5 5 rfl
     replace x5 : Lo k (Eq b5) := Lo.eq x5
     have y5 : Lo k0 (Eq b5) := x5.chg hg
     have j9 := p.ke 9 rfl i9
     have j10 := p.ke 10 rfl i10
     have j11 := p.ke 11 rfl i11
     have j49 : (IsV x7) (b.get 49) q := p.ou 4 49 rfl
     have hns := z5.nshF
     refine tail_storeB (i := 6) rfl rfl rfl rfl szf51 (Upd.self (α := Slab)) j5 z5 j49 fun q2 hch hz => ?_
     replace hgq := hgq.step hch y5.wr
     have hle := hch.le hns
     replace j0 := Pers.pers hle j0
     replace j4 := Pers.pers hle j4
     replace j9 := Pers.pers hle j9
     replace j10 := Pers.pers hle j10
     replace j11 := Pers.pers hle j11
     replace j49 := Pers.pers hle j49
     replace z5 := hz
     clear hns hle hch
     obtain ⟨q, hqq⟩ : ∃ q, q = q2 := ⟨q2, rfl⟩
     subst hqq
     obtain ⟨q2, hsh, jn⟩ := z5.give
     replace j0 := Pers.pers hsh.le j0
     replace j4 := Pers.pers hsh.le j4
     replace j9 := Pers.pers hsh.le j9
     replace j10 := Pers.pers hsh.le j10
     replace j11 := Pers.pers hsh.le j11
     rw [← j5] at jn
     replace j5 := jn
     replace hgq := hgq.hand hsh y5.wr
     rw [← hsh.w]
     clear hsh
     obtain ⟨q, hqq⟩ : ∃ q, q = q2 := ⟨q2, rfl⟩
     subst hqq
     exact tail_done (k := q) (w3 _ _ ⟨⟨hgq, hsb, hdb⟩, j0, j4, j5, j9, j10, j11, trivial⟩)
    rintro a k ⟨⟨hg, hs, hd⟩, i0, i4, i5, i9, i10, i11, _⟩
    refine wp_seq ?_
    obtain ⟨x8, hx8, hr⟩ := bind_some hr
    obtain ⟨x9, hx9, hx8⟩ := ite_bindF hx8
    obtain ⟨x10, hx10, hx9⟩ := ite_bindP hx9
    refine cut (fun a' k' => Bs noF k0 70 a' k' ∧ (IsV s_) (a'.get 0) k' ∧ (IsV s_) (a'.get 9) k' ∧ (IsL s_) (a'.get 10) k' ∧ (IsV s1) (a'.get 11) k' ∧ (IsV x8) (a'.get 68) k' ∧ True) ?_ hQ ?_
    ·intro Q6 W6 w4
     refine gS 19 (_ :: _ :: _ :: _ :: _ :: _ :: _ :: _ :: _ :: _ :: _ :: ⟨some (Gd ((decide (x1.Z0 < x7.Z1)) = false) (IsV (x7.Z1 == x1.Z0))), [(60, some 10)]⟩ :: ⟨some (Gd (((decide (x1.Z0 < x7.Z1)) = false) ∧ (x7.Z1 == x1.Z0) = true) (IsPtr x7.Area)), [(5, none)]⟩ :: ⟨some (Gd (((decide (x1.Z0 < x7.Z1)) = false) ∧ (x7.Z1 == x1.Z0) = true) (IsV x7.Area)), [(62, some 12)]⟩ :: ⟨some (Gd (((decide (x1.Z0 < x7.Z1)) = false) ∧ (x7.Z1 == x1.Z0) = true) (IsPtr x1.Area)), [(4, none)]⟩ :: ⟨some (Gd (((decide (x1.Z0 < x7.Z1)) = false) ∧ (x7.Z1 == x1.Z0) = true) (IsV x1.Area)), [(64, some 14)]⟩ :: ⟨some (Gd (((decide (x1.Z0 < x7.Z1)) = false) ∧ (x7.Z1 == x1.Z0) = true) (IsV x10)), [(63, some 13), (65, some 15)]⟩ :: _ :: _ :: []) hs (by kernel_rfl) ⟨o1 [(5, none)] rfl fun _ _ h n => ok_fieldAddr rfl fo51_1 (at_Slab_1 _) ((up i5 h n.1)).ptr, o1 [(50, some 0)] rfl fun _ _ h n => ok_load rfl ty3 n.1, o1 [(4, none)] rfl fun _ _ h n => ok_fieldAddr rfl fo51_0 (at_Slab_0 _) ((up i4 h n.1)).ptr, o1 [(52, some 2)] rfl fun _ _ h n => ok_load rfl ty3 n.1, o1 [(51, some 1), (53, some 3)] rfl fun _ _ h n => ok_gtr rfl n.1 n.2.1, cm 4 rfl rfl, gF [(5, none)] rfl rfl fun hp _ _ h n => ok_fieldAddr rfl fo51_1 (at_Slab_1 _) ((up i5 h n.1)).ptr, gF [(56, some 6)] rfl rfl fun hp _ _ h n => ok_load rfl ty3 (Gd.get n.1 hp), gF [(4, none)] rfl rfl fun hp _ _ h n => ok_fieldAddr rfl fo51_0 (at_Slab_0 _) ((up i4 h n.1)).ptr, gF [(58, some 8)] rfl rfl fun hp _ _ h n => ok_load rfl ty3 (Gd.get n.1 hp), gF [(57, some 7), (59, some 9)] rfl rfl fun hp _ _ h n => ok_eqI rfl (Gd.get n.1 hp) (Gd.get n.2.1 hp), gdF rfl rfl fun hp _ _ h n => ok_move rfl (Gd.get n.1 hp), gdTT rfl rfl fun hp b q h n => ok_fieldAddr rfl fo51_2 (at_Slab_2 _) ((up i5 h n.1)).ptr, gdTT rfl rfl fun hp b q h n => ok_load rfl ty49 (Gd.get n.1 hp), gdTT rfl rfl fun hp b q h n => ok_fieldAddr rfl fo51_2 (at_Slab_2 _) ((up i4 h n.1)).ptr, gdTT rfl rfl fun hp b q h n => ok_load rfl ty49 (Gd.get n.1 hp), gdTT rfl rfl fun hp b q h n => ok_call rfl Try.call64 (region_Same_ok (Gd.get n.1 hp) (Gd.get n.2.1 hp) (hx10 hp)), gF [(61, some 11), (66, some 16)] rfl rfl fun hp _ _ h n => ok_pickM rfl (Gd.get n.1 hp) (hx9 hp) (fun hm => (Gd.get n.2.1 ⟨hp, hm⟩)) (cB rfl), o1 [(55, some 5), (67, some 17)] rfl fun _ _ h n => ok_pickM rfl n.1 hx8 (cB rfl) (Gd.get n.2.1), trivial⟩ W6 fun b q p => ?_
     exact tail_done (k := q) (w4 _ _ ⟨Bs.post ⟨hg, hs, hd⟩ p, p.ke 0 rfl i0, p.ke 9 rfl i9, p.ke 10 rfl i10, p.ke 11 rfl i11, p.ou 18 68 rfl, trivial⟩)
    rintro a k ⟨⟨hg, hs, hd⟩, i0, i9, i10, i11, i68, _⟩
    refine wp_cond_split (isBool i68) (fun hc1300 => ?_) (fun hc1300 => ?_)
    ·rw [if_pos hc1300] at hr
     refine stepL 1 (⟨some (IsV false), []⟩ :: []) rfl ⟨hg, hs, hd⟩ (by kernel_rfl) ⟨ob1 rfl fun _ _ h n => ok_assign rfl (isV_bool.2 rfl), trivial⟩ [⟨_, _⟩] (fun b q p => ⟨p.ou 0 2 rfl, trivial⟩) ?_
     rintro a k ⟨⟨hg, hs, hd⟩, i2, _⟩
     refine wp_ret ?_
     exact hret1288 _ _ _ (Option.some.inj hr).symm (retC1 rfl hd hg i2)
    rw [if_neg (by rw [hc1300]; decide)] at hr
    refine wp_skip ?_
    exact hgo1286 _ _ _ (Option.some.inj hr).symm ⟨⟨hg, hs, hd⟩, i0, i9, i10, i11, trivial⟩
   ·rintro r1 a k rfl hR
    dsimp only at hr
    exact hret1282 _ _ _ (Option.some.inj hr).symm hR
   ·rintro _ _ _ _ _ hX
    exact hX.elim
   clear hf2
   rintro s2 a k rfl ⟨⟨hg, hs, hd⟩, i0, i9, i10, i11, _⟩
   dsimp only at hr
   obtain ⟨x11, hx11, hr⟩ := bind_some hr
   refine cut (fun a' k' => Bs noF k0 70 a' k' ∧ (IsV s_) (a'.get 0) k' ∧ (IsV s_) (a'.get 9) k' ∧ (IsL s_) (a'.get 10) k' ∧ (IsV x11) (a'.get 11) k' ∧ True) ?_ hQ ?_
   ·intro Q7 W7 w5
    refine gS 2 (_ :: _ :: []) hs (by kernel_rfl) ⟨o1 [(11, none)] rfl fun _ _ h n => ok_add rfl (up i11 h n.1) (cI rfl) hx11, cm 0 rfl rfl, trivial⟩ W7 fun b q p => ?_
    exact tail_done (k := q) (w5 _ _ ⟨Bs.post ⟨hg, hs, hd⟩ p, p.ke 0 rfl i0, p.ke 9 rfl i9, p.ke 10 rfl i10, p.ou 1 11 rfl, trivial⟩)
   rintro a k ⟨⟨hg, hs, hd⟩, i0, i9, i10, i11, _⟩
   exact hgo1280 _ _ _ (Option.some.inj hr).symm ⟨⟨hg, hs, hd⟩, i0, i9, i10, i11, trivial⟩
  rw [if_neg (by rw [hc1320]; decide)] at hr
  refine wp_exit ?_
  exact hex1281 _ _ _ _ (Option.some.inj hr).symm ⟨rfl, ⟨hg, hs, hd⟩, trivial⟩
 ·rintro r2 a k rfl hR
  dsimp only at hr
  obtain rfl := Option.some.inj hr
  exact hR
 ·rintro _ _ _ rfl _
  simp at hr
 clear hf1
 rintro _ s3 a k rfl ⟨rfl, ⟨hg, hs, hd⟩, _⟩
 dsimp only at hr
 refine stepL 1 (⟨some (IsV true), []⟩ :: []) rfl ⟨hg, hs, hd⟩ (by kernel_rfl) ⟨ob1 rfl fun _ _ h n => ok_assign rfl (isV_bool.2 rfl), trivial⟩ [⟨_, _⟩] (fun b q p => ⟨p.ou 0 2 rfl, trivial⟩) ?_
 rintro a k ⟨⟨hg, hs, hd⟩, i2, _⟩
 refine wp_ret ?_
 obtain rfl := Option.some.inj hr
 exact retC1 rfl hd hg i2
def solid_Boxes_L1 (x1 : Slab) (s1 : (List Box) × Int) : Option (Flow ((List Box) × Int) ((List Box))) :=
 if (decide (s1.2 < (x1.Area.length : Int))) then
  (getI x1.Area s1.2).bind fun x2 =>
  (appI s1.1 ([(⟨x2, x1.Z0, x1.Z1⟩ : Box)])).bind fun x3 =>
  (addI s1.2 1).bind fun x4 =>
  some (.go (x3, x4))
 else
  some (.ex 2 (s1.1, s1.2))
def solid_Boxes_L0 (s_ : (List Slab)) (s1 : (List Box) × Int) : Option (Flow ((List Box) × Int) ((List Box))) :=
 if (decide (s1.2 < (s_.length : Int))) then
  (getI s_ s1.2).bind fun x1 =>
  (iterL (solid_Boxes_L1 x1) (x1.Area.length + 1) (s1.1, 0)).bind fun f1 => match f1 with
   | .go _ => none
   | .ex _ s2 =>
    (addI s1.2 1).bind fun x2 =>
    some (.go (s2.1, x2))
   | .ret r1 => some (.ret r1)
 else
  some (.ex 0 (s1.1, s1.2))
def solid_Boxes (s_ : (List Slab)) : Option ((List Box)) :=
 (solid_Right s_).bind fun x1 =>
 if (!x1) then
  some ([] : List Box)
 else
  (iterL (solid_Boxes_L0 s_) (s_.length + 1) (([] : List Box), 0)).bind fun f1 => match f1 with
   | .go _ => none
   | .ex _ s1 =>
    some s1.1
   | .ret r1 => some r1
theorem solid_Boxes_ok {k0 : K} {v0 : Value} {s_ : (List Slab)} {r : (List Box)} (i0 : (IsV s_) v0 k0) (hr : solid_Boxes s_ = some r) :
  Calls Try.prog 46 #[v0] k0.w (Ret k0 (IsV r)) := by
 unfold solid_Boxes at hr
 refine Ret.ofC ?_
 refine enterK Try.func46 rfl Try.ntmps46 (show 1 ≤ 36 by decide) fun a k hk0 hs hd ha => ?_
 obtain ⟨e0, _⟩ := ha
 replace i0 : (IsV s_) (a.get 0) k := by rw [e0, hk0]; exact i0
 have hQ : Gb.LetsOut (bodyPost Try.prog Try.f46 (RetC noF k0 (IsV r))) := letsOutC
 have hg : Chg noF k0 k := by rw [hk0]; exact Chg.refl _ k0
 refine stepL 1 (⟨some IsE0, []⟩ :: []) rfl ⟨hg, hs, hd⟩ (by kernel_rfl) ⟨ob1 rfl fun b q h n => ok_assign rfl isE0_nil, trivial⟩ [⟨_, _⟩] (fun b q p => ⟨p.ke 0 rfl i0, trivial⟩) ?_
 rintro a k ⟨⟨hg, hs, hd⟩, i0, _⟩
 refine wp_seq ?_
 refine wp_seq ?_
 obtain ⟨x1, hx1, hr⟩ := bind_some hr
 refine cut (fun a' k' => Bs noF k0 36 a' k' ∧ (IsV s_) (a'.get 0) k' ∧ (IsV (!x1)) (a'.get 10) k' ∧ True) ?_ hQ ?_
 ·intro Q1 W1 w1
  refine gS 3 (_ :: _ :: _ :: []) hs (by kernel_rfl) ⟨mu rfl i0, o1 [(8, some 0)] rfl fun _ _ h n => ok_call rfl Try.call56 (solid_Right_ok n.1 hx1), o1 [(9, some 1)] rfl fun _ _ h n => ok_not rfl n.1, trivial⟩ W1 fun b q p => ?_
  exact tail_done (k := q) (w1 _ _ ⟨Bs.post ⟨hg, hs, hd⟩ p, p.ke 0 rfl i0, p.ou 2 10 rfl, trivial⟩)
 rintro a k ⟨⟨hg, hs, hd⟩, i0, i10, _⟩
 refine wp_cond_split (isBool i10) (fun hc1394 => ?_) (fun hc1394 => ?_)
 ·rw [if_pos hc1394] at hr
  refine cutL noF k0 36 [⟨2, IsV ([] : List Box)⟩] ?_ ?_
  ·intro Q2 W2 w2
   refine gS 1 (⟨some IsE0, []⟩ :: []) hs (by kernel_rfl) ⟨ob1 rfl fun b q h n => ok_assign rfl isE0_nil, trivial⟩ W2 fun b q p => ?_
   have hgq := hg.then p.grow
   have hsb := p.size.trans hs
   have hdb := p.defers.trans hd
   have j2 : IsE0 (b.get 2) q := p.ou 0 2 rfl
   replace j2 : IsV ([] : List Box) (b.get 2) q := j2.isV
   exact tail_done (k := q) (w2 _ _ ⟨⟨hgq, hsb, hdb⟩, j2, trivial⟩)
  rintro a k ⟨⟨hg, hs, hd⟩, i2, _⟩
  refine wp_ret ?_
  obtain rfl := Option.some.inj hr
  exact retC1 rfl hd hg i2
 rw [if_neg (by rw [hc1394]; decide)] at hr
 refine wp_skip ?_
 refine cutS (fun c l => Bs noF k0 36 c l ∧ IsV s_ (c.get 0) l ∧ IsOwn 0 37 ([] : List Box) (c.get 3) l ∧ Lo k0 (obF (c.get 3)) ∧ True) ?_ ?_
 ·intro Q3 W3 w3
  refine gS 1 (⟨some IsE0, []⟩ :: []) hs (by kernel_rfl) ⟨ob1 rfl fun b q h n => ok_assign rfl isE0_nil, trivial⟩ W3 fun b q p => ?_
  have hgq := hg.then p.grow
  have hsb := p.size.trans hs
  have hdb := p.defers.trans hd
  have j0 := p.ke 0 rfl i0
  have j3 : IsE0 (b.get 3) q := p.ou 0 3 rfl
  have y3 : Lo k0 (obF (b.get 3)) := j3.lo
  replace j3 : IsOwn 0 37 ([] : List Box) (b.get 3) q := j3.own0
  exact tail_done (k := q) (w3 _ _ ⟨⟨hgq, hsb, hdb⟩, j0, j3, y3, trivial⟩)
 rintro a k ⟨⟨hg, hs, hd⟩, i0, i3, n3, _⟩
 refine wp_seq ?_
 refine cutS (fun c l => Bs noF k0 36 c l ∧ IsOwn 0 37 ([] : List Box) (c.get 3) l ∧ Lo k0 (obF (c.get 3)) ∧ IsV s_ (c.get 11) l ∧ IsL s_ (c.get 12) l ∧ IsI 0 (c.get 13) l ∧ True) ?_ ?_
 ·intro Q4 W4 w4
  refine gS 3 (_ :: _ :: ⟨some (IsI 0), []⟩ :: []) hs (by kernel_rfl) ⟨mu rfl i0, o1 [(11, some 0)] rfl fun _ _ h n => ok_len rfl rfl Try.underlying22 (IsV.rd n.1), ob1 rfl fun _ _ h n => ok_move rfl (cI rfl), trivial⟩ W4 fun b q p => ?_
  exact tail_done (k := q) (w4 _ _ ⟨Bs.post ⟨hg, hs, hd⟩ p, p.ke 3 rfl i3, (by rw [p.old 3 rfl]; exact n3), p.ou 0 11 rfl, p.ou 1 12 rfl, p.ou 2 13 rfl, trivial⟩)
 rintro a k ⟨⟨hg, hs, hd⟩, i3, n3, i11, i12, i13, _⟩
 refine wp_block ?_
 obtain ⟨f1, hf1, hr⟩ := bind_some hr
 refine cutFe f1 (fun s' c l => Bs noF k0 36 c l ∧ IsOwn 0 37 s'.1 (c.get 3) l ∧ Lo k0 (obF (c.get 3)) ∧ IsV s_ (c.get 11) l ∧ IsL s_ (c.get 12) l ∧ IsV s'.2 (c.get 13) l ∧ True) (fun i' s' c l => (i' = 0 ∧ Bs noF k0 36 c l ∧ IsV s'.1 (c.get 3) l ∧ True)) (fun r' c l => bodyPost Try.prog Try.f46 (RetC noF k0 (IsV r')) .ret c l.w) ?_ hQ ?_ ?_ ?_
 ·intro Q5 W5 hgo hex hret
  refine sim_loop ?_ _ _ _ _ _ hf1 ⟨⟨hg, hs, hd⟩, i3, n3, i11, i12, i13, trivial⟩ Q5 W5 hgo hex hret
  clear hr hf1 hgo hex hret W5 hQ hg hs hd i11 i12 i13 i3 n3
  intro s1 fl_ a k hr hS Q hQ hgo1345 hex1346 hret1347
  obtain ⟨⟨hg, hs, hd⟩, i3, n3, i11, i12, i13, _⟩ := hS
  unfold solid_Boxes_L0 at hr
  refine cutS (fun c l => Bs noF k0 36 c l ∧ IsOwn 0 37 s1.1 (c.get 3) l ∧ Lo k0 (obF (c.get 3)) ∧ IsV s_ (c.get 11) l ∧ IsL s_ (c.get 12) l ∧ IsV s1.2 (c.get 13) l ∧ (IsV (decide (s1.2 < (s_.length : Int)))) (c.get 14) l ∧ True) ?_ ?_
  ·intro Q6 W6 w5
   refine gS 1 (_ :: []) hs (by kernel_rfl) ⟨o1 [(13, none), (12, none)] rfl fun _ _ h n => ok_lss rfl (up i13 h n.1) (up i12 h n.2.1), trivial⟩ W6 fun b q p => ?_
   exact tail_done (k := q) (w5 _ _ ⟨Bs.post ⟨hg, hs, hd⟩ p, p.ke 3 rfl i3, (by rw [p.old 3 rfl]; exact n3), p.ke 11 rfl i11, p.ke 12 rfl i12, p.ke 13 rfl i13, p.ou 0 14 rfl, trivial⟩)
  rintro a k ⟨⟨hg, hs, hd⟩, i3, n3, i11, i12, i13, i14, _⟩
  refine wp_seq ?_
  refine wp_cond_split (isBool i14) (fun hc1380 => ?_) (fun hc1380 => ?_)
  ·rw [if_pos hc1380] at hr
   refine wp_skip ?_
   refine wp_seq ?_
   refine wp_block ?_
   refine wp_seq ?_
   obtain ⟨x2, hx2, hr⟩ := bind_some hr
   refine cut (fun a' k' => Bs noF k0 36 a' k' ∧ IsOwn 0 37 s1.1 (a'.get 3) k' ∧ Lo k0 (obF (a'.get 3)) ∧ (IsRef x2) (a'.get 5) k' ∧ (IsV s_) (a'.get 11) k' ∧ (IsL s_) (a'.get 12) k' ∧ (IsV s1.2) (a'.get 13) k' ∧ True) ?_ hQ ?_
   ·intro Q7 W7 w6
    refine gS 3 (_ :: _ :: ⟨some (IsBox k.w.heap.size (⟨0, 0, []⟩ : Slab)), []⟩ :: []) hs (by kernel_rfl) ⟨o1 [(11, none), (13, none)] rfl fun _ _ h n => ok_indexAddr rfl Try.underlying22 ty51 (IsV.rd (up i11 h n.1)) (up i13 h n.2.1) hx2, o1 [(15, some 0)] rfl fun _ _ h n => ok_load rfl ty51 n.1, ob1 rfl fun _ _ h n => ok_alloc _ h.size rfl z51, trivial⟩ W7 fun b q p => ?_
    have hgq := hg.then p.grow
    have hsb := p.size.trans hs
    have hdb := p.defers.trans hd
    have j3 := p.ke 3 rfl i3
    have y3 : Lo k0 (obF (b.get 3)) := by rw [p.old 3 rfl]; exact n3
    obtain ⟨b5, j5, x5, z5⟩ : (IsBox k.w.heap.size (⟨0, 0, []⟩ : Slab)) (b.get 5) q := p.ou 2 5 rfl
    replace x5 : Lo k (Eq b5) := Lo.eq x5
    have y5 : Lo k0 (Eq b5) := x5.chg hg
    have j11 := p.ke 11 rfl i11
    have j12 := p.ke 12 rfl i12
    have j13 := p.ke 13 rfl i13
    have j16 : (IsV x2) (b.get 16) q := p.ou 1 16 rfl
    have w3_5 : Apart (obF (b.get 3)) (Eq b5) := Apart.new (by rw [p.old 3 rfl]; exact i3.ltF) x5
    have hns := z5.nshF
    refine tail_storeB (i := 3) rfl rfl rfl rfl szf51 (Upd.self (α := Slab)) j5 z5 j16 fun q2 hch hz => ?_
    replace hgq := hgq.step hch y5.wr
    have hle := hch.le hns
    replace j3 := j3.keep hch w3_5 hns
    replace j11 := Pers.pers hle j11
    replace j12 := Pers.pers hle j12
    replace j13 := Pers.pers hle j13
    replace j16 := Pers.pers hle j16
    replace z5 := hz
    clear hns hle hch
    obtain ⟨q, hqq⟩ : ∃ q, q = q2 := ⟨q2, rfl⟩
    subst hqq
    obtain ⟨q2, hsh, jn⟩ := z5.give
    replace j3 := j3.handed hsh w3_5
    replace j11 := Pers.pers hsh.le j11
    replace j12 := Pers.pers hsh.le j12
    replace j13 := Pers.pers hsh.le j13
    rw [← j5] at jn
    replace j5 := jn
    replace hgq := hgq.hand hsh y5.wr
    rw [← hsh.w]
    clear hsh
    obtain ⟨q, hqq⟩ : ∃ q, q = q2 := ⟨q2, rfl⟩
    subst hqq
    exact tail_done (k := q) (w6 _ _ ⟨⟨hgq, hsb, hdb⟩, j3, y3, j5, j11, j12, j13, trivial⟩)
   rintro a k ⟨⟨hg, hs, hd⟩, i3, n3, i5, i11, i12, i13, _⟩
   refine cutS (fun c l => Bs noF k0 36 c l ∧ IsOwn 0 37 s1.1 (c.get 3) l ∧ Lo k0 (obF (c.get 3)) ∧ IsRef x2 (c.get 5) l ∧ IsV s_ (c.get 11) l ∧ IsL s_ (c.get 12) l ∧ IsV s1.2 (c.get 13) l ∧ IsV x2.Area (c.get 18) l ∧ IsI (x2.Area.length : Int) (c.get 19) l ∧ IsI 0 (c.get 20) l ∧ True) ?_ ?_
   ·intro Q8 W8 w7
    refine gS 4 (_ :: _ :: _ :: ⟨some (IsI 0), []⟩ :: []) hs (by kernel_rfl) ⟨o1 [(5, none)] rfl fun _ _ h n => ok_fieldAddr rfl fo51_2 (at_Slab_2 _) ((up i5 h n.1)).ptr, o1 [(17, some 0)] rfl fun _ _ h n => ok_load rfl ty49 n.1, o1 [(18, some 1)] rfl fun _ _ h n => ok_len rfl rfl Try.underlying49 (IsV.rd n.1), ob1 rfl fun _ _ h n => ok_move rfl (cI rfl), trivial⟩ W8 fun b q p => ?_
    exact tail_done (k := q) (w7 _ _ ⟨Bs.post ⟨hg, hs, hd⟩ p, p.ke 3 rfl i3, (by rw [p.old 3 rfl]; exact n3), p.ke 5 rfl i5, p.ke 11 rfl i11, p.ke 12 rfl i12, p.ke 13 rfl i13, p.ou 1 18 rfl, p.ou 2 19 rfl, p.ou 3 20 rfl, trivial⟩)
   rintro a k ⟨⟨hg, hs, hd⟩, i3, n3, i5, i11, i12, i13, i18, i19, i20, _⟩
   refine wp_block ?_
   obtain ⟨f2, hf2, hr⟩ := bind_some hr
   refine cutFe f2 (fun s' c l => Bs noF k0 36 c l ∧ IsOwn 0 37 s'.1 (c.get 3) l ∧ Lo k0 (obF (c.get 3)) ∧ IsRef x2 (c.get 5) l ∧ IsV s_ (c.get 11) l ∧ IsL s_ (c.get 12) l ∧ IsV s1.2 (c.get 13) l ∧ IsV x2.Area (c.get 18) l ∧ IsI (x2.Area.length : Int) (c.get 19) l ∧ IsV s'.2 (c.get 20) l ∧ True) (fun i' s' c l => (i' = 2 ∧ Bs noF k0 36 c l ∧ IsOwn 0 37 s'.1 (c.get 3) l ∧ Lo k0 (obF (c.get 3)) ∧ IsV s_ (c.get 11) l ∧ IsL s_ (c.get 12) l ∧ IsV s1.2 (c.get 13) l ∧ True)) (fun r' c l => bodyPost Try.prog Try.f46 (RetC noF k0 (IsV r')) .ret c l.w) ?_ hQ ?_ ?_ ?_
   ·intro Q9 W9 hgo hex hret
    refine sim_loop ?_ _ _ _ _ _ hf2 ⟨⟨hg, hs, hd⟩, i3, n3, i5, i11, i12, i13, i18, i19, i20, trivial⟩ Q9 W9 hgo hex hret
    clear hr hf2 hgo hex hret W9 hQ hg hs hd i11 i12 i13 i18 i19 i20 i3 i5 n3
    intro s2 fl_ a k hr hS Q hQ hgo1352 hex1353 hret1354
    obtain ⟨⟨hg, hs, hd⟩, i3, n3, i5, i11, i12, i13, i18, i19, i20, _⟩ := hS
    unfold solid_Boxes_L1 at hr
    refine cutS (fun c l => Bs noF k0 36 c l ∧ IsOwn 0 37 s2.1 (c.get 3) l ∧ Lo k0 (obF (c.get 3)) ∧ IsRef x2 (c.get 5) l ∧ IsV s_ (c.get 11) l ∧ IsL s_ (c.get 12) l ∧ IsV s1.2 (c.get 13) l ∧ IsV x2.Area (c.get 18) l ∧ IsI (x2.Area.length : Int) (c.get 19) l ∧ IsV s2.2 (c.get 20) l ∧ (IsV (decide (s2.2 < (x2.Area.length : Int)))) (c.get 21) l ∧ True) ?_ ?_
    ·intro Q10 W10 w8
     refine gS 1 (_ :: []) hs (by kernel_rfl) ⟨o1 [(20, none), (19, none)] rfl fun _ _ h n => ok_lss rfl (up i20 h n.1) (up i19 h n.2.1), trivial⟩ W10 fun b q p => ?_
     exact tail_done (k := q) (w8 _ _ ⟨Bs.post ⟨hg, hs, hd⟩ p, p.ke 3 rfl i3, (by rw [p.old 3 rfl]; exact n3), p.ke 5 rfl i5, p.ke 11 rfl i11, p.ke 12 rfl i12, p.ke 13 rfl i13, p.ke 18 rfl i18, p.ke 19 rfl i19, p.ke 20 rfl i20, p.ou 0 21 rfl, trivial⟩)
    rintro a k ⟨⟨hg, hs, hd⟩, i3, n3, i5, i11, i12, i13, i18, i19, i20, i21, _⟩
    refine wp_seq ?_
    refine wp_cond_split (isBool i21) (fun hc1365 => ?_) (fun hc1365 => ?_)
    ·rw [if_pos hc1365] at hr
     refine wp_skip ?_
     refine wp_seq ?_
     refine wp_block ?_
     refine wp_seq ?_
     obtain ⟨x3, hx3, hr⟩ := bind_some hr
     refine cut (fun a' k' => Bs noF k0 36 a' k' ∧ IsOwn 0 37 s2.1 (a'.get 3) k' ∧ Lo k0 (obF (a'.get 3)) ∧ (IsRef x2) (a'.get 5) k' ∧ (IsRef x3) (a'.get 7) k' ∧ (IsV s_) (a'.get 11) k' ∧ (IsL s_) (a'.get 12) k' ∧ (IsV s1.2) (a'.get 13) k' ∧ (IsV x2.Area) (a'.get 18) k' ∧ (IsI (x2.Area.length : Int)) (a'.get 19) k' ∧ (IsV s2.2) (a'.get 20) k' ∧ True) ?_ hQ ?_
     ·intro Q11 W11 w9
      refine gS 3 (_ :: _ :: ⟨some (IsBox k.w.heap.size (⟨0, 0, 0, 0⟩ : Rect)), []⟩ :: []) hs (by kernel_rfl) ⟨o1 [(18, none), (20, none)] rfl fun _ _ h n => ok_indexAddr rfl Try.underlying49 ty35 (IsV.rd (up i18 h n.1)) (up i20 h n.2.1) hx3, o1 [(22, some 0)] rfl fun _ _ h n => ok_load rfl ty35 n.1, ob1 rfl fun _ _ h n => ok_alloc _ h.size rfl z35, trivial⟩ W11 fun b q p => ?_
      have hgq := hg.then p.grow
      have hsb := p.size.trans hs
      have hdb := p.defers.trans hd
      have j3 := p.ke 3 rfl i3
      have y3 : Lo k0 (obF (b.get 3)) := by rw [p.old 3 rfl]; exact n3
      have j5 := p.ke 5 rfl i5
      obtain ⟨b7, j7, x7, z7⟩ : (IsBox k.w.heap.size (⟨0, 0, 0, 0⟩ : Rect)) (b.get 7) q := p.ou 2 7 rfl
      replace x7 : Lo k (Eq b7) := Lo.eq x7
      have y7 : Lo k0 (Eq b7) := x7.chg hg
      have j11 := p.ke 11 rfl i11
      have j12 := p.ke 12 rfl i12
      have j13 := p.ke 13 rfl i13
      have j18 := p.ke 18 rfl i18
      have j19 := p.ke 19 rfl i19
      have j20 := p.ke 20 rfl i20
      have j23 : (IsV x3) (b.get 23) q := p.ou 1 23 rfl
      have w3_7 : Apart (obF (b.get 3)) (Eq b7) := Apart.new (by rw [p.old 3 rfl]; exact i3.ltF) x7
      have hns := z7.nshF
      refine tail_storeB (i := 3) rfl rfl rfl rfl szf35 (Upd.self (α := Rect)) j7 z7 j23 fun q2 hch hz => ?_
      replace hgq := hgq.step hch y7.wr
      have hle := hch.le hns
      replace j3 := j3.keep hch w3_7 hns
      replace j5 := Pers.pers hle j5
      replace j11 := Pers.pers hle j11
      replace j12 := Pers.pers hle j12
      replace j13 := Pers.pers hle j13
      replace j18 := Pers.pers hle j18
      replace j19 := Pers.pers hle j19
      replace j20 := Pers.pers hle j20
      replace j23 := Pers.pers hle j23
      replace z7 := hz
      clear hns hle hch
      obtain ⟨q, hqq⟩ : ∃ q, q = q2 := ⟨q2, rfl⟩
      subst hqq
      obtain ⟨q2, hsh, jn⟩ := z7.give
      replace j3 := j3.handed hsh w3_7
      replace j5 := Pers.pers hsh.le j5
      replace j11 := Pers.pers hsh.le j11
      replace j12 := Pers.pers hsh.le j12
      replace j13 := Pers.pers hsh.le j13
      replace j18 := Pers.pers hsh.le j18
      replace j19 := Pers.pers hsh.le j19
      replace j20 := Pers.pers hsh.le j20
      rw [← j7] at jn
      replace j7 := jn
      replace hgq := hgq.hand hsh y7.wr
      rw [← hsh.w]
      clear hsh
      obtain ⟨q, hqq⟩ : ∃ q, q = q2 := ⟨q2, rfl⟩
      subst hqq
      exact tail_done (k := q) (w9 _ _ ⟨⟨hgq, hsb, hdb⟩, j3, y3, j5, j7, j11, j12, j13, j18, j19, j20, trivial⟩)
     rintro a k ⟨⟨hg, hs, hd⟩, i3, n3, i5, i7, i11, i12, i13, i18, i19, i20, _⟩
     obtain ⟨x4, hx4, hr⟩ := bind_some hr
     refine cut (fun a' k' => Bs noF k0 36 a' k' ∧ IsOwn 0 37 x4 (a'.get 3) k' ∧ Lo k0 (obF (a'.get 3)) ∧ (IsRef x2) (a'.get 5) k' ∧ (IsV s_) (a'.get 11) k' ∧ (IsL s_) (a'.get 12) k' ∧ (IsV s1.2) (a'.get 13) k' ∧ (IsV x2.Area) (a'.get 18) k' ∧ (IsI (x2.Area.length : Int)) (a'.get 19) k' ∧ (IsV s2.2) (a'.get 20) k' ∧ True) ?_ hQ ?_
     ·intro Q12 W12 w10
      refine gS 8 (⟨some (OwnAt (a.get 3) 0 37 s2.1), [(3, none)]⟩ :: _ :: _ :: _ :: _ :: _ :: ⟨some (IsV (⟨x3, x2.Z0, x2.Z1⟩ : Box)), [(25, some 1), (27, some 3), (29, some 5)]⟩ :: ⟨some (IsV (α := (List Box)) ([(⟨x3, x2.Z0, x2.Z1⟩ : Box)])), [(30, some 6)]⟩ :: []) hs (by kernel_rfl) ⟨ob1 rfl fun _ _ h n => ok_moveOA (.inl rfl) (ownAt n.1 (up i3 h n.1)), o1 [(7, none)] rfl fun _ _ h n => ok_load rfl ty35 ((up i7 h n.1)).ptr, o1 [(5, none)] rfl fun _ _ h n => ok_fieldAddr rfl fo51_0 (at_Slab_0 _) ((up i5 h n.1)).ptr, o1 [(26, some 2)] rfl fun _ _ h n => ok_load rfl ty3 n.1, o1 [(5, none)] rfl fun _ _ h n => ok_fieldAddr rfl fo51_1 (at_Slab_1 _) ((up i5 h n.1)).ptr, o1 [(28, some 4)] rfl fun _ _ h n => ok_load rfl ty3 n.1, ob1 rfl fun _ _ h n => ok_build rfl (bld37_0_1_2 n.1 n.2.1 n.2.2.1), ob1 rfl fun _ _ h n => ok_buildSlice rfl Try.underlying31 eo37 rfl (by decide) (by decide) ⟨rfl, n.1, trivial⟩, trivial⟩ W12 fun b q p => ?_
      have hgq := hg.then p.grow
      have hsb := p.size.trans hs
      have hdb := p.defers.trans hd
      have j5 := p.ke 5 rfl i5
      have j11 := p.ke 11 rfl i11
      have j12 := p.ke 12 rfl i12
      have j13 := p.ke 13 rfl i13
      have j18 := p.ke 18 rfl i18
      have j19 := p.ke 19 rfl i19
      have j20 := p.ke 20 rfl i20
      have e24 : b.get 24 = a.get 3 := (p.ou 0 24 rfl).1
      have j24 : IsOwn 0 37 s2.1 (b.get 24) q := (p.ou 0 24 rfl).2
      have y24 : Lo k0 (obF (b.get 24)) := by rw [e24]; exact n3
      have j31 : (IsV (α := (List Box)) ([(⟨x3, x2.Z0, x2.Z1⟩ : Box)])) (b.get 31) q := p.ou 7 31 rfl
      have hns := j24.nshF
      refine tail_appendS (i := 8) (d := 32) rfl rfl rfl rfl (by rw [hsb]; decide) (e := 37) Try.underlying31 eo37 j24 (IsV.rd j31) hx4 fun b2 q2 hsz hdf hoth hch hown hob => ?_
      have hle := hch.le hns
      have yn : Lo k0 (obF (b2.get 32)) := y24.app hgq hob
      replace j5 := Pers.pers hle j5
      replace j11 := Pers.pers hle j11
      replace j12 := Pers.pers hle j12
      replace j13 := Pers.pers hle j13
      replace j18 := Pers.pers hle j18
      replace j19 := Pers.pers hle j19
      replace j20 := Pers.pers hle j20
      replace j31 := Pers.pers hle j31
      replace hgq := hgq.step hch y24.wr
      rw [← hoth 5 (by decide)] at j5
      rw [← hoth 11 (by decide)] at j11
      rw [← hoth 12 (by decide)] at j12
      rw [← hoth 13 (by decide)] at j13
      rw [← hoth 18 (by decide)] at j18
      rw [← hoth 19 (by decide)] at j19
      rw [← hoth 20 (by decide)] at j20
      rw [← hoth 31 (by decide)] at j31
      have j32 := hown
      have y32 := yn
      replace hsb := hsz.trans hsb
      replace hdb := hdf.trans hdb
      clear hle hch hown hob hns yn hsz hdf hoth
      obtain ⟨b, hbb⟩ : ∃ b, b = b2 := ⟨b2, rfl⟩
      subst hbb
      obtain ⟨q, hqq⟩ : ∃ q, q = q2 := ⟨q2, rfl⟩
      subst hqq
      refine tail_assign (i := 9) (d := 3) rfl rfl (.inl rfl) rfl (by rw [hsb]; decide) fun b2 hsz hdf hnew hoth => ?_
      have jn : (IsOwn 0 37 x4) (b2.get 3) q := by rw [hnew]; exact j32
      have yn : Lo k0 (obF (b2.get 3)) := by rw [hnew]; exact y32
      rw [← hoth 5 (by decide)] at j5
      rw [← hoth 11 (by decide)] at j11
      rw [← hoth 12 (by decide)] at j12
      rw [← hoth 13 (by decide)] at j13
      rw [← hoth 18 (by decide)] at j18
      rw [← hoth 19 (by decide)] at j19
      rw [← hoth 20 (by decide)] at j20
      rw [← hoth 31 (by decide)] at j31
      have j3 := jn
      have y3 := yn
      replace hsb := hsz.trans hsb
      replace hdb := hdf.trans hdb
      clear hsz hdf hoth
      obtain ⟨b, hbb⟩ : ∃ b, b = b2 := ⟨b2, rfl⟩
      subst hbb
      exact tail_done (k := q) (w10 _ _ ⟨⟨hgq, hsb, hdb⟩, j3, y3, j5, j11, j12, j13, j18, j19, j20, trivial⟩)
     rintro a k ⟨⟨hg, hs, hd⟩, i3, n3, i5, i11, i12, i13, i18, i19, i20, _⟩
     obtain ⟨x6, hx6, hr⟩ := bind_some hr
     refine cut (fun a' k' => Bs noF k0 36 a' k' ∧ IsOwn 0 37 x4 (a'.get 3) k' ∧ Lo k0 (obF (a'.get 3)) ∧ (IsRef x2) (a'.get 5) k' ∧ (IsV s_) (a'.get 11) k' ∧ (IsL s_) (a'.get 12) k' ∧ (IsV s1.2) (a'.get 13) k' ∧ (IsV x2.Area) (a'.get 18) k' ∧ (IsI (x2.Area.length : Int)) (a'.get 19) k' ∧ (IsV x6) (a'.get 20) k' ∧ True) ?_ hQ ?_
     ·intro Q13 W13 w11
      refine gS 2 (_ :: _ :: []) hs (by kernel_rfl) ⟨o1 [(20, none)] rfl fun _ _ h n => ok_add rfl (up i20 h n.1) (cI rfl) hx6, cm 0 rfl rfl, trivial⟩ W13 fun b q p => ?_
      exact tail_done (k := q) (w11 _ _ ⟨Bs.post ⟨hg, hs, hd⟩ p, p.ke 3 rfl i3, (by rw [p.old 3 rfl]; exact n3), p.ke 5 rfl i5, p.ke 11 rfl i11, p.ke 12 rfl i12, p.ke 13 rfl i13, p.ke 18 rfl i18, p.ke 19 rfl i19, p.ou 1 20 rfl, trivial⟩)
     rintro a k ⟨⟨hg, hs, hd⟩, i3, n3, i5, i11, i12, i13, i18, i19, i20, _⟩
     exact hgo1352 _ _ _ (Option.some.inj hr).symm ⟨⟨hg, hs, hd⟩, i3, n3, i5, i11, i12, i13, i18, i19, i20, trivial⟩
    rw [if_neg (by rw [hc1365]; decide)] at hr
    refine wp_exit ?_
    exact hex1353 _ _ _ _ (Option.some.inj hr).symm ⟨rfl, ⟨hg, hs, hd⟩, i3, n3, i11, i12, i13, trivial⟩
   ·rintro r1 a k rfl hR
    dsimp only at hr
    exact hret1347 _ _ _ (Option.some.inj hr).symm hR
   ·rintro _ _ _ rfl _
    simp at hr
   clear hf2
   rintro _ s3 a k rfl ⟨rfl, ⟨hg, hs, hd⟩, i3, n3, i11, i12, i13, _⟩
   dsimp only at hr
   obtain ⟨x8, hx8, hr⟩ := bind_some hr
   refine cut (fun a' k' => Bs noF k0 36 a' k' ∧ IsOwn 0 37 s3.1 (a'.get 3) k' ∧ Lo k0 (obF (a'.get 3)) ∧ (IsV s_) (a'.get 11) k' ∧ (IsL s_) (a'.get 12) k' ∧ (IsV x8) (a'.get 13) k' ∧ True) ?_ hQ ?_
   ·intro Q14 W14 w12
    refine gS 2 (_ :: _ :: []) hs (by kernel_rfl) ⟨o1 [(13, none)] rfl fun _ _ h n => ok_add rfl (up i13 h n.1) (cI rfl) hx8, cm 0 rfl rfl, trivial⟩ W14 fun b q p => ?_
    exact tail_done (k := q) (w12 _ _ ⟨Bs.post ⟨hg, hs, hd⟩ p, p.ke 3 rfl i3, (by rw [p.old 3 rfl]; exact n3), p.ke 11 rfl i11, p.ke 12 rfl i12, p.ou 1 13 rfl, trivial⟩)
   rintro a k ⟨⟨hg, hs, hd⟩, i3, n3, i11, i12, i13, _⟩
   exact hgo1345 _ _ _ (Option.some.inj hr).symm ⟨⟨hg, hs, hd⟩, i3, n3, i11, i12, i13, trivial⟩
  rw [if_neg (by rw [hc1380]; decide)] at hr
  refine wp_exit ?_
  obtain ⟨kk, sh1379, ii3⟩ := i3.give
  replace i3 := ii3
  replace hg := hg.hand sh1379 n3.wr
  rw [← sh1379.w]
  clear sh1379
  obtain ⟨k, hkk⟩ : ∃ k, k = kk := ⟨kk, rfl⟩
  subst hkk
  exact hex1346 _ _ _ _ (Option.some.inj hr).symm ⟨rfl, ⟨hg, hs, hd⟩, i3, trivial⟩
 ·rintro r2 a k rfl hR
  dsimp only at hr
  obtain rfl := Option.some.inj hr
  exact hR
 ·rintro _ _ _ rfl _
  simp at hr
 clear hf1
 rintro _ s4 a k rfl ⟨rfl, ⟨hg, hs, hd⟩, i3, _⟩
 dsimp only at hr
 refine stepL 2 (_ :: _ :: []) rfl ⟨hg, hs, hd⟩ (by kernel_rfl) ⟨mu rfl i3, cp 0 rfl rfl, trivial⟩ [⟨_, _⟩] (fun b q p => ⟨p.ou 1 2 rfl, trivial⟩) ?_
 rintro a k ⟨⟨hg, hs, hd⟩, i2, _⟩
 refine wp_ret ?_
 obtain rfl := Option.some.inj hr
 exact retC1 rfl hd hg i2
def sight_bound_compare (b_ : SightBound) (c_ : SightBound) : Option (Int) :=
 (mulI b_.n c_.d).bind fun x1 =>
 (mulI c_.n b_.d).bind fun x2 =>
 (cmp_Compare_int x1 x2).bind fun x3 =>
 some x3
theorem sight_bound_compare_ok {k0 : K} {v0 v1 : Value} {b_ : SightBound} {c_ : SightBound} {r : Int} (i0 : (IsV b_) v0 k0) (i1 : (IsV c_) v1 k0) (hr : sight_bound_compare b_ c_ = some r) :
  Calls Try.prog 73 #[v0, v1] k0.w (Ret k0 (IsV r)) := by
 unfold sight_bound_compare at hr
 refine Ret.ofC ?_
 refine enterK Try.func73 rfl Try.ntmps73 (show 2 ≤ 16 by decide) fun a k hk0 hs hd ha => ?_
 obtain ⟨e0, e1, _⟩ := ha
 replace i0 : (IsV b_) (a.get 0) k := by rw [e0, hk0]; exact i0
 replace i1 : (IsV c_) (a.get 1) k := by rw [e1, hk0]; exact i1
 have hQ : Gb.LetsOut (bodyPost Try.prog Try.f73 (RetC noF k0 (IsV r))) := letsOutC
 have hg : Chg noF k0 k := by rw [hk0]; exact Chg.refl _ k0
 refine stepL 3 (⟨some (IsRef b_), [(0, none)]⟩ :: ⟨some (IsRef c_), [(1, none)]⟩ :: ⟨some (IsI 0), []⟩ :: []) rfl ⟨hg, hs, hd⟩ (by kernel_rfl) ⟨ob1 rfl fun _ _ h n => ok_boxR rfl (up i0 h n.1), ob1 rfl fun _ _ h n => ok_boxR rfl (up i1 h n.1), aI rfl rfl, trivial⟩ [⟨_, _⟩, ⟨_, _⟩] (fun b q p => ⟨p.ou 0 2 rfl, p.ou 1 3 rfl, trivial⟩) ?_
 rintro a k ⟨⟨hg, hs, hd⟩, i2, i3, _⟩
 refine wp_seq ?_
 obtain ⟨x1, hx1, hr⟩ := bind_some hr
 obtain ⟨x2, hx2, hr⟩ := bind_some hr
 obtain ⟨x3, hx3, hr⟩ := bind_some hr
 refine cut (fun a' k' => Bs noF k0 16 a' k' ∧ (IsV x3) (a'.get 4) k' ∧ True) ?_ hQ ?_
 ·intro Q1 W1 w1
  refine gS 12 (_ :: _ :: _ :: _ :: _ :: _ :: _ :: _ :: _ :: _ :: _ :: _ :: []) hs (by kernel_rfl) ⟨o1 [(2, none)] rfl fun _ _ h n => ok_fieldAddr rfl fo53_0 (at_SightBound_0 _) ((up i2 h n.1)).ptr, o1 [(5, some 0)] rfl fun _ _ h n => ok_load rfl ty3 n.1, o1 [(3, none)] rfl fun _ _ h n => ok_fieldAddr rfl fo53_1 (at_SightBound_1 _) ((up i3 h n.1)).ptr, o1 [(7, some 2)] rfl fun _ _ h n => ok_load rfl ty3 n.1, o1 [(6, some 1), (8, some 3)] rfl fun _ _ h n => ok_mul rfl n.1 n.2.1 hx1, o1 [(3, none)] rfl fun _ _ h n => ok_fieldAddr rfl fo53_0 (at_SightBound_0 _) ((up i3 h n.1)).ptr, o1 [(10, some 5)] rfl fun _ _ h n => ok_load rfl ty3 n.1, o1 [(2, none)] rfl fun _ _ h n => ok_fieldAddr rfl fo53_1 (at_SightBound_1 _) ((up i2 h n.1)).ptr, o1 [(12, some 7)] rfl fun _ _ h n => ok_load rfl ty3 n.1, o1 [(11, some 6), (13, some 8)] rfl fun _ _ h n => ok_mul rfl n.1 n.2.1 hx2, o1 [(9, some 4), (14, some 9)] rfl fun _ _ h n => ok_call rfl Try.call87 (cmp_Compare_int_ok n.1 n.2.1 hx3), cp 10 rfl rfl, trivial⟩ W1 fun b q p => ?_
  exact tail_done (k := q) (w1 _ _ ⟨Bs.post ⟨hg, hs, hd⟩ p, p.ou 11 4 rfl, trivial⟩)
 rintro a k ⟨⟨hg, hs, hd⟩, i4, _⟩
 refine wp_ret ?_
 obtain rfl := Option.some.inj hr
 exact retC1 rfl hd hg i4
def sight_interval_above (i_ : SightInterval) (b_ : SightBound) : Option (SightInterval) :=
 (sight_bound_compare b_ i_.lo).bind fun x1 =>
 (if (decide (0 < x1)) then
  some { i_ with lo := b_ }
 else
  (if (x1 == 0) then
   some { i_ with lo := { i_.lo with open_ := (i_.lo.open_ || b_.open_) } }
  else
   some i_).bind fun s1 =>
  some s1).bind fun s2 =>
 some s2
theorem sight_interval_above_ok {k0 : K} {v0 v1 : Value} {i_ : SightInterval} {b_ : SightBound} {r : SightInterval} {b0 : Nat} (i0 : v0 = .pointer (some ⟨b0, 0, none⟩)) (c0 : Gb.Box b0 i_ k0) (i1 : (IsV b_) v1 k0) (hr : sight_interval_above i_ b_ = some r) :
  Calls Try.prog 71 #[v0, v1] k0.w (RetC (Eq b0) k0 (IsTurn b0 r)) := by
 unfold sight_interval_above at hr
 refine enterK Try.func71 rfl Try.ntmps71 (show 2 ≤ 34 by decide) fun a k hk0 hs hd ha => ?_
 obtain ⟨e0, e1, _⟩ := ha
 replace i0 : a.get 0 = .pointer (some ⟨b0, 0, none⟩) := by rw [e0]; exact i0
 replace c0 : Gb.Box b0 i_ k := by rw [hk0]; exact c0
 have n0 : Wr (Eq b0) k0 (Eq b0) := fun b h => .inl h
 replace i1 : (IsV b_) (a.get 1) k := by rw [e1, hk0]; exact i1
 have hQ : Gb.LetsOut (bodyPost Try.prog Try.f71 (RetC (Eq b0) k0 (IsTurn b0 r))) := letsOutC
 have hg : Chg (Eq b0) k0 k := by rw [hk0]; exact Chg.refl _ k0
 refine cutS (fun c l => Bs (Eq b0) k0 34 c l ∧ c.get 0 = .pointer (some ⟨b0, 0, none⟩) ∧ Wr (Eq b0) k0 (Eq b0) ∧ Gb.Box b0 i_ l ∧ IsRef b_ (c.get 3) l ∧ True) ?_ ?_
 ·intro Q1 W1 w1
  refine gS 1 (⟨some (IsRef b_), [(1, none)]⟩ :: []) hs (by kernel_rfl) ⟨ob1 rfl fun _ _ h n => ok_boxR rfl (up i1 h n.1), trivial⟩ W1 fun b q p => ?_
  exact tail_done (k := q) (w1 _ _ ⟨Bs.post ⟨hg, hs, hd⟩ p, upE i0 (p.old 0 rfl), n0, Gb.Box.grow c0 p.grow, p.ou 0 3 rfl, trivial⟩)
 rintro a k ⟨⟨hg, hs, hd⟩, i0, n0, c0, i3, _⟩
 refine wp_seq ?_
 obtain ⟨x1, hx1, hr⟩ := bind_some hr
 refine cut (fun a' k' => Bs (Eq b0) k0 34 a' k' ∧ a'.get 0 = .pointer (some ⟨b0, 0, none⟩) ∧ Wr (Eq b0) k0 (Eq b0) ∧ Gb.Box b0 i_ k' ∧ (IsRef b_) (a'.get 3) k' ∧ (IsV x1) (a'.get 4) k' ∧ True) ?_ hQ ?_
 ·intro Q2 W2 w2
  refine region (m := 7) (_ :: ⟨some (IsAdr b0 (0)), [(0, none)]⟩ :: ⟨some (IsAdr b0 (0)), [(6, some 1)]⟩ :: _ :: _ :: _ :: _ :: []) hmix hs (by kernel_rfl) ⟨o1 [(3, none)] rfl fun _ _ h n => ok_load rfl ty53 ((up i3 h n.1)).ptr, ob1 rfl fun _ _ h n => ok_moveB rfl (upE i0 n.1), ob1 rfl fun _ _ h n => ok_nilCheckA rfl n.1, o1 [(7, some 2)] rfl fun _ _ h n => ok_fieldAddr rfl fo55_0 (at_SightInterval_0 _) (IsAdr.ptrB n.1 (c0.grow h)), o1 [(8, some 3)] rfl fun _ _ h n => ok_load rfl ty53 n.1, o1 [(5, some 0), (9, some 4)] rfl fun _ _ h n => ok_call rfl Try.call73 (sight_bound_compare_ok n.1 n.2.1 hx1), cp 5 rfl rfl, trivial⟩ W2 fun b q p => ?_
  exact tail_done (k := q) (w2 _ _ ⟨Bs.post ⟨hg, hs, hd⟩ p, upE i0 (p.old 0 rfl), n0, Gb.Box.grow c0 p.grow, p.ke 3 rfl i3, p.ou 6 4 rfl, trivial⟩)
 rintro a k ⟨⟨hg, hs, hd⟩, i0, n0, c0, i3, i4, _⟩
 refine wp_block ?_
 refine cutS (fun c l => Bs (Eq b0) k0 34 c l ∧ c.get 0 = .pointer (some ⟨b0, 0, none⟩) ∧ Wr (Eq b0) k0 (Eq b0) ∧ Gb.Box b0 i_ l ∧ IsRef b_ (c.get 3) l ∧ IsV x1 (c.get 4) l ∧ IsV (decide (0 < x1)) (c.get 11) l ∧ True) ?_ ?_
 ·intro Q3 W3 w3
  refine gS 3 (_ :: _ :: _ :: []) hs (by kernel_rfl) ⟨mu rfl i4, o1 [(12, some 0)] rfl fun _ _ h n => ok_gtr rfl n.1 (cI rfl), cp 1 rfl rfl, trivial⟩ W3 fun b q p => ?_
  exact tail_done (k := q) (w3 _ _ ⟨Bs.post ⟨hg, hs, hd⟩ p, upE i0 (p.old 0 rfl), n0, Gb.Box.grow c0 p.grow, p.ke 3 rfl i3, p.ke 4 rfl i4, p.ou 2 11 rfl, trivial⟩)
 rintro a k ⟨⟨hg, hs, hd⟩, i0, n0, c0, i3, i4, i11, _⟩
 obtain ⟨s1, hs1, hr⟩ := bind_some hr
 refine cut (fun a' k' => Bs (Eq b0) k0 34 a' k' ∧ a'.get 0 = .pointer (some ⟨b0, 0, none⟩) ∧ Wr (Eq b0) k0 (Eq b0) ∧ Gb.Box b0 s1 k' ∧ True) ?_ hQ ?_
 ·intro Q4 W4 w4
  replace hr := hs1
  clear hQ
  have hQ := W4
  refine wp_cond_split (isBool i11) (fun hc1423 => ?_) (fun hc1423 => ?_)
  ·rw [if_pos hc1423] at hr
   refine cut (fun a' k' => Bs (Eq b0) k0 34 a' k' ∧ a'.get 0 = .pointer (some ⟨b0, 0, none⟩) ∧ Wr (Eq b0) k0 (Eq b0) ∧ Gb.Box b0 ({ i_ with lo := b_ }) k' ∧ True) ?_ hQ ?_
   ·intro Q5 W5 w5
    refine gS 4 (⟨some (IsAdr b0 (0)), [(0, none)]⟩ :: _ :: ⟨some (IsAdr b0 (0)), [(14, some 0)]⟩ :: _ :: []) hs (by kernel_rfl) ⟨ob1 rfl fun _ _ h n => ok_moveB rfl (upE i0 n.1), o1 [(3, none)] rfl fun _ _ h n => ok_load rfl ty53 ((up i3 h n.1)).ptr, ob1 rfl fun _ _ h n => ok_nilCheckA rfl n.1, o1 [(16, some 2)] rfl fun _ _ h n => ok_fieldAdr2 rfl fo55_0 n.1, trivial⟩ W5 fun b q p => ?_
    have hgq := hg.then p.grow
    have hsb := p.size.trans hs
    have hdb := p.defers.trans hd
    have j0 := upE i0 (p.old 0 rfl)
    have z0 := Gb.Box.grow c0 p.grow
    have y0 := n0
    have j15 : (IsV b_) (b.get 15) q := p.ou 1 15 rfl
    have j17 : IsAdr b0 (0 + 0) (b.get 17) q := p.ou 3 17 rfl
    have hns := z0.nshF
    refine tail_storeB (i := 4) rfl rfl rfl rfl szf53 upd_F55_0 j17 z0 j15 fun q2 hch hz => ?_
    replace hgq := hgq.step hch y0
    have hle := hch.le hns
    replace j15 := Pers.pers hle j15
    replace j17 := Pers.pers hle j17
    replace z0 := hz
    clear hns hle hch
    obtain ⟨q, hqq⟩ : ∃ q, q = q2 := ⟨q2, rfl⟩
    subst hqq
    exact tail_done (k := q) (w5 _ _ ⟨⟨hgq, hsb, hdb⟩, j0, y0, z0, trivial⟩)
   rintro a k ⟨⟨hg, hs, hd⟩, i0, n0, c0, _⟩
   obtain rfl := Option.some.inj hr
   exact w4 _ _ ⟨⟨hg, hs, hd⟩, i0, n0, c0, trivial⟩
  rw [if_neg (by rw [hc1423]; decide)] at hr
  refine cutS (fun c l => Bs (Eq b0) k0 34 c l ∧ c.get 0 = .pointer (some ⟨b0, 0, none⟩) ∧ Wr (Eq b0) k0 (Eq b0) ∧ Gb.Box b0 i_ l ∧ IsRef b_ (c.get 3) l ∧ IsV (x1 == 0) (c.get 18) l ∧ True) ?_ ?_
  ·intro Q6 W6 w6
   refine gS 3 (_ :: _ :: _ :: []) hs (by kernel_rfl) ⟨mu rfl i4, o1 [(19, some 0)] rfl fun _ _ h n => ok_eqI rfl n.1 (cI rfl), cp 1 rfl rfl, trivial⟩ W6 fun b q p => ?_
   exact tail_done (k := q) (w6 _ _ ⟨Bs.post ⟨hg, hs, hd⟩ p, upE i0 (p.old 0 rfl), n0, Gb.Box.grow c0 p.grow, p.ke 3 rfl i3, p.ou 2 18 rfl, trivial⟩)
  rintro a k ⟨⟨hg, hs, hd⟩, i0, n0, c0, i3, i18, _⟩
  obtain ⟨s2, hs2, hr⟩ := bind_some hr
  refine cut (fun a' k' => Bs (Eq b0) k0 34 a' k' ∧ a'.get 0 = .pointer (some ⟨b0, 0, none⟩) ∧ Wr (Eq b0) k0 (Eq b0) ∧ Gb.Box b0 s2 k' ∧ True) ?_ hQ ?_
  ·intro Q7 W7 w7
   replace hr := hs2
   clear hQ
   have hQ := W7
   refine wp_cond_split (isBool i18) (fun hc1419 => ?_) (fun hc1419 => ?_)
   ·rw [if_pos hc1419] at hr
    refine cut (fun a' k' => Bs (Eq b0) k0 34 a' k' ∧ a'.get 0 = .pointer (some ⟨b0, 0, none⟩) ∧ Wr (Eq b0) k0 (Eq b0) ∧ Gb.Box b0 ({ i_ with lo := { i_.lo with open_ := (i_.lo.open_ || b_.open_) } }) k' ∧ True) ?_ hQ ?_
    ·intro Q8 W8 w8
     refine gS 13 (⟨some (IsAdr b0 (0)), [(0, none)]⟩ :: ⟨some (IsAdr b0 (0)), [(0, none)]⟩ :: ⟨some (IsAdr b0 (0)), [(22, some 1)]⟩ :: _ :: _ :: _ :: _ :: _ :: _ :: _ :: ⟨some (IsAdr b0 (0)), [(21, some 0)]⟩ :: _ :: _ :: []) hs (by kernel_rfl) ⟨ob1 rfl fun _ _ h n => ok_moveB rfl (upE i0 n.1), ob1 rfl fun _ _ h n => ok_moveB rfl (upE i0 n.1), ob1 rfl fun _ _ h n => ok_nilCheckA rfl n.1, o1 [(23, some 2)] rfl fun _ _ h n => ok_fieldAddr rfl fo55_0 (at_SightInterval_0 _) (IsAdr.ptrB n.1 (c0.grow h)), o1 [(24, some 3)] rfl fun _ _ h n => ok_fieldAddr rfl fo53_2 (at_SightBound_2 _) n.1, o1 [(25, some 4)] rfl fun _ _ h n => ok_load rfl ty4 n.1, cm 5 rfl rfl, gF [(3, none)] rfl rfl fun hp _ _ h n => ok_fieldAddr rfl fo53_2 (at_SightBound_2 _) ((up i3 h n.1)).ptr, gF [(28, some 7)] rfl rfl fun hp _ _ h n => ok_load rfl ty4 (Gd.get n.1 hp), o1 [(27, some 6), (29, some 8)] rfl fun _ _ h n => ok_pickOr rfl n.1 (cB rfl) (Gd.get n.2.1), ob1 rfl fun _ _ h n => ok_nilCheckA rfl n.1, o1 [(31, some 10)] rfl fun _ _ h n => ok_fieldAdr2 rfl fo55_0 n.1, o1 [(32, some 11)] rfl fun _ _ h n => ok_fieldAdr2 rfl fo53_2 n.1, trivial⟩ W8 fun b q p => ?_
     have hgq := hg.then p.grow
     have hsb := p.size.trans hs
     have hdb := p.defers.trans hd
     have j0 := upE i0 (p.old 0 rfl)
     have z0 := Gb.Box.grow c0 p.grow
     have y0 := n0
     have j30 : (IsV (i_.lo.open_ || b_.open_)) (b.get 30) q := p.ou 9 30 rfl
     have j33 : IsAdr b0 (0 + 0 + 2) (b.get 33) q := p.ou 12 33 rfl
     have hns := z0.nshF
     refine tail_storeB (i := 13) rfl rfl rfl rfl szf4 upd_F55_0_F53_2 j33 z0 j30 fun q2 hch hz => ?_
     replace hgq := hgq.step hch y0
     have hle := hch.le hns
     replace j30 := Pers.pers hle j30
     replace j33 := Pers.pers hle j33
     replace z0 := hz
     clear hns hle hch
     obtain ⟨q, hqq⟩ : ∃ q, q = q2 := ⟨q2, rfl⟩
     subst hqq
     exact tail_done (k := q) (w8 _ _ ⟨⟨hgq, hsb, hdb⟩, j0, y0, z0, trivial⟩)
    rintro a k ⟨⟨hg, hs, hd⟩, i0, n0, c0, _⟩
    obtain rfl := Option.some.inj hr
    exact w7 _ _ ⟨⟨hg, hs, hd⟩, i0, n0, c0, trivial⟩
   rw [if_neg (by rw [hc1419]; decide)] at hr
   refine wp_skip ?_
   obtain rfl := Option.some.inj hr
   exact w7 _ _ ⟨⟨hg, hs, hd⟩, i0, n0, c0, trivial⟩
  clear hs2
  rintro a k ⟨⟨hg, hs, hd⟩, i0, n0, c0, _⟩
  obtain rfl := Option.some.inj hr
  exact w4 _ _ ⟨⟨hg, hs, hd⟩, i0, n0, c0, trivial⟩
 clear hs1
 rintro a k ⟨⟨hg, hs, hd⟩, i0, n0, c0, _⟩
 obtain rfl := Option.some.inj hr
 exact retT rfl hd hg c0
def sight_interval_below (i_ : SightInterval) (b_ : SightBound) : Option (SightInterval) :=
 (if i_.top then
  (sight_bound_compare b_ i_.hi).bind fun x1 =>
  some x1
 else
  some (-1)).bind fun s1 =>
 (if (decide (s1 < 0)) then
  some { { i_ with hi := b_ } with top := true }
 else
  (if (s1 == 0) then
   some { i_ with hi := { i_.hi with open_ := (i_.hi.open_ || b_.open_) } }
  else
   some i_).bind fun s2 =>
  some s2).bind fun s3 =>
 some s3
theorem sight_interval_below_ok {k0 : K} {v0 v1 : Value} {i_ : SightInterval} {b_ : SightBound} {r : SightInterval} {b0 : Nat} (i0 : v0 = .pointer (some ⟨b0, 0, none⟩)) (c0 : Gb.Box b0 i_ k0) (i1 : (IsV b_) v1 k0) (hr : sight_interval_below i_ b_ = some r) :
  Calls Try.prog 72 #[v0, v1] k0.w (RetC (Eq b0) k0 (IsTurn b0 r)) := by
 unfold sight_interval_below at hr
 refine enterK Try.func72 rfl Try.ntmps72 (show 2 ≤ 41 by decide) fun a k hk0 hs hd ha => ?_
 obtain ⟨e0, e1, _⟩ := ha
 replace i0 : a.get 0 = .pointer (some ⟨b0, 0, none⟩) := by rw [e0]; exact i0
 replace c0 : Gb.Box b0 i_ k := by rw [hk0]; exact c0
 have n0 : Wr (Eq b0) k0 (Eq b0) := fun b h => .inl h
 replace i1 : (IsV b_) (a.get 1) k := by rw [e1, hk0]; exact i1
 have hQ : Gb.LetsOut (bodyPost Try.prog Try.f72 (RetC (Eq b0) k0 (IsTurn b0 r))) := letsOutC
 have hg : Chg (Eq b0) k0 k := by rw [hk0]; exact Chg.refl _ k0
 refine cutS (fun c l => Bs (Eq b0) k0 41 c l ∧ c.get 0 = .pointer (some ⟨b0, 0, none⟩) ∧ Wr (Eq b0) k0 (Eq b0) ∧ Gb.Box b0 i_ l ∧ IsRef b_ (c.get 3) l ∧ True) ?_ ?_
 ·intro Q1 W1 w1
  refine gS 1 (⟨some (IsRef b_), [(1, none)]⟩ :: []) hs (by kernel_rfl) ⟨ob1 rfl fun _ _ h n => ok_boxR rfl (up i1 h n.1), trivial⟩ W1 fun b q p => ?_
  exact tail_done (k := q) (w1 _ _ ⟨Bs.post ⟨hg, hs, hd⟩ p, upE i0 (p.old 0 rfl), n0, Gb.Box.grow c0 p.grow, p.ou 0 3 rfl, trivial⟩)
 rintro a k ⟨⟨hg, hs, hd⟩, i0, n0, c0, i3, _⟩
 refine cutS (fun c l => Bs (Eq b0) k0 41 c l ∧ c.get 0 = .pointer (some ⟨b0, 0, none⟩) ∧ Wr (Eq b0) k0 (Eq b0) ∧ Gb.Box b0 i_ l ∧ IsRef b_ (c.get 3) l ∧ IsI (-1) (c.get 4) l ∧ True) ?_ ?_
 ·intro Q2 W2 w2
  refine gS 1 (⟨some (IsI (-1)), []⟩ :: []) hs (by kernel_rfl) ⟨aI rfl rfl, trivial⟩ W2 fun b q p => ?_
  exact tail_done (k := q) (w2 _ _ ⟨Bs.post ⟨hg, hs, hd⟩ p, upE i0 (p.old 0 rfl), n0, Gb.Box.grow c0 p.grow, p.ke 3 rfl i3, p.ou 0 4 rfl, trivial⟩)
 rintro a k ⟨⟨hg, hs, hd⟩, i0, n0, c0, i3, i4, _⟩
 refine wp_seq ?_
 refine cutS (fun c l => Bs (Eq b0) k0 41 c l ∧ c.get 0 = .pointer (some ⟨b0, 0, none⟩) ∧ Wr (Eq b0) k0 (Eq b0) ∧ Gb.Box b0 i_ l ∧ IsRef b_ (c.get 3) l ∧ IsI (-1) (c.get 4) l ∧ IsV i_.top (c.get 8) l ∧ True) ?_ ?_
 ·intro Q3 W3 w3
  refine gS 4 (⟨some (IsAdr b0 (0)), [(0, none)]⟩ :: ⟨some (IsAdr b0 (0)), [(5, some 0)]⟩ :: _ :: _ :: []) hs (by kernel_rfl) ⟨ob1 rfl fun _ _ h n => ok_moveB rfl (upE i0 n.1), ob1 rfl fun _ _ h n => ok_nilCheckA rfl n.1, o1 [(6, some 1)] rfl fun _ _ h n => ok_fieldAddr rfl fo55_2 (at_SightInterval_2 _) (IsAdr.ptrB n.1 (c0.grow h)), o1 [(7, some 2)] rfl fun _ _ h n => ok_load rfl ty4 n.1, trivial⟩ W3 fun b q p => ?_
  exact tail_done (k := q) (w3 _ _ ⟨Bs.post ⟨hg, hs, hd⟩ p, upE i0 (p.old 0 rfl), n0, Gb.Box.grow c0 p.grow, p.ke 3 rfl i3, p.ke 4 rfl i4, p.ou 3 8 rfl, trivial⟩)
 rintro a k ⟨⟨hg, hs, hd⟩, i0, n0, c0, i3, i4, i8, _⟩
 obtain ⟨s1, hs1, hr⟩ := bind_some hr
 refine cut (fun a' k' => Bs (Eq b0) k0 41 a' k' ∧ a'.get 0 = .pointer (some ⟨b0, 0, none⟩) ∧ Wr (Eq b0) k0 (Eq b0) ∧ Gb.Box b0 i_ k' ∧ (IsRef b_) (a'.get 3) k' ∧ (IsV s1) (a'.get 4) k' ∧ True) ?_ hQ ?_
 ·intro Q4 W4 w4
  replace hr := hs1
  clear hQ
  have hQ := W4
  refine wp_cond_split (isBool i8) (fun hc1439 => ?_) (fun hc1439 => ?_)
  ·rw [if_pos hc1439] at hr
   obtain ⟨x1, hx1, hr⟩ := bind_some hr
   refine cut (fun a' k' => Bs (Eq b0) k0 41 a' k' ∧ a'.get 0 = .pointer (some ⟨b0, 0, none⟩) ∧ Wr (Eq b0) k0 (Eq b0) ∧ Gb.Box b0 i_ k' ∧ (IsRef b_) (a'.get 3) k' ∧ (IsV x1) (a'.get 4) k' ∧ True) ?_ hQ ?_
   ·intro Q5 W5 w5
    refine region (m := 7) (_ :: ⟨some (IsAdr b0 (0)), [(0, none)]⟩ :: ⟨some (IsAdr b0 (0)), [(10, some 1)]⟩ :: _ :: _ :: _ :: _ :: []) hmix hs (by kernel_rfl) ⟨o1 [(3, none)] rfl fun _ _ h n => ok_load rfl ty53 ((up i3 h n.1)).ptr, ob1 rfl fun _ _ h n => ok_moveB rfl (upE i0 n.1), ob1 rfl fun _ _ h n => ok_nilCheckA rfl n.1, o1 [(11, some 2)] rfl fun _ _ h n => ok_fieldAddr rfl fo55_1 (at_SightInterval_1 _) (IsAdr.ptrB n.1 (c0.grow h)), o1 [(12, some 3)] rfl fun _ _ h n => ok_load rfl ty53 n.1, o1 [(9, some 0), (13, some 4)] rfl fun _ _ h n => ok_call rfl Try.call73 (sight_bound_compare_ok n.1 n.2.1 hx1), cp 5 rfl rfl, trivial⟩ W5 fun b q p => ?_
    exact tail_done (k := q) (w5 _ _ ⟨Bs.post ⟨hg, hs, hd⟩ p, upE i0 (p.old 0 rfl), n0, Gb.Box.grow c0 p.grow, p.ke 3 rfl i3, p.ou 6 4 rfl, trivial⟩)
   rintro a k ⟨⟨hg, hs, hd⟩, i0, n0, c0, i3, i4, _⟩
   obtain rfl := Option.some.inj hr
   exact w4 _ _ ⟨⟨hg, hs, hd⟩, i0, n0, c0, i3, i4, trivial⟩
  rw [if_neg (by rw [hc1439]; decide)] at hr
  refine wp_skip ?_
  obtain rfl := Option.some.inj hr
  exact w4 _ _ ⟨⟨hg, hs, hd⟩, i0, n0, c0, i3, i4, trivial⟩
 clear hs1
 rintro a k ⟨⟨hg, hs, hd⟩, i0, n0, c0, i3, i4, _⟩
 refine wp_block ?_
 refine cutS (fun c l => Bs (Eq b0) k0 41 c l ∧ c.get 0 = .pointer (some ⟨b0, 0, none⟩) ∧ Wr (Eq b0) k0 (Eq b0) ∧ Gb.Box b0 i_ l ∧ IsRef b_ (c.get 3) l ∧ IsV s1 (c.get 4) l ∧ IsV (decide (s1 < 0)) (c.get 15) l ∧ True) ?_ ?_
 ·intro Q6 W6 w6
  refine gS 3 (_ :: _ :: _ :: []) hs (by kernel_rfl) ⟨mu rfl i4, o1 [(16, some 0)] rfl fun _ _ h n => ok_lss rfl n.1 (cI rfl), cp 1 rfl rfl, trivial⟩ W6 fun b q p => ?_
  exact tail_done (k := q) (w6 _ _ ⟨Bs.post ⟨hg, hs, hd⟩ p, upE i0 (p.old 0 rfl), n0, Gb.Box.grow c0 p.grow, p.ke 3 rfl i3, p.ke 4 rfl i4, p.ou 2 15 rfl, trivial⟩)
 rintro a k ⟨⟨hg, hs, hd⟩, i0, n0, c0, i3, i4, i15, _⟩
 obtain ⟨s2, hs2, hr⟩ := bind_some hr
 refine cut (fun a' k' => Bs (Eq b0) k0 41 a' k' ∧ a'.get 0 = .pointer (some ⟨b0, 0, none⟩) ∧ Wr (Eq b0) k0 (Eq b0) ∧ Gb.Box b0 s2 k' ∧ True) ?_ hQ ?_
 ·intro Q7 W7 w7
  replace hr := hs2
  clear hQ
  have hQ := W7
  refine wp_cond_split (isBool i15) (fun hc1456 => ?_) (fun hc1456 => ?_)
  ·rw [if_pos hc1456] at hr
   refine cut (fun a' k' => Bs (Eq b0) k0 41 a' k' ∧ a'.get 0 = .pointer (some ⟨b0, 0, none⟩) ∧ Wr (Eq b0) k0 (Eq b0) ∧ Gb.Box b0 ({ { i_ with hi := b_ } with top := true }) k' ∧ True) ?_ hQ ?_
   ·intro Q8 W8 w8
    refine gS 5 (⟨some (IsAdr b0 (0)), [(0, none)]⟩ :: ⟨some (IsAdr b0 (0)), [(0, none)]⟩ :: _ :: ⟨some (IsAdr b0 (0)), [(18, some 0)]⟩ :: _ :: []) hs (by kernel_rfl) ⟨ob1 rfl fun _ _ h n => ok_moveB rfl (upE i0 n.1), ob1 rfl fun _ _ h n => ok_moveB rfl (upE i0 n.1), o1 [(3, none)] rfl fun _ _ h n => ok_load rfl ty53 ((up i3 h n.1)).ptr, ob1 rfl fun _ _ h n => ok_nilCheckA rfl n.1, o1 [(21, some 3)] rfl fun _ _ h n => ok_fieldAdr2 rfl fo55_1 n.1, trivial⟩ W8 fun b q p => ?_
    have hgq := hg.then p.grow
    have hsb := p.size.trans hs
    have hdb := p.defers.trans hd
    have j0 := upE i0 (p.old 0 rfl)
    have z0 := Gb.Box.grow c0 p.grow
    have y0 := n0
    have j19 : IsAdr b0 (0) (b.get 19) q := p.ou 1 19 rfl
    have j20 : (IsV b_) (b.get 20) q := p.ou 2 20 rfl
    have j22 : IsAdr b0 (0 + 3) (b.get 22) q := p.ou 4 22 rfl
    have hns := z0.nshF
    refine tail_storeB (i := 5) rfl rfl rfl rfl szf53 upd_F55_1 j22 z0 j20 fun q2 hch hz => ?_
    replace hgq := hgq.step hch y0
    have hle := hch.le hns
    replace j19 := Pers.pers hle j19
    replace j20 := Pers.pers hle j20
    replace j22 := Pers.pers hle j22
    replace z0 := hz
    clear hns hle hch
    obtain ⟨q, hqq⟩ : ∃ q, q = q2 := ⟨q2, rfl⟩
    subst hqq
    refine tail_does (R := IsAdr b0 (0)) (i := 6) (d := 23) rfl rfl rfl (by rw [hsb]; decide) W8 (ok_nilCheckA rfl j19) fun b2 q2 hsz hdf hoth hgr hnew => ?_
    replace z0 := z0.grow hgr
    replace j19 := Pers.pers hgr.le j19
    replace j20 := Pers.pers hgr.le j20
    replace j22 := Pers.pers hgr.le j22
    replace hgq := hgq.then hgr
    rw [← hoth 0 (by decide)] at j0
    rw [← hoth 19 (by decide)] at j19
    rw [← hoth 20 (by decide)] at j20
    rw [← hoth 22 (by decide)] at j22
    have j23 := hnew
    replace hsb := hsz.trans hsb
    replace hdb := hdf.trans hdb
    clear hgr hsz hdf hoth hnew
    obtain ⟨b, hbb⟩ : ∃ b, b = b2 := ⟨b2, rfl⟩
    subst hbb
    obtain ⟨q, hqq⟩ : ∃ q, q = q2 := ⟨q2, rfl⟩
    subst hqq
    refine tail_does (R := IsAdr b0 (0 + 6)) (i := 7) (d := 24) rfl rfl rfl (by rw [hsb]; decide) W8 (ok_fieldAdr2 rfl fo55_2 j23) fun b2 q2 hsz hdf hoth hgr hnew => ?_
    replace z0 := z0.grow hgr
    replace j19 := Pers.pers hgr.le j19
    replace j20 := Pers.pers hgr.le j20
    replace j22 := Pers.pers hgr.le j22
    replace j23 := Pers.pers hgr.le j23
    replace hgq := hgq.then hgr
    rw [← hoth 0 (by decide)] at j0
    rw [← hoth 19 (by decide)] at j19
    rw [← hoth 20 (by decide)] at j20
    rw [← hoth 22 (by decide)] at j22
    rw [← hoth 23 (by decide)] at j23
    have j24 := hnew
    replace hsb := hsz.trans hsb
    replace hdb := hdf.trans hdb
    clear hgr hsz hdf hoth hnew
    obtain ⟨b, hbb⟩ : ∃ b, b = b2 := ⟨b2, rfl⟩
    subst hbb
    obtain ⟨q, hqq⟩ : ∃ q, q = q2 := ⟨q2, rfl⟩
    subst hqq
    have hns := z0.nshF
    refine tail_storeB (i := 8) rfl rfl rfl rfl szf4 upd_F55_2 j24 z0 (isV_bool.2 rfl) fun q2 hch hz => ?_
    replace hgq := hgq.step hch y0
    have hle := hch.le hns
    replace j19 := Pers.pers hle j19
    replace j20 := Pers.pers hle j20
    replace j22 := Pers.pers hle j22
    replace j23 := Pers.pers hle j23
    replace j24 := Pers.pers hle j24
    replace z0 := hz
    clear hns hle hch
    obtain ⟨q, hqq⟩ : ∃ q, q = q2 := ⟨q2, rfl⟩
    subst hqq
    exact tail_done (k := q) (w8 _ _ ⟨⟨hgq, hsb, hdb⟩, j0, y0, z0, trivial⟩)
   rintro a k ⟨⟨hg, hs, hd⟩, i0, n0, c0, _⟩
   obtain rfl := Option.some.inj hr
   exact w7 _ _ ⟨⟨hg, hs, hd⟩, i0, n0, c0, trivial⟩
  rw [if_neg (by rw [hc1456]; decide)] at hr
  refine cutS (fun c l => Bs (Eq b0) k0 41 c l ∧ c.get 0 = .pointer (some ⟨b0, 0, none⟩) ∧ Wr (Eq b0) k0 (Eq b0) ∧ Gb.Box b0 i_ l ∧ IsRef b_ (c.get 3) l ∧ IsV (s1 == 0) (c.get 25) l ∧ True) ?_ ?_
  ·intro Q9 W9 w9
   refine gS 3 (_ :: _ :: _ :: []) hs (by kernel_rfl) ⟨mu rfl i4, o1 [(26, some 0)] rfl fun _ _ h n => ok_eqI rfl n.1 (cI rfl), cp 1 rfl rfl, trivial⟩ W9 fun b q p => ?_
   exact tail_done (k := q) (w9 _ _ ⟨Bs.post ⟨hg, hs, hd⟩ p, upE i0 (p.old 0 rfl), n0, Gb.Box.grow c0 p.grow, p.ke 3 rfl i3, p.ou 2 25 rfl, trivial⟩)
  rintro a k ⟨⟨hg, hs, hd⟩, i0, n0, c0, i3, i25, _⟩
  obtain ⟨s3, hs3, hr⟩ := bind_some hr
  refine cut (fun a' k' => Bs (Eq b0) k0 41 a' k' ∧ a'.get 0 = .pointer (some ⟨b0, 0, none⟩) ∧ Wr (Eq b0) k0 (Eq b0) ∧ Gb.Box b0 s3 k' ∧ True) ?_ hQ ?_
  ·intro Q10 W10 w10
   replace hr := hs3
   clear hQ
   have hQ := W10
   refine wp_cond_split (isBool i25) (fun hc1452 => ?_) (fun hc1452 => ?_)
   ·rw [if_pos hc1452] at hr
    refine cut (fun a' k' => Bs (Eq b0) k0 41 a' k' ∧ a'.get 0 = .pointer (some ⟨b0, 0, none⟩) ∧ Wr (Eq b0) k0 (Eq b0) ∧ Gb.Box b0 ({ i_ with hi := { i_.hi with open_ := (i_.hi.open_ || b_.open_) } }) k' ∧ True) ?_ hQ ?_
    ·intro Q11 W11 w11
     refine gS 13 (⟨some (IsAdr b0 (0)), [(0, none)]⟩ :: ⟨some (IsAdr b0 (0)), [(0, none)]⟩ :: ⟨some (IsAdr b0 (0)), [(29, some 1)]⟩ :: _ :: _ :: _ :: _ :: _ :: _ :: _ :: ⟨some (IsAdr b0 (0)), [(28, some 0)]⟩ :: _ :: _ :: []) hs (by kernel_rfl) ⟨ob1 rfl fun _ _ h n => ok_moveB rfl (upE i0 n.1), ob1 rfl fun _ _ h n => ok_moveB rfl (upE i0 n.1), ob1 rfl fun _ _ h n => ok_nilCheckA rfl n.1, o1 [(30, some 2)] rfl fun _ _ h n => ok_fieldAddr rfl fo55_1 (at_SightInterval_1 _) (IsAdr.ptrB n.1 (c0.grow h)), o1 [(31, some 3)] rfl fun _ _ h n => ok_fieldAddr rfl fo53_2 (at_SightBound_2 _) n.1, o1 [(32, some 4)] rfl fun _ _ h n => ok_load rfl ty4 n.1, cm 5 rfl rfl, gF [(3, none)] rfl rfl fun hp _ _ h n => ok_fieldAddr rfl fo53_2 (at_SightBound_2 _) ((up i3 h n.1)).ptr, gF [(35, some 7)] rfl rfl fun hp _ _ h n => ok_load rfl ty4 (Gd.get n.1 hp), o1 [(34, some 6), (36, some 8)] rfl fun _ _ h n => ok_pickOr rfl n.1 (cB rfl) (Gd.get n.2.1), ob1 rfl fun _ _ h n => ok_nilCheckA rfl n.1, o1 [(38, some 10)] rfl fun _ _ h n => ok_fieldAdr2 rfl fo55_1 n.1, o1 [(39, some 11)] rfl fun _ _ h n => ok_fieldAdr2 rfl fo53_2 n.1, trivial⟩ W11 fun b q p => ?_
     have hgq := hg.then p.grow
     have hsb := p.size.trans hs
     have hdb := p.defers.trans hd
     have j0 := upE i0 (p.old 0 rfl)
     have z0 := Gb.Box.grow c0 p.grow
     have y0 := n0
     have j37 : (IsV (i_.hi.open_ || b_.open_)) (b.get 37) q := p.ou 9 37 rfl
     have j40 : IsAdr b0 (0 + 3 + 2) (b.get 40) q := p.ou 12 40 rfl
     have hns := z0.nshF
     refine tail_storeB (i := 13) rfl rfl rfl rfl szf4 upd_F55_1_F53_2 j40 z0 j37 fun q2 hch hz => ?_
     replace hgq := hgq.step hch y0
     have hle := hch.le hns
     replace j37 := Pers.pers hle j37
     replace j40 := Pers.pers hle j40
     replace z0 := hz
     clear hns hle hch
     obtain ⟨q, hqq⟩ : ∃ q, q = q2 := ⟨q2, rfl⟩
     subst hqq
     exact tail_done (k := q) (w11 _ _ ⟨⟨hgq, hsb, hdb⟩, j0, y0, z0, trivial⟩)
    rintro a k ⟨⟨hg, hs, hd⟩, i0, n0, c0, _⟩
    obtain rfl := Option.some.inj hr
    exact w10 _ _ ⟨⟨hg, hs, hd⟩, i0, n0, c0, trivial⟩
   rw [if_neg (by rw [hc1452]; decide)] at hr
   refine wp_skip ?_
   obtain rfl := Option.some.inj hr
   exact w10 _ _ ⟨⟨hg, hs, hd⟩, i0, n0, c0, trivial⟩
  clear hs3
  rintro a k ⟨⟨hg, hs, hd⟩, i0, n0, c0, _⟩
  obtain rfl := Option.some.inj hr
  exact w7 _ _ ⟨⟨hg, hs, hd⟩, i0, n0, c0, trivial⟩
 clear hs2
 rintro a k ⟨⟨hg, hs, hd⟩, i0, n0, c0, _⟩
 obtain rfl := Option.some.inj hr
 exact retT rfl hd hg c0
def sight_interval_narrow (i_ : SightInterval) (at_ : Int) (by_ : Int) (from_ : Int) (to_ : Int) : Option (SightInterval) :=
 (if (decide (0 < by_)) then
  (subI from_ at_).bind fun x1 =>
  (sight_interval_above i_ (⟨x1, by_, false⟩ : SightBound)).bind fun x2 =>
  (subI to_ at_).bind fun x3 =>
  (sight_interval_below x2 (⟨x3, by_, true⟩ : SightBound)).bind fun x4 =>
  some x4
 else
  (if (decide (by_ < 0)) then
   (subI at_ to_).bind fun x5 =>
   (subI 0 by_).bind fun x6 =>
   (sight_interval_above i_ (⟨x5, x6, true⟩ : SightBound)).bind fun x7 =>
   (subI at_ from_).bind fun x8 =>
   (subI 0 by_).bind fun x9 =>
   (sight_interval_below x7 (⟨x8, x9, false⟩ : SightBound)).bind fun x10 =>
   some x10
  else
   (if ((decide (at_ < from_)) || (decide (to_ ≤ at_))) then
    some { i_ with none_ := true }
   else
    some i_).bind fun s1 =>
   some s1).bind fun s2 =>
  some s2).bind fun s3 =>
 some s3
theorem sight_interval_narrow_ok {k0 : K} {v0 v1 v2 v3 v4 : Value} {i_ : SightInterval} {at_ : Int} {by_ : Int} {from_ : Int} {to_ : Int} {r : SightInterval} {b0 : Nat} (i0 : v0 = .pointer (some ⟨b0, 0, none⟩)) (c0 : Gb.Box b0 i_ k0) (i1 : (IsV at_) v1 k0) (i2 : (IsV by_) v2 k0) (i3 : (IsV from_) v3 k0) (i4 : (IsV to_) v4 k0) (hr : sight_interval_narrow i_ at_ by_ from_ to_ = some r) :
  Calls Try.prog 47 #[v0, v1, v2, v3, v4] k0.w (RetC (Eq b0) k0 (IsTurn b0 r)) := by
 unfold sight_interval_narrow at hr
 refine enterK Try.func47 rfl Try.ntmps47 (show 5 ≤ 58 by decide) fun a k hk0 hs hd ha => ?_
 obtain ⟨e0, e1, e2, e3, e4, _⟩ := ha
 replace i0 : a.get 0 = .pointer (some ⟨b0, 0, none⟩) := by rw [e0]; exact i0
 replace c0 : Gb.Box b0 i_ k := by rw [hk0]; exact c0
 have n0 : Wr (Eq b0) k0 (Eq b0) := fun b h => .inl h
 replace i1 : (IsV at_) (a.get 1) k := by rw [e1, hk0]; exact i1
 replace i2 : (IsV by_) (a.get 2) k := by rw [e2, hk0]; exact i2
 replace i3 : (IsV from_) (a.get 3) k := by rw [e3, hk0]; exact i3
 replace i4 : (IsV to_) (a.get 4) k := by rw [e4, hk0]; exact i4
 have hQ : Gb.LetsOut (bodyPost Try.prog Try.f47 (RetC (Eq b0) k0 (IsTurn b0 r))) := letsOutC
 have hg : Chg (Eq b0) k0 k := by rw [hk0]; exact Chg.refl _ k0
 refine wp_block ?_
 refine cutS (fun c l => Bs (Eq b0) k0 58 c l ∧ c.get 0 = .pointer (some ⟨b0, 0, none⟩) ∧ Wr (Eq b0) k0 (Eq b0) ∧ Gb.Box b0 i_ l ∧ IsV at_ (c.get 1) l ∧ IsV by_ (c.get 2) l ∧ IsV from_ (c.get 3) l ∧ IsV to_ (c.get 4) l ∧ IsV (decide (0 < by_)) (c.get 10) l ∧ True) ?_ ?_
 ·intro Q1 W1 w1
  refine gS 3 (_ :: _ :: _ :: []) hs (by kernel_rfl) ⟨mu rfl i2, o1 [(11, some 0)] rfl fun _ _ h n => ok_gtr rfl n.1 (cI rfl), cp 1 rfl rfl, trivial⟩ W1 fun b q p => ?_
  exact tail_done (k := q) (w1 _ _ ⟨Bs.post ⟨hg, hs, hd⟩ p, upE i0 (p.old 0 rfl), n0, Gb.Box.grow c0 p.grow, p.ke 1 rfl i1, p.ke 2 rfl i2, p.ke 3 rfl i3, p.ke 4 rfl i4, p.ou 2 10 rfl, trivial⟩)
 rintro a k ⟨⟨hg, hs, hd⟩, i0, n0, c0, i1, i2, i3, i4, i10, _⟩
 obtain ⟨s1, hs1, hr⟩ := bind_some hr
 refine cut (fun a' k' => Bs (Eq b0) k0 58 a' k' ∧ a'.get 0 = .pointer (some ⟨b0, 0, none⟩) ∧ Wr (Eq b0) k0 (Eq b0) ∧ Gb.Box b0 s1 k' ∧ True) ?_ hQ ?_
 ·intro Q2 W2 w2
  replace hr := hs1
  clear hQ
  have hQ := W2
  refine wp_cond_split (isBool i10) (fun hc1499 => ?_) (fun hc1499 => ?_)
  ·rw [if_pos hc1499] at hr
   refine wp_seq ?_
   obtain ⟨x1, hx1, hr⟩ := bind_some hr
   obtain ⟨x2, hx2, hr⟩ := bind_some hr
   refine cut (fun a' k' => Bs (Eq b0) k0 58 a' k' ∧ a'.get 0 = .pointer (some ⟨b0, 0, none⟩) ∧ Wr (Eq b0) k0 (Eq b0) ∧ Gb.Box b0 x2 k' ∧ (IsV at_) (a'.get 1) k' ∧ (IsV by_) (a'.get 2) k' ∧ (IsV to_) (a'.get 4) k' ∧ True) ?_ hQ ?_
   ·intro Q3 W3 w3
    refine gS 6 (⟨some (IsAdr b0 (0)), [(0, none)]⟩ :: _ :: _ :: _ :: _ :: ⟨some (IsV (⟨x1, by_, false⟩ : SightBound)), [(16, some 3), (17, some 4)]⟩ :: []) hs (by kernel_rfl) ⟨ob1 rfl fun _ _ h n => ok_moveB rfl (upE i0 n.1), mu rfl i3, mu rfl i1, o1 [(14, some 1), (15, some 2)] rfl fun _ _ h n => ok_sub rfl n.1 n.2.1 hx1, mu rfl i2, ob1 rfl fun _ _ h n => ok_build rfl (bld53_0_1_2 n.1 n.2.1 (isV_bool.2 rfl)), trivial⟩ W3 fun b q p => ?_
    have hgq := hg.then p.grow
    have hsb := p.size.trans hs
    have hdb := p.defers.trans hd
    have j0 := upE i0 (p.old 0 rfl)
    have z0 := Gb.Box.grow c0 p.grow
    have y0 := n0
    have j1 := p.ke 1 rfl i1
    have j2 := p.ke 2 rfl i2
    have j4 := p.ke 4 rfl i4
    have j13 : IsAdr b0 (0) (b.get 13) q := p.ou 0 13 rfl
    have j18 : (IsV (⟨x1, by_, false⟩ : SightBound)) (b.get 18) q := p.ou 5 18 rfl
    have hns := z0.nshF
    refine tail_call (F := Eq b0) (i := 6) (d := 19) rfl rfl rfl rfl (by rw [hsb]; decide) Try.call71 W3 (sight_interval_above_ok j13 z0 j18 hx2) fun b2 q2 hsz hdf hoth hch hres => ?_
    have hle := hch.le hns
    replace j1 := Pers.pers hle j1
    replace j2 := Pers.pers hle j2
    replace j4 := Pers.pers hle j4
    replace j13 := Pers.pers hle j13
    replace j18 := Pers.pers hle j18
    replace hgq := hgq.step hch y0
    replace z0 := hres
    rw [← hoth 0 (by decide)] at j0
    rw [← hoth 1 (by decide)] at j1
    rw [← hoth 2 (by decide)] at j2
    rw [← hoth 4 (by decide)] at j4
    rw [← hoth 13 (by decide)] at j13
    rw [← hoth 18 (by decide)] at j18
    replace hsb := hsz.trans hsb
    replace hdb := hdf.trans hdb
    clear hle hch hns hsz hdf hoth hres
    obtain ⟨b, hbb⟩ : ∃ b, b = b2 := ⟨b2, rfl⟩
    subst hbb
    obtain ⟨q, hqq⟩ : ∃ q, q = q2 := ⟨q2, rfl⟩
    subst hqq
    exact tail_done (k := q) (w3 _ _ ⟨⟨hgq, hsb, hdb⟩, j0, y0, z0, j1, j2, j4, trivial⟩)
   rintro a k ⟨⟨hg, hs, hd⟩, i0, n0, c0, i1, i2, i4, _⟩
   obtain ⟨x3, hx3, hr⟩ := bind_some hr
   obtain ⟨x4, hx4, hr⟩ := bind_some hr
   refine cut (fun a' k' => Bs (Eq b0) k0 58 a' k' ∧ a'.get 0 = .pointer (some ⟨b0, 0, none⟩) ∧ Wr (Eq b0) k0 (Eq b0) ∧ Gb.Box b0 x4 k' ∧ True) ?_ hQ ?_
   ·intro Q4 W4 w4
    refine gS 6 (⟨some (IsAdr b0 (0)), [(0, none)]⟩ :: _ :: _ :: _ :: _ :: ⟨some (IsV (⟨x3, by_, true⟩ : SightBound)), [(23, some 3), (24, some 4)]⟩ :: []) hs (by kernel_rfl) ⟨ob1 rfl fun _ _ h n => ok_moveB rfl (upE i0 n.1), mu rfl i4, mu rfl i1, o1 [(21, some 1), (22, some 2)] rfl fun _ _ h n => ok_sub rfl n.1 n.2.1 hx3, mu rfl i2, ob1 rfl fun _ _ h n => ok_build rfl (bld53_0_1_2 n.1 n.2.1 (isV_bool.2 rfl)), trivial⟩ W4 fun b q p => ?_
    have hgq := hg.then p.grow
    have hsb := p.size.trans hs
    have hdb := p.defers.trans hd
    have j0 := upE i0 (p.old 0 rfl)
    have z0 := Gb.Box.grow c0 p.grow
    have y0 := n0
    have j20 : IsAdr b0 (0) (b.get 20) q := p.ou 0 20 rfl
    have j25 : (IsV (⟨x3, by_, true⟩ : SightBound)) (b.get 25) q := p.ou 5 25 rfl
    have hns := z0.nshF
    refine tail_call (F := Eq b0) (i := 6) (d := 26) rfl rfl rfl rfl (by rw [hsb]; decide) Try.call72 W4 (sight_interval_below_ok j20 z0 j25 hx4) fun b2 q2 hsz hdf hoth hch hres => ?_
    have hle := hch.le hns
    replace j20 := Pers.pers hle j20
    replace j25 := Pers.pers hle j25
    replace hgq := hgq.step hch y0
    replace z0 := hres
    rw [← hoth 0 (by decide)] at j0
    rw [← hoth 20 (by decide)] at j20
    rw [← hoth 25 (by decide)] at j25
    replace hsb := hsz.trans hsb
    replace hdb := hdf.trans hdb
    clear hle hch hns hsz hdf hoth hres
    obtain ⟨b, hbb⟩ : ∃ b, b = b2 := ⟨b2, rfl⟩
    subst hbb
    obtain ⟨q, hqq⟩ : ∃ q, q = q2 := ⟨q2, rfl⟩
    subst hqq
    exact tail_done (k := q) (w4 _ _ ⟨⟨hgq, hsb, hdb⟩, j0, y0, z0, trivial⟩)
   rintro a k ⟨⟨hg, hs, hd⟩, i0, n0, c0, _⟩
   obtain rfl := Option.some.inj hr
   exact w2 _ _ ⟨⟨hg, hs, hd⟩, i0, n0, c0, trivial⟩
  rw [if_neg (by rw [hc1499]; decide)] at hr
  refine cutS (fun c l => Bs (Eq b0) k0 58 c l ∧ c.get 0 = .pointer (some ⟨b0, 0, none⟩) ∧ Wr (Eq b0) k0 (Eq b0) ∧ Gb.Box b0 i_ l ∧ IsV at_ (c.get 1) l ∧ IsV by_ (c.get 2) l ∧ IsV from_ (c.get 3) l ∧ IsV to_ (c.get 4) l ∧ IsV (decide (by_ < 0)) (c.get 27) l ∧ True) ?_ ?_
  ·intro Q5 W5 w5
   refine gS 3 (_ :: _ :: _ :: []) hs (by kernel_rfl) ⟨mu rfl i2, o1 [(28, some 0)] rfl fun _ _ h n => ok_lss rfl n.1 (cI rfl), cp 1 rfl rfl, trivial⟩ W5 fun b q p => ?_
   exact tail_done (k := q) (w5 _ _ ⟨Bs.post ⟨hg, hs, hd⟩ p, upE i0 (p.old 0 rfl), n0, Gb.Box.grow c0 p.grow, p.ke 1 rfl i1, p.ke 2 rfl i2, p.ke 3 rfl i3, p.ke 4 rfl i4, p.ou 2 27 rfl, trivial⟩)
  rintro a k ⟨⟨hg, hs, hd⟩, i0, n0, c0, i1, i2, i3, i4, i27, _⟩
  obtain ⟨s2, hs2, hr⟩ := bind_some hr
  refine cut (fun a' k' => Bs (Eq b0) k0 58 a' k' ∧ a'.get 0 = .pointer (some ⟨b0, 0, none⟩) ∧ Wr (Eq b0) k0 (Eq b0) ∧ Gb.Box b0 s2 k' ∧ True) ?_ hQ ?_
  ·intro Q6 W6 w6
   replace hr := hs2
   clear hQ
   have hQ := W6
   refine wp_cond_split (isBool i27) (fun hc1495 => ?_) (fun hc1495 => ?_)
   ·rw [if_pos hc1495] at hr
    refine wp_seq ?_
    obtain ⟨x5, hx5, hr⟩ := bind_some hr
    obtain ⟨x6, hx6, hr⟩ := bind_some hr
    obtain ⟨x7, hx7, hr⟩ := bind_some hr
    refine cut (fun a' k' => Bs (Eq b0) k0 58 a' k' ∧ a'.get 0 = .pointer (some ⟨b0, 0, none⟩) ∧ Wr (Eq b0) k0 (Eq b0) ∧ Gb.Box b0 x7 k' ∧ (IsV at_) (a'.get 1) k' ∧ (IsV by_) (a'.get 2) k' ∧ (IsV from_) (a'.get 3) k' ∧ True) ?_ hQ ?_
    ·intro Q7 W7 w7
     refine gS 7 (⟨some (IsAdr b0 (0)), [(0, none)]⟩ :: _ :: _ :: _ :: _ :: ⟨some (IsV x6), [(34, some 4)]⟩ :: ⟨some (IsV (⟨x5, x6, true⟩ : SightBound)), [(33, some 3), (35, some 5)]⟩ :: []) hs (by kernel_rfl) ⟨ob1 rfl fun _ _ h n => ok_moveB rfl (upE i0 n.1), mu rfl i1, mu rfl i4, o1 [(31, some 1), (32, some 2)] rfl fun _ _ h n => ok_sub rfl n.1 n.2.1 hx5, mu rfl i2, ob1 rfl fun _ _ h n => ok_neg rfl n.1 hx6, ob1 rfl fun _ _ h n => ok_build rfl (bld53_0_1_2 n.1 n.2.1 (isV_bool.2 rfl)), trivial⟩ W7 fun b q p => ?_
     have hgq := hg.then p.grow
     have hsb := p.size.trans hs
     have hdb := p.defers.trans hd
     have j0 := upE i0 (p.old 0 rfl)
     have z0 := Gb.Box.grow c0 p.grow
     have y0 := n0
     have j1 := p.ke 1 rfl i1
     have j2 := p.ke 2 rfl i2
     have j3 := p.ke 3 rfl i3
     have j30 : IsAdr b0 (0) (b.get 30) q := p.ou 0 30 rfl
     have j36 : (IsV (⟨x5, x6, true⟩ : SightBound)) (b.get 36) q := p.ou 6 36 rfl
     have hns := z0.nshF
     refine tail_call (F := Eq b0) (i := 7) (d := 37) rfl rfl rfl rfl (by rw [hsb]; decide) Try.call71 W7 (sight_interval_above_ok j30 z0 j36 hx7) fun b2 q2 hsz hdf hoth hch hres => ?_
     have hle := hch.le hns
     replace j1 := Pers.pers hle j1
     replace j2 := Pers.pers hle j2
     replace j3 := Pers.pers hle j3
     replace j30 := Pers.pers hle j30
     replace j36 := Pers.pers hle j36
     replace hgq := hgq.step hch y0
     replace z0 := hres
     rw [← hoth 0 (by decide)] at j0
     rw [← hoth 1 (by decide)] at j1
     rw [← hoth 2 (by decide)] at j2
     rw [← hoth 3 (by decide)] at j3
     rw [← hoth 30 (by decide)] at j30
     rw [← hoth 36 (by decide)] at j36
     replace hsb := hsz.trans hsb
     replace hdb := hdf.trans hdb
     clear hle hch hns hsz hdf hoth hres
     obtain ⟨b, hbb⟩ : ∃ b, b = b2 := ⟨b2, rfl⟩
     subst hbb
     obtain ⟨q, hqq⟩ : ∃ q, q = q2 := ⟨q2, rfl⟩
     subst hqq
     exact tail_done (k := q) (w7 _ _ ⟨⟨hgq, hsb, hdb⟩, j0, y0, z0, j1, j2, j3, trivial⟩)
    rintro a k ⟨⟨hg, hs, hd⟩, i0, n0, c0, i1, i2, i3, _⟩
    obtain ⟨x8, hx8, hr⟩ := bind_some hr
    obtain ⟨x9, hx9, hr⟩ := bind_some hr
    obtain ⟨x10, hx10, hr⟩ := bind_some hr
    refine cut (fun a' k' => Bs (Eq b0) k0 58 a' k' ∧ a'.get 0 = .pointer (some ⟨b0, 0, none⟩) ∧ Wr (Eq b0) k0 (Eq b0) ∧ Gb.Box b0 x10 k' ∧ True) ?_ hQ ?_
    ·intro Q8 W8 w8
     refine gS 7 (⟨some (IsAdr b0 (0)), [(0, none)]⟩ :: _ :: _ :: _ :: _ :: ⟨some (IsV x9), [(42, some 4)]⟩ :: ⟨some (IsV (⟨x8, x9, false⟩ : SightBound)), [(41, some 3), (43, some 5)]⟩ :: []) hs (by kernel_rfl) ⟨ob1 rfl fun _ _ h n => ok_moveB rfl (upE i0 n.1), mu rfl i1, mu rfl i3, o1 [(39, some 1), (40, some 2)] rfl fun _ _ h n => ok_sub rfl n.1 n.2.1 hx8, mu rfl i2, ob1 rfl fun _ _ h n => ok_neg rfl n.1 hx9, ob1 rfl fun _ _ h n => ok_build rfl (bld53_0_1_2 n.1 n.2.1 (isV_bool.2 rfl)), trivial⟩ W8 fun b q p => ?_
     have hgq := hg.then p.grow
     have hsb := p.size.trans hs
     have hdb := p.defers.trans hd
     have j0 := upE i0 (p.old 0 rfl)
     have z0 := Gb.Box.grow c0 p.grow
     have y0 := n0
     have j38 : IsAdr b0 (0) (b.get 38) q := p.ou 0 38 rfl
     have j44 : (IsV (⟨x8, x9, false⟩ : SightBound)) (b.get 44) q := p.ou 6 44 rfl
     have hns := z0.nshF
     refine tail_call (F := Eq b0) (i := 7) (d := 45) rfl rfl rfl rfl (by rw [hsb]; decide) Try.call72 W8 (sight_interval_below_ok j38 z0 j44 hx10) fun b2 q2 hsz hdf hoth hch hres => ?_
     have hle := hch.le hns
     replace j38 := Pers.pers hle j38
     replace j44 := Pers.pers hle j44
     replace hgq := hgq.step hch y0
     replace z0 := hres
     rw [← hoth 0 (by decide)] at j0
     rw [← hoth 38 (by decide)] at j38
     rw [← hoth 44 (by decide)] at j44
     replace hsb := hsz.trans hsb
     replace hdb := hdf.trans hdb
     clear hle hch hns hsz hdf hoth hres
     obtain ⟨b, hbb⟩ : ∃ b, b = b2 := ⟨b2, rfl⟩
     subst hbb
     obtain ⟨q, hqq⟩ : ∃ q, q = q2 := ⟨q2, rfl⟩
     subst hqq
     exact tail_done (k := q) (w8 _ _ ⟨⟨hgq, hsb, hdb⟩, j0, y0, z0, trivial⟩)
    rintro a k ⟨⟨hg, hs, hd⟩, i0, n0, c0, _⟩
    obtain rfl := Option.some.inj hr
    exact w6 _ _ ⟨⟨hg, hs, hd⟩, i0, n0, c0, trivial⟩
   rw [if_neg (by rw [hc1495]; decide)] at hr
   refine cutS (fun c l => Bs (Eq b0) k0 58 c l ∧ c.get 0 = .pointer (some ⟨b0, 0, none⟩) ∧ Wr (Eq b0) k0 (Eq b0) ∧ Gb.Box b0 i_ l ∧ (IsV ((decide (at_ < from_)) || (decide (to_ ≤ at_)))) (c.get 46) l ∧ True) ?_ ?_
   ·intro Q9 W9 w9
    refine gS 9 (_ :: _ :: _ :: _ :: _ :: _ :: _ :: _ :: _ :: []) hs (by kernel_rfl) ⟨mu rfl i1, mu rfl i3, o1 [(47, some 0), (48, some 1)] rfl fun _ _ h n => ok_lss rfl n.1 n.2.1, cm 2 rfl rfl, mF rfl rfl i1, mF rfl rfl i4, gF [(51, some 4), (52, some 5)] rfl rfl fun hp _ _ h n => ok_geq rfl (Gd.get n.1 hp) (Gd.get n.2.1 hp), o1 [(50, some 3), (53, some 6)] rfl fun _ _ h n => ok_pickOr rfl n.1 (cB rfl) (Gd.get n.2.1), cp 7 rfl rfl, trivial⟩ W9 fun b q p => ?_
    exact tail_done (k := q) (w9 _ _ ⟨Bs.post ⟨hg, hs, hd⟩ p, upE i0 (p.old 0 rfl), n0, Gb.Box.grow c0 p.grow, p.ou 8 46 rfl, trivial⟩)
   rintro a k ⟨⟨hg, hs, hd⟩, i0, n0, c0, i46, _⟩
   obtain ⟨s3, hs3, hr⟩ := bind_some hr
   refine cut (fun a' k' => Bs (Eq b0) k0 58 a' k' ∧ a'.get 0 = .pointer (some ⟨b0, 0, none⟩) ∧ Wr (Eq b0) k0 (Eq b0) ∧ Gb.Box b0 s3 k' ∧ True) ?_ hQ ?_
   ·intro Q10 W10 w10
    replace hr := hs3
    clear hQ
    have hQ := W10
    refine wp_cond_split (isBool i46) (fun hc1491 => ?_) (fun hc1491 => ?_)
    ·rw [if_pos hc1491] at hr
     refine cut (fun a' k' => Bs (Eq b0) k0 58 a' k' ∧ a'.get 0 = .pointer (some ⟨b0, 0, none⟩) ∧ Wr (Eq b0) k0 (Eq b0) ∧ Gb.Box b0 ({ i_ with none_ := true }) k' ∧ True) ?_ hQ ?_
     ·intro Q11 W11 w11
      refine gS 3 (⟨some (IsAdr b0 (0)), [(0, none)]⟩ :: ⟨some (IsAdr b0 (0)), [(55, some 0)]⟩ :: _ :: []) hs (by kernel_rfl) ⟨ob1 rfl fun _ _ h n => ok_moveB rfl (upE i0 n.1), ob1 rfl fun _ _ h n => ok_nilCheckA rfl n.1, o1 [(56, some 1)] rfl fun _ _ h n => ok_fieldAdr2 rfl fo55_3 n.1, trivial⟩ W11 fun b q p => ?_
      have hgq := hg.then p.grow
      have hsb := p.size.trans hs
      have hdb := p.defers.trans hd
      have j0 := upE i0 (p.old 0 rfl)
      have z0 := Gb.Box.grow c0 p.grow
      have y0 := n0
      have j57 : IsAdr b0 (0 + 7) (b.get 57) q := p.ou 2 57 rfl
      have hns := z0.nshF
      refine tail_storeB (i := 3) rfl rfl rfl rfl szf4 upd_F55_3 j57 z0 (isV_bool.2 rfl) fun q2 hch hz => ?_
      replace hgq := hgq.step hch y0
      have hle := hch.le hns
      replace j57 := Pers.pers hle j57
      replace z0 := hz
      clear hns hle hch
      obtain ⟨q, hqq⟩ : ∃ q, q = q2 := ⟨q2, rfl⟩
      subst hqq
      exact tail_done (k := q) (w11 _ _ ⟨⟨hgq, hsb, hdb⟩, j0, y0, z0, trivial⟩)
     rintro a k ⟨⟨hg, hs, hd⟩, i0, n0, c0, _⟩
     obtain rfl := Option.some.inj hr
     exact w10 _ _ ⟨⟨hg, hs, hd⟩, i0, n0, c0, trivial⟩
    rw [if_neg (by rw [hc1491]; decide)] at hr
    refine wp_skip ?_
    obtain rfl := Option.some.inj hr
    exact w10 _ _ ⟨⟨hg, hs, hd⟩, i0, n0, c0, trivial⟩
   clear hs3
   rintro a k ⟨⟨hg, hs, hd⟩, i0, n0, c0, _⟩
   obtain rfl := Option.some.inj hr
   exact w6 _ _ ⟨⟨hg, hs, hd⟩, i0, n0, c0, trivial⟩
  clear hs2
  rintro a k ⟨⟨hg, hs, hd⟩, i0, n0, c0, _⟩
  obtain rfl := Option.some.inj hr
  exact w2 _ _ ⟨⟨hg, hs, hd⟩, i0, n0, c0, trivial⟩
 clear hs1
 rintro a k ⟨⟨hg, hs, hd⟩, i0, n0, c0, _⟩
 obtain rfl := Option.some.inj hr
 exact retT rfl hd hg c0
def sight_interval_empty (i_ : SightInterval) : Option (Bool) :=
 if (i_.none_ || (!i_.top)) then
  some i_.none_
 else
  (sight_bound_compare i_.lo i_.hi).bind fun x1 =>
  some ((decide (0 < x1)) || ((x1 == 0) && (i_.lo.open_ || i_.hi.open_)))
theorem sight_interval_empty_ok {k0 : K} {v0 : Value} {i_ : SightInterval} {r : Bool} (i0 : (IsRef i_) v0 k0) (hr : sight_interval_empty i_ = some r) :
  Calls Try.prog 48 #[v0] k0.w (Ret k0 (IsV r)) := by
 unfold sight_interval_empty at hr
 refine Ret.ofC ?_
 refine enterK Try.func48 rfl Try.ntmps48 (show 1 ≤ 48 by decide) fun a k hk0 hs hd ha => ?_
 obtain ⟨e0, _⟩ := ha
 replace i0 : (IsRef i_) (a.get 0) k := by rw [e0, hk0]; exact i0
 have hQ : Gb.LetsOut (bodyPost Try.prog Try.f48 (RetC noF k0 (IsV r))) := letsOutC
 have hg : Chg noF k0 k := by rw [hk0]; exact Chg.refl _ k0
 refine stepL 1 (⟨some (IsV false), []⟩ :: []) rfl ⟨hg, hs, hd⟩ (by kernel_rfl) ⟨ob1 rfl fun _ _ h n => ok_assign rfl (isV_bool.2 rfl), trivial⟩ [⟨_, _⟩] (fun b q p => ⟨p.ke 0 rfl i0, trivial⟩) ?_
 rintro a k ⟨⟨hg, hs, hd⟩, i0, _⟩
 refine wp_seq ?_
 refine stepL 11 (_ :: ⟨some (IsRef i_), [(4, some 0)]⟩ :: _ :: _ :: _ :: _ :: ⟨some (Gd (i_.none_ = false) (IsRef i_)), [(9, some 5)]⟩ :: _ :: _ :: _ :: _ :: []) rfl ⟨hg, hs, hd⟩ (by kernel_rfl) ⟨mu rfl i0, ob1 rfl fun _ _ h n => ok_nilCheckR rfl n.1, o1 [(5, some 1)] rfl fun _ _ h n => ok_fieldAddr rfl fo55_3 (at_SightInterval_3 _) (n.1).ptr, o1 [(6, some 2)] rfl fun _ _ h n => ok_load rfl ty4 n.1, cm 3 rfl rfl, mF rfl rfl i0, gdF rfl rfl fun hp _ _ h n => ok_nilCheckR rfl (Gd.get n.1 hp), gF [(10, some 6)] rfl rfl fun hp _ _ h n => ok_fieldAddr rfl fo55_2 (at_SightInterval_2 _) ((Gd.get n.1 hp)).ptr, gF [(11, some 7)] rfl rfl fun hp _ _ h n => ok_load rfl ty4 (Gd.get n.1 hp), gF [(12, some 8)] rfl rfl fun hp _ _ h n => ok_not rfl (Gd.get n.1 hp), o1 [(8, some 4), (13, some 9)] rfl fun _ _ h n => ok_pickOr rfl n.1 (cB rfl) (Gd.get n.2.1), trivial⟩ [⟨_, _⟩, ⟨_, _⟩] (fun b q p => ⟨p.ke 0 rfl i0, p.ou 10 14 rfl, trivial⟩) ?_
 rintro a k ⟨⟨hg, hs, hd⟩, i0, i14, _⟩
 refine wp_cond_split (isBool i14) (fun hc1514 => ?_) (fun hc1514 => ?_)
 ·rw [if_pos hc1514] at hr
  refine stepL 5 (_ :: ⟨some (IsRef i_), [(15, some 0)]⟩ :: _ :: _ :: _ :: []) rfl ⟨hg, hs, hd⟩ (by kernel_rfl) ⟨mu rfl i0, ob1 rfl fun _ _ h n => ok_nilCheckR rfl n.1, o1 [(16, some 1)] rfl fun _ _ h n => ok_fieldAddr rfl fo55_3 (at_SightInterval_3 _) (n.1).ptr, o1 [(17, some 2)] rfl fun _ _ h n => ok_load rfl ty4 n.1, cp 3 rfl rfl, trivial⟩ [⟨_, _⟩] (fun b q p => ⟨p.ou 4 2 rfl, trivial⟩) ?_
  rintro a k ⟨⟨hg, hs, hd⟩, i2, _⟩
  refine wp_ret ?_
  obtain rfl := Option.some.inj hr
  exact retC1 rfl hd hg i2
 rw [if_neg (by rw [hc1514]; decide)] at hr
 refine wp_skip ?_
 refine wp_seq ?_
 obtain ⟨x1, hx1, hr⟩ := bind_some hr
 refine cut (fun a' k' => Bs noF k0 48 a' k' ∧ (IsRef i_) (a'.get 0) k' ∧ (IsV x1) (a'.get 3) k' ∧ True) ?_ hQ ?_
 ·intro Q1 W1 w1
  refine region (m := 10) (_ :: ⟨some (IsRef i_), [(19, some 0)]⟩ :: _ :: _ :: _ :: ⟨some (IsRef i_), [(23, some 4)]⟩ :: _ :: _ :: _ :: _ :: []) hmix hs (by kernel_rfl) ⟨mu rfl i0, ob1 rfl fun _ _ h n => ok_nilCheckR rfl n.1, o1 [(20, some 1)] rfl fun _ _ h n => ok_fieldAddr rfl fo55_0 (at_SightInterval_0 _) (n.1).ptr, o1 [(21, some 2)] rfl fun _ _ h n => ok_load rfl ty53 n.1, mu rfl i0, ob1 rfl fun _ _ h n => ok_nilCheckR rfl n.1, o1 [(24, some 5)] rfl fun _ _ h n => ok_fieldAddr rfl fo55_1 (at_SightInterval_1 _) (n.1).ptr, o1 [(25, some 6)] rfl fun _ _ h n => ok_load rfl ty53 n.1, o1 [(22, some 3), (26, some 7)] rfl fun _ _ h n => ok_call rfl Try.call73 (sight_bound_compare_ok n.1 n.2.1 hx1), cp 8 rfl rfl, trivial⟩ W1 fun b q p => ?_
  exact tail_done (k := q) (w1 _ _ ⟨Bs.post ⟨hg, hs, hd⟩ p, p.ke 0 rfl i0, p.ou 9 3 rfl, trivial⟩)
 rintro a k ⟨⟨hg, hs, hd⟩, i0, i3, _⟩
 refine stepL 21 (_ :: _ :: _ :: _ :: _ :: ⟨some (Gd ((decide (0 < x1)) = false) (IsV (x1 == 0))), [(32, some 4)]⟩ :: ⟨some (Gd (((decide (0 < x1)) = false) ∧ (x1 == 0) = true) (IsRef i_)), [(0, none)]⟩ :: ⟨some (Gd (((decide (0 < x1)) = false) ∧ (x1 == 0) = true) (IsRef i_)), [(34, some 6)]⟩ :: ⟨some (Gd (((decide (0 < x1)) = false) ∧ (x1 == 0) = true) (IsPtr i_.lo)), [(35, some 7)]⟩ :: ⟨some (Gd (((decide (0 < x1)) = false) ∧ (x1 == 0) = true) (IsPtr i_.lo.open_)), [(36, some 8)]⟩ :: ⟨some (Gd (((decide (0 < x1)) = false) ∧ (x1 == 0) = true) (IsV i_.lo.open_)), [(37, some 9)]⟩ :: ⟨some (Gd (((decide (0 < x1)) = false) ∧ (x1 == 0) = true) (IsV i_.lo.open_)), [(38, some 10)]⟩ :: ⟨some (Gd ((((decide (0 < x1)) = false) ∧ (x1 == 0) = true) ∧ i_.lo.open_ = false) (IsRef i_)), [(0, none)]⟩ :: ⟨some (Gd ((((decide (0 < x1)) = false) ∧ (x1 == 0) = true) ∧ i_.lo.open_ = false) (IsRef i_)), [(40, some 12)]⟩ :: ⟨some (Gd ((((decide (0 < x1)) = false) ∧ (x1 == 0) = true) ∧ i_.lo.open_ = false) (IsPtr i_.hi)), [(41, some 13)]⟩ :: ⟨some (Gd ((((decide (0 < x1)) = false) ∧ (x1 == 0) = true) ∧ i_.lo.open_ = false) (IsPtr i_.hi.open_)), [(42, some 14)]⟩ :: ⟨some (Gd ((((decide (0 < x1)) = false) ∧ (x1 == 0) = true) ∧ i_.lo.open_ = false) (IsV i_.hi.open_)), [(43, some 15)]⟩ :: ⟨some (Gd (((decide (0 < x1)) = false) ∧ (x1 == 0) = true) (IsV (i_.lo.open_ || i_.hi.open_))), [(39, some 11), (44, some 16)]⟩ :: _ :: _ :: _ :: []) rfl ⟨hg, hs, hd⟩ (by kernel_rfl) ⟨mu rfl i3, o1 [(28, some 0)] rfl fun _ _ h n => ok_gtr rfl n.1 (cI rfl), cm 1 rfl rfl, mF rfl rfl i3, gF [(31, some 3)] rfl rfl fun hp _ _ h n => ok_eqI rfl (Gd.get n.1 hp) (cI rfl), gdF rfl rfl fun hp _ _ h n => ok_move rfl (Gd.get n.1 hp), gdTT rfl rfl fun hp b q h n => ok_move rfl (up i0 h n.1), gdTT rfl rfl fun hp b q h n => ok_nilCheckR rfl (Gd.get n.1 hp), gdTT rfl rfl fun hp b q h n => ok_fieldAddr rfl fo55_0 (at_SightInterval_0 _) ((Gd.get n.1 hp)).ptr, gdTT rfl rfl fun hp b q h n => ok_fieldAddr rfl fo53_2 (at_SightBound_2 _) (Gd.get n.1 hp), gdTT rfl rfl fun hp b q h n => ok_load rfl ty4 (Gd.get n.1 hp), gdTT rfl rfl fun hp b q h n => ok_move rfl (Gd.get n.1 hp), gdTF rfl rfl fun hp b q h n => ok_move rfl (up i0 h n.1), gdTF rfl rfl fun hp b q h n => ok_nilCheckR rfl (Gd.get n.1 hp), gdTF rfl rfl fun hp b q h n => ok_fieldAddr rfl fo55_1 (at_SightInterval_1 _) ((Gd.get n.1 hp)).ptr, gdTF rfl rfl fun hp b q h n => ok_fieldAddr rfl fo53_2 (at_SightBound_2 _) (Gd.get n.1 hp), gdTF rfl rfl fun hp b q h n => ok_load rfl ty4 (Gd.get n.1 hp), gdTT rfl rfl fun hp b q h n => ok_pickOr rfl (Gd.get n.1 hp) (cB rfl) (fun hm => (Gd.get n.2.1 ⟨hp, hm⟩)), gF [(33, some 5), (45, some 17)] rfl rfl fun hp _ _ h n => ok_pickAnd rfl (Gd.get n.1 hp) (fun hm => (Gd.get n.2.1 ⟨hp, hm⟩)) (cB rfl), o1 [(30, some 2), (46, some 18)] rfl fun _ _ h n => ok_pickOr rfl n.1 (cB rfl) (Gd.get n.2.1), cp 19 rfl rfl, trivial⟩ [⟨_, _⟩] (fun b q p => ⟨p.ou 20 2 rfl, trivial⟩) ?_
 rintro a k ⟨⟨hg, hs, hd⟩, i2, _⟩
 refine wp_ret ?_
 obtain rfl := Option.some.inj hr
 exact retC1 rfl hd hg i2
end Go.Proofs.Ytbpecfmimgjakaa
