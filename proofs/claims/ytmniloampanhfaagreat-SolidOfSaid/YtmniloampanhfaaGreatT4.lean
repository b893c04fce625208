/- What the functions compute that the law reaches, part 4 -/
import Derived.Test.YtmniloampanhfaaGreatT3
namespace Go.Proofs.YtmniloampanhfaaGreat
open Go.Gb
set_option linter.unusedVariables false
set_option linter.unusedSimpArgs false
set_option maxRecDepth 100000
def ref09_add (out_ : (List Slab)) (from_ : Int) (to_ : Int) (area_ : (List Rect)) : Option ((List Slab)) :=
 if ((area_.length : Int) == 0) then
  some out_
 else
  (if (decide (0 < (out_.length : Int))) then
   (subI (out_.length : Int) 1).bind fun x1 =>
   (getI out_ x1).bind fun x2 =>
   some (x2.Z1 == from_)
  else
   some false).bind fun x3 =>
  (if x3 then
   (subI (out_.length : Int) 1).bind fun x4 =>
   (getI out_ x4).bind fun x5 =>
   (ref06_Same x5.Area area_).bind fun x6 =>
   some x6
  else
   some false).bind fun x7 =>
  if x7 then
   (subI (out_.length : Int) 1).bind fun x8 =>
   (getI out_ x8).bind fun x9 =>
   (some (out_.set (x8).toNat ({ x9 with Z1 := to_ }))).bind fun x10 =>
   some x10
  else
   (appI out_ ([(⟨from_, to_, area_⟩ : Slab)])).bind fun x11 =>
   some x11
theorem ref09_add_ok {k0 : K} {v0 v1 v2 v3 : Value} {out_ : (List Slab)} {from_ : Int} {to_ : Int} {area_ : (List Rect)} {r : (List Slab)} (i0 : (IsOwn 0 40 out_) v0 k0) (i1 : (IsV from_) v1 k0) (i2 : (IsV to_) v2 k0) (i3 : (IsV area_) v3 k0) (hr : ref09_add out_ from_ to_ area_ = some r) :
  Calls Tryz.prog 40 #[v0, v1, v2, v3] k0.w (RetC (obF v0) k0 (IsOwnW v0 k0 40 r)) := by
 unfold ref09_add at hr
 refine enterK Tryz.func40 rfl Tryz.ntmps40 (show 4 ≤ 52 by decide) fun a k hk0 hs hd ha => ?_
 obtain ⟨e0, e1, e2, e3, _⟩ := ha
 replace i0 : (IsOwn 0 40 out_) (a.get 0) k := by rw [e0, hk0]; exact i0
 replace i1 : (IsV from_) (a.get 1) k := by rw [e1, hk0]; exact i1
 replace i2 : (IsV to_) (a.get 2) k := by rw [e2, hk0]; exact i2
 replace i3 : (IsV area_) (a.get 3) k := by rw [e3, hk0]; exact i3
 have n0 : Wr (obF v0) k0 (obF (a.get 0)) := fun b h => .inl (by rwa [e0] at h)
 have hQ : Gb.LetsOut (bodyPost Tryz.prog Tryz.f40 (RetC (obF v0) k0 (IsOwnW v0 k0 40 r))) := letsOutC
 have hg : Chg (obF v0) k0 k := by rw [hk0]; exact Chg.refl _ k0
 refine cutS (fun c l => Bs (obF v0) k0 52 c l ∧ IsOwn 0 40 out_ (c.get 0) l ∧ Wr (obF v0) k0 (obF (c.get 0)) ∧ IsV from_ (c.get 1) l ∧ IsV to_ (c.get 2) l ∧ IsV area_ (c.get 3) l ∧ True) ?_ ?_
 ·intro Q1 W1 w1
  refine gS 1 (⟨some IsE0, []⟩ :: []) hs (by kernel_rfl) ⟨ob1 rfl fun b q h n => ok_assign rfl isE0_nil, trivial⟩ W1 fun b q p => ?_
  exact tail_done (k := q) (w1 _ _ ⟨Bs.post ⟨hg, hs, hd⟩ p, p.ke 0 rfl i0, (by rw [p.old 0 rfl]; exact n0), p.ke 1 rfl i1, p.ke 2 rfl i2, p.ke 3 rfl i3, trivial⟩)
 rintro a k ⟨⟨hg, hs, hd⟩, i0, n0, i1, i2, i3, _⟩
 refine wp_seq ?_
 refine cutS (fun c l => Bs (obF v0) k0 52 c l ∧ IsOwn 0 40 out_ (c.get 0) l ∧ Wr (obF v0) k0 (obF (c.get 0)) ∧ IsV from_ (c.get 1) l ∧ IsV to_ (c.get 2) l ∧ IsV area_ (c.get 3) l ∧ IsV ((area_.length : Int) == 0) (c.get 12) l ∧ True) ?_ ?_
 ·intro Q2 W2 w2
  refine gS 3 (_ :: _ :: _ :: []) hs (by kernel_rfl) ⟨mu rfl i3, o1 [(10, some 0)] rfl fun _ _ h n => ok_len rfl rfl Tryz.underlying37 (IsV.rd n.1), o1 [(11, some 1)] rfl fun _ _ h n => ok_eqI rfl n.1 (cI rfl), trivial⟩ W2 fun b q p => ?_
  exact tail_done (k := q) (w2 _ _ ⟨Bs.post ⟨hg, hs, hd⟩ p, p.ke 0 rfl i0, (by rw [p.old 0 rfl]; exact n0), p.ke 1 rfl i1, p.ke 2 rfl i2, p.ke 3 rfl i3, p.ou 2 12 rfl, trivial⟩)
 rintro a k ⟨⟨hg, hs, hd⟩, i0, n0, i1, i2, i3, i12, _⟩
 refine wp_cond_split (isBool i12) (fun hc2189 => ?_) (fun hc2189 => ?_)
 ·rw [if_pos hc2189] at hr
  refine cutS (fun c l => Bs (obF v0) k0 52 c l ∧ IsOwn 0 40 out_ (c.get 8) l ∧ Wr (obF v0) k0 (obF (c.get 8)) ∧ True) ?_ ?_
  ·intro Q3 W3 w3
   refine gS 2 (⟨some (OwnAt (a.get 0) 0 40 out_), [(0, none)]⟩ :: ⟨some (OwnAt (a.get 0) 0 40 out_), [(13, some 0)]⟩ :: []) hs (by kernel_rfl) ⟨ob1 rfl fun _ _ h n => ok_moveOA (.inl rfl) (ownAt n.1 (up i0 h n.1)), ob1 rfl fun _ _ h n => ok_moveOA (.inr rfl) n.1, trivial⟩ W3 fun b q p => ?_
   have hgq := hg.then p.grow
   have hsb := p.size.trans hs
   have hdb := p.defers.trans hd
   have e8 : b.get 8 = a.get 0 := (p.ou 1 8 rfl).1
   have j8 : IsOwn 0 40 out_ (b.get 8) q := (p.ou 1 8 rfl).2
   have y8 : Wr (obF v0) k0 (obF (b.get 8)) := by rw [e8]; exact n0
   exact tail_done (k := q) (w3 _ _ ⟨⟨hgq, hsb, hdb⟩, j8, y8, trivial⟩)
  rintro a k ⟨⟨hg, hs, hd⟩, i8, n8, _⟩
  refine wp_ret ?_
  obtain rfl := Option.some.inj hr
  exact retC1 rfl hd hg (show ResOk _ _ _ (.tmp 8) (IsOwnW _ _ _ _) from ⟨i8, n8⟩)
 rw [if_neg (by rw [hc2189]; decide)] at hr
 refine wp_skip ?_
 refine cutS (fun c l => Bs (obF v0) k0 52 c l ∧ IsOwn 0 40 out_ (c.get 0) l ∧ Wr (obF v0) k0 (obF (c.get 0)) ∧ IsV from_ (c.get 1) l ∧ IsV to_ (c.get 2) l ∧ IsV area_ (c.get 3) l ∧ IsL out_ (c.get 9) l ∧ True) ?_ ?_
 ·intro Q4 W4 w4
  refine gS 3 (⟨some (OwnAt (a.get 0) 0 40 out_), [(0, none)]⟩ :: _ :: _ :: []) hs (by kernel_rfl) ⟨ob1 rfl fun _ _ h n => ok_moveOA (.inl rfl) (ownAt n.1 (up i0 h n.1)), o1 [(14, some 0)] rfl fun _ _ h n => ok_len rfl rfl Tryz.underlying22 (IsOwn.rd (n.1).2), cp 1 rfl rfl, trivial⟩ W4 fun b q p => ?_
  exact tail_done (k := q) (w4 _ _ ⟨Bs.post ⟨hg, hs, hd⟩ p, p.ke 0 rfl i0, (by rw [p.old 0 rfl]; exact n0), p.ke 1 rfl i1, p.ke 2 rfl i2, p.ke 3 rfl i3, p.ou 2 9 rfl, trivial⟩)
 rintro a k ⟨⟨hg, hs, hd⟩, i0, n0, i1, i2, i3, i9, _⟩
 refine wp_seq ?_
 refine wp_seq ?_
 obtain ⟨x1, hx1, hr⟩ := bind_some hr
 obtain ⟨x2, hx2, hx1⟩ := ite_bind hx1
 obtain ⟨x3, hx3, hx1⟩ := ite_bind hx1
 obtain ⟨x4, hx4, hr⟩ := bind_some hr
 obtain ⟨x5, hx5, hx4⟩ := ite_bind hx4
 obtain ⟨x6, hx6, hx4⟩ := ite_bind hx4
 obtain ⟨x7, hx7, hx4⟩ := ite_bind hx4
 refine cut (fun a' k' => Bs (obF v0) k0 52 a' k' ∧ IsOwn 0 40 out_ (a'.get 0) k' ∧ Wr (obF v0) k0 (obF (a'.get 0)) ∧ (IsV from_) (a'.get 1) k' ∧ (IsV to_) (a'.get 2) k' ∧ (IsV area_) (a'.get 3) k' ∧ (IsL out_) (a'.get 9) k' ∧ (IsV x4) (a'.get 37) k' ∧ True) ?_ hQ ?_
 ·intro Q5 W5 w5
  refine gS 22 (_ :: _ :: _ :: ⟨some (Gd ((decide (0 < (out_.length : Int))) = true) (OwnAt (a.get 0) 0 40 out_)), [(0, none)]⟩ :: _ :: _ :: _ :: _ :: _ :: _ :: _ :: _ :: _ :: ⟨some (Gd (x1 = true) (OwnAt (a.get 0) 0 40 out_)), [(0, none)]⟩ :: _ :: _ :: _ :: _ :: _ :: _ :: _ :: _ :: []) hs (by kernel_rfl) ⟨mu rfl i9, o1 [(16, some 0)] rfl fun _ _ h n => ok_gtr rfl n.1 (cI rfl), cm 1 rfl rfl, gdT rfl rfl fun hp _ _ h n => ok_moveOA (.inl rfl) (ownAt n.1 (up i0 h n.1)), mT rfl rfl i9, gT [(20, some 4)] rfl rfl fun hp _ _ h n => ok_sub rfl (Gd.get n.1 hp) (cI rfl) (hx2 hp), gT [(19, some 3), (21, some 5)] rfl rfl fun hp _ _ h n => ok_indexAddr rfl Tryz.underlying22 ty40 (IsOwn.rd ((Gd.get n.1 hp)).2) (Gd.get n.2.1 hp) (hx3 hp), gT [(22, some 6)] rfl rfl fun hp _ _ h n => ok_fieldAddr rfl fo40_1 (at_Slab_1 _) (Gd.get n.1 hp), gT [(23, some 7)] rfl rfl fun hp _ _ h n => ok_load rfl ty3 (Gd.get n.1 hp), mT rfl rfl i1, gT [(24, some 8), (25, some 9)] rfl rfl fun hp _ _ h n => ok_eqI rfl (Gd.get n.1 hp) (Gd.get n.2.1 hp), o1 [(18, some 2), (26, some 10)] rfl fun _ _ h n => ok_pickM rfl n.1 hx1 (Gd.get n.2.1) (cB rfl), cm 11 rfl rfl, gdT rfl rfl fun hp _ _ h n => ok_moveOA (.inl rfl) (ownAt n.1 (up i0 h n.1)), mT rfl rfl i9, gT [(30, some 14)] rfl rfl fun hp _ _ h n => ok_sub rfl (Gd.get n.1 hp) (cI rfl) (hx5 hp), gT [(29, some 13), (31, some 15)] rfl rfl fun hp _ _ h n => ok_indexAddr rfl Tryz.underlying22 ty40 (IsOwn.rd ((Gd.get n.1 hp)).2) (Gd.get n.2.1 hp) (hx6 hp), gT [(32, some 16)] rfl rfl fun hp _ _ h n => ok_fieldAddr rfl fo40_2 (at_Slab_2 _) (Gd.get n.1 hp), gT [(33, some 17)] rfl rfl fun hp _ _ h n => ok_load rfl ty37 (Gd.get n.1 hp), mT rfl rfl i3, gT [(34, some 18), (35, some 19)] rfl rfl fun hp _ _ h n => ok_call rfl Tryz.call43 (ref06_Same_ok (Gd.get n.1 hp) (Gd.get n.2.1 hp) (hx7 hp)), o1 [(28, some 12), (36, some 20)] rfl fun _ _ h n => ok_pickM rfl n.1 hx4 (Gd.get n.2.1) (cB rfl), trivial⟩ W5 fun b q p => ?_
  exact tail_done (k := q) (w5 _ _ ⟨Bs.post ⟨hg, hs, hd⟩ p, p.ke 0 rfl i0, (by rw [p.old 0 rfl]; exact n0), p.ke 1 rfl i1, p.ke 2 rfl i2, p.ke 3 rfl i3, p.ke 9 rfl i9, p.ou 21 37 rfl, trivial⟩)
 rintro a k ⟨⟨hg, hs, hd⟩, i0, n0, i1, i2, i3, i9, i37, _⟩
 refine wp_cond_split (isBool i37) (fun hc2184 => ?_) (fun hc2184 => ?_)
 ·rw [if_pos hc2184] at hr
  refine wp_seq ?_
  obtain ⟨x8, hx8, hr⟩ := bind_some hr
  obtain ⟨x9, hx9, hr⟩ := bind_some hr
  obtain ⟨x10, hx10, hr⟩ := bind_some hr
  refine cut (fun a' k' => Bs (obF v0) k0 52 a' k' ∧ IsOwn 0 40 x10 (a'.get 0) k' ∧ Wr (obF v0) k0 (obF (a'.get 0)) ∧ True) ?_ hQ ?_
  ·intro Q6 W6 w6
   refine gS 6 (⟨some (OwnAt (a.get 0) 0 40 out_), [(0, none)]⟩ :: _ :: _ :: _ :: ⟨some (IsAdrO (a.get 0) ((x8).toNat * Enc.sz Slab)), [(38, some 0), (40, some 2)]⟩ :: _ :: []) hs (by kernel_rfl) ⟨ob1 rfl fun _ _ h n => ok_moveOA (.inl rfl) (ownAt n.1 (up i0 h n.1)), mu rfl i9, o1 [(39, some 1)] rfl fun _ _ h n => ok_sub rfl n.1 (cI rfl) hx8, mu rfl i2, ob1 rfl fun _ _ h n => ok_indexO rfl Tryz.underlying22 ty40 n.1 n.2.1 hx9, o1 [(42, some 4)] rfl fun _ _ h n => ok_fieldAdrO rfl fo40_1 n.1, trivial⟩ W6 fun b q p => ?_
   have hgq := hg.then p.grow
   have hsb := p.size.trans hs
   have hdb := p.defers.trans hd
   have j0 := p.ke 0 rfl i0
   have y0 : Wr (obF v0) k0 (obF (b.get 0)) := by rw [p.old 0 rfl]; exact n0
   have j41 : (IsV to_) (b.get 41) q := p.ou 3 41 rfl
   have j43 : IsAdrO (a.get 0) ((x8).toNat * Enc.sz Slab + 1) (b.get 43) q := p.ou 5 43 rfl
   have eo : b.get 0 = a.get 0 := p.old 0 rfl
   have hns := j0.nshF
   refine tail_storeS (i := 6) (u := b.get 0) (m := (x8).toNat) (off := 0 + 1) rfl rfl rfl rfl szf3 upd_F40_1 (by rw [eo]; exact j43) j0 (getI_spec hx9).2.1 j41 fun q2 hch hz => ?_
   replace hgq := hgq.step hch y0
   have hle := hch.le hns
   replace j41 := Pers.pers hle j41
   replace j43 := Pers.pers hle j43
   replace j0 := hz
   rw [Option.some.inj hx10] at j0
   clear hns hle hch eo hz
   obtain ⟨q, hqq⟩ : ∃ q, q = q2 := ⟨q2, rfl⟩
   subst hqq
   exact tail_done (k := q) (w6 _ _ ⟨⟨hgq, hsb, hdb⟩, j0, y0, trivial⟩)
  rintro a k ⟨⟨hg, hs, hd⟩, i0, n0, _⟩
  refine cutS (fun c l => Bs (obF v0) k0 52 c l ∧ IsOwn 0 40 x10 (c.get 8) l ∧ Wr (obF v0) k0 (obF (c.get 8)) ∧ True) ?_ ?_
  ·intro Q7 W7 w7
   refine gS 2 (⟨some (OwnAt (a.get 0) 0 40 x10), [(0, none)]⟩ :: ⟨some (OwnAt (a.get 0) 0 40 x10), [(44, some 0)]⟩ :: []) hs (by kernel_rfl) ⟨ob1 rfl fun _ _ h n => ok_moveOA (.inl rfl) (ownAt n.1 (up i0 h n.1)), ob1 rfl fun _ _ h n => ok_moveOA (.inr rfl) n.1, trivial⟩ W7 fun b q p => ?_
   have hgq := hg.then p.grow
   have hsb := p.size.trans hs
   have hdb := p.defers.trans hd
   have e8 : b.get 8 = a.get 0 := (p.ou 1 8 rfl).1
   have j8 : IsOwn 0 40 x10 (b.get 8) q := (p.ou 1 8 rfl).2
   have y8 : Wr (obF v0) k0 (obF (b.get 8)) := by rw [e8]; exact n0
   exact tail_done (k := q) (w7 _ _ ⟨⟨hgq, hsb, hdb⟩, j8, y8, trivial⟩)
  rintro a k ⟨⟨hg, hs, hd⟩, i8, n8, _⟩
  refine wp_ret ?_
  obtain rfl := Option.some.inj hr
  exact retC1 rfl hd hg (show ResOk _ _ _ (.tmp 8) (IsOwnW _ _ _ _) from ⟨i8, n8⟩)
 rw [if_neg (by rw [hc2184]; decide)] at hr
 refine wp_skip ?_
 refine wp_seq ?_
 obtain ⟨x11, hx11, hr⟩ := bind_some hr
 refine cut (fun a' k' => Bs (obF v0) k0 52 a' k' ∧ IsOwn 0 40 x11 (a'.get 8) k' ∧ Wr (obF v0) k0 (obF (a'.get 8)) ∧ True) ?_ hQ ?_
 ·intro Q8 W8 w8
  refine gS 6 (⟨some (OwnAt (a.get 0) 0 40 out_), [(0, none)]⟩ :: _ :: _ :: _ :: ⟨some (IsV (⟨from_, to_, area_⟩ : Slab)), [(46, some 1), (47, some 2), (48, some 3)]⟩ :: ⟨some (IsV (α := (List Slab)) ([(⟨from_, to_, area_⟩ : Slab)])), [(49, some 4)]⟩ :: []) hs (by kernel_rfl) ⟨ob1 rfl fun _ _ h n => ok_moveOA (.inl rfl) (ownAt n.1 (up i0 h n.1)), mu rfl i1, mu rfl i2, mu rfl i3, ob1 rfl fun _ _ h n => ok_build rfl (bld40_0_1_2 n.1 n.2.1 n.2.2.1), ob1 rfl fun _ _ h n => ok_buildSlice rfl Tryz.underlying22 eo40 rfl (by decide) (by decide) ⟨rfl, n.1, trivial⟩, trivial⟩ W8 fun b q p => ?_
  have hgq := hg.then p.grow
  have hsb := p.size.trans hs
  have hdb := p.defers.trans hd
  have e45 : b.get 45 = a.get 0 := (p.ou 0 45 rfl).1
  have j45 : IsOwn 0 40 out_ (b.get 45) q := (p.ou 0 45 rfl).2
  have y45 : Wr (obF v0) k0 (obF (b.get 45)) := by rw [e45]; exact n0
  have j50 : (IsV (α := (List Slab)) ([(⟨from_, to_, area_⟩ : Slab)])) (b.get 50) q := p.ou 5 50 rfl
  have hns := j45.nshF
  refine tail_appendS (i := 6) (d := 51) rfl rfl rfl rfl (by rw [hsb]; decide) (e := 40) Tryz.underlying22 eo40 j45 (IsV.rd j50) hx11 fun b2 q2 hsz hdf hoth hch hown hob => ?_
  have hle := hch.le hns
  have yn : Wr (obF v0) k0 (obF (b2.get 51)) := y45.app hgq hob
  replace j50 := Pers.pers hle j50
  replace hgq := hgq.step hch y45
  rw [← hoth 50 (by decide)] at j50
  have j51 := hown
  have y51 := yn
  replace hsb := hsz.trans hsb
  replace hdb := hdf.trans hdb
  clear hle hch hown hob hns yn hsz hdf hoth
  obtain ⟨b, hbb⟩ : ∃ b, b = b2 := ⟨b2, rfl⟩
  subst hbb
  obtain ⟨q, hqq⟩ : ∃ q, q = q2 := ⟨q2, rfl⟩
  subst hqq
  refine tail_assign (i := 7) (d := 8) rfl rfl (.inl rfl) rfl (by rw [hsb]; decide) fun b2 hsz hdf hnew hoth => ?_
  have jn : (IsOwn 0 40 x11) (b2.get 8) q := by rw [hnew]; exact j51
  have yn : Wr (obF v0) k0 (obF (b2.get 8)) := by rw [hnew]; exact y51
  rw [← hoth 50 (by decide)] at j50
  have j8 := jn
  have y8 := yn
  replace hsb := hsz.trans hsb
  replace hdb := hdf.trans hdb
  clear hsz hdf hoth
  obtain ⟨b, hbb⟩ : ∃ b, b = b2 := ⟨b2, rfl⟩
  subst hbb
  exact tail_done (k := q) (w8 _ _ ⟨⟨hgq, hsb, hdb⟩, j8, y8, trivial⟩)
 rintro a k ⟨⟨hg, hs, hd⟩, i8, n8, _⟩
 refine wp_ret ?_
 obtain rfl := Option.some.inj hr
 exact retC1 rfl hd hg (show ResOk _ _ _ (.tmp 8) (IsOwnW _ _ _ _) from ⟨i8, n8⟩)
def ref09_end_L0 (out_ : (List Slab)) (s1 : Int) : Option (Flow (Int) ((List Slab) × Int)) :=
 if (decide (s1 < (out_.length : Int))) then
  (getI out_ s1).bind fun x1 =>
  if (decide (200 < (x1.Area.length : Int))) then
   some (.ret (([] : List Slab), 6))
  else
   (addI s1 1).bind fun x2 =>
   some (.go x2)
 else
  some (.ex 0 s1)
def ref09_end (out_ : (List Slab)) : Option ((List Slab) × Int) :=
 (iterL (ref09_end_L0 out_) (out_.length + 1) 0).bind fun f1 => match f1 with
  | .go _ => none
  | .ex _ _ =>
   if (decide (80 < (out_.length : Int))) then
    some (([] : List Slab), 6)
   else
    some (out_, 0)
  | .ret r1 => some r1
noncomputable def k42 := mk 42 [.list (.st 3)] [.list (.st 3), .int] (fun x => ref09_end x) [] [] Tryz.f42 (.s .n (.s (.s .n (.l [] [(4, .v .int)] [(0, [4], [])] (fL [0]) .n)) .n)) Tryz.func42 Tryz.call42 rfl rfl fun x => by kernel_rfl
theorem ref09_end_ok {k0 : K} {v0 : Value} {x0 : (List Slab)} {r : (List Slab) × Int} (i0 : IsV x0 v0 k0) (hr : ref09_end x0 = some r) : Calls Tryz.prog 42 #[v0] k0.w (Ret k0 (IsTup2 (IsV r.1) (IsV r.2))) := ret2T (T := tb) (k42.ok.ok k0 [v0] x0 r i0 hr)
def ref09_Of_L0 (l_ : (List Box)) (s1 : Int) : Option (Flow (Int) ((List Slab) × Int)) :=
 if (decide (s1 < (l_.length : Int))) then
  (getI l_ s1).bind fun x1 =>
  (ref09_RightBox x1).bind fun x2 =>
  if (!x2) then
   some (.ret (([] : List Slab), 1))
  else
   (addI s1 1).bind fun x3 =>
   some (.go x3)
 else
  some (.ex 0 s1)
def ref09_Of_L1 (l_ : (List Box)) (s1 : (List Int) × Int) : Option (Flow ((List Int) × Int) ((List Slab) × Int)) :=
 if (decide (s1.2 < (l_.length : Int))) then
  (getI l_ s1.2).bind fun x1 =>
  (ref09_insert s1.1 x1.Z0).bind fun x2 =>
  (getI l_ s1.2).bind fun x3 =>
  (ref09_insert x2 x3.Z1).bind fun x4 =>
  (addI s1.2 1).bind fun x5 =>
  some (.go (x4, x5))
 else
  some (.ex 2 (s1.1, s1.2))
def ref09_Of_L3 (l_ : (List Box)) (s1 : (List Int) × Int) (s2 : (List Slab) × Int) (s3 : (List Rect) × Int) : Option (Flow ((List Rect) × Int) ((List Slab) × Int)) :=
 if (decide (s3.2 < (l_.length : Int))) then
  (getI l_ s3.2).bind fun x1 =>
  (getI s1.1 s2.2).bind fun x2 =>
  (if (decide (x1.Z0 ≤ x2)) then
   (getI s1.1 s2.2).bind fun x3 =>
   (getI l_ s3.2).bind fun x4 =>
   some (decide (x3 < x4.Z1))
  else
   some false).bind fun x5 =>
  (if x5 then
   (getI l_ s3.2).bind fun x6 =>
   (appI s3.1 ([x6.Base])).bind fun x7 =>
   some x7
  else
   some s3.1).bind fun s4 =>
  (addI s3.2 1).bind fun x8 =>
  some (.go (s4, x8))
 else
  some (.ex 6 (s3.1, s3.2))
def ref09_Of_L2 (l_ : (List Box)) (s1 : (List Int) × Int) (s2 : (List Slab) × Int) : Option (Flow ((List Slab) × Int) ((List Slab) × Int)) :=
 (addI s2.2 1).bind fun x1 =>
 if (decide (x1 < (s1.1.length : Int))) then
  (iterL (ref09_Of_L3 l_ s1 s2) (l_.length + s1.1.length + s2.1.length + ([] : List Rect).length + 1) (([] : List Rect), 0)).bind fun f1 => match f1 with
   | .go _ => none
   | .ex _ s3 =>
    (getI s1.1 s2.2).bind fun x2 =>
    (addI s2.2 1).bind fun x3 =>
    (getI s1.1 x3).bind fun x4 =>
    (ref06_Form s3.1 ([] : List Rect) 0).bind fun x5 =>
    (ref09_add s2.1 x2 x4 x5).bind fun x6 =>
    (addI s2.2 1).bind fun x7 =>
    some (.go (x6, x7))
   | .ret r1 => some (.ret r1)
 else
  some (.ex 4 (s2.1, s2.2))
def ref09_Of (l_ : (List Box)) : Option ((List Slab) × Int) :=
 (iterL (ref09_Of_L0 l_) (l_.length + 1) 0).bind fun f1 => match f1 with
  | .go _ => none
  | .ex _ _ =>
   if (decide (200 < (l_.length : Int))) then
    some (([] : List Slab), 6)
   else
    (iterL (ref09_Of_L1 l_) (l_.length + ([] : List Int).length + 1) (([] : List Int), 0)).bind fun f2 => match f2 with
     | .go _ => none
     | .ex _ s1 =>
      (iterL (ref09_Of_L2 l_ s1) (l_.length + s1.1.length + ([] : List Slab).length + 1) (([] : List Slab), 0)).bind fun f3 => match f3 with
       | .go _ => none
       | .ex _ s2 =>
        (ref09_end s2.1).bind fun x1 =>
        some (x1.1, x1.2)
       | .ret r1 => some r1
     | .ret r2 => some r2
  | .ret r3 => some r3
theorem ref09_Of_ok {k0 : K} {v0 : Value} {l_ : (List Box)} {r : (List Slab) × Int} (i0 : (IsV l_) v0 k0) (hr : ref09_Of l_ = some r) :
  Calls Tryz.prog 9 #[v0] k0.w (Ret k0 (IsTup2 (IsV r.1) (IsV r.2))) := by
 unfold ref09_Of at hr
 refine Ret.ofC ?_
 refine enterK Tryz.func9 rfl Tryz.ntmps9 (show 1 ≤ 110 by decide) fun a k hk0 hs hd ha => ?_
 obtain ⟨e0, _⟩ := ha
 replace i0 : (IsV l_) (a.get 0) k := by rw [e0, hk0]; exact i0
 have hQ : Gb.LetsOut (bodyPost Tryz.prog Tryz.f9 (RetC noF k0 (IsTup2 (IsV r.1) (IsV r.2)))) := letsOutC
 have hg : Chg noF k0 k := by rw [hk0]; exact Chg.refl _ k0
 refine stepL 2 (⟨some IsE0, []⟩ :: ⟨some (IsI 0), []⟩ :: []) rfl ⟨hg, hs, hd⟩ (by kernel_rfl) ⟨ob1 rfl fun b q h n => ok_assign rfl isE0_nil, aI rfl rfl, trivial⟩ [⟨_, _⟩] (fun b q p => ⟨p.ke 0 rfl i0, trivial⟩) ?_
 rintro a k ⟨⟨hg, hs, hd⟩, i0, _⟩
 refine wp_seq ?_
 refine stepL 1 (⟨some (IsI 0), []⟩ :: []) rfl ⟨hg, hs, hd⟩ (by kernel_rfl) ⟨aI rfl rfl, trivial⟩ [⟨_, _⟩, ⟨_, _⟩] (fun b q p => ⟨p.ke 0 rfl i0, p.ou 0 4 rfl, trivial⟩) ?_
 rintro a k ⟨⟨hg, hs, hd⟩, i0, i4, _⟩
 refine wp_block ?_
 obtain ⟨f1, hf1, hr⟩ := bind_some hr
 refine cutFe f1 (fun s' c l => Bs noF k0 110 c l ∧ IsV l_ (c.get 0) l ∧ IsV s' (c.get 4) l ∧ True) (fun i' s' c l => (i' = 0 ∧ Bs noF k0 110 c l ∧ IsV l_ (c.get 0) l ∧ True)) (fun r' c l => bodyPost Tryz.prog Tryz.f9 (RetC noF k0 (IsTup2 (IsV r'.1) (IsV r'.2))) .ret c l.w) ?_ hQ ?_ ?_ ?_
 ·intro Q1 W1 hgo hex hret
  refine sim_loop ?_ _ _ _ _ _ hf1 ⟨⟨hg, hs, hd⟩, i0, i4, trivial⟩ Q1 W1 hgo hex hret
  clear hr hf1 hgo hex hret W1 hQ hg hs hd i0 i4
  intro s1 fl_ a k hr hS Q hQ hgo2235 hex2236 hret2237
  obtain ⟨⟨hg, hs, hd⟩, i0, i4, _⟩ := hS
  unfold ref09_Of_L0 at hr
  refine wp_seq ?_
  refine stepL 4 (_ :: _ :: _ :: _ :: []) rfl ⟨hg, hs, hd⟩ (by kernel_rfl) ⟨mu rfl i4, mu rfl i0, o1 [(14, some 1)] rfl fun _ _ h n => ok_len rfl rfl Tryz.underlying26 (IsV.rd n.1), o1 [(13, some 0), (15, some 2)] rfl fun _ _ h n => ok_lss rfl n.1 n.2.1, trivial⟩ [⟨_, _⟩, ⟨_, _⟩, ⟨_, _⟩] (fun b q p => ⟨p.ke 0 rfl i0, p.ke 4 rfl i4, p.ou 3 16 rfl, trivial⟩) ?_
  rintro a k ⟨⟨hg, hs, hd⟩, i0, i4, i16, _⟩
  refine wp_cond_split (isBool i16) (fun hc2249 => ?_) (fun hc2249 => ?_)
  ·rw [if_pos hc2249] at hr
   refine wp_skip ?_
   refine wp_seq ?_
   refine wp_block ?_
   refine wp_seq ?_
   obtain ⟨x1, hx1, hr⟩ := bind_some hr
   obtain ⟨x2, hx2, hr⟩ := bind_some hr
   refine cut (fun a' k' => Bs noF k0 110 a' k' ∧ (IsV l_) (a'.get 0) k' ∧ (IsV s1) (a'.get 4) k' ∧ (IsV (!x2)) (a'.get 24) k' ∧ True) ?_ hQ ?_
   ·intro Q2 W2 w1
    refine gS 6 (_ :: _ :: _ :: _ :: _ :: _ :: []) hs (by kernel_rfl) ⟨mu rfl i0, mu rfl i4, o1 [(19, some 0), (20, some 1)] rfl fun _ _ h n => ok_indexAddr rfl Tryz.underlying26 ty35 (IsV.rd n.1) n.2.1 hx1, o1 [(21, some 2)] rfl fun _ _ h n => ok_load rfl ty35 n.1, o1 [(22, some 3)] rfl fun _ _ h n => ok_call rfl Tryz.call38 (ref09_RightBox_ok n.1 hx2), o1 [(23, some 4)] rfl fun _ _ h n => ok_not rfl n.1, trivial⟩ W2 fun b q p => ?_
    exact tail_done (k := q) (w1 _ _ ⟨Bs.post ⟨hg, hs, hd⟩ p, p.ke 0 rfl i0, p.ke 4 rfl i4, p.ou 5 24 rfl, trivial⟩)
   rintro a k ⟨⟨hg, hs, hd⟩, i0, i4, i24, _⟩
   refine wp_cond_split (isBool i24) (fun hc2246 => ?_) (fun hc2246 => ?_)
   ·rw [if_pos hc2246] at hr
    refine cutL noF k0 110 [⟨2, IsV ([] : List Slab)⟩, ⟨3, IsI 1⟩] ?_ ?_
    ·intro Q3 W3 w2
     refine gS 2 (⟨some IsE0, []⟩ :: ⟨some (IsI 1), []⟩ :: []) hs (by kernel_rfl) ⟨ob1 rfl fun b q h n => ok_assign rfl isE0_nil, aI rfl rfl, trivial⟩ W3 fun b q p => ?_
     have hgq := hg.then p.grow
     have hsb := p.size.trans hs
     have hdb := p.defers.trans hd
     have j2 : IsE0 (b.get 2) q := p.ou 0 2 rfl
     have j3 : (IsI 1) (b.get 3) q := p.ou 1 3 rfl
     replace j2 : IsV ([] : List Slab) (b.get 2) q := j2.isV
     exact tail_done (k := q) (w2 _ _ ⟨⟨hgq, hsb, hdb⟩, j2, j3, trivial⟩)
    rintro a k ⟨⟨hg, hs, hd⟩, i2, i3, _⟩
    refine wp_ret ?_
    exact hret2237 _ _ _ (Option.some.inj hr).symm (retC2 rfl hd hg i2 i3)
   rw [if_neg (by rw [hc2246]; decide)] at hr
   refine wp_skip ?_
   obtain ⟨x3, hx3, hr⟩ := bind_some hr
   refine cut (fun a' k' => Bs noF k0 110 a' k' ∧ (IsV l_) (a'.get 0) k' ∧ (IsV x3) (a'.get 4) k' ∧ True) ?_ hQ ?_
   ·intro Q4 W4 w3
    refine gS 3 (_ :: _ :: _ :: []) hs (by kernel_rfl) ⟨mu rfl i4, o1 [(17, some 0)] rfl fun _ _ h n => ok_add rfl n.1 (cI rfl) hx3, cp 1 rfl rfl, trivial⟩ W4 fun b q p => ?_
    exact tail_done (k := q) (w3 _ _ ⟨Bs.post ⟨hg, hs, hd⟩ p, p.ke 0 rfl i0, p.ou 2 4 rfl, trivial⟩)
   rintro a k ⟨⟨hg, hs, hd⟩, i0, i4, _⟩
   exact hgo2235 _ _ _ (Option.some.inj hr).symm ⟨⟨hg, hs, hd⟩, i0, i4, trivial⟩
  rw [if_neg (by rw [hc2249]; decide)] at hr
  refine wp_exit ?_
  exact hex2236 _ _ _ _ (Option.some.inj hr).symm ⟨rfl, ⟨hg, hs, hd⟩, i0, trivial⟩
 ·rintro r1 a k rfl hR
  dsimp only at hr
  obtain rfl := Option.some.inj hr
  exact hR
 ·rintro _ _ _ rfl _
  simp at hr
 clear hf1
 rintro _ s2 a k rfl ⟨rfl, ⟨hg, hs, hd⟩, i0, _⟩
 dsimp only at hr
 refine wp_seq ?_
 refine stepL 3 (_ :: _ :: _ :: []) rfl ⟨hg, hs, hd⟩ (by kernel_rfl) ⟨mu rfl i0, o1 [(25, some 0)] rfl fun _ _ h n => ok_len rfl rfl Tryz.underlying26 (IsV.rd n.1), o1 [(26, some 1)] rfl fun _ _ h n => ok_gtr rfl n.1 (cI rfl), trivial⟩ [⟨_, _⟩, ⟨_, _⟩] (fun b q p => ⟨p.ke 0 rfl i0, p.ou 2 27 rfl, trivial⟩) ?_
 rintro a k ⟨⟨hg, hs, hd⟩, i0, i27, _⟩
 refine wp_cond_split (isBool i27) (fun hc2345 => ?_) (fun hc2345 => ?_)
 ·rw [if_pos hc2345] at hr
  refine cutL noF k0 110 [⟨2, IsV ([] : List Slab)⟩, ⟨3, IsI 6⟩] ?_ ?_
  ·intro Q5 W5 w4
   refine gS 2 (⟨some IsE0, []⟩ :: ⟨some (IsI 6), []⟩ :: []) hs (by kernel_rfl) ⟨ob1 rfl fun b q h n => ok_assign rfl isE0_nil, aI rfl rfl, trivial⟩ W5 fun b q p => ?_
   have hgq := hg.then p.grow
   have hsb := p.size.trans hs
   have hdb := p.defers.trans hd
   have j2 : IsE0 (b.get 2) q := p.ou 0 2 rfl
   have j3 : (IsI 6) (b.get 3) q := p.ou 1 3 rfl
   replace j2 : IsV ([] : List Slab) (b.get 2) q := j2.isV
   exact tail_done (k := q) (w4 _ _ ⟨⟨hgq, hsb, hdb⟩, j2, j3, trivial⟩)
  rintro a k ⟨⟨hg, hs, hd⟩, i2, i3, _⟩
  refine wp_ret ?_
  obtain rfl := Option.some.inj hr
  exact retC2 rfl hd hg i2 i3
 rw [if_neg (by rw [hc2345]; decide)] at hr
 refine wp_skip ?_
 refine cutL noF k0 110 [⟨0, IsV l_⟩, ⟨5, IsV ([] : List Int)⟩] ?_ ?_
 ·intro Q6 W6 w5
  refine gS 1 (⟨some IsE0, []⟩ :: []) hs (by kernel_rfl) ⟨ob1 rfl fun b q h n => ok_assign rfl isE0_nil, trivial⟩ W6 fun b q p => ?_
  have hgq := hg.then p.grow
  have hsb := p.size.trans hs
  have hdb := p.defers.trans hd
  have j0 := p.ke 0 rfl i0
  have j5 : IsE0 (b.get 5) q := p.ou 0 5 rfl
  replace j5 : IsV ([] : List Int) (b.get 5) q := j5.isV
  exact tail_done (k := q) (w5 _ _ ⟨⟨hgq, hsb, hdb⟩, j0, j5, trivial⟩)
 rintro a k ⟨⟨hg, hs, hd⟩, i0, i5, _⟩
 refine wp_seq ?_
 refine stepL 1 (⟨some (IsI 0), []⟩ :: []) rfl ⟨hg, hs, hd⟩ (by kernel_rfl) ⟨aI rfl rfl, trivial⟩ [⟨_, _⟩, ⟨_, _⟩, ⟨_, _⟩] (fun b q p => ⟨p.ke 0 rfl i0, p.ke 5 rfl i5, p.ou 0 6 rfl, trivial⟩) ?_
 rintro a k ⟨⟨hg, hs, hd⟩, i0, i5, i6, _⟩
 refine wp_block ?_
 obtain ⟨f2, hf2, hr⟩ := bind_some hr
 refine cutFe f2 (fun s' c l => Bs noF k0 110 c l ∧ IsV l_ (c.get 0) l ∧ IsV s'.1 (c.get 5) l ∧ IsV s'.2 (c.get 6) l ∧ True) (fun i' s' c l => (i' = 2 ∧ Bs noF k0 110 c l ∧ IsV l_ (c.get 0) l ∧ IsV s'.1 (c.get 5) l ∧ True)) (fun r' c l => bodyPost Tryz.prog Tryz.f9 (RetC noF k0 (IsTup2 (IsV r'.1) (IsV r'.2))) .ret c l.w) ?_ hQ ?_ ?_ ?_
 ·intro Q7 W7 hgo hex hret
  refine sim_loop ?_ _ _ _ _ _ hf2 ⟨⟨hg, hs, hd⟩, i0, i5, i6, trivial⟩ Q7 W7 hgo hex hret
  clear hr hf2 hgo hex hret W7 hQ hg hs hd i0 i5 i6
  intro s3 fl_ a k hr hS Q hQ hgo2261 hex2262 hret2263
  obtain ⟨⟨hg, hs, hd⟩, i0, i5, i6, _⟩ := hS
  unfold ref09_Of_L1 at hr
  refine wp_seq ?_
  refine stepL 4 (_ :: _ :: _ :: _ :: []) rfl ⟨hg, hs, hd⟩ (by kernel_rfl) ⟨mu rfl i6, mu rfl i0, o1 [(29, some 1)] rfl fun _ _ h n => ok_len rfl rfl Tryz.underlying26 (IsV.rd n.1), o1 [(28, some 0), (30, some 2)] rfl fun _ _ h n => ok_lss rfl n.1 n.2.1, trivial⟩ [⟨_, _⟩, ⟨_, _⟩, ⟨_, _⟩, ⟨_, _⟩] (fun b q p => ⟨p.ke 0 rfl i0, p.ke 5 rfl i5, p.ke 6 rfl i6, p.ou 3 31 rfl, trivial⟩) ?_
  rintro a k ⟨⟨hg, hs, hd⟩, i0, i5, i6, i31, _⟩
  refine wp_cond_split (isBool i31) (fun hc2271 => ?_) (fun hc2271 => ?_)
  ·rw [if_pos hc2271] at hr
   refine wp_skip ?_
   refine wp_seq ?_
   refine wp_block ?_
   obtain ⟨x4, hx4, hr⟩ := bind_some hr
   obtain ⟨x5, hx5, hr⟩ := bind_some hr
   obtain ⟨x6, hx6, hr⟩ := bind_some hr
   obtain ⟨x7, hx7, hr⟩ := bind_some hr
   refine cut (fun a' k' => Bs noF k0 110 a' k' ∧ (IsV l_) (a'.get 0) k' ∧ (IsV x7) (a'.get 5) k' ∧ (IsV s3.2) (a'.get 6) k' ∧ True) ?_ hQ ?_
   ·intro Q8 W8 w6
    refine region (m := 14) (_ :: _ :: _ :: _ :: _ :: _ :: _ :: _ :: _ :: _ :: _ :: _ :: _ :: _ :: []) hmix hs (by kernel_rfl) ⟨mu rfl i5, mu rfl i0, mu rfl i6, o1 [(35, some 1), (36, some 2)] rfl fun _ _ h n => ok_indexAddr rfl Tryz.underlying26 ty35 (IsV.rd n.1) n.2.1 hx4, o1 [(37, some 3)] rfl fun _ _ h n => ok_fieldAddr rfl fo35_1 (at_Box_1 _) n.1, o1 [(38, some 4)] rfl fun _ _ h n => ok_load rfl ty3 n.1, o1 [(34, some 0), (39, some 5)] rfl fun _ _ h n => ok_call rfl Tryz.call39 (ref09_insert_ok n.1 n.2.1 hx5), mu rfl i0, mu rfl i6, o1 [(41, some 7), (42, some 8)] rfl fun _ _ h n => ok_indexAddr rfl Tryz.underlying26 ty35 (IsV.rd n.1) n.2.1 hx6, o1 [(43, some 9)] rfl fun _ _ h n => ok_fieldAddr rfl fo35_2 (at_Box_2 _) n.1, o1 [(44, some 10)] rfl fun _ _ h n => ok_load rfl ty3 n.1, o1 [(40, some 6), (45, some 11)] rfl fun _ _ h n => ok_call rfl Tryz.call39 (ref09_insert_ok n.1 n.2.1 hx7), cp 12 rfl rfl, trivial⟩ W8 fun b q p => ?_
    exact tail_done (k := q) (w6 _ _ ⟨Bs.post ⟨hg, hs, hd⟩ p, p.ke 0 rfl i0, p.ou 13 5 rfl, p.ke 6 rfl i6, trivial⟩)
   rintro a k ⟨⟨hg, hs, hd⟩, i0, i5, i6, _⟩
   obtain ⟨x8, hx8, hr⟩ := bind_some hr
   refine cut (fun a' k' => Bs noF k0 110 a' k' ∧ (IsV l_) (a'.get 0) k' ∧ (IsV x7) (a'.get 5) k' ∧ (IsV x8) (a'.get 6) k' ∧ True) ?_ hQ ?_
   ·intro Q9 W9 w7
    refine gS 3 (_ :: _ :: _ :: []) hs (by kernel_rfl) ⟨mu rfl i6, o1 [(32, some 0)] rfl fun _ _ h n => ok_add rfl n.1 (cI rfl) hx8, cp 1 rfl rfl, trivial⟩ W9 fun b q p => ?_
    exact tail_done (k := q) (w7 _ _ ⟨Bs.post ⟨hg, hs, hd⟩ p, p.ke 0 rfl i0, p.ke 5 rfl i5, p.ou 2 6 rfl, trivial⟩)
   rintro a k ⟨⟨hg, hs, hd⟩, i0, i5, i6, _⟩
   exact hgo2261 _ _ _ (Option.some.inj hr).symm ⟨⟨hg, hs, hd⟩, i0, i5, i6, trivial⟩
  rw [if_neg (by rw [hc2271]; decide)] at hr
  refine wp_exit ?_
  exact hex2262 _ _ _ _ (Option.some.inj hr).symm ⟨rfl, ⟨hg, hs, hd⟩, i0, i5, trivial⟩
 ·rintro r2 a k rfl hR
  dsimp only at hr
  obtain rfl := Option.some.inj hr
  exact hR
 ·rintro _ _ _ rfl _
  simp at hr
 clear hf2
 rintro _ s4 a k rfl ⟨rfl, ⟨hg, hs, hd⟩, i0, i5, _⟩
 dsimp only at hr
 refine cutS (fun c l => Bs noF k0 110 c l ∧ IsV l_ (c.get 0) l ∧ IsV s4.1 (c.get 5) l ∧ IsOwn 0 40 ([] : List Slab) (c.get 7) l ∧ Lo k0 (obF (c.get 7)) ∧ True) ?_ ?_
 ·intro Q10 W10 w8
  refine gS 1 (⟨some IsE0, []⟩ :: []) hs (by kernel_rfl) ⟨ob1 rfl fun b q h n => ok_assign rfl isE0_nil, trivial⟩ W10 fun b q p => ?_
  have hgq := hg.then p.grow
  have hsb := p.size.trans hs
  have hdb := p.defers.trans hd
  have j0 := p.ke 0 rfl i0
  have j5 := p.ke 5 rfl i5
  have j7 : IsE0 (b.get 7) q := p.ou 0 7 rfl
  have y7 : Lo k0 (obF (b.get 7)) := j7.lo
  replace j7 : IsOwn 0 40 ([] : List Slab) (b.get 7) q := j7.own0
  exact tail_done (k := q) (w8 _ _ ⟨⟨hgq, hsb, hdb⟩, j0, j5, j7, y7, trivial⟩)
 rintro a k ⟨⟨hg, hs, hd⟩, i0, i5, i7, n7, _⟩
 refine wp_seq ?_
 refine cutS (fun c l => Bs noF k0 110 c l ∧ IsV l_ (c.get 0) l ∧ IsV s4.1 (c.get 5) l ∧ IsOwn 0 40 ([] : List Slab) (c.get 7) l ∧ Lo k0 (obF (c.get 7)) ∧ IsI 0 (c.get 8) l ∧ True) ?_ ?_
 ·intro Q11 W11 w9
  refine gS 1 (⟨some (IsI 0), []⟩ :: []) hs (by kernel_rfl) ⟨aI rfl rfl, trivial⟩ W11 fun b q p => ?_
  exact tail_done (k := q) (w9 _ _ ⟨Bs.post ⟨hg, hs, hd⟩ p, p.ke 0 rfl i0, p.ke 5 rfl i5, p.ke 7 rfl i7, (by rw [p.old 7 rfl]; exact n7), p.ou 0 8 rfl, trivial⟩)
 rintro a k ⟨⟨hg, hs, hd⟩, i0, i5, i7, n7, i8, _⟩
 refine wp_block ?_
 obtain ⟨f3, hf3, hr⟩ := bind_some hr
 refine cutFe f3 (fun s' c l => Bs noF k0 110 c l ∧ IsV l_ (c.get 0) l ∧ IsV s4.1 (c.get 5) l ∧ IsOwn 0 40 s'.1 (c.get 7) l ∧ Lo k0 (obF (c.get 7)) ∧ IsV s'.2 (c.get 8) l ∧ True) (fun i' s' c l => (i' = 4 ∧ Bs noF k0 110 c l ∧ IsV s'.1 (c.get 7) l ∧ True)) (fun r' c l => bodyPost Tryz.prog Tryz.f9 (RetC noF k0 (IsTup2 (IsV r'.1) (IsV r'.2))) .ret c l.w) ?_ hQ ?_ ?_ ?_
 ·intro Q12 W12 hgo hex hret
  refine sim_loop ?_ _ _ _ _ _ hf3 ⟨⟨hg, hs, hd⟩, i0, i5, i7, n7, i8, trivial⟩ Q12 W12 hgo hex hret
  clear hr hf3 hgo hex hret W12 hQ hg hs hd i0 i5 i7 i8 n7
  intro s5 fl_ a k hr hS Q hQ hgo2279 hex2280 hret2281
  obtain ⟨⟨hg, hs, hd⟩, i0, i5, i7, n7, i8, _⟩ := hS
  unfold ref09_Of_L2 at hr
  refine wp_seq ?_
  refine wp_seq ?_
  obtain ⟨x9, hx9, hr⟩ := bind_some hr
  refine cut (fun a' k' => Bs noF k0 110 a' k' ∧ (IsV l_) (a'.get 0) k' ∧ (IsV s4.1) (a'.get 5) k' ∧ IsOwn 0 40 s5.1 (a'.get 7) k' ∧ Lo k0 (obF (a'.get 7)) ∧ (IsV s5.2) (a'.get 8) k' ∧ (IsV (decide (x9 < (s4.1.length : Int)))) (a'.get 51) k' ∧ True) ?_ hQ ?_
  ·intro Q13 W13 w10
   refine gS 5 (_ :: _ :: _ :: _ :: _ :: []) hs (by kernel_rfl) ⟨mu rfl i8, o1 [(47, some 0)] rfl fun _ _ h n => ok_add rfl n.1 (cI rfl) hx9, mu rfl i5, o1 [(49, some 2)] rfl fun _ _ h n => ok_len rfl rfl Tryz.underlying50 (IsV.rd n.1), o1 [(48, some 1), (50, some 3)] rfl fun _ _ h n => ok_lss rfl n.1 n.2.1, trivial⟩ W13 fun b q p => ?_
   exact tail_done (k := q) (w10 _ _ ⟨Bs.post ⟨hg, hs, hd⟩ p, p.ke 0 rfl i0, p.ke 5 rfl i5, p.ke 7 rfl i7, (by rw [p.old 7 rfl]; exact n7), p.ke 8 rfl i8, p.ou 4 51 rfl, trivial⟩)
  rintro a k ⟨⟨hg, hs, hd⟩, i0, i5, i7, n7, i8, i51, _⟩
  refine wp_cond_split (isBool i51) (fun hc2322 => ?_) (fun hc2322 => ?_)
  ·rw [if_pos hc2322] at hr
   refine wp_skip ?_
   refine wp_seq ?_
   refine wp_block ?_
   refine cutS (fun c l => Bs noF k0 110 c l ∧ IsV l_ (c.get 0) l ∧ IsV s4.1 (c.get 5) l ∧ IsOwn 0 40 s5.1 (c.get 7) l ∧ Lo k0 (obF (c.get 7)) ∧ IsV s5.2 (c.get 8) l ∧ IsOwn 0 33 ([] : List Rect) (c.get 9) l ∧ Lo k0 (obF (c.get 9)) ∧ Apart (obF (c.get 7)) (obF (c.get 9)) ∧ True) ?_ ?_
   ·intro Q14 W14 w11
    refine gS 1 (⟨some IsE0, []⟩ :: []) hs (by kernel_rfl) ⟨ob1 rfl fun b q h n => ok_assign rfl isE0_nil, trivial⟩ W14 fun b q p => ?_
    have hgq := hg.then p.grow
    have hsb := p.size.trans hs
    have hdb := p.defers.trans hd
    have j0 := p.ke 0 rfl i0
    have j5 := p.ke 5 rfl i5
    have j7 := p.ke 7 rfl i7
    have y7 : Lo k0 (obF (b.get 7)) := by rw [p.old 7 rfl]; exact n7
    have j8 := p.ke 8 rfl i8
    have j9 : IsE0 (b.get 9) q := p.ou 0 9 rfl
    have y9 : Lo k0 (obF (b.get 9)) := j9.lo
    have w7_9 : Apart (obF (b.get 7)) (obF (b.get 9)) := j9.apart.symm
    replace j9 : IsOwn 0 33 ([] : List Rect) (b.get 9) q := j9.own0
    exact tail_done (k := q) (w11 _ _ ⟨⟨hgq, hsb, hdb⟩, j0, j5, j7, y7, j8, j9, y9, w7_9, trivial⟩)
   rintro a k ⟨⟨hg, hs, hd⟩, i0, i5, i7, n7, i8, i9, n9, d7_9, _⟩
   refine wp_seq ?_
   refine cutS (fun c l => Bs noF k0 110 c l ∧ IsV l_ (c.get 0) l ∧ IsV s4.1 (c.get 5) l ∧ IsOwn 0 40 s5.1 (c.get 7) l ∧ Lo k0 (obF (c.get 7)) ∧ IsV s5.2 (c.get 8) l ∧ IsOwn 0 33 ([] : List Rect) (c.get 9) l ∧ Lo k0 (obF (c.get 9)) ∧ IsI 0 (c.get 10) l ∧ Apart (obF (c.get 7)) (obF (c.get 9)) ∧ True) ?_ ?_
   ·intro Q15 W15 w12
    refine gS 1 (⟨some (IsI 0), []⟩ :: []) hs (by kernel_rfl) ⟨aI rfl rfl, trivial⟩ W15 fun b q p => ?_
    exact tail_done (k := q) (w12 _ _ ⟨Bs.post ⟨hg, hs, hd⟩ p, p.ke 0 rfl i0, p.ke 5 rfl i5, p.ke 7 rfl i7, (by rw [p.old 7 rfl]; exact n7), p.ke 8 rfl i8, p.ke 9 rfl i9, (by rw [p.old 9 rfl]; exact n9), p.ou 0 10 rfl, (by rw [p.old 7 rfl, p.old 9 rfl]; exact d7_9), trivial⟩)
   rintro a k ⟨⟨hg, hs, hd⟩, i0, i5, i7, n7, i8, i9, n9, i10, d7_9, _⟩
   refine wp_block ?_
   obtain ⟨f4, hf4, hr⟩ := bind_some hr
   refine cutFe f4 (fun s' c l => Bs noF k0 110 c l ∧ IsV l_ (c.get 0) l ∧ IsV s4.1 (c.get 5) l ∧ IsOwn 0 40 s5.1 (c.get 7) l ∧ Lo k0 (obF (c.get 7)) ∧ IsV s5.2 (c.get 8) l ∧ IsOwn 0 33 s'.1 (c.get 9) l ∧ Lo k0 (obF (c.get 9)) ∧ IsV s'.2 (c.get 10) l ∧ Apart (obF (c.get 7)) (obF (c.get 9)) ∧ True) (fun i' s' c l => (i' = 6 ∧ Bs noF k0 110 c l ∧ IsV l_ (c.get 0) l ∧ IsV s4.1 (c.get 5) l ∧ IsOwn 0 40 s5.1 (c.get 7) l ∧ Lo k0 (obF (c.get 7)) ∧ IsV s5.2 (c.get 8) l ∧ IsV s'.1 (c.get 9) l ∧ True)) (fun r' c l => bodyPost Tryz.prog Tryz.f9 (RetC noF k0 (IsTup2 (IsV r'.1) (IsV r'.2))) .ret c l.w) ?_ hQ ?_ ?_ ?_
   ·intro Q16 W16 hgo hex hret
    refine sim_loop ?_ _ _ _ _ _ hf4 ⟨⟨hg, hs, hd⟩, i0, i5, i7, n7, i8, i9, n9, i10, d7_9, trivial⟩ Q16 W16 hgo hex hret
    clear hr hf4 hgo hex hret W16 hQ hg hs hd d7_9 i0 i10 i5 i7 i8 i9 n7 n9
    intro s6 fl_ a k hr hS Q hQ hgo2286 hex2287 hret2288
    obtain ⟨⟨hg, hs, hd⟩, i0, i5, i7, n7, i8, i9, n9, i10, d7_9, _⟩ := hS
    unfold ref09_Of_L3 at hr
    refine wp_seq ?_
    refine cutS (fun c l => Bs noF k0 110 c l ∧ IsV l_ (c.get 0) l ∧ IsV s4.1 (c.get 5) l ∧ IsOwn 0 40 s5.1 (c.get 7) l ∧ Lo k0 (obF (c.get 7)) ∧ IsV s5.2 (c.get 8) l ∧ IsOwn 0 33 s6.1 (c.get 9) l ∧ Lo k0 (obF (c.get 9)) ∧ IsV s6.2 (c.get 10) l ∧ (IsV (decide (s6.2 < (l_.length : Int)))) (c.get 57) l ∧ Apart (obF (c.get 7)) (obF (c.get 9)) ∧ True) ?_ ?_
    ·intro Q17 W17 w13
     refine gS 4 (_ :: _ :: _ :: _ :: []) hs (by kernel_rfl) ⟨mu rfl i10, mu rfl i0, o1 [(55, some 1)] rfl fun _ _ h n => ok_len rfl rfl Tryz.underlying26 (IsV.rd n.1), o1 [(54, some 0), (56, some 2)] rfl fun _ _ h n => ok_lss rfl n.1 n.2.1, trivial⟩ W17 fun b q p => ?_
     exact tail_done (k := q) (w13 _ _ ⟨Bs.post ⟨hg, hs, hd⟩ p, p.ke 0 rfl i0, p.ke 5 rfl i5, p.ke 7 rfl i7, (by rw [p.old 7 rfl]; exact n7), p.ke 8 rfl i8, p.ke 9 rfl i9, (by rw [p.old 9 rfl]; exact n9), p.ke 10 rfl i10, p.ou 3 57 rfl, (by rw [p.old 7 rfl, p.old 9 rfl]; exact d7_9), trivial⟩)
    rintro a k ⟨⟨hg, hs, hd⟩, i0, i5, i7, n7, i8, i9, n9, i10, i57, d7_9, _⟩
    refine wp_cond_split (isBool i57) (fun hc2304 => ?_) (fun hc2304 => ?_)
    ·rw [if_pos hc2304] at hr
     refine wp_skip ?_
     refine wp_seq ?_
     refine wp_block ?_
     refine wp_seq ?_
     obtain ⟨x10, hx10, hr⟩ := bind_some hr
     obtain ⟨x11, hx11, hr⟩ := bind_some hr
     obtain ⟨x12, hx12, hr⟩ := bind_some hr
     obtain ⟨x13, hx13, hx12⟩ := ite_bind hx12
     obtain ⟨x14, hx14, hx12⟩ := ite_bind hx12
     refine cut (fun a' k' => Bs noF k0 110 a' k' ∧ (IsV l_) (a'.get 0) k' ∧ (IsV s4.1) (a'.get 5) k' ∧ IsOwn 0 40 s5.1 (a'.get 7) k' ∧ Lo k0 (obF (a'.get 7)) ∧ (IsV s5.2) (a'.get 8) k' ∧ IsOwn 0 33 s6.1 (a'.get 9) k' ∧ Lo k0 (obF (a'.get 9)) ∧ (IsV s6.2) (a'.get 10) k' ∧ (IsV x12) (a'.get 81) k' ∧ Apart (obF (a'.get 7)) (obF (a'.get 9)) ∧ True) ?_ hQ ?_
     ·intro Q18 W18 w14
      refine region (m := 22) (_ :: _ :: _ :: _ :: _ :: _ :: _ :: _ :: _ :: _ :: _ :: _ :: _ :: _ :: _ :: _ :: _ :: _ :: _ :: _ :: _ :: _ :: []) hmix hs (by kernel_rfl) ⟨mu rfl i0, mu rfl i10, o1 [(60, some 0), (61, some 1)] rfl fun _ _ h n => ok_indexAddr rfl Tryz.underlying26 ty35 (IsV.rd n.1) n.2.1 hx10, o1 [(62, some 2)] rfl fun _ _ h n => ok_fieldAddr rfl fo35_1 (at_Box_1 _) n.1, o1 [(63, some 3)] rfl fun _ _ h n => ok_load rfl ty3 n.1, mu rfl i5, mu rfl i8, o1 [(65, some 5), (66, some 6)] rfl fun _ _ h n => ok_indexAddr rfl Tryz.underlying50 ty3 (IsV.rd n.1) n.2.1 hx11, o1 [(67, some 7)] rfl fun _ _ h n => ok_load rfl ty3 n.1, o1 [(64, some 4), (68, some 8)] rfl fun _ _ h n => ok_leq rfl n.1 n.2.1, cm 9 rfl rfl, mT rfl rfl i5, mT rfl rfl i8, gT [(71, some 11), (72, some 12)] rfl rfl fun hp _ _ h n => ok_indexAddr rfl Tryz.underlying50 ty3 (IsV.rd (Gd.get n.1 hp)) (Gd.get n.2.1 hp) (hx13 hp), gT [(73, some 13)] rfl rfl fun hp _ _ h n => ok_load rfl ty3 (Gd.get n.1 hp), mT rfl rfl i0, mT rfl rfl i10, gT [(75, some 15), (76, some 16)] rfl rfl fun hp _ _ h n => ok_indexAddr rfl Tryz.underlying26 ty35 (IsV.rd (Gd.get n.1 hp)) (Gd.get n.2.1 hp) (hx14 hp), gT [(77, some 17)] rfl rfl fun hp _ _ h n => ok_fieldAddr rfl fo35_2 (at_Box_2 _) (Gd.get n.1 hp), gT [(78, some 18)] rfl rfl fun hp _ _ h n => ok_load rfl ty3 (Gd.get n.1 hp), gT [(74, some 14), (79, some 19)] rfl rfl fun hp _ _ h n => ok_lss rfl (Gd.get n.1 hp) (Gd.get n.2.1 hp), o1 [(70, some 10), (80, some 20)] rfl fun _ _ h n => ok_pickM rfl n.1 hx12 (Gd.get n.2.1) (cB rfl), trivial⟩ W18 fun b q p => ?_
      exact tail_done (k := q) (w14 _ _ ⟨Bs.post ⟨hg, hs, hd⟩ p, p.ke 0 rfl i0, p.ke 5 rfl i5, p.ke 7 rfl i7, (by rw [p.old 7 rfl]; exact n7), p.ke 8 rfl i8, p.ke 9 rfl i9, (by rw [p.old 9 rfl]; exact n9), p.ke 10 rfl i10, p.ou 21 81 rfl, (by rw [p.old 7 rfl, p.old 9 rfl]; exact d7_9), trivial⟩)
     rintro a k ⟨⟨hg, hs, hd⟩, i0, i5, i7, n7, i8, i9, n9, i10, i81, d7_9, _⟩
     obtain ⟨s7, hs7, hr⟩ := bind_some hr
     refine cut (fun a' k' => Bs noF k0 110 a' k' ∧ (IsV l_) (a'.get 0) k' ∧ (IsV s4.1) (a'.get 5) k' ∧ IsOwn 0 40 s5.1 (a'.get 7) k' ∧ Lo k0 (obF (a'.get 7)) ∧ (IsV s5.2) (a'.get 8) k' ∧ IsOwn 0 33 s7 (a'.get 9) k' ∧ Lo k0 (obF (a'.get 9)) ∧ (IsV s6.2) (a'.get 10) k' ∧ Apart (obF (a'.get 7)) (obF (a'.get 9)) ∧ True) ?_ hQ ?_
     ·intro Q19 W19 w15
      replace hr := hs7
      clear hQ
      have hQ := W19
      refine wp_cond_split (isBool i81) (fun hc2296 => ?_) (fun hc2296 => ?_)
      ·rw [if_pos hc2296] at hr
       obtain ⟨x15, hx15, hr⟩ := bind_some hr
       obtain ⟨x16, hx16, hr⟩ := bind_some hr
       refine cut (fun a' k' => Bs noF k0 110 a' k' ∧ (IsV l_) (a'.get 0) k' ∧ (IsV s4.1) (a'.get 5) k' ∧ IsOwn 0 40 s5.1 (a'.get 7) k' ∧ Lo k0 (obF (a'.get 7)) ∧ (IsV s5.2) (a'.get 8) k' ∧ IsOwn 0 33 x16 (a'.get 9) k' ∧ Lo k0 (obF (a'.get 9)) ∧ (IsV s6.2) (a'.get 10) k' ∧ Apart (obF (a'.get 7)) (obF (a'.get 9)) ∧ True) ?_ hQ ?_
       ·intro Q20 W20 w16
        refine gS 7 (⟨some (OwnAt (a.get 9) 0 33 s6.1), [(9, none)]⟩ :: _ :: _ :: _ :: _ :: _ :: ⟨some (IsV (α := (List Rect)) ([x15.Base])), [(87, some 5)]⟩ :: []) hs (by kernel_rfl) ⟨ob1 rfl fun _ _ h n => ok_moveOA (.inl rfl) (ownAt n.1 (up i9 h n.1)), mu rfl i0, mu rfl i10, o1 [(83, some 1), (84, some 2)] rfl fun _ _ h n => ok_indexAddr rfl Tryz.underlying26 ty35 (IsV.rd n.1) n.2.1 hx15, o1 [(85, some 3)] rfl fun _ _ h n => ok_fieldAddr rfl fo35_0 (at_Box_0 _) n.1, o1 [(86, some 4)] rfl fun _ _ h n => ok_load rfl ty33 n.1, ob1 rfl fun _ _ h n => ok_buildSlice rfl Tryz.underlying37 eo33 rfl (by decide) (by decide) ⟨rfl, n.1, trivial⟩, trivial⟩ W20 fun b q p => ?_
        have hgq := hg.then p.grow
        have hsb := p.size.trans hs
        have hdb := p.defers.trans hd
        have j0 := p.ke 0 rfl i0
        have j5 := p.ke 5 rfl i5
        have j7 := p.ke 7 rfl i7
        have y7 : Lo k0 (obF (b.get 7)) := by rw [p.old 7 rfl]; exact n7
        have j8 := p.ke 8 rfl i8
        have j10 := p.ke 10 rfl i10
        have e82 : b.get 82 = a.get 9 := (p.ou 0 82 rfl).1
        have j82 : IsOwn 0 33 s6.1 (b.get 82) q := (p.ou 0 82 rfl).2
        have y82 : Lo k0 (obF (b.get 82)) := by rw [e82]; exact n9
        have j88 : (IsV (α := (List Rect)) ([x15.Base])) (b.get 88) q := p.ou 6 88 rfl
        have w7_82 : Apart (obF (b.get 7)) (obF (b.get 82)) := by rw [p.old 7 rfl, e82]; exact d7_9
        have hns := j82.nshF
        refine tail_appendS (i := 7) (d := 89) rfl rfl rfl rfl (by rw [hsb]; decide) (e := 33) Tryz.underlying37 eo33 j82 (IsV.rd j88) hx16 fun b2 q2 hsz hdf hoth hch hown hob => ?_
        have hle := hch.le hns
        have yn : Lo k0 (obF (b2.get 89)) := y82.app hgq hob
        have v7 : Apart (obF (b.get 7)) (obF (b2.get 89)) := Apart.app w7_82 j7.ltF hob
        replace j0 := Pers.pers hle j0
        replace j5 := Pers.pers hle j5
        replace j7 := j7.keep hch w7_82 hns
        replace j8 := Pers.pers hle j8
        replace j10 := Pers.pers hle j10
        replace j88 := Pers.pers hle j88
        replace hgq := hgq.step hch y82.wr
        rw [← hoth 0 (by decide)] at j0
        rw [← hoth 5 (by decide)] at j5
        rw [← hoth 7 (by decide)] at j7
        rw [← hoth 7 (by decide)] at y7
        rw [← hoth 8 (by decide)] at j8
        rw [← hoth 10 (by decide)] at j10
        rw [← hoth 88 (by decide)] at j88
        rw [← hoth 7 (by decide)] at v7
        have w7_89 := v7
        have j89 := hown
        have y89 := yn
        replace hsb := hsz.trans hsb
        replace hdb := hdf.trans hdb
        clear hle hch hown hob hns yn hsz hdf hoth
        obtain ⟨b, hbb⟩ : ∃ b, b = b2 := ⟨b2, rfl⟩
        subst hbb
        obtain ⟨q, hqq⟩ : ∃ q, q = q2 := ⟨q2, rfl⟩
        subst hqq
        refine tail_assign (i := 8) (d := 9) rfl rfl (.inl rfl) rfl (by rw [hsb]; decide) fun b2 hsz hdf hnew hoth => ?_
        have jn : (IsOwn 0 33 x16) (b2.get 9) q := by rw [hnew]; exact j89
        have yn : Lo k0 (obF (b2.get 9)) := by rw [hnew]; exact y89
        have v7 : Apart (obF (b.get 7)) (obF (b2.get 9)) := by rw [hnew]; exact w7_89
        rw [← hoth 0 (by decide)] at j0
        rw [← hoth 5 (by decide)] at j5
        rw [← hoth 7 (by decide)] at j7
        rw [← hoth 7 (by decide)] at y7
        rw [← hoth 8 (by decide)] at j8
        rw [← hoth 10 (by decide)] at j10
        rw [← hoth 88 (by decide)] at j88
        rw [← hoth 7 (by decide)] at v7
        have w7_9 := v7
        have j9 := jn
        have y9 := yn
        replace hsb := hsz.trans hsb
        replace hdb := hdf.trans hdb
        clear hsz hdf hoth
        obtain ⟨b, hbb⟩ : ∃ b, b = b2 := ⟨b2, rfl⟩
        subst hbb
        exact tail_done (k := q) (w16 _ _ ⟨⟨hgq, hsb, hdb⟩, j0, j5, j7, y7, j8, j9, y9, j10, w7_9, trivial⟩)
       rintro a k ⟨⟨hg, hs, hd⟩, i0, i5, i7, n7, i8, i9, n9, i10, d7_9, _⟩
       obtain rfl := Option.some.inj hr
       exact w15 _ _ ⟨⟨hg, hs, hd⟩, i0, i5, i7, n7, i8, i9, n9, i10, d7_9, trivial⟩
      rw [if_neg (by rw [hc2296]; decide)] at hr
      refine wp_skip ?_
      obtain rfl := Option.some.inj hr
      exact w15 _ _ ⟨⟨hg, hs, hd⟩, i0, i5, i7, n7, i8, i9, n9, i10, d7_9, trivial⟩
     clear hs7
     rintro a k ⟨⟨hg, hs, hd⟩, i0, i5, i7, n7, i8, i9, n9, i10, d7_9, _⟩
     obtain ⟨x17, hx17, hr⟩ := bind_some hr
     refine cut (fun a' k' => Bs noF k0 110 a' k' ∧ (IsV l_) (a'.get 0) k' ∧ (IsV s4.1) (a'.get 5) k' ∧ IsOwn 0 40 s5.1 (a'.get 7) k' ∧ Lo k0 (obF (a'.get 7)) ∧ (IsV s5.2) (a'.get 8) k' ∧ IsOwn 0 33 s7 (a'.get 9) k' ∧ Lo k0 (obF (a'.get 9)) ∧ (IsV x17) (a'.get 10) k' ∧ Apart (obF (a'.get 7)) (obF (a'.get 9)) ∧ True) ?_ hQ ?_
     ·intro Q21 W21 w17
      refine gS 3 (_ :: _ :: _ :: []) hs (by kernel_rfl) ⟨mu rfl i10, o1 [(58, some 0)] rfl fun _ _ h n => ok_add rfl n.1 (cI rfl) hx17, cp 1 rfl rfl, trivial⟩ W21 fun b q p => ?_
      exact tail_done (k := q) (w17 _ _ ⟨Bs.post ⟨hg, hs, hd⟩ p, p.ke 0 rfl i0, p.ke 5 rfl i5, p.ke 7 rfl i7, (by rw [p.old 7 rfl]; exact n7), p.ke 8 rfl i8, p.ke 9 rfl i9, (by rw [p.old 9 rfl]; exact n9), p.ou 2 10 rfl, (by rw [p.old 7 rfl, p.old 9 rfl]; exact d7_9), trivial⟩)
     rintro a k ⟨⟨hg, hs, hd⟩, i0, i5, i7, n7, i8, i9, n9, i10, d7_9, _⟩
     exact hgo2286 _ _ _ (Option.some.inj hr).symm ⟨⟨hg, hs, hd⟩, i0, i5, i7, n7, i8, i9, n9, i10, d7_9, trivial⟩
    rw [if_neg (by rw [hc2304]; decide)] at hr
    refine wp_exit ?_
    obtain ⟨kk, sh2303, ii9⟩ := i9.give
    replace i0 := Pers.pers sh2303.le i0
    replace i5 := Pers.pers sh2303.le i5
    replace i7 := i7.handed sh2303 d7_9
    replace i8 := Pers.pers sh2303.le i8
    replace i9 := ii9
    replace hg := hg.hand sh2303 n9.wr
    rw [← sh2303.w]
    clear sh2303
    obtain ⟨k, hkk⟩ : ∃ k, k = kk := ⟨kk, rfl⟩
    subst hkk
    exact hex2287 _ _ _ _ (Option.some.inj hr).symm ⟨rfl, ⟨hg, hs, hd⟩, i0, i5, i7, n7, i8, i9, trivial⟩
   ·rintro r3 a k rfl hR
    dsimp only at hr
    exact hret2281 _ _ _ (Option.some.inj hr).symm hR
   ·rintro _ _ _ rfl _
    simp at hr
   clear hf4
   rintro _ s8 a k rfl ⟨rfl, ⟨hg, hs, hd⟩, i0, i5, i7, n7, i8, i9, _⟩
   dsimp only at hr
   obtain ⟨x18, hx18, hr⟩ := bind_some hr
   obtain ⟨x19, hx19, hr⟩ := bind_some hr
   obtain ⟨x20, hx20, hr⟩ := bind_some hr
   obtain ⟨x21, hx21, hr⟩ := bind_some hr
   obtain ⟨x22, hx22, hr⟩ := bind_some hr
   refine cut (fun a' k' => Bs noF k0 110 a' k' ∧ (IsV l_) (a'.get 0) k' ∧ (IsV s4.1) (a'.get 5) k' ∧ IsOwn 0 40 x22 (a'.get 7) k' ∧ Lo k0 (obF (a'.get 7)) ∧ (IsV s5.2) (a'.get 8) k' ∧ True) ?_ hQ ?_
   ·intro Q22 W22 w18
    refine region (m := 12) (⟨some (OwnAt (a.get 7) 0 40 s5.1), [(7, none)]⟩ :: _ :: _ :: _ :: _ :: _ :: _ :: _ :: _ :: _ :: _ :: _ :: []) hmix hs (by kernel_rfl) ⟨ob1 rfl fun _ _ h n => ok_moveOA (.inl rfl) (ownAt n.1 (up i7 h n.1)), mu rfl i5, mu rfl i8, o1 [(91, some 1), (92, some 2)] rfl fun _ _ h n => ok_indexAddr rfl Tryz.underlying50 ty3 (IsV.rd n.1) n.2.1 hx18, o1 [(93, some 3)] rfl fun _ _ h n => ok_load rfl ty3 n.1, mu rfl i5, mu rfl i8, o1 [(96, some 6)] rfl fun _ _ h n => ok_add rfl n.1 (cI rfl) hx19, o1 [(95, some 5), (97, some 7)] rfl fun _ _ h n => ok_indexAddr rfl Tryz.underlying50 ty3 (IsV.rd n.1) n.2.1 hx20, o1 [(98, some 8)] rfl fun _ _ h n => ok_load rfl ty3 n.1, mu rfl i9, o1 [(100, some 10)] rfl fun _ _ h n => ok_call rfl Tryz.call41 (ref06_Form_ok n.1 (isV_list.2 (.inl ⟨rfl, rfl⟩)) (cI rfl) hx21), trivial⟩ W22 fun b q p => ?_
    have hgq := hg.then p.grow
    have hsb := p.size.trans hs
    have hdb := p.defers.trans hd
    have j0 := p.ke 0 rfl i0
    have j5 := p.ke 5 rfl i5
    have j8 := p.ke 8 rfl i8
    have e90 : b.get 90 = a.get 7 := (p.ou 0 90 rfl).1
    have j90 : IsOwn 0 40 s5.1 (b.get 90) q := (p.ou 0 90 rfl).2
    have y90 : Lo k0 (obF (b.get 90)) := by rw [e90]; exact n7
    have j94 : (IsV x18) (b.get 94) q := p.ou 4 94 rfl
    have j99 : (IsV x20) (b.get 99) q := p.ou 9 99 rfl
    have j101 : (IsV x21) (b.get 101) q := p.ou 11 101 rfl
    have hns := j90.nshF
    refine tail_call (F := obF (b.get 90)) (i := 12) (d := 102) rfl rfl rfl rfl (by rw [hsb]; decide) Tryz.call40 W22 (ref09_add_ok j90 j94 j99 j101 hx22) fun b2 q2 hsz hdf hoth hch hres => ?_
    have hle := hch.le hns
    obtain ⟨hown, hob⟩ := hres
    have yn : Lo k0 (obF (b2.get 102)) := y90.app hgq hob
    replace j0 := Pers.pers hle j0
    replace j5 := Pers.pers hle j5
    replace j8 := Pers.pers hle j8
    replace j94 := Pers.pers hle j94
    replace j99 := Pers.pers hle j99
    replace j101 := Pers.pers hle j101
    replace hgq := hgq.step hch y90.wr
    rw [← hoth 0 (by decide)] at j0
    rw [← hoth 5 (by decide)] at j5
    rw [← hoth 8 (by decide)] at j8
    rw [← hoth 94 (by decide)] at j94
    rw [← hoth 99 (by decide)] at j99
    rw [← hoth 101 (by decide)] at j101
    have j102 := hown
    have y102 := yn
    have hres := True.intro
    clear hown hob yn
    replace hsb := hsz.trans hsb
    replace hdb := hdf.trans hdb
    clear hle hch hres hns hsz hdf hoth
    obtain ⟨b, hbb⟩ : ∃ b, b = b2 := ⟨b2, rfl⟩
    subst hbb
    obtain ⟨q, hqq⟩ : ∃ q, q = q2 := ⟨q2, rfl⟩
    subst hqq
    refine tail_assign (i := 13) (d := 7) rfl rfl (.inl rfl) rfl (by rw [hsb]; decide) fun b2 hsz hdf hnew hoth => ?_
    have jn : (IsOwn 0 40 x22) (b2.get 7) q := by rw [hnew]; exact j102
    have yn : Lo k0 (obF (b2.get 7)) := by rw [hnew]; exact y102
    rw [← hoth 0 (by decide)] at j0
    rw [← hoth 5 (by decide)] at j5
    rw [← hoth 8 (by decide)] at j8
    rw [← hoth 94 (by decide)] at j94
    rw [← hoth 99 (by decide)] at j99
    rw [← hoth 101 (by decide)] at j101
    have j7 := jn
    have y7 := yn
    replace hsb := hsz.trans hsb
    replace hdb := hdf.trans hdb
    clear hsz hdf hoth
    obtain ⟨b, hbb⟩ : ∃ b, b = b2 := ⟨b2, rfl⟩
    subst hbb
    exact tail_done (k := q) (w18 _ _ ⟨⟨hgq, hsb, hdb⟩, j0, j5, j7, y7, j8, trivial⟩)
   rintro a k ⟨⟨hg, hs, hd⟩, i0, i5, i7, n7, i8, _⟩
   obtain ⟨x23, hx23, hr⟩ := bind_some hr
   refine cut (fun a' k' => Bs noF k0 110 a' k' ∧ (IsV l_) (a'.get 0) k' ∧ (IsV s4.1) (a'.get 5) k' ∧ IsOwn 0 40 x22 (a'.get 7) k' ∧ Lo k0 (obF (a'.get 7)) ∧ (IsV x23) (a'.get 8) k' ∧ True) ?_ hQ ?_
   ·intro Q23 W23 w19
    refine gS 3 (_ :: _ :: _ :: []) hs (by kernel_rfl) ⟨mu rfl i8, o1 [(52, some 0)] rfl fun _ _ h n => ok_add rfl n.1 (cI rfl) hx23, cp 1 rfl rfl, trivial⟩ W23 fun b q p => ?_
    exact tail_done (k := q) (w19 _ _ ⟨Bs.post ⟨hg, hs, hd⟩ p, p.ke 0 rfl i0, p.ke 5 rfl i5, p.ke 7 rfl i7, (by rw [p.old 7 rfl]; exact n7), p.ou 2 8 rfl, trivial⟩)
   rintro a k ⟨⟨hg, hs, hd⟩, i0, i5, i7, n7, i8, _⟩
   exact hgo2279 _ _ _ (Option.some.inj hr).symm ⟨⟨hg, hs, hd⟩, i0, i5, i7, n7, i8, trivial⟩
  rw [if_neg (by rw [hc2322]; decide)] at hr
  refine wp_exit ?_
  obtain ⟨kk, sh2321, ii7⟩ := i7.give
  replace i7 := ii7
  replace hg := hg.hand sh2321 n7.wr
  rw [← sh2321.w]
  clear sh2321
  obtain ⟨k, hkk⟩ : ∃ k, k = kk := ⟨kk, rfl⟩
  subst hkk
  exact hex2280 _ _ _ _ (Option.some.inj hr).symm ⟨rfl, ⟨hg, hs, hd⟩, i7, trivial⟩
 ·rintro r4 a k rfl hR
  dsimp only at hr
  obtain rfl := Option.some.inj hr
  exact hR
 ·rintro _ _ _ rfl _
  simp at hr
 clear hf3
 rintro _ s9 a k rfl ⟨rfl, ⟨hg, hs, hd⟩, i7, _⟩
 dsimp only at hr
 refine wp_seq ?_
 obtain ⟨x24, hx24, hr⟩ := bind_some hr
 refine cut (fun a' k' => Bs noF k0 110 a' k' ∧ (IsV x24.1) (a'.get 11) k' ∧ (IsV x24.2) (a'.get 12) k' ∧ True) ?_ hQ ?_
 ·intro Q24 W24 w20
  refine gS 7 (_ :: _ :: _ :: _ :: _ :: _ :: _ :: []) hs (by kernel_rfl) ⟨mu rfl i7, o1 [(104, some 0)] rfl fun _ _ h n => ok_call rfl Tryz.call42 (ref09_end_ok n.1 hx24), cm 1 rfl rfl, o1 [(103, some 2)] rfl fun _ _ h n => ok_ext2_0 rfl n.1, o1 [(103, some 2)] rfl fun _ _ h n => ok_ext2_1 rfl n.1, cp 3 rfl rfl, cp 4 rfl rfl, trivial⟩ W24 fun b q p => ?_
  exact tail_done (k := q) (w20 _ _ ⟨Bs.post ⟨hg, hs, hd⟩ p, p.ou 5 11 rfl, p.ou 6 12 rfl, trivial⟩)
 rintro a k ⟨⟨hg, hs, hd⟩, i11, i12, _⟩
 refine stepL 4 (_ :: _ :: _ :: _ :: []) rfl ⟨hg, hs, hd⟩ (by kernel_rfl) ⟨mu rfl i11, mu rfl i12, cp 0 rfl rfl, cp 1 rfl rfl, trivial⟩ [⟨_, _⟩, ⟨_, _⟩] (fun b q p => ⟨p.ou 2 2 rfl, p.ou 3 3 rfl, trivial⟩) ?_
 rintro a k ⟨⟨hg, hs, hd⟩, i2, i3, _⟩
 refine wp_ret ?_
 obtain rfl := Option.some.inj hr
 exact retC2 rfl hd hg i2 i3
noncomputable def k9 := mkO 9 [.list (.st 4)] [.list (.st 3), .int] (fun x => ref09_Of x) Tryz.call9 fun k0 vs x r h hr => by obtain ⟨v0, rfl, i0⟩ := h.one; exact ret2F (T := tb) (ref09_Of_ok i0 hr)
def region_Union_1 (a_ : Bool) (b_ : Bool) : Option (Bool) :=
 some (a_ || b_)
noncomputable def k78 := mk 78 [.bool, .bool] [.bool] (fun x => region_Union_1 x.1 x.2) [] [] Tryz.f78 (.n) Tryz.func78 Tryz.call78 rfl rfl fun x => by kernel_rfl
theorem region_Union_1_ok {k0 : K} {v0 v1 : Value} {x0 : Bool} {x1 : Bool} {r : Bool} (i0 : IsV x0 v0 k0) (i1 : IsV x1 v1 k0) (hr : region_Union_1 x0 x1 = some r) : Calls Tryz.prog 78 #[v0, v1] k0.w (Ret k0 (IsV r)) := (k78.ok.ok k0 [v0, v1] (x0, x1) r ⟨i0, i1⟩ hr)
def region_Union (a_ : (List Rect)) (b_ : (List Rect)) : Option ((List Rect) × Int) :=
 (region_combine a_ b_ region_Union_1).bind fun x1 =>
 some (x1.1, x1.2)
theorem region_Union_ok {k0 : K} {v0 v1 : Value} {a_ : (List Rect)} {b_ : (List Rect)} {r : (List Rect) × Int} (i0 : (IsV a_) v0 k0) (i1 : (IsV b_) v1 k0) (hr : region_Union a_ b_ = some r) :
  Calls Tryz.prog 54 #[v0, v1] k0.w (Ret k0 (IsTup2 (IsV r.1) (IsV r.2))) := by
 unfold region_Union at hr
 refine Ret.ofC ?_
 refine enterK Tryz.func54 rfl Tryz.ntmps54 (show 2 ≤ 11 by decide) fun a k hk0 hs hd ha => ?_
 obtain ⟨e0, e1, _⟩ := ha
 replace i0 : (IsV a_) (a.get 0) k := by rw [e0, hk0]; exact i0
 replace i1 : (IsV b_) (a.get 1) k := by rw [e1, hk0]; exact i1
 have hQ : Gb.LetsOut (bodyPost Tryz.prog Tryz.f54 (RetC noF k0 (IsTup2 (IsV r.1) (IsV r.2)))) := letsOutC
 have hg : Chg noF k0 k := by rw [hk0]; exact Chg.refl _ k0
 refine stepL 2 (⟨some IsE0, []⟩ :: ⟨some (IsI 0), []⟩ :: []) rfl ⟨hg, hs, hd⟩ (by kernel_rfl) ⟨ob1 rfl fun b q h n => ok_assign rfl isE0_nil, aI rfl rfl, trivial⟩ [⟨_, _⟩, ⟨_, _⟩] (fun b q p => ⟨p.ke 0 rfl i0, p.ke 1 rfl i1, trivial⟩) ?_
 rintro a k ⟨⟨hg, hs, hd⟩, i0, i1, _⟩
 refine wp_seq ?_
 obtain ⟨x1, hx1, hr⟩ := bind_some hr
 refine cut (fun a' k' => Bs noF k0 11 a' k' ∧ (IsV x1.1) (a'.get 4) k' ∧ (IsV x1.2) (a'.get 5) k' ∧ True) ?_ hQ ?_
 ·intro Q1 W1 w1
  refine gS 7 (_ :: _ :: _ :: _ :: _ :: _ :: _ :: []) hs (by kernel_rfl) ⟨mu rfl i0, mu rfl i1, o1 [(6, some 0), (7, some 1)] rfl fun _ _ h n => ok_call rfl Tryz.call71 (region_combine_ok n.1 n.2.1 ⟨78, _, _, rfl, Tryz.call78, fun k9 hk9 _ _ _ _ _ hx0 hx1 hy9 => by simpa [evalT] using region_Union_1_ok hx0 hx1 hy9⟩ hx1), o1 [(8, some 2)] rfl fun _ _ h n => ok_ext2_0 rfl n.1, o1 [(8, some 2)] rfl fun _ _ h n => ok_ext2_1 rfl n.1, cp 3 rfl rfl, cp 4 rfl rfl, trivial⟩ W1 fun b q p => ?_
  exact tail_done (k := q) (w1 _ _ ⟨Bs.post ⟨hg, hs, hd⟩ p, p.ou 5 4 rfl, p.ou 6 5 rfl, trivial⟩)
 rintro a k ⟨⟨hg, hs, hd⟩, i4, i5, _⟩
 refine wp_ret ?_
 obtain rfl := Option.some.inj hr
 exact retC2 rfl hd hg i4 i5
def solid_Union (a_ : (List Slab)) (b_ : (List Slab)) : Option ((List Slab) × Int) :=
 (solid_combine a_ b_ region_Union).bind fun x1 =>
 some (x1.1, x1.2)
theorem solid_Union_ok {k0 : K} {v0 v1 : Value} {a_ : (List Slab)} {b_ : (List Slab)} {r : (List Slab) × Int} (i0 : (IsV a_) v0 k0) (i1 : (IsV b_) v1 k0) (hr : solid_Union a_ b_ = some r) :
  Calls Tryz.prog 20 #[v0, v1] k0.w (Ret k0 (IsTup2 (IsV r.1) (IsV r.2))) := by
 unfold solid_Union at hr
 refine Ret.ofC ?_
 refine enterK Tryz.func20 rfl Tryz.ntmps20 (show 2 ≤ 11 by decide) fun a k hk0 hs hd ha => ?_
 obtain ⟨e0, e1, _⟩ := ha
 replace i0 : (IsV a_) (a.get 0) k := by rw [e0, hk0]; exact i0
 replace i1 : (IsV b_) (a.get 1) k := by rw [e1, hk0]; exact i1
 have hQ : Gb.LetsOut (bodyPost Tryz.prog Tryz.f20 (RetC noF k0 (IsTup2 (IsV r.1) (IsV r.2)))) := letsOutC
 have hg : Chg noF k0 k := by rw [hk0]; exact Chg.refl _ k0
 refine stepL 2 (⟨some IsE0, []⟩ :: ⟨some (IsI 0), []⟩ :: []) rfl ⟨hg, hs, hd⟩ (by kernel_rfl) ⟨ob1 rfl fun b q h n => ok_assign rfl isE0_nil, aI rfl rfl, trivial⟩ [⟨_, _⟩, ⟨_, _⟩] (fun b q p => ⟨p.ke 0 rfl i0, p.ke 1 rfl i1, trivial⟩) ?_
 rintro a k ⟨⟨hg, hs, hd⟩, i0, i1, _⟩
 refine wp_seq ?_
 obtain ⟨x1, hx1, hr⟩ := bind_some hr
 refine cut (fun a' k' => Bs noF k0 11 a' k' ∧ (IsV x1.1) (a'.get 4) k' ∧ (IsV x1.2) (a'.get 5) k' ∧ True) ?_ hQ ?_
 ·intro Q1 W1 w1
  refine gS 7 (_ :: _ :: _ :: _ :: _ :: _ :: _ :: []) hs (by kernel_rfl) ⟨mu rfl i0, mu rfl i1, o1 [(6, some 0), (7, some 1)] rfl fun _ _ h n => ok_call rfl Tryz.call44 (solid_combine_ok n.1 n.2.1 ⟨54, _, _, rfl, Tryz.call54, fun k9 hk9 _ _ _ _ _ hx0 hx1 hy9 => by simpa [evalT] using region_Union_ok hx0 hx1 hy9⟩ hx1), o1 [(8, some 2)] rfl fun _ _ h n => ok_ext2_0 rfl n.1, o1 [(8, some 2)] rfl fun _ _ h n => ok_ext2_1 rfl n.1, cp 3 rfl rfl, cp 4 rfl rfl, trivial⟩ W1 fun b q p => ?_
  exact tail_done (k := q) (w1 _ _ ⟨Bs.post ⟨hg, hs, hd⟩ p, p.ou 5 4 rfl, p.ou 6 5 rfl, trivial⟩)
 rintro a k ⟨⟨hg, hs, hd⟩, i4, i5, _⟩
 refine wp_ret ?_
 obtain rfl := Option.some.inj hr
 exact retC2 rfl hd hg i4 i5
noncomputable def k20 := mkO 20 [.list (.st 3), .list (.st 3)] [.list (.st 3), .int] (fun x => solid_Union x.1 x.2) Tryz.call20 fun k0 vs x r h hr => by obtain ⟨v0, vs, rfl, i0, h⟩ := h.cons; obtain ⟨v1, rfl, i1⟩ := h.one; exact ret2F (T := tb) (solid_Union_ok i0 i1 hr)
def ref06_Of_L0 (l_ : (List Rect)) (s1 : Int) : Option (Flow (Int) ((List Rect) × Int)) :=
 if (decide (s1 < (l_.length : Int))) then
  (getI l_ s1).bind fun x1 =>
  (ref06_RightRect x1).bind fun x2 =>
  if (!x2) then
   some (.ret (([] : List Rect), 1))
  else
   (addI s1 1).bind fun x3 =>
   some (.go x3)
 else
  some (.ex 0 s1)
def ref06_Of (l_ : (List Rect)) : Option ((List Rect) × Int) :=
 (iterL (ref06_Of_L0 l_) (l_.length + 1) 0).bind fun f1 => match f1 with
  | .go _ => none
  | .ex _ _ =>
   if (decide (400 < (l_.length : Int))) then
    some (([] : List Rect), 6)
   else
    (ref06_Form l_ ([] : List Rect) 0).bind fun x1 =>
    if (decide (200 < (x1.length : Int))) then
     some (([] : List Rect), 6)
    else
     some (x1, 0)
  | .ret r1 => some r1
noncomputable def k80 := mk 80 [.list (.st 0)] [.list (.st 0), .int] (fun x => ref06_Of x) [k66, k41] [] Tryz.f80 (.s .n (.s (.s .n (.l [] [(4, .v .int)] [(0, [4], [])] (fL [0]) .n)) .n)) Tryz.func80 Tryz.call80 rfl rfl fun x => by kernel_rfl
def ref06_Right (a_ : (List Rect)) : Option (Bool) :=
 (ref06_Of a_).bind fun x1 =>
 (if (x1.2 == 0) then
  (ref06_Same x1.1 a_).bind fun x2 =>
  some x2
 else
  some false).bind fun x3 =>
 some x3
noncomputable def k58 := mk 58 [.list (.st 0)] [.bool] (fun x => ref06_Right x) [k80, k43] [] Tryz.f58 (.n) Tryz.func58 Tryz.call58 rfl rfl fun x => by kernel_rfl
def ref09_Right_L0 (s_ : (List Slab)) (s1 : Int) : Option (Flow (Int) (Bool)) :=
 if (decide (s1 < (s_.length : Int))) then
  (getI s_ s1).bind fun x1 =>
  (if (decide (x1.Z0 < 0)) then
   some true
  else
   (getI s_ s1).bind fun x2 =>
   (getI s_ s1).bind fun x3 =>
   some (decide (x3.Z1 ≤ x2.Z0))).bind fun x4 =>
  (if x4 then
   some true
  else
   (getI s_ s1).bind fun x5 =>
   some (decide (4096 < x5.Z1))).bind fun x6 =>
  (if x6 then
   some true
  else
   (getI s_ s1).bind fun x7 =>
   some ((x7.Area.length : Int) == 0)).bind fun x8 =>
  (if x8 then
   some true
  else
   (getI s_ s1).bind fun x9 =>
   (ref06_Right x9.Area).bind fun x10 =>
   some (!x10)).bind fun x11 =>
  if x11 then
   some (.ret false)
  else
   (if (decide (0 < s1)) then
    (subI s1 1).bind fun x12 =>
    (getI s_ x12).bind fun x13 =>
    (getI s_ s1).bind fun x14 =>
    (if (decide (x14.Z0 < x13.Z1)) then
     some true
    else
     (subI s1 1).bind fun x15 =>
     (getI s_ x15).bind fun x16 =>
     (getI s_ s1).bind fun x17 =>
     (if (x16.Z1 == x17.Z0) then
      (subI s1 1).bind fun x18 =>
      (getI s_ x18).bind fun x19 =>
      (getI s_ s1).bind fun x20 =>
      (ref06_Same x19.Area x20.Area).bind fun x21 =>
      some x21
     else
      some false).bind fun x22 =>
     some x22).bind fun x23 =>
    some x23
   else
    some false).bind fun x24 =>
   if x24 then
    some (.ret false)
   else
    (addI s1 1).bind fun x25 =>
    some (.go x25)
 else
  some (.ex 0 s1)
def ref09_Right (s_ : (List Slab)) : Option (Bool) :=
 if (decide (80 < (s_.length : Int))) then
  some false
 else
  (iterL (ref09_Right_L0 s_) (s_.length + 1) 0).bind fun f1 => match f1 with
   | .go _ => none
   | .ex _ _ =>
    some true
   | .ret r1 => some r1
noncomputable def k26 := mk 26 [.list (.st 3)] [.bool] (fun x => ref09_Right x) [k58, k43] [] Tryz.f26 (.s .n (.s .n (.s (.s .n (.l [] [(3, .v .int)] [(0, [3], [])] (fL [0]) .n)) .n))) Tryz.func26 Tryz.call26 rfl rfl fun x => by kernel_rfl
theorem ref09_Right_ok {k0 : K} {v0 : Value} {x0 : (List Slab)} {r : Bool} (i0 : IsV x0 v0 k0) (hr : ref09_Right x0 = some r) : Calls Tryz.prog 26 #[v0] k0.w (Ret k0 (IsV r)) := (k26.ok.ok k0 [v0] x0 r i0 hr)
def ref09_section_L0 (s_ : (List Slab)) (z_ : Int) (s1 : Int) : Option (Flow (Int) ((List Rect))) :=
 if (decide (s1 < (s_.length : Int))) then
  (getI s_ s1).bind fun x1 =>
  (if (decide (x1.Z0 ≤ z_)) then
   (getI s_ s1).bind fun x2 =>
   some (decide (z_ < x2.Z1))
  else
   some false).bind fun x3 =>
  if x3 then
   (getI s_ s1).bind fun x4 =>
   (appI [] x4.Area).bind fun x5 =>
   some (.ret x5)
  else
   (addI s1 1).bind fun x6 =>
   some (.go x6)
 else
  some (.ex 0 s1)
def ref09_section (s_ : (List Slab)) (z_ : Int) : Option ((List Rect)) :=
 (iterL (ref09_section_L0 s_ z_) (s_.length + 1) 0).bind fun f1 => match f1 with
  | .go _ => none
  | .ex _ _ =>
   some ([] : List Rect)
  | .ret r1 => some r1
noncomputable def k57 := mk 57 [.list (.st 3), .int] [.list (.st 0)] (fun x => ref09_section x.1 x.2) [] [28] Tryz.f57 (.s .n (.s (.s .n (.l [] [(5, .v .int)] [(0, [5], [])] (fL [0]) .n)) .n)) Tryz.func57 Tryz.call57 rfl rfl fun x => by kernel_rfl
theorem ref09_section_ok {k0 : K} {v0 v1 : Value} {x0 : (List Slab)} {x1 : Int} {r : (List Rect)} (i0 : IsV x0 v0 k0) (i1 : IsV x1 v1 k0) (hr : ref09_section x0 x1 = some r) : Calls Tryz.prog 57 #[v0, v1] k0.w (Ret k0 (IsV r)) := (k57.ok.ok k0 [v0, v1] (x0, x1) r ⟨i0, i1⟩ hr)
def ref09_combine_L0 (a_ : (List Slab)) (s1 : (List Int) × Int) : Option (Flow ((List Int) × Int) ((List Slab) × Int)) :=
 if (decide (s1.2 < (a_.length : Int))) then
  (getI a_ s1.2).bind fun x1 =>
  (ref09_insert s1.1 x1.Z0).bind fun x2 =>
  (getI a_ s1.2).bind fun x3 =>
  (ref09_insert x2 x3.Z1).bind fun x4 =>
  (addI s1.2 1).bind fun x5 =>
  some (.go (x4, x5))
 else
  some (.ex 0 (s1.1, s1.2))
def ref09_combine_L1 (b_ : (List Slab)) (s1 : (List Int) × Int) : Option (Flow ((List Int) × Int) ((List Slab) × Int)) :=
 if (decide (s1.2 < (b_.length : Int))) then
  (getI b_ s1.2).bind fun x1 =>
  (ref09_insert s1.1 x1.Z0).bind fun x2 =>
  (getI b_ s1.2).bind fun x3 =>
  (ref09_insert x2 x3.Z1).bind fun x4 =>
  (addI s1.2 1).bind fun x5 =>
  some (.go (x4, x5))
 else
  some (.ex 2 (s1.1, s1.2))
def ref09_combine_L2 (a_ : (List Slab)) (b_ : (List Slab)) (op_ : Int) (s1 : (List Int) × Int) (s2 : (List Slab) × Int) : Option (Flow ((List Slab) × Int) ((List Slab) × Int)) :=
 (addI s2.2 1).bind fun x1 =>
 if (decide (x1 < (s1.1.length : Int))) then
  (getI s1.1 s2.2).bind fun x2 =>
  (addI s2.2 1).bind fun x3 =>
  (getI s1.1 x3).bind fun x4 =>
  (getI s1.1 s2.2).bind fun x5 =>
  (ref09_section a_ x5).bind fun x6 =>
  (getI s1.1 s2.2).bind fun x7 =>
  (ref09_section b_ x7).bind fun x8 =>
  (ref06_Form x6 x8 op_).bind fun x9 =>
  (ref09_add s2.1 x2 x4 x9).bind fun x10 =>
  (addI s2.2 1).bind fun x11 =>
  some (.go (x10, x11))
 else
  some (.ex 4 (s2.1, s2.2))
def ref09_combine (a_ : (List Slab)) (b_ : (List Slab)) (op_ : Int) : Option ((List Slab) × Int) :=
 (ref09_Right a_).bind fun x1 =>
 (if (!x1) then
  some true
 else
  (ref09_Right b_).bind fun x2 =>
  some (!x2)).bind fun x3 =>
 if x3 then
  some (([] : List Slab), 1)
 else
  (iterL (ref09_combine_L0 a_) (a_.length + b_.length + ([] : List Int).length + 1) (([] : List Int), 0)).bind fun f1 => match f1 with
   | .go _ => none
   | .ex _ s1 =>
    (iterL (ref09_combine_L1 b_) (a_.length + b_.length + s1.1.length + 1) (s1.1, 0)).bind fun f2 => match f2 with
     | .go _ => none
     | .ex _ s2 =>
      (iterL (ref09_combine_L2 a_ b_ op_ s2) (a_.length + b_.length + s2.1.length + ([] : List Slab).length + 1) (([] : List Slab), 0)).bind fun f3 => match f3 with
       | .go _ => none
       | .ex _ s3 =>
        (ref09_end s3.1).bind fun x4 =>
        some (x4.1, x4.2)
       | .ret r1 => some r1
     | .ret r2 => some r2
   | .ret r3 => some r3
theorem ref09_combine_ok {k0 : K} {v0 v1 v2 : Value} {a_ : (List Slab)} {b_ : (List Slab)} {op_ : Int} {r : (List Slab) × Int} (i0 : (IsV a_) v0 k0) (i1 : (IsV b_) v1 k0) (i2 : (IsV op_) v2 k0) (hr : ref09_combine a_ b_ op_ = some r) :
  Calls Tryz.prog 55 #[v0, v1, v2] k0.w (Ret k0 (IsTup2 (IsV r.1) (IsV r.2))) := by
 unfold ref09_combine at hr
 refine Ret.ofC ?_
 refine enterK Tryz.func55 rfl Tryz.ntmps55 (show 3 ≤ 100 by decide) fun a k hk0 hs hd ha => ?_
 obtain ⟨e0, e1, e2, _⟩ := ha
 replace i0 : (IsV a_) (a.get 0) k := by rw [e0, hk0]; exact i0
 replace i1 : (IsV b_) (a.get 1) k := by rw [e1, hk0]; exact i1
 replace i2 : (IsV op_) (a.get 2) k := by rw [e2, hk0]; exact i2
 have hQ : Gb.LetsOut (bodyPost Tryz.prog Tryz.f55 (RetC noF k0 (IsTup2 (IsV r.1) (IsV r.2)))) := letsOutC
 have hg : Chg noF k0 k := by rw [hk0]; exact Chg.refl _ k0
 refine stepL 2 (⟨some IsE0, []⟩ :: ⟨some (IsI 0), []⟩ :: []) rfl ⟨hg, hs, hd⟩ (by kernel_rfl) ⟨ob1 rfl fun b q h n => ok_assign rfl isE0_nil, aI rfl rfl, trivial⟩ [⟨_, _⟩, ⟨_, _⟩, ⟨_, _⟩] (fun b q p => ⟨p.ke 0 rfl i0, p.ke 1 rfl i1, p.ke 2 rfl i2, trivial⟩) ?_
 rintro a k ⟨⟨hg, hs, hd⟩, i0, i1, i2, _⟩
 refine wp_seq ?_
 refine wp_seq ?_
 obtain ⟨x1, hx1, hr⟩ := bind_some hr
 obtain ⟨x2, hx2, hr⟩ := bind_some hr
 obtain ⟨x3, hx3, hx2⟩ := ite_bindF hx2
 refine cut (fun a' k' => Bs noF k0 100 a' k' ∧ (IsV a_) (a'.get 0) k' ∧ (IsV b_) (a'.get 1) k' ∧ (IsV op_) (a'.get 2) k' ∧ (IsV x2) (a'.get 22) k' ∧ True) ?_ hQ ?_
 ·intro Q1 W1 w1
  refine gS 8 (_ :: _ :: _ :: _ :: _ :: _ :: _ :: _ :: []) hs (by kernel_rfl) ⟨mu rfl i0, o1 [(15, some 0)] rfl fun _ _ h n => ok_call rfl Tryz.call26 (ref09_Right_ok n.1 hx1), o1 [(16, some 1)] rfl fun _ _ h n => ok_not rfl n.1, cm 2 rfl rfl, mF rfl rfl i1, gF [(19, some 4)] rfl rfl fun hp _ _ h n => ok_call rfl Tryz.call26 (ref09_Right_ok (Gd.get n.1 hp) (hx3 hp)), gF [(20, some 5)] rfl rfl fun hp _ _ h n => ok_not rfl (Gd.get n.1 hp), o1 [(18, some 3), (21, some 6)] rfl fun _ _ h n => ok_pickM rfl n.1 hx2 (cB rfl) (Gd.get n.2.1), trivial⟩ W1 fun b q p => ?_
  exact tail_done (k := q) (w1 _ _ ⟨Bs.post ⟨hg, hs, hd⟩ p, p.ke 0 rfl i0, p.ke 1 rfl i1, p.ke 2 rfl i2, p.ou 7 22 rfl, trivial⟩)
 rintro a k ⟨⟨hg, hs, hd⟩, i0, i1, i2, i22, _⟩
 refine wp_cond_split (isBool i22) (fun hc2586 => ?_) (fun hc2586 => ?_)
 ·rw [if_pos hc2586] at hr
  refine cutL noF k0 100 [⟨6, IsV ([] : List Slab)⟩, ⟨7, IsI 1⟩] ?_ ?_
  ·intro Q2 W2 w2
   refine gS 2 (⟨some IsE0, []⟩ :: ⟨some (IsI 1), []⟩ :: []) hs (by kernel_rfl) ⟨ob1 rfl fun b q h n => ok_assign rfl isE0_nil, aI rfl rfl, trivial⟩ W2 fun b q p => ?_
   have hgq := hg.then p.grow
   have hsb := p.size.trans hs
   have hdb := p.defers.trans hd
   have j6 : IsE0 (b.get 6) q := p.ou 0 6 rfl
   have j7 : (IsI 1) (b.get 7) q := p.ou 1 7 rfl
   replace j6 : IsV ([] : List Slab) (b.get 6) q := j6.isV
   exact tail_done (k := q) (w2 _ _ ⟨⟨hgq, hsb, hdb⟩, j6, j7, trivial⟩)
  rintro a k ⟨⟨hg, hs, hd⟩, i6, i7, _⟩
  refine wp_ret ?_
  obtain rfl := Option.some.inj hr
  exact retC2 rfl hd hg i6 i7
 rw [if_neg (by rw [hc2586]; decide)] at hr
 refine wp_skip ?_
 refine cutL noF k0 100 [⟨0, IsV a_⟩, ⟨1, IsV b_⟩, ⟨2, IsV op_⟩, ⟨8, IsV ([] : List Int)⟩] ?_ ?_
 ·intro Q3 W3 w3
  refine gS 1 (⟨some IsE0, []⟩ :: []) hs (by kernel_rfl) ⟨ob1 rfl fun b q h n => ok_assign rfl isE0_nil, trivial⟩ W3 fun b q p => ?_
  have hgq := hg.then p.grow
  have hsb := p.size.trans hs
  have hdb := p.defers.trans hd
  have j0 := p.ke 0 rfl i0
  have j1 := p.ke 1 rfl i1
  have j2 := p.ke 2 rfl i2
  have j8 : IsE0 (b.get 8) q := p.ou 0 8 rfl
  replace j8 : IsV ([] : List Int) (b.get 8) q := j8.isV
  exact tail_done (k := q) (w3 _ _ ⟨⟨hgq, hsb, hdb⟩, j0, j1, j2, j8, trivial⟩)
 rintro a k ⟨⟨hg, hs, hd⟩, i0, i1, i2, i8, _⟩
 refine wp_seq ?_
 refine stepL 1 (⟨some (IsI 0), []⟩ :: []) rfl ⟨hg, hs, hd⟩ (by kernel_rfl) ⟨aI rfl rfl, trivial⟩ [⟨_, _⟩, ⟨_, _⟩, ⟨_, _⟩, ⟨_, _⟩, ⟨_, _⟩] (fun b q p => ⟨p.ke 0 rfl i0, p.ke 1 rfl i1, p.ke 2 rfl i2, p.ke 8 rfl i8, p.ou 0 9 rfl, trivial⟩) ?_
 rintro a k ⟨⟨hg, hs, hd⟩, i0, i1, i2, i8, i9, _⟩
 refine wp_block ?_
 obtain ⟨f1, hf1, hr⟩ := bind_some hr
 refine cutFe f1 (fun s' c l => Bs noF k0 100 c l ∧ IsV a_ (c.get 0) l ∧ IsV b_ (c.get 1) l ∧ IsV op_ (c.get 2) l ∧ IsV s'.1 (c.get 8) l ∧ IsV s'.2 (c.get 9) l ∧ True) (fun i' s' c l => (i' = 0 ∧ Bs noF k0 100 c l ∧ IsV a_ (c.get 0) l ∧ IsV b_ (c.get 1) l ∧ IsV op_ (c.get 2) l ∧ IsV s'.1 (c.get 8) l ∧ True)) (fun r' c l => bodyPost Tryz.prog Tryz.f55 (RetC noF k0 (IsTup2 (IsV r'.1) (IsV r'.2))) .ret c l.w) ?_ hQ ?_ ?_ ?_
 ·intro Q4 W4 hgo hex hret
  refine sim_loop ?_ _ _ _ _ _ hf1 ⟨⟨hg, hs, hd⟩, i0, i1, i2, i8, i9, trivial⟩ Q4 W4 hgo hex hret
  clear hr hf1 hgo hex hret W4 hQ hg hs hd i0 i1 i2 i8 i9
  intro s1 fl_ a k hr hS Q hQ hgo2513 hex2514 hret2515
  obtain ⟨⟨hg, hs, hd⟩, i0, i1, i2, i8, i9, _⟩ := hS
  unfold ref09_combine_L0 at hr
  refine wp_seq ?_
  refine stepL 4 (_ :: _ :: _ :: _ :: []) rfl ⟨hg, hs, hd⟩ (by kernel_rfl) ⟨mu rfl i9, mu rfl i0, o1 [(24, some 1)] rfl fun _ _ h n => ok_len rfl rfl Tryz.underlying22 (IsV.rd n.1), o1 [(23, some 0), (25, some 2)] rfl fun _ _ h n => ok_lss rfl n.1 n.2.1, trivial⟩ [⟨_, _⟩, ⟨_, _⟩, ⟨_, _⟩, ⟨_, _⟩, ⟨_, _⟩, ⟨_, _⟩] (fun b q p => ⟨p.ke 0 rfl i0, p.ke 1 rfl i1, p.ke 2 rfl i2, p.ke 8 rfl i8, p.ke 9 rfl i9, p.ou 3 26 rfl, trivial⟩) ?_
  rintro a k ⟨⟨hg, hs, hd⟩, i0, i1, i2, i8, i9, i26, _⟩
  refine wp_cond_split (isBool i26) (fun hc2523 => ?_) (fun hc2523 => ?_)
  ·rw [if_pos hc2523] at hr
   refine wp_skip ?_
   refine wp_seq ?_
   refine wp_block ?_
   obtain ⟨x4, hx4, hr⟩ := bind_some hr
   obtain ⟨x5, hx5, hr⟩ := bind_some hr
   obtain ⟨x6, hx6, hr⟩ := bind_some hr
   obtain ⟨x7, hx7, hr⟩ := bind_some hr
   refine cut (fun a' k' => Bs noF k0 100 a' k' ∧ (IsV a_) (a'.get 0) k' ∧ (IsV b_) (a'.get 1) k' ∧ (IsV op_) (a'.get 2) k' ∧ (IsV x7) (a'.get 8) k' ∧ (IsV s1.2) (a'.get 9) k' ∧ True) ?_ hQ ?_
   ·intro Q5 W5 w4
    refine region (m := 14) (_ :: _ :: _ :: _ :: _ :: _ :: _ :: _ :: _ :: _ :: _ :: _ :: _ :: _ :: []) hmix hs (by kernel_rfl) ⟨mu rfl i8, mu rfl i0, mu rfl i9, o1 [(30, some 1), (31, some 2)] rfl fun _ _ h n => ok_indexAddr rfl Tryz.underlying22 ty40 (IsV.rd n.1) n.2.1 hx4, o1 [(32, some 3)] rfl fun _ _ h n => ok_fieldAddr rfl fo40_0 (at_Slab_0 _) n.1, o1 [(33, some 4)] rfl fun _ _ h n => ok_load rfl ty3 n.1, o1 [(29, some 0), (34, some 5)] rfl fun _ _ h n => ok_call rfl Tryz.call39 (ref09_insert_ok n.1 n.2.1 hx5), mu rfl i0, mu rfl i9, o1 [(36, some 7), (37, some 8)] rfl fun _ _ h n => ok_indexAddr rfl Tryz.underlying22 ty40 (IsV.rd n.1) n.2.1 hx6, o1 [(38, some 9)] rfl fun _ _ h n => ok_fieldAddr rfl fo40_1 (at_Slab_1 _) n.1, o1 [(39, some 10)] rfl fun _ _ h n => ok_load rfl ty3 n.1, o1 [(35, some 6), (40, some 11)] rfl fun _ _ h n => ok_call rfl Tryz.call39 (ref09_insert_ok n.1 n.2.1 hx7), cp 12 rfl rfl, trivial⟩ W5 fun b q p => ?_
    exact tail_done (k := q) (w4 _ _ ⟨Bs.post ⟨hg, hs, hd⟩ p, p.ke 0 rfl i0, p.ke 1 rfl i1, p.ke 2 rfl i2, p.ou 13 8 rfl, p.ke 9 rfl i9, trivial⟩)
   rintro a k ⟨⟨hg, hs, hd⟩, i0, i1, i2, i8, i9, _⟩
   obtain ⟨x8, hx8, hr⟩ := bind_some hr
   refine cut (fun a' k' => Bs noF k0 100 a' k' ∧ (IsV a_) (a'.get 0) k' ∧ (IsV b_) (a'.get 1) k' ∧ (IsV op_) (a'.get 2) k' ∧ (IsV x7) (a'.get 8) k' ∧ (IsV x8) (a'.get 9) k' ∧ True) ?_ hQ ?_
   ·intro Q6 W6 w5
    refine gS 3 (_ :: _ :: _ :: []) hs (by kernel_rfl) ⟨mu rfl i9, o1 [(27, some 0)] rfl fun _ _ h n => ok_add rfl n.1 (cI rfl) hx8, cp 1 rfl rfl, trivial⟩ W6 fun b q p => ?_
    exact tail_done (k := q) (w5 _ _ ⟨Bs.post ⟨hg, hs, hd⟩ p, p.ke 0 rfl i0, p.ke 1 rfl i1, p.ke 2 rfl i2, p.ke 8 rfl i8, p.ou 2 9 rfl, trivial⟩)
   rintro a k ⟨⟨hg, hs, hd⟩, i0, i1, i2, i8, i9, _⟩
   exact hgo2513 _ _ _ (Option.some.inj hr).symm ⟨⟨hg, hs, hd⟩, i0, i1, i2, i8, i9, trivial⟩
  rw [if_neg (by rw [hc2523]; decide)] at hr
  refine wp_exit ?_
  exact hex2514 _ _ _ _ (Option.some.inj hr).symm ⟨rfl, ⟨hg, hs, hd⟩, i0, i1, i2, i8, trivial⟩
 ·rintro r1 a k rfl hR
  dsimp only at hr
  obtain rfl := Option.some.inj hr
  exact hR
 ·rintro _ _ _ rfl _
  simp at hr
 clear hf1
 rintro _ s2 a k rfl ⟨rfl, ⟨hg, hs, hd⟩, i0, i1, i2, i8, _⟩
 dsimp only at hr
 refine wp_seq ?_
 refine stepL 1 (⟨some (IsI 0), []⟩ :: []) rfl ⟨hg, hs, hd⟩ (by kernel_rfl) ⟨aI rfl rfl, trivial⟩ [⟨_, _⟩, ⟨_, _⟩, ⟨_, _⟩, ⟨_, _⟩, ⟨_, _⟩] (fun b q p => ⟨p.ke 0 rfl i0, p.ke 1 rfl i1, p.ke 2 rfl i2, p.ke 8 rfl i8, p.ou 0 10 rfl, trivial⟩) ?_
 rintro a k ⟨⟨hg, hs, hd⟩, i0, i1, i2, i8, i10, _⟩
 refine wp_block ?_
 obtain ⟨f2, hf2, hr⟩ := bind_some hr
 refine cutFe f2 (fun s' c l => Bs noF k0 100 c l ∧ IsV a_ (c.get 0) l ∧ IsV b_ (c.get 1) l ∧ IsV op_ (c.get 2) l ∧ IsV s'.1 (c.get 8) l ∧ IsV s'.2 (c.get 10) l ∧ True) (fun i' s' c l => (i' = 2 ∧ Bs noF k0 100 c l ∧ IsV a_ (c.get 0) l ∧ IsV b_ (c.get 1) l ∧ IsV op_ (c.get 2) l ∧ IsV s'.1 (c.get 8) l ∧ True)) (fun r' c l => bodyPost Tryz.prog Tryz.f55 (RetC noF k0 (IsTup2 (IsV r'.1) (IsV r'.2))) .ret c l.w) ?_ hQ ?_ ?_ ?_
 ·intro Q7 W7 hgo hex hret
  refine sim_loop ?_ _ _ _ _ _ hf2 ⟨⟨hg, hs, hd⟩, i0, i1, i2, i8, i10, trivial⟩ Q7 W7 hgo hex hret
  clear hr hf2 hgo hex hret W7 hQ hg hs hd i0 i1 i10 i2 i8
  intro s3 fl_ a k hr hS Q hQ hgo2530 hex2531 hret2532
  obtain ⟨⟨hg, hs, hd⟩, i0, i1, i2, i8, i10, _⟩ := hS
  unfold ref09_combine_L1 at hr
  refine wp_seq ?_
  refine stepL 4 (_ :: _ :: _ :: _ :: []) rfl ⟨hg, hs, hd⟩ (by kernel_rfl) ⟨mu rfl i10, mu rfl i1, o1 [(43, some 1)] rfl fun _ _ h n => ok_len rfl rfl Tryz.underlying22 (IsV.rd n.1), o1 [(42, some 0), (44, some 2)] rfl fun _ _ h n => ok_lss rfl n.1 n.2.1, trivial⟩ [⟨_, _⟩, ⟨_, _⟩, ⟨_, _⟩, ⟨_, _⟩, ⟨_, _⟩, ⟨_, _⟩] (fun b q p => ⟨p.ke 0 rfl i0, p.ke 1 rfl i1, p.ke 2 rfl i2, p.ke 8 rfl i8, p.ke 10 rfl i10, p.ou 3 45 rfl, trivial⟩) ?_
  rintro a k ⟨⟨hg, hs, hd⟩, i0, i1, i2, i8, i10, i45, _⟩
  refine wp_cond_split (isBool i45) (fun hc2540 => ?_) (fun hc2540 => ?_)
  ·rw [if_pos hc2540] at hr
   refine wp_skip ?_
   refine wp_seq ?_
   refine wp_block ?_
   obtain ⟨x9, hx9, hr⟩ := bind_some hr
   obtain ⟨x10, hx10, hr⟩ := bind_some hr
   obtain ⟨x11, hx11, hr⟩ := bind_some hr
   obtain ⟨x12, hx12, hr⟩ := bind_some hr
   refine cut (fun a' k' => Bs noF k0 100 a' k' ∧ (IsV a_) (a'.get 0) k' ∧ (IsV b_) (a'.get 1) k' ∧ (IsV op_) (a'.get 2) k' ∧ (IsV x12) (a'.get 8) k' ∧ (IsV s3.2) (a'.get 10) k' ∧ True) ?_ hQ ?_
   ·intro Q8 W8 w6
    refine region (m := 14) (_ :: _ :: _ :: _ :: _ :: _ :: _ :: _ :: _ :: _ :: _ :: _ :: _ :: _ :: []) hmix hs (by kernel_rfl) ⟨mu rfl i8, mu rfl i1, mu rfl i10, o1 [(49, some 1), (50, some 2)] rfl fun _ _ h n => ok_indexAddr rfl Tryz.underlying22 ty40 (IsV.rd n.1) n.2.1 hx9, o1 [(51, some 3)] rfl fun _ _ h n => ok_fieldAddr rfl fo40_0 (at_Slab_0 _) n.1, o1 [(52, some 4)] rfl fun _ _ h n => ok_load rfl ty3 n.1, o1 [(48, some 0), (53, some 5)] rfl fun _ _ h n => ok_call rfl Tryz.call39 (ref09_insert_ok n.1 n.2.1 hx10), mu rfl i1, mu rfl i10, o1 [(55, some 7), (56, some 8)] rfl fun _ _ h n => ok_indexAddr rfl Tryz.underlying22 ty40 (IsV.rd n.1) n.2.1 hx11, o1 [(57, some 9)] rfl fun _ _ h n => ok_fieldAddr rfl fo40_1 (at_Slab_1 _) n.1, o1 [(58, some 10)] rfl fun _ _ h n => ok_load rfl ty3 n.1, o1 [(54, some 6), (59, some 11)] rfl fun _ _ h n => ok_call rfl Tryz.call39 (ref09_insert_ok n.1 n.2.1 hx12), cp 12 rfl rfl, trivial⟩ W8 fun b q p => ?_
    exact tail_done (k := q) (w6 _ _ ⟨Bs.post ⟨hg, hs, hd⟩ p, p.ke 0 rfl i0, p.ke 1 rfl i1, p.ke 2 rfl i2, p.ou 13 8 rfl, p.ke 10 rfl i10, trivial⟩)
   rintro a k ⟨⟨hg, hs, hd⟩, i0, i1, i2, i8, i10, _⟩
   obtain ⟨x13, hx13, hr⟩ := bind_some hr
   refine cut (fun a' k' => Bs noF k0 100 a' k' ∧ (IsV a_) (a'.get 0) k' ∧ (IsV b_) (a'.get 1) k' ∧ (IsV op_) (a'.get 2) k' ∧ (IsV x12) (a'.get 8) k' ∧ (IsV x13) (a'.get 10) k' ∧ True) ?_ hQ ?_
   ·intro Q9 W9 w7
    refine gS 3 (_ :: _ :: _ :: []) hs (by kernel_rfl) ⟨mu rfl i10, o1 [(46, some 0)] rfl fun _ _ h n => ok_add rfl n.1 (cI rfl) hx13, cp 1 rfl rfl, trivial⟩ W9 fun b q p => ?_
    exact tail_done (k := q) (w7 _ _ ⟨Bs.post ⟨hg, hs, hd⟩ p, p.ke 0 rfl i0, p.ke 1 rfl i1, p.ke 2 rfl i2, p.ke 8 rfl i8, p.ou 2 10 rfl, trivial⟩)
   rintro a k ⟨⟨hg, hs, hd⟩, i0, i1, i2, i8, i10, _⟩
   exact hgo2530 _ _ _ (Option.some.inj hr).symm ⟨⟨hg, hs, hd⟩, i0, i1, i2, i8, i10, trivial⟩
  rw [if_neg (by rw [hc2540]; decide)] at hr
  refine wp_exit ?_
  exact hex2531 _ _ _ _ (Option.some.inj hr).symm ⟨rfl, ⟨hg, hs, hd⟩, i0, i1, i2, i8, trivial⟩
 ·rintro r2 a k rfl hR
  dsimp only at hr
  obtain rfl := Option.some.inj hr
  exact hR
 ·rintro _ _ _ rfl _
  simp at hr
 clear hf2
 rintro _ s4 a k rfl ⟨rfl, ⟨hg, hs, hd⟩, i0, i1, i2, i8, _⟩
 dsimp only at hr
 refine cutS (fun c l => Bs noF k0 100 c l ∧ IsV a_ (c.get 0) l ∧ IsV b_ (c.get 1) l ∧ IsV op_ (c.get 2) l ∧ IsV s4.1 (c.get 8) l ∧ IsOwn 0 40 ([] : List Slab) (c.get 11) l ∧ Lo k0 (obF (c.get 11)) ∧ True) ?_ ?_
 ·intro Q10 W10 w8
  refine gS 1 (⟨some IsE0, []⟩ :: []) hs (by kernel_rfl) ⟨ob1 rfl fun b q h n => ok_assign rfl isE0_nil, trivial⟩ W10 fun b q p => ?_
  have hgq := hg.then p.grow
  have hsb := p.size.trans hs
  have hdb := p.defers.trans hd
  have j0 := p.ke 0 rfl i0
  have j1 := p.ke 1 rfl i1
  have j2 := p.ke 2 rfl i2
  have j8 := p.ke 8 rfl i8
  have j11 : IsE0 (b.get 11) q := p.ou 0 11 rfl
  have y11 : Lo k0 (obF (b.get 11)) := j11.lo
  replace j11 : IsOwn 0 40 ([] : List Slab) (b.get 11) q := j11.own0
  exact tail_done (k := q) (w8 _ _ ⟨⟨hgq, hsb, hdb⟩, j0, j1, j2, j8, j11, y11, trivial⟩)
 rintro a k ⟨⟨hg, hs, hd⟩, i0, i1, i2, i8, i11, n11, _⟩
 refine wp_seq ?_
 refine cutS (fun c l => Bs noF k0 100 c l ∧ IsV a_ (c.get 0) l ∧ IsV b_ (c.get 1) l ∧ IsV op_ (c.get 2) l ∧ IsV s4.1 (c.get 8) l ∧ IsOwn 0 40 ([] : List Slab) (c.get 11) l ∧ Lo k0 (obF (c.get 11)) ∧ IsI 0 (c.get 12) l ∧ True) ?_ ?_
 ·intro Q11 W11 w9
  refine gS 1 (⟨some (IsI 0), []⟩ :: []) hs (by kernel_rfl) ⟨aI rfl rfl, trivial⟩ W11 fun b q p => ?_
  exact tail_done (k := q) (w9 _ _ ⟨Bs.post ⟨hg, hs, hd⟩ p, p.ke 0 rfl i0, p.ke 1 rfl i1, p.ke 2 rfl i2, p.ke 8 rfl i8, p.ke 11 rfl i11, (by rw [p.old 11 rfl]; exact n11), p.ou 0 12 rfl, trivial⟩)
 rintro a k ⟨⟨hg, hs, hd⟩, i0, i1, i2, i8, i11, n11, i12, _⟩
 refine wp_block ?_
 obtain ⟨f3, hf3, hr⟩ := bind_some hr
 refine cutFe f3 (fun s' c l => Bs noF k0 100 c l ∧ IsV a_ (c.get 0) l ∧ IsV b_ (c.get 1) l ∧ IsV op_ (c.get 2) l ∧ IsV s4.1 (c.get 8) l ∧ IsOwn 0 40 s'.1 (c.get 11) l ∧ Lo k0 (obF (c.get 11)) ∧ IsV s'.2 (c.get 12) l ∧ True) (fun i' s' c l => (i' = 4 ∧ Bs noF k0 100 c l ∧ IsV s'.1 (c.get 11) l ∧ True)) (fun r' c l => bodyPost Tryz.prog Tryz.f55 (RetC noF k0 (IsTup2 (IsV r'.1) (IsV r'.2))) .ret c l.w) ?_ hQ ?_ ?_ ?_
 ·intro Q12 W12 hgo hex hret
  refine sim_loop ?_ _ _ _ _ _ hf3 ⟨⟨hg, hs, hd⟩, i0, i1, i2, i8, i11, n11, i12, trivial⟩ Q12 W12 hgo hex hret
  clear hr hf3 hgo hex hret W12 hQ hg hs hd i0 i1 i11 i12 i2 i8 n11
  intro s5 fl_ a k hr hS Q hQ hgo2548 hex2549 hret2550
  obtain ⟨⟨hg, hs, hd⟩, i0, i1, i2, i8, i11, n11, i12, _⟩ := hS
  unfold ref09_combine_L2 at hr
  refine wp_seq ?_
  refine wp_seq ?_
  obtain ⟨x14, hx14, hr⟩ := bind_some hr
  refine cut (fun a' k' => Bs noF k0 100 a' k' ∧ (IsV a_) (a'.get 0) k' ∧ (IsV b_) (a'.get 1) k' ∧ (IsV op_) (a'.get 2) k' ∧ (IsV s4.1) (a'.get 8) k' ∧ IsOwn 0 40 s5.1 (a'.get 11) k' ∧ Lo k0 (obF (a'.get 11)) ∧ (IsV s5.2) (a'.get 12) k' ∧ (IsV (decide (x14 < (s4.1.length : Int)))) (a'.get 65) k' ∧ True) ?_ hQ ?_
  ·intro Q13 W13 w10
   refine gS 5 (_ :: _ :: _ :: _ :: _ :: []) hs (by kernel_rfl) ⟨mu rfl i12, o1 [(61, some 0)] rfl fun _ _ h n => ok_add rfl n.1 (cI rfl) hx14, mu rfl i8, o1 [(63, some 2)] rfl fun _ _ h n => ok_len rfl rfl Tryz.underlying50 (IsV.rd n.1), o1 [(62, some 1), (64, some 3)] rfl fun _ _ h n => ok_lss rfl n.1 n.2.1, trivial⟩ W13 fun b q p => ?_
   exact tail_done (k := q) (w10 _ _ ⟨Bs.post ⟨hg, hs, hd⟩ p, p.ke 0 rfl i0, p.ke 1 rfl i1, p.ke 2 rfl i2, p.ke 8 rfl i8, p.ke 11 rfl i11, (by rw [p.old 11 rfl]; exact n11), p.ke 12 rfl i12, p.ou 4 65 rfl, trivial⟩)
  rintro a k ⟨⟨hg, hs, hd⟩, i0, i1, i2, i8, i11, n11, i12, i65, _⟩
  refine wp_cond_split (isBool i65) (fun hc2559 => ?_) (fun hc2559 => ?_)
  ·rw [if_pos hc2559] at hr
   refine wp_skip ?_
   refine wp_seq ?_
   refine wp_block ?_
   obtain ⟨x15, hx15, hr⟩ := bind_some hr
   obtain ⟨x16, hx16, hr⟩ := bind_some hr
   obtain ⟨x17, hx17, hr⟩ := bind_some hr
   obtain ⟨x18, hx18, hr⟩ := bind_some hr
   obtain ⟨x19, hx19, hr⟩ := bind_some hr
   obtain ⟨x20, hx20, hr⟩ := bind_some hr
   obtain ⟨x21, hx21, hr⟩ := bind_some hr
   obtain ⟨x22, hx22, hr⟩ := bind_some hr
   obtain ⟨x23, hx23, hr⟩ := bind_some hr
   refine cut (fun a' k' => Bs noF k0 100 a' k' ∧ (IsV a_) (a'.get 0) k' ∧ (IsV b_) (a'.get 1) k' ∧ (IsV op_) (a'.get 2) k' ∧ (IsV s4.1) (a'.get 8) k' ∧ IsOwn 0 40 x23 (a'.get 11) k' ∧ Lo k0 (obF (a'.get 11)) ∧ (IsV s5.2) (a'.get 12) k' ∧ True) ?_ hQ ?_
   ·intro Q14 W14 w11
    refine region (m := 24) (⟨some (OwnAt (a.get 11) 0 40 s5.1), [(11, none)]⟩ :: _ :: _ :: _ :: _ :: _ :: _ :: _ :: _ :: _ :: _ :: _ :: _ :: _ :: _ :: _ :: _ :: _ :: _ :: _ :: _ :: _ :: _ :: _ :: []) hmix hs (by kernel_rfl) ⟨ob1 rfl fun _ _ h n => ok_moveOA (.inl rfl) (ownAt n.1 (up i11 h n.1)), mu rfl i8, mu rfl i12, o1 [(69, some 1), (70, some 2)] rfl fun _ _ h n => ok_indexAddr rfl Tryz.underlying50 ty3 (IsV.rd n.1) n.2.1 hx15, o1 [(71, some 3)] rfl fun _ _ h n => ok_load rfl ty3 n.1, mu rfl i8, mu rfl i12, o1 [(74, some 6)] rfl fun _ _ h n => ok_add rfl n.1 (cI rfl) hx16, o1 [(73, some 5), (75, some 7)] rfl fun _ _ h n => ok_indexAddr rfl Tryz.underlying50 ty3 (IsV.rd n.1) n.2.1 hx17, o1 [(76, some 8)] rfl fun _ _ h n => ok_load rfl ty3 n.1, mu rfl i0, mu rfl i8, mu rfl i12, o1 [(79, some 11), (80, some 12)] rfl fun _ _ h n => ok_indexAddr rfl Tryz.underlying50 ty3 (IsV.rd n.1) n.2.1 hx18, o1 [(81, some 13)] rfl fun _ _ h n => ok_load rfl ty3 n.1, o1 [(78, some 10), (82, some 14)] rfl fun _ _ h n => ok_call rfl Tryz.call57 (ref09_section_ok n.1 n.2.1 hx19), mu rfl i1, mu rfl i8, mu rfl i12, o1 [(85, some 17), (86, some 18)] rfl fun _ _ h n => ok_indexAddr rfl Tryz.underlying50 ty3 (IsV.rd n.1) n.2.1 hx20, o1 [(87, some 19)] rfl fun _ _ h n => ok_load rfl ty3 n.1, o1 [(84, some 16), (88, some 20)] rfl fun _ _ h n => ok_call rfl Tryz.call57 (ref09_section_ok n.1 n.2.1 hx21), mu rfl i2, o1 [(83, some 15), (89, some 21), (90, some 22)] rfl fun _ _ h n => ok_call rfl Tryz.call41 (ref06_Form_ok n.1 n.2.1 n.2.2.1 hx22), trivial⟩ W14 fun b q p => ?_
    have hgq := hg.then p.grow
    have hsb := p.size.trans hs
    have hdb := p.defers.trans hd
    have j0 := p.ke 0 rfl i0
    have j1 := p.ke 1 rfl i1
    have j2 := p.ke 2 rfl i2
    have j8 := p.ke 8 rfl i8
    have j12 := p.ke 12 rfl i12
    have e68 : b.get 68 = a.get 11 := (p.ou 0 68 rfl).1
    have j68 : IsOwn 0 40 s5.1 (b.get 68) q := (p.ou 0 68 rfl).2
    have y68 : Lo k0 (obF (b.get 68)) := by rw [e68]; exact n11
    have j72 : (IsV x15) (b.get 72) q := p.ou 4 72 rfl
    have j77 : (IsV x17) (b.get 77) q := p.ou 9 77 rfl
    have j91 : (IsV x22) (b.get 91) q := p.ou 23 91 rfl
    have hns := j68.nshF
    refine tail_call (F := obF (b.get 68)) (i := 24) (d := 92) rfl rfl rfl rfl (by rw [hsb]; decide) Tryz.call40 W14 (ref09_add_ok j68 j72 j77 j91 hx23) fun b2 q2 hsz hdf hoth hch hres => ?_
    have hle := hch.le hns
    obtain ⟨hown, hob⟩ := hres
    have yn : Lo k0 (obF (b2.get 92)) := y68.app hgq hob
    replace j0 := Pers.pers hle j0
    replace j1 := Pers.pers hle j1
    replace j2 := Pers.pers hle j2
    replace j8 := Pers.pers hle j8
    replace j12 := Pers.pers hle j12
    replace j72 := Pers.pers hle j72
    replace j77 := Pers.pers hle j77
    replace j91 := Pers.pers hle j91
    replace hgq := hgq.step hch y68.wr
    rw [← hoth 0 (by decide)] at j0
    rw [← hoth 1 (by decide)] at j1
    rw [← hoth 2 (by decide)] at j2
    rw [← hoth 8 (by decide)] at j8
    rw [← hoth 12 (by decide)] at j12
    rw [← hoth 72 (by decide)] at j72
    rw [← hoth 77 (by decide)] at j77
    rw [← hoth 91 (by decide)] at j91
    have j92 := hown
    have y92 := yn
    have hres := True.intro
    clear hown hob yn
    replace hsb := hsz.trans hsb
    replace hdb := hdf.trans hdb
    clear hle hch hres hns hsz hdf hoth
    obtain ⟨b, hbb⟩ : ∃ b, b = b2 := ⟨b2, rfl⟩
    subst hbb
    obtain ⟨q, hqq⟩ : ∃ q, q = q2 := ⟨q2, rfl⟩
    subst hqq
    refine tail_assign (i := 25) (d := 11) rfl rfl (.inl rfl) rfl (by rw [hsb]; decide) fun b2 hsz hdf hnew hoth => ?_
    have jn : (IsOwn 0 40 x23) (b2.get 11) q := by rw [hnew]; exact j92
    have yn : Lo k0 (obF (b2.get 11)) := by rw [hnew]; exact y92
    rw [← hoth 0 (by decide)] at j0
    rw [← hoth 1 (by decide)] at j1
    rw [← hoth 2 (by decide)] at j2
    rw [← hoth 8 (by decide)] at j8
    rw [← hoth 12 (by decide)] at j12
    rw [← hoth 72 (by decide)] at j72
    rw [← hoth 77 (by decide)] at j77
    rw [← hoth 91 (by decide)] at j91
    have j11 := jn
    have y11 := yn
    replace hsb := hsz.trans hsb
    replace hdb := hdf.trans hdb
    clear hsz hdf hoth
    obtain ⟨b, hbb⟩ : ∃ b, b = b2 := ⟨b2, rfl⟩
    subst hbb
    exact tail_done (k := q) (w11 _ _ ⟨⟨hgq, hsb, hdb⟩, j0, j1, j2, j8, j11, y11, j12, trivial⟩)
   rintro a k ⟨⟨hg, hs, hd⟩, i0, i1, i2, i8, i11, n11, i12, _⟩
   obtain ⟨x24, hx24, hr⟩ := bind_some hr
   refine cut (fun a' k' => Bs noF k0 100 a' k' ∧ (IsV a_) (a'.get 0) k' ∧ (IsV b_) (a'.get 1) k' ∧ (IsV op_) (a'.get 2) k' ∧ (IsV s4.1) (a'.get 8) k' ∧ IsOwn 0 40 x23 (a'.get 11) k' ∧ Lo k0 (obF (a'.get 11)) ∧ (IsV x24) (a'.get 12) k' ∧ True) ?_ hQ ?_
   ·intro Q15 W15 w12
    refine gS 3 (_ :: _ :: _ :: []) hs (by kernel_rfl) ⟨mu rfl i12, o1 [(66, some 0)] rfl fun _ _ h n => ok_add rfl n.1 (cI rfl) hx24, cp 1 rfl rfl, trivial⟩ W15 fun b q p => ?_
    exact tail_done (k := q) (w12 _ _ ⟨Bs.post ⟨hg, hs, hd⟩ p, p.ke 0 rfl i0, p.ke 1 rfl i1, p.ke 2 rfl i2, p.ke 8 rfl i8, p.ke 11 rfl i11, (by rw [p.old 11 rfl]; exact n11), p.ou 2 12 rfl, trivial⟩)
   rintro a k ⟨⟨hg, hs, hd⟩, i0, i1, i2, i8, i11, n11, i12, _⟩
   exact hgo2548 _ _ _ (Option.some.inj hr).symm ⟨⟨hg, hs, hd⟩, i0, i1, i2, i8, i11, n11, i12, trivial⟩
  rw [if_neg (by rw [hc2559]; decide)] at hr
  refine wp_exit ?_
  obtain ⟨kk, sh2558, ii11⟩ := i11.give
  replace i11 := ii11
  replace hg := hg.hand sh2558 n11.wr
  rw [← sh2558.w]
  clear sh2558
  obtain ⟨k, hkk⟩ : ∃ k, k = kk := ⟨kk, rfl⟩
  subst hkk
  exact hex2549 _ _ _ _ (Option.some.inj hr).symm ⟨rfl, ⟨hg, hs, hd⟩, i11, trivial⟩
 ·rintro r3 a k rfl hR
  dsimp only at hr
  obtain rfl := Option.some.inj hr
  exact hR
 ·rintro _ _ _ rfl _
  simp at hr
 clear hf3
 rintro _ s6 a k rfl ⟨rfl, ⟨hg, hs, hd⟩, i11, _⟩
 dsimp only at hr
 refine wp_seq ?_
 obtain ⟨x25, hx25, hr⟩ := bind_some hr
 refine cut (fun a' k' => Bs noF k0 100 a' k' ∧ (IsV x25.1) (a'.get 13) k' ∧ (IsV x25.2) (a'.get 14) k' ∧ True) ?_ hQ ?_
 ·intro Q16 W16 w13
  refine gS 7 (_ :: _ :: _ :: _ :: _ :: _ :: _ :: []) hs (by kernel_rfl) ⟨mu rfl i11, o1 [(94, some 0)] rfl fun _ _ h n => ok_call rfl Tryz.call42 (ref09_end_ok n.1 hx25), cm 1 rfl rfl, o1 [(93, some 2)] rfl fun _ _ h n => ok_ext2_0 rfl n.1, o1 [(93, some 2)] rfl fun _ _ h n => ok_ext2_1 rfl n.1, cp 3 rfl rfl, cp 4 rfl rfl, trivial⟩ W16 fun b q p => ?_
  exact tail_done (k := q) (w13 _ _ ⟨Bs.post ⟨hg, hs, hd⟩ p, p.ou 5 13 rfl, p.ou 6 14 rfl, trivial⟩)
 rintro a k ⟨⟨hg, hs, hd⟩, i13, i14, _⟩
 refine stepL 4 (_ :: _ :: _ :: _ :: []) rfl ⟨hg, hs, hd⟩ (by kernel_rfl) ⟨mu rfl i13, mu rfl i14, cp 0 rfl rfl, cp 1 rfl rfl, trivial⟩ [⟨_, _⟩, ⟨_, _⟩] (fun b q p => ⟨p.ou 2 6 rfl, p.ou 3 7 rfl, trivial⟩) ?_
 rintro a k ⟨⟨hg, hs, hd⟩, i6, i7, _⟩
 refine wp_ret ?_
 obtain rfl := Option.some.inj hr
 exact retC2 rfl hd hg i6 i7
noncomputable def k55 := mkO 55 [.list (.st 3), .list (.st 3), .int] [.list (.st 3), .int] (fun x => ref09_combine x.1 x.2.1 x.2.2) Tryz.call55 fun k0 vs x r h hr => by obtain ⟨v0, vs, rfl, i0, h⟩ := h.cons; obtain ⟨v1, vs, rfl, i1, h⟩ := h.cons; obtain ⟨v2, rfl, i2⟩ := h.one; exact ret2F (T := tb) (ref09_combine_ok i0 i1 i2 hr)
def ref09_Union (a_ : (List Slab)) (b_ : (List Slab)) : Option ((List Slab) × Int) :=
 (ref09_combine a_ b_ 0).bind fun x1 =>
 some (x1.1, x1.2)
noncomputable def k21 := mk 21 [.list (.st 3), .list (.st 3)] [.list (.st 3), .int] (fun x => ref09_Union x.1 x.2) [k55] [] Tryz.f21 (.n) Tryz.func21 Tryz.call21 rfl rfl fun x => by kernel_rfl
def region_Common_1 (a_ : Bool) (b_ : Bool) : Option (Bool) :=
 some (a_ && b_)
noncomputable def k79 := mk 79 [.bool, .bool] [.bool] (fun x => region_Common_1 x.1 x.2) [] [] Tryz.f79 (.n) Tryz.func79 Tryz.call79 rfl rfl fun x => by kernel_rfl
theorem region_Common_1_ok {k0 : K} {v0 v1 : Value} {x0 : Bool} {x1 : Bool} {r : Bool} (i0 : IsV x0 v0 k0) (i1 : IsV x1 v1 k0) (hr : region_Common_1 x0 x1 = some r) : Calls Tryz.prog 79 #[v0, v1] k0.w (Ret k0 (IsV r)) := (k79.ok.ok k0 [v0, v1] (x0, x1) r ⟨i0, i1⟩ hr)
def region_Common (a_ : (List Rect)) (b_ : (List Rect)) : Option ((List Rect) × Int) :=
 (region_combine a_ b_ region_Common_1).bind fun x1 =>
 some (x1.1, x1.2)
theorem region_Common_ok {k0 : K} {v0 v1 : Value} {a_ : (List Rect)} {b_ : (List Rect)} {r : (List Rect) × Int} (i0 : (IsV a_) v0 k0) (i1 : (IsV b_) v1 k0) (hr : region_Common a_ b_ = some r) :
  Calls Tryz.prog 56 #[v0, v1] k0.w (Ret k0 (IsTup2 (IsV r.1) (IsV r.2))) := by
 unfold region_Common at hr
 refine Ret.ofC ?_
 refine enterK Tryz.func56 rfl Tryz.ntmps56 (show 2 ≤ 11 by decide) fun a k hk0 hs hd ha => ?_
 obtain ⟨e0, e1, _⟩ := ha
 replace i0 : (IsV a_) (a.get 0) k := by rw [e0, hk0]; exact i0
 replace i1 : (IsV b_) (a.get 1) k := by rw [e1, hk0]; exact i1
 have hQ : Gb.LetsOut (bodyPost Tryz.prog Tryz.f56 (RetC noF k0 (IsTup2 (IsV r.1) (IsV r.2)))) := letsOutC
 have hg : Chg noF k0 k := by rw [hk0]; exact Chg.refl _ k0
 refine stepL 2 (⟨some IsE0, []⟩ :: ⟨some (IsI 0), []⟩ :: []) rfl ⟨hg, hs, hd⟩ (by kernel_rfl) ⟨ob1 rfl fun b q h n => ok_assign rfl isE0_nil, aI rfl rfl, trivial⟩ [⟨_, _⟩, ⟨_, _⟩] (fun b q p => ⟨p.ke 0 rfl i0, p.ke 1 rfl i1, trivial⟩) ?_
 rintro a k ⟨⟨hg, hs, hd⟩, i0, i1, _⟩
 refine wp_seq ?_
 obtain ⟨x1, hx1, hr⟩ := bind_some hr
 refine cut (fun a' k' => Bs noF k0 11 a' k' ∧ (IsV x1.1) (a'.get 4) k' ∧ (IsV x1.2) (a'.get 5) k' ∧ True) ?_ hQ ?_
 ·intro Q1 W1 w1
  refine gS 7 (_ :: _ :: _ :: _ :: _ :: _ :: _ :: []) hs (by kernel_rfl) ⟨mu rfl i0, mu rfl i1, o1 [(6, some 0), (7, some 1)] rfl fun _ _ h n => ok_call rfl Tryz.call71 (region_combine_ok n.1 n.2.1 ⟨79, _, _, rfl, Tryz.call79, fun k9 hk9 _ _ _ _ _ hx0 hx1 hy9 => by simpa [evalT] using region_Common_1_ok hx0 hx1 hy9⟩ hx1), o1 [(8, some 2)] rfl fun _ _ h n => ok_ext2_0 rfl n.1, o1 [(8, some 2)] rfl fun _ _ h n => ok_ext2_1 rfl n.1, cp 3 rfl rfl, cp 4 rfl rfl, trivial⟩ W1 fun b q p => ?_
  exact tail_done (k := q) (w1 _ _ ⟨Bs.post ⟨hg, hs, hd⟩ p, p.ou 5 4 rfl, p.ou 6 5 rfl, trivial⟩)
 rintro a k ⟨⟨hg, hs, hd⟩, i4, i5, _⟩
 refine wp_ret ?_
 obtain rfl := Option.some.inj hr
 exact retC2 rfl hd hg i4 i5
def solid_Common (a_ : (List Slab)) (b_ : (List Slab)) : Option ((List Slab) × Int) :=
 (solid_combine a_ b_ region_Common).bind fun x1 =>
 some (x1.1, x1.2)
theorem solid_Common_ok {k0 : K} {v0 v1 : Value} {a_ : (List Slab)} {b_ : (List Slab)} {r : (List Slab) × Int} (i0 : (IsV a_) v0 k0) (i1 : (IsV b_) v1 k0) (hr : solid_Common a_ b_ = some r) :
  Calls Tryz.prog 22 #[v0, v1] k0.w (Ret k0 (IsTup2 (IsV r.1) (IsV r.2))) := by
 unfold solid_Common at hr
 refine Ret.ofC ?_
 refine enterK Tryz.func22 rfl Tryz.ntmps22 (show 2 ≤ 11 by decide) fun a k hk0 hs hd ha => ?_
 obtain ⟨e0, e1, _⟩ := ha
 replace i0 : (IsV a_) (a.get 0) k := by rw [e0, hk0]; exact i0
 replace i1 : (IsV b_) (a.get 1) k := by rw [e1, hk0]; exact i1
 have hQ : Gb.LetsOut (bodyPost Tryz.prog Tryz.f22 (RetC noF k0 (IsTup2 (IsV r.1) (IsV r.2)))) := letsOutC
 have hg : Chg noF k0 k := by rw [hk0]; exact Chg.refl _ k0
 refine stepL 2 (⟨some IsE0, []⟩ :: ⟨some (IsI 0), []⟩ :: []) rfl ⟨hg, hs, hd⟩ (by kernel_rfl) ⟨ob1 rfl fun b q h n => ok_assign rfl isE0_nil, aI rfl rfl, trivial⟩ [⟨_, _⟩, ⟨_, _⟩] (fun b q p => ⟨p.ke 0 rfl i0, p.ke 1 rfl i1, trivial⟩) ?_
 rintro a k ⟨⟨hg, hs, hd⟩, i0, i1, _⟩
 refine wp_seq ?_
 obtain ⟨x1, hx1, hr⟩ := bind_some hr
 refine cut (fun a' k' => Bs noF k0 11 a' k' ∧ (IsV x1.1) (a'.get 4) k' ∧ (IsV x1.2) (a'.get 5) k' ∧ True) ?_ hQ ?_
 ·intro Q1 W1 w1
  refine gS 7 (_ :: _ :: _ :: _ :: _ :: _ :: _ :: []) hs (by kernel_rfl) ⟨mu rfl i0, mu rfl i1, o1 [(6, some 0), (7, some 1)] rfl fun _ _ h n => ok_call rfl Tryz.call44 (solid_combine_ok n.1 n.2.1 ⟨56, _, _, rfl, Tryz.call56, fun k9 hk9 _ _ _ _ _ hx0 hx1 hy9 => by simpa [evalT] using region_Common_ok hx0 hx1 hy9⟩ hx1), o1 [(8, some 2)] rfl fun _ _ h n => ok_ext2_0 rfl n.1, o1 [(8, some 2)] rfl fun _ _ h n => ok_ext2_1 rfl n.1, cp 3 rfl rfl, cp 4 rfl rfl, trivial⟩ W1 fun b q p => ?_
  exact tail_done (k := q) (w1 _ _ ⟨Bs.post ⟨hg, hs, hd⟩ p, p.ou 5 4 rfl, p.ou 6 5 rfl, trivial⟩)
 rintro a k ⟨⟨hg, hs, hd⟩, i4, i5, _⟩
 refine wp_ret ?_
 obtain rfl := Option.some.inj hr
 exact retC2 rfl hd hg i4 i5
noncomputable def k22 := mkO 22 [.list (.st 3), .list (.st 3)] [.list (.st 3), .int] (fun x => solid_Common x.1 x.2) Tryz.call22 fun k0 vs x r h hr => by obtain ⟨v0, vs, rfl, i0, h⟩ := h.cons; obtain ⟨v1, rfl, i1⟩ := h.one; exact ret2F (T := tb) (solid_Common_ok i0 i1 hr)
def ref09_Common (a_ : (List Slab)) (b_ : (List Slab)) : Option ((List Slab) × Int) :=
 (ref09_combine a_ b_ 1).bind fun x1 =>
 some (x1.1, x1.2)
noncomputable def k23 := mk 23 [.list (.st 3), .list (.st 3)] [.list (.st 3), .int] (fun x => ref09_Common x.1 x.2) [k55] [] Tryz.f23 (.n) Tryz.func23 Tryz.call23 rfl rfl fun x => by kernel_rfl
def ref09_Minus (a_ : (List Slab)) (b_ : (List Slab)) : Option ((List Slab) × Int) :=
 (ref09_combine a_ b_ 2).bind fun x1 =>
 some (x1.1, x1.2)
noncomputable def k24 := mk 24 [.list (.st 3), .list (.st 3)] [.list (.st 3), .int] (fun x => ref09_Minus x.1 x.2) [k55] [] Tryz.f24 (.n) Tryz.func24 Tryz.call24 rfl rfl fun x => by kernel_rfl
def ref09_Section (s_ : (List Slab)) (z_ : Int) : Option ((List Rect)) :=
 (ref09_Right s_).bind fun x1 =>
 if (!x1) then
  some ([] : List Rect)
 else
  (ref09_section s_ z_).bind fun x2 =>
  some x2
noncomputable def k25 := mk 25 [.list (.st 3), .int] [.list (.st 0)] (fun x => ref09_Section x.1 x.2) [k26, k57] [] Tryz.f25 (.n) Tryz.func25 Tryz.call25 rfl rfl fun x => by kernel_rfl
def ref06_Area_L0 (a_ : (List Rect)) (s1 : Int × Int) : Option (Flow (Int × Int) (Int)) :=
 if (decide (s1.2 < (a_.length : Int))) then
  (getI a_ s1.2).bind fun x1 =>
  (getI a_ s1.2).bind fun x2 =>
  (subI x1.X1 x2.X0).bind fun x3 =>
  (getI a_ s1.2).bind fun x4 =>
  (getI a_ s1.2).bind fun x5 =>
  (subI x4.Y1 x5.Y0).bind fun x6 =>
  (mulI x3 x6).bind fun x7 =>
  (addI s1.1 x7).bind fun x8 =>
  (addI s1.2 1).bind fun x9 =>
  some (.go (x8, x9))
 else
  some (.ex 0 (s1.1, s1.2))
def ref06_Area (a_ : (List Rect)) : Option (Int) :=
 (ref06_Right a_).bind fun x1 =>
 if (!x1) then
  some 0
 else
  (iterL (ref06_Area_L0 a_) (a_.length + 1) (0, 0)).bind fun f1 => match f1 with
   | .go _ => none
   | .ex _ s1 =>
    some s1.1
   | .ret r1 => some r1
noncomputable def k59 := mk 59 [.list (.st 0)] [.int] (fun x => ref06_Area x) [k58] [] Tryz.f59 (.s .n (.s .n (.s .n (.s (.s .n (.l [] [(3, .v .int), (4, .v .int)] [(0, [4], [])] (fL [0]) .n)) .n)))) Tryz.func59 Tryz.call59 rfl rfl fun x => by kernel_rfl
def ref09_Volume_L0 (s_ : (List Slab)) (s1 : Int × Int) : Option (Flow (Int × Int) (Int)) :=
 if (decide (s1.2 < (s_.length : Int))) then
  (getI s_ s1.2).bind fun x1 =>
  (getI s_ s1.2).bind fun x2 =>
  (subI x1.Z1 x2.Z0).bind fun x3 =>
  (getI s_ s1.2).bind fun x4 =>
  (ref06_Area x4.Area).bind fun x5 =>
  (mulI x3 x5).bind fun x6 =>
  (addI s1.1 x6).bind fun x7 =>
  (addI s1.2 1).bind fun x8 =>
  some (.go (x7, x8))
 else
  some (.ex 0 (s1.1, s1.2))
def ref09_Volume (s_ : (List Slab)) : Option (Int) :=
 (ref09_Right s_).bind fun x1 =>
 if (!x1) then
  some 0
 else
  (iterL (ref09_Volume_L0 s_) (s_.length + 1) (0, 0)).bind fun f1 => match f1 with
   | .go _ => none
   | .ex _ s1 =>
    some s1.1
   | .ret r1 => some r1
noncomputable def k27 := mk 27 [.list (.st 3)] [.int] (fun x => ref09_Volume x) [k26, k59] [] Tryz.f27 (.s .n (.s .n (.s .n (.s (.s .n (.l [] [(3, .v .int), (4, .v .int)] [(0, [4], [])] (fL [0]) .n)) .n)))) Tryz.func27 Tryz.call27 rfl rfl fun x => by kernel_rfl
def ref06_Has_L0 (a_ : (List Rect)) (x_ : Int) (y_ : Int) (s1 : Int) : Option (Flow (Int) (Bool)) :=
 if (decide (s1 < (a_.length : Int))) then
  (getI a_ s1).bind fun x1 =>
  (if (decide (x1.X0 ≤ x_)) then
   (getI a_ s1).bind fun x2 =>
   some (decide (x_ < x2.X1))
  else
   some false).bind fun x3 =>
  (if x3 then
   (getI a_ s1).bind fun x4 =>
   some (decide (x4.Y0 ≤ y_))
  else
   some false).bind fun x5 =>
  (if x5 then
   (getI a_ s1).bind fun x6 =>
   some (decide (y_ < x6.Y1))
  else
   some false).bind fun x7 =>
  if x7 then
   some (.ret true)
  else
   (addI s1 1).bind fun x8 =>
   some (.go x8)
 else
  some (.ex 0 s1)
def ref06_Has (a_ : (List Rect)) (x_ : Int) (y_ : Int) : Option (Bool) :=
 (ref06_Right a_).bind fun x1 =>
 if (!x1) then
  some false
 else
  (iterL (ref06_Has_L0 a_ x_ y_) (a_.length + 1) 0).bind fun f1 => match f1 with
   | .go _ => none
   | .ex _ _ =>
    some false
   | .ret r1 => some r1
noncomputable def k60 := mk 60 [.list (.st 0), .int, .int] [.bool] (fun x => ref06_Has x.1 x.2.1 x.2.2) [k58] [] Tryz.f60 (.s .n (.s .n (.s (.s .n (.l [] [(7, .v .int)] [(0, [7], [])] (fL [0]) .n)) .n))) Tryz.func60 Tryz.call60 rfl rfl fun x => by kernel_rfl
def ref09_Top_L0 (s_ : (List Slab)) (x_ : Int) (y_ : Int) (s1 : Int × Int) : Option (Flow (Int × Int) (Int)) :=
 if (decide (s1.2 < (s_.length : Int))) then
  (getI s_ s1.2).bind fun x1 =>
  (ref06_Has x1.Area x_ y_).bind fun x2 =>
  (if x2 then
   (getI s_ s1.2).bind fun x3 =>
   some x3.Z1
  else
   some s1.1).bind fun s2 =>
  (addI s1.2 1).bind fun x4 =>
  some (.go (s2, x4))
 else
  some (.ex 0 (s1.1, s1.2))
def ref09_Top (s_ : (List Slab)) (x_ : Int) (y_ : Int) : Option (Int) :=
 (ref09_Right s_).bind fun x1 =>
 if (!x1) then
  some 0
 else
  (iterL (ref09_Top_L0 s_ x_ y_) (s_.length + 1) (0, 0)).bind fun f1 => match f1 with
   | .go _ => none
   | .ex _ s1 =>
    some s1.1
   | .ret r1 => some r1
noncomputable def k28 := mk 28 [.list (.st 3), .int, .int] [.int] (fun x => ref09_Top x.1 x.2.1 x.2.2) [k26, k60] [] Tryz.f28 (.s .n (.s .n (.s .n (.s (.s .n (.l [] [(7, .v .int), (8, .v .int)] [(0, [8], [])] (fL [0]) (.s .n (.s (.s .n (.j [] [(7, .v .int)] ([], []) (.s .n .n))) .n)))) .n)))) Tryz.func28 Tryz.call28 rfl rfl fun x => by kernel_rfl
def ref09_Has (s_ : (List Slab)) (x_ : Int) (y_ : Int) (z_ : Int) : Option (Bool) :=
 (ref09_Section s_ z_).bind fun x1 =>
 (ref06_Has x1 x_ y_).bind fun x2 =>
 some x2
noncomputable def k29 := mk 29 [.list (.st 3), .int, .int, .int] [.bool] (fun x => ref09_Has x.1 x.2.1 x.2.2.1 x.2.2.2) [k25, k60] [] Tryz.f29 (.n) Tryz.func29 Tryz.call29 rfl rfl fun x => by kernel_rfl
def law09_rects_L0 (a_ : (List Rect)) (b_ : (List Rect)) (s1 : Int) : Option (Flow (Int) (Bool)) :=
 if (decide (s1 < (a_.length : Int))) then
  (getI a_ s1).bind fun x1 =>
  (getI b_ s1).bind fun x2 =>
  if (!decide (x1 = x2)) then
   some (.ret false)
  else
   (addI s1 1).bind fun x3 =>
   some (.go x3)
 else
  some (.ex 0 s1)
def law09_rects (a_ : (List Rect)) (b_ : (List Rect)) : Option (Bool) :=
 if ((a_.length : Int) != (b_.length : Int)) then
  some false
 else
  (iterL (law09_rects_L0 a_ b_) (a_.length + b_.length + 1) 0).bind fun f1 => match f1 with
   | .go _ => none
   | .ex _ _ =>
    some true
   | .ret r1 => some r1
noncomputable def k30 := mk 30 [.list (.st 0), .list (.st 0)] [.bool] (fun x => law09_rects x.1 x.2) [] [] Tryz.f30 (.s .n (.s .n (.s (.s .n (.l [] [(5, .v .int)] [(0, [5], [])] (fL [0, 1]) .n)) .n))) Tryz.func30 Tryz.call30 rfl rfl fun x => by kernel_rfl
def ref09_Boxes_L1 (s_ : (List Slab)) (s1 : (List Box) × Int) (s2 : (List Box) × Int) : Option (Flow ((List Box) × Int) ((List Box))) :=
 (getI s_ s1.2).bind fun x1 =>
 if (decide (s2.2 < (x1.Area.length : Int))) then
  (getI s_ s1.2).bind fun x2 =>
  (getI x2.Area s2.2).bind fun x3 =>
  (getI s_ s1.2).bind fun x4 =>
  (getI s_ s1.2).bind fun x5 =>
  (appI s2.1 ([(⟨x3, x4.Z0, x5.Z1⟩ : Box)])).bind fun x6 =>
  (addI s2.2 1).bind fun x7 =>
  some (.go (x6, x7))
 else
  some (.ex 2 (s2.1, s2.2))
def ref09_Boxes_L0 (s_ : (List Slab)) (s1 : (List Box) × Int) : Option (Flow ((List Box) × Int) ((List Box))) :=
 if (decide (s1.2 < (s_.length : Int))) then
  (iterL (ref09_Boxes_L1 s_ s1) ((s_.flatMap fun b => b.Area).length + 1) (s1.1, 0)).bind fun f1 => match f1 with
   | .go _ => none
   | .ex _ s2 =>
    (addI s1.2 1).bind fun x1 =>
    some (.go (s2.1, x1))
   | .ret r1 => some (.ret r1)
 else
  some (.ex 0 (s1.1, s1.2))
def ref09_Boxes (s_ : (List Slab)) : Option ((List Box)) :=
 (ref09_Right s_).bind fun x1 =>
 if (!x1) then
  some ([] : List Box)
 else
  (iterL (ref09_Boxes_L0 s_) (s_.length + ([] : List Box).length + 1) (([] : List Box), 0)).bind fun f1 => match f1 with
   | .go _ => none
   | .ex _ s1 =>
    some s1.1
   | .ret r1 => some r1
noncomputable def k32 := mk 32 [.list (.st 3)] [.list (.st 4)] (fun x => ref09_Boxes x) [k26] [3, 25, 46] Tryz.f32 (.s .n (.s .n (.s .n (.s (.s .n (.l [] [(3, .o 35 (.st 4)), (4, .v .int)] [(0, [4], [])] (fL [0, 3]) (.s .n (.s (.s .n (.l [] [(3, .o 35 (.st 4)), (5, .v .int)] [(2, [5], [])] (fun e => (List.flatMap (fun b => b.Area) (gt e 0 (.list (.st 3)) : List Slab)).length + 1) .n)) .n)))) (.s (.f [3] .n) .n))))) Tryz.func32 Tryz.call32 rfl rfl fun x => by kernel_rfl
def ref09_SameBoxes_L0 (a_ : (List Box)) (b_ : (List Box)) (s1 : Int) : Option (Flow (Int) (Bool)) :=
 if (decide (s1 < (a_.length : Int))) then
  (getI a_ s1).bind fun x1 =>
  (getI b_ s1).bind fun x2 =>
  if (!decide (x1 = x2)) then
   some (.ret false)
  else
   (addI s1 1).bind fun x3 =>
   some (.go x3)
 else
  some (.ex 0 s1)
def ref09_SameBoxes (a_ : (List Box)) (b_ : (List Box)) : Option (Bool) :=
 if ((a_.length : Int) != (b_.length : Int)) then
  some false
 else
  (iterL (ref09_SameBoxes_L0 a_ b_) (a_.length + b_.length + 1) 0).bind fun f1 => match f1 with
   | .go _ => none
   | .ex _ _ =>
    some true
   | .ret r1 => some r1
noncomputable def k31 := mk 31 [.list (.st 4), .list (.st 4)] [.bool] (fun x => ref09_SameBoxes x.1 x.2) [] [] Tryz.f31 (.s .n (.s .n (.s (.s .n (.l [] [(5, .v .int)] [(0, [5], [])] (fL [0, 1]) .n)) .n))) Tryz.func31 Tryz.call31 rfl rfl fun x => by kernel_rfl
def law09_same (a_ : (List Slab)) (b_ : (List Slab)) (x_ : Int) (y_ : Int) (z_ : Int) : Option (Bool) :=
 (solid_Union a_ b_).bind fun x1 =>
 (ref09_Union a_ b_).bind fun x2 =>
 (solid_Common a_ b_).bind fun x3 =>
 (ref09_Common a_ b_).bind fun x4 =>
 (solid_Minus a_ b_).bind fun x5 =>
 (ref09_Minus a_ b_).bind fun x6 =>
 (if (((x1.2 != x2.2) || (x3.2 != x4.2)) || (x5.2 != x6.2)) then
  some true
 else
  (ref09_Same x1.1 x2.1).bind fun x7 =>
  some (!x7)).bind fun x8 =>
 (if x8 then
  some true
 else
  (ref09_Same x3.1 x4.1).bind fun x9 =>
  some (!x9)).bind fun x10 =>
 (if x10 then
  some true
 else
  (ref09_Same x5.1 x6.1).bind fun x11 =>
  some (!x11)).bind fun x12 =>
 if x12 then
  some false
 else
  (solid_Section a_ z_).bind fun x13 =>
  (ref09_Section a_ z_).bind fun x14 =>
  (solid_Right a_).bind fun x15 =>
  (ref09_Right a_).bind fun x16 =>
  (if (x15 == x16) then
   (solid_Volume a_).bind fun x17 =>
   (ref09_Volume a_).bind fun x18 =>
   some (x17 == x18)
  else
   some false).bind fun x19 =>
  (if x19 then
   (solid_Top a_ x_ y_).bind fun x20 =>
   (ref09_Top a_ x_ y_).bind fun x21 =>
   some (x20 == x21)
  else
   some false).bind fun x22 =>
  (if x22 then
   (solid_Has a_ x_ y_ z_).bind fun x23 =>
   (ref09_Has a_ x_ y_ z_).bind fun x24 =>
   some (x23 == x24)
  else
   some false).bind fun x25 =>
  (if x25 then
   (law09_rects x13 x14).bind fun x26 =>
   some x26
  else
   some false).bind fun x27 =>
  (if x27 then
   (solid_Boxes a_).bind fun x28 =>
   (ref09_Boxes a_).bind fun x29 =>
   (ref09_SameBoxes x28 x29).bind fun x30 =>
   some x30
  else
   some false).bind fun x31 =>
  (if x31 then
   (solid_Same a_ b_).bind fun x32 =>
   (ref09_Same a_ b_).bind fun x33 =>
   some (x32 == x33)
  else
   some false).bind fun x34 =>
  some x34
noncomputable def k7 := mk 7 [.list (.st 3), .list (.st 3), .int, .int, .int] [.bool] (fun x => law09_same x.1 x.2.1 x.2.2.1 x.2.2.2.1 x.2.2.2.2) [k20, k21, k22, k23, k11, k24, k10, k16, k25, k19, k26, k14, k27, k15, k28, k18, k29, k30, k17, k32, k31, k13] [] Tryz.f7 (.n) Tryz.func7 Tryz.call7 rfl rfl fun x => by kernel_rfl
def law09_SolidOf (a_ : (List Box)) (b_ : (List Box)) (x_ : Int) (y_ : Int) (z_ : Int) : Option (Bool) :=
 (law09_small).bind fun x1 =>
 if ((decide (12 < (a_.length : Int))) || (decide (12 < (b_.length : Int)))) then
  some x1
 else
  (solid_Of a_).bind fun x2 =>
  (ref09_Of a_).bind fun x3 =>
  (ref09_Of b_).bind fun x4 =>
  (if (x2.2 != x3.2) then
   some true
  else
   (ref09_Same x2.1 x3.1).bind fun x5 =>
   some (!x5)).bind fun x6 =>
  if x6 then
   some false
  else
   (if x1 then
    (law09_same x3.1 x4.1 x_ y_ z_).bind fun x7 =>
    some x7
   else
    some false).bind fun x8 =>
   some x8
noncomputable def k4 := mk 4 [.list (.st 4), .list (.st 4), .int, .int, .int] [.bool] (fun x => law09_SolidOf x.1 x.2.1 x.2.2.1 x.2.2.2.1 x.2.2.2.2) [k5, k8, k9, k10, k7] [] Tryz.f4 (.n) Tryz.func4 Tryz.call4 rfl rfl fun x => by kernel_rfl
theorem law09_SolidOf_ok {k0 : K} {v0 v1 v2 v3 v4 : Value} {x0 : (List Box)} {x1 : (List Box)} {x2 : Int} {x3 : Int} {x4 : Int} {r : Bool} (i0 : IsV x0 v0 k0) (i1 : IsV x1 v1 k0) (i2 : IsV x2 v2 k0) (i3 : IsV x3 v3 k0) (i4 : IsV x4 v4 k0) (hr : law09_SolidOf x0 x1 x2 x3 x4 = some r) : Calls Tryz.prog 4 #[v0, v1, v2, v3, v4] k0.w (Ret k0 (IsV r)) := (k4.ok.ok k0 [v0, v1, v2, v3, v4] (x0, x1, x2, x3, x4) r ⟨i0, i1, i2, i3, i4⟩ hr)
end Go.Proofs.YtmniloampanhfaaGreat
