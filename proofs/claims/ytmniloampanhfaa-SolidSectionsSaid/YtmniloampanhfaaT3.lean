/- What the functions compute that the law reaches, part 3 -/
import Derived.Test.YtmniloampanhfaaT2
namespace Go.Proofs.Ytmniloampanhfaa
open Go.Gb
set_option linter.unusedVariables false
set_option linter.unusedSimpArgs false
set_option maxRecDepth 100000
def solid_put (out_ : (List Slab)) (x_ : Slab) : Option ((List Slab)) :=
 if ((x_.Area.length : Int) == 0) then
  some out_
 else
  (subI (out_.length : Int) 1).bind fun x557_2 =>
  (if (decide (0 ≤ x557_2)) then
   (getI out_ x557_2).bind fun x558_5 =>
   some (x558_5.Z1 == x_.Z0)
  else
   some false).bind fun x558_11 =>
  (if x558_11 then
   (getI out_ x557_2).bind fun x558_15 =>
   (region_Same x558_15.Area x_.Area).bind fun x558_20 =>
   some x558_20
  else
   some false).bind fun x558_21 =>
  if x558_21 then
   (getI out_ x557_2).bind fun x559_4 =>
   (some (out_.set (x557_2).toNat ({ x559_4 with Z1 := x_.Z1 }))).bind fun x559_6 =>
   some x559_6
  else
   (appI out_ ([x_])).bind fun x565_3 =>
   some x565_3
theorem solid_put_ok {k0 : K} {v0 v1 : Value} {out_ : (List Slab)} {x_ : Slab} {r : (List Slab)} (i0 : (IsOwn 0 47 out_) v0 k0) (i1 : (IsV x_) v1 k0) (hr : solid_put out_ x_ = some r) :
  Calls Try.prog 31 #[v0, v1] k0.w (RetC (obF v0) k0 (IsOwnW v0 k0 47 r)) := by
 unfold solid_put at hr
 refine enterK Try.func31 rfl Try.ntmps31 (show 2 ≤ 47 by decide) fun a k hk0 hs hd ha => ?_
 obtain ⟨e0, e1, _⟩ := ha
 replace i0 : (IsOwn 0 47 out_) (a.get 0) k := by rw [e0, hk0]; exact i0
 replace i1 : (IsV x_) (a.get 1) k := by rw [e1, hk0]; exact i1
 have n0 : Wr (obF v0) k0 (obF (a.get 0)) := fun b h => .inl (by rwa [e0] at h)
 have hQ : Gb.LetsOut (bodyPost Try.prog Try.f31 (RetC (obF v0) k0 (IsOwnW v0 k0 47 r))) := letsOutC
 have hg : Chg (obF v0) k0 k := by rw [hk0]; exact Chg.refl _ k0
 refine cutS (fun a' k' => Bs (obF v0) k0 47 a' k' ∧ IsOwn 0 47 out_ (a'.get 0) k' ∧ Wr (obF v0) k0 (obF (a'.get 0)) ∧ (IsRef x_) (a'.get 3) k' ∧ True) ?_ ?_
 ·intro Q576 hQQ576 hp577
  refine gS 2 (⟨some (IsRef x_), [(1, none)]⟩ :: ⟨some IsE0, []⟩ :: []) hs (by kernel_rfl) ⟨ob1 rfl fun _ _ h n => ok_boxR rfl (up i1 h n.1), ob1 rfl fun b q h n => ok_assign rfl isE0_nil, trivial⟩ hQQ576 fun b q p => ?_
  exact tail_done (k := q) (hp577 _ _ ⟨Bs.post ⟨hg, hs, hd⟩ p, p.ke 0 rfl i0, (by rw [p.old 0 rfl]; exact n0), p.ou 0 3 rfl, trivial⟩)
 rintro a k ⟨⟨hg, hs, hd⟩, i0, n0, i3, _⟩
 refine wp_seq ?_
 refine cutS (fun a' k' => Bs (obF v0) k0 47 a' k' ∧ IsOwn 0 47 out_ (a'.get 0) k' ∧ Wr (obF v0) k0 (obF (a'.get 0)) ∧ (IsRef x_) (a'.get 3) k' ∧ (IsV ((x_.Area.length : Int) == 0)) (a'.get 9) k' ∧ True) ?_ ?_
 ·intro Q574 hQQ574 hp575
  refine gS 4 (_ :: _ :: _ :: _ :: []) hs (by kernel_rfl) ⟨o1 [(3, none)] rfl fun _ _ h n => ok_fieldAddr rfl fo47_2 (at_Slab_2 _) ((up i3 h n.1)).ptr, o1 [(6, some 0)] rfl fun _ _ h n => ok_load rfl ty44 n.1, o1 [(7, some 1)] rfl fun _ _ h n => ok_len rfl rfl Try.underlying44 (IsV.rd n.1), o1 [(8, some 2)] rfl fun _ _ h n => ok_eqI rfl n.1 (cI rfl), trivial⟩ hQQ574 fun b q p => ?_
  exact tail_done (k := q) (hp575 _ _ ⟨Bs.post ⟨hg, hs, hd⟩ p, p.ke 0 rfl i0, (by rw [p.old 0 rfl]; exact n0), p.ke 3 rfl i3, p.ou 3 9 rfl, trivial⟩)
 rintro a k ⟨⟨hg, hs, hd⟩, i0, n0, i3, i9, _⟩
 refine wp_cond_split (isBool i9) (fun hc573 => ?_) (fun hc573 => ?_)
 ·rw [if_pos hc573] at hr
  refine cutS (fun a' k' => Bs (obF v0) k0 47 a' k' ∧ IsOwn 0 47 out_ (a'.get 4) k' ∧ Wr (obF v0) k0 (obF (a'.get 4)) ∧ True) ?_ ?_
  ·intro Q555 hQQ555 hp556
   refine gS 2 (⟨some (OwnAt (a.get 0) 0 47 out_), [(0, none)]⟩ :: ⟨some (OwnAt (a.get 0) 0 47 out_), [(10, some 0)]⟩ :: []) hs (by kernel_rfl) ⟨ob1 rfl fun _ _ h n => ok_moveOA (.inl rfl) (ownAt n.1 (up i0 h n.1)), ob1 rfl fun _ _ h n => ok_moveOA (.inr rfl) n.1, trivial⟩ hQQ555 fun b q p => ?_
   have hgq := hg.then p.grow
   have hsb := p.size.trans hs
   have hdb := p.defers.trans hd
   have e4 : b.get 4 = a.get 0 := (p.ou 1 4 rfl).1
   have j4 : IsOwn 0 47 out_ (b.get 4) q := (p.ou 1 4 rfl).2
   have y4 : Wr (obF v0) k0 (obF (b.get 4)) := by rw [e4]; exact n0
   exact tail_done (k := q) (hp556 _ _ ⟨⟨hgq, hsb, hdb⟩, j4, y4, trivial⟩)
  rintro a k ⟨⟨hg, hs, hd⟩, i4, n4, _⟩
  refine wp_ret ?_
  obtain rfl := Option.some.inj hr
  exact retC1 rfl hd hg (show ResOk _ _ _ (.tmp 4) (IsOwnW _ _ _ _) from ⟨i4, n4⟩)
 rw [if_neg (by rw [hc573]; decide)] at hr
 refine wp_skip ?_
 refine wp_seq ?_
 refine wp_seq ?_
 obtain ⟨x557_2, hx557_2, hr⟩ := bind_some hr
 refine cut (fun a' k' => Bs (obF v0) k0 47 a' k' ∧ IsOwn 0 47 out_ (a'.get 0) k' ∧ Wr (obF v0) k0 (obF (a'.get 0)) ∧ (IsRef x_) (a'.get 3) k' ∧ (IsV x557_2) (a'.get 5) k' ∧ True) ?_ hQ ?_
 ·intro Q571 hQQ571 hp572
  refine gS 4 (⟨some (OwnAt (a.get 0) 0 47 out_), [(0, none)]⟩ :: _ :: _ :: _ :: []) hs (by kernel_rfl) ⟨ob1 rfl fun _ _ h n => ok_moveOA (.inl rfl) (ownAt n.1 (up i0 h n.1)), o1 [(11, some 0)] rfl fun _ _ h n => ok_len rfl rfl Try.underlying24 (IsOwn.rd (n.1).2), o1 [(12, some 1)] rfl fun _ _ h n => ok_sub rfl n.1 (cI rfl) hx557_2, cp 2 rfl rfl, trivial⟩ hQQ571 fun b q p => ?_
  exact tail_done (k := q) (hp572 _ _ ⟨Bs.post ⟨hg, hs, hd⟩ p, p.ke 0 rfl i0, (by rw [p.old 0 rfl]; exact n0), p.ke 3 rfl i3, p.ou 3 5 rfl, trivial⟩)
 rintro a k ⟨⟨hg, hs, hd⟩, i0, n0, i3, i5, _⟩
 refine wp_seq ?_
 obtain ⟨x558_11, hx558_11, hr⟩ := bind_some hr
 obtain ⟨x558_5, hx558_5, hx558_11⟩ := ite_bind hx558_11
 obtain ⟨x558_21, hx558_21, hr⟩ := bind_some hr
 obtain ⟨x558_15, hx558_15, hx558_21⟩ := ite_bind hx558_21
 obtain ⟨x558_20, hx558_20, hx558_21⟩ := ite_bind hx558_21
 refine cut (fun a' k' => Bs (obF v0) k0 47 a' k' ∧ IsOwn 0 47 out_ (a'.get 0) k' ∧ Wr (obF v0) k0 (obF (a'.get 0)) ∧ (IsRef x_) (a'.get 3) k' ∧ (IsV x557_2) (a'.get 5) k' ∧ (IsV x558_21) (a'.get 35) k' ∧ True) ?_ hQ ?_
 ·intro Q569 hQQ569 hp570
  refine region (a0 := a) (k0 := k) (n := 47) (m := 22) (⟨some (IsV x557_2), [(5, none)]⟩ :: ⟨some (IsV (decide (0 ≤ x557_2))), [(14, some 0)]⟩ :: ⟨some (IsV (decide (0 ≤ x557_2))), [(15, some 1)]⟩ :: ⟨some (Gd ((decide (0 ≤ x557_2)) = true) (OwnAt (a.get 0) 0 47 out_)), [(0, none)]⟩ :: ⟨some (Gd ((decide (0 ≤ x557_2)) = true) (IsV x557_2)), [(5, none)]⟩ :: ⟨some (Gd ((decide (0 ≤ x557_2)) = true) (IsPtr x558_5)), [(17, some 3), (18, some 4)]⟩ :: ⟨some (Gd ((decide (0 ≤ x557_2)) = true) (IsPtr x558_5.Z1)), [(19, some 5)]⟩ :: ⟨some (Gd ((decide (0 ≤ x557_2)) = true) (IsV x558_5.Z1)), [(20, some 6)]⟩ :: ⟨some (Gd ((decide (0 ≤ x557_2)) = true) (IsPtr x_.Z0)), [(3, none)]⟩ :: ⟨some (Gd ((decide (0 ≤ x557_2)) = true) (IsV x_.Z0)), [(22, some 8)]⟩ :: ⟨some (Gd ((decide (0 ≤ x557_2)) = true) (IsV (x558_5.Z1 == x_.Z0))), [(21, some 7), (23, some 9)]⟩ :: ⟨some (IsV x558_11), [(16, some 2), (24, some 10)]⟩ :: ⟨some (IsV x558_11), [(25, some 11)]⟩ :: ⟨some (Gd (x558_11 = true) (OwnAt (a.get 0) 0 47 out_)), [(0, none)]⟩ :: ⟨some (Gd (x558_11 = true) (IsV x557_2)), [(5, none)]⟩ :: ⟨some (Gd (x558_11 = true) (IsPtr x558_15)), [(27, some 13), (28, some 14)]⟩ :: ⟨some (Gd (x558_11 = true) (IsPtr x558_15.Area)), [(29, some 15)]⟩ :: ⟨some (Gd (x558_11 = true) (IsV x558_15.Area)), [(30, some 16)]⟩ :: ⟨some (Gd (x558_11 = true) (IsPtr x_.Area)), [(3, none)]⟩ :: ⟨some (Gd (x558_11 = true) (IsV x_.Area)), [(32, some 18)]⟩ :: ⟨some (Gd (x558_11 = true) (IsV x558_20)), [(31, some 17), (33, some 19)]⟩ :: ⟨some (IsV x558_21), [(26, some 12), (34, some 20)]⟩ :: []) hmix hs (by kernel_rfl) ⟨ob1 rfl fun b q hk hn => ok_move rfl (up i5 hk hn.1), ob1 rfl fun b q hk hn => ok_geq rfl hn.1 (isV_int.2 rfl), ob1 rfl fun b q hk hn => ok_move rfl hn.1, gdT rfl rfl fun hp b q hk hn => ok_moveOA (.inl rfl) (ownAt hn.1 (up i0 hk hn.1)), gdT rfl rfl fun hp b q hk hn => ok_move rfl (up i5 hk hn.1), gdT rfl rfl fun hp b q hk hn => ok_indexAddr rfl Try.underlying24 ty47 (IsOwn.rd ((Gd.get hn.1 hp)).2) (Gd.get hn.2.1 hp) (hx558_5 hp), gdT rfl rfl fun hp b q hk hn => ok_fieldAddr rfl fo47_1 (at_Slab_1 _) (Gd.get hn.1 hp), gdT rfl rfl fun hp b q hk hn => ok_load rfl ty3 (Gd.get hn.1 hp), gdT rfl rfl fun hp b q hk hn => ok_fieldAddr rfl fo47_0 (at_Slab_0 _) ((up i3 hk hn.1)).ptr, gdT rfl rfl fun hp b q hk hn => ok_load rfl ty3 (Gd.get hn.1 hp), gdT rfl rfl fun hp b q hk hn => ok_eqI rfl (Gd.get hn.1 hp) (Gd.get hn.2.1 hp), ob1 rfl fun b q hk hn => ok_pickM rfl hn.1 hx558_11 (fun hm => (Gd.get hn.2.1 hm)) (fun _ => (isV_bool.2 rfl)), ob1 rfl fun b q hk hn => ok_move rfl hn.1, gdT rfl rfl fun hp b q hk hn => ok_moveOA (.inl rfl) (ownAt hn.1 (up i0 hk hn.1)), gdT rfl rfl fun hp b q hk hn => ok_move rfl (up i5 hk hn.1), gdT rfl rfl fun hp b q hk hn => ok_indexAddr rfl Try.underlying24 ty47 (IsOwn.rd ((Gd.get hn.1 hp)).2) (Gd.get hn.2.1 hp) (hx558_15 hp), gdT rfl rfl fun hp b q hk hn => ok_fieldAddr rfl fo47_2 (at_Slab_2 _) (Gd.get hn.1 hp), gdT rfl rfl fun hp b q hk hn => ok_load rfl ty44 (Gd.get hn.1 hp), gdT rfl rfl fun hp b q hk hn => ok_fieldAddr rfl fo47_2 (at_Slab_2 _) ((up i3 hk hn.1)).ptr, gdT rfl rfl fun hp b q hk hn => ok_load rfl ty44 (Gd.get hn.1 hp), gdT rfl rfl fun hp b q hk hn => ok_call rfl Try.call35 (region_Same_ok (Gd.get hn.1 hp) (Gd.get hn.2.1 hp) (hx558_20 hp)), ob1 rfl fun b q hk hn => ok_pickM rfl hn.1 hx558_21 (fun hm => (Gd.get hn.2.1 hm)) (fun _ => (isV_bool.2 rfl)), trivial⟩ hQQ569 fun b q p => ?_
  exact tail_done (k := q) (hp570 _ _ ⟨Bs.post ⟨hg, hs, hd⟩ p, p.ke 0 rfl i0, (by rw [p.old 0 rfl]; exact n0), p.ke 3 rfl i3, p.ke 5 rfl i5, p.ou 21 35 rfl, trivial⟩)
 rintro a k ⟨⟨hg, hs, hd⟩, i0, n0, i3, i5, i35, _⟩
 refine wp_cond_split (isBool i35) (fun hc568 => ?_) (fun hc568 => ?_)
 ·rw [if_pos hc568] at hr
  refine wp_seq ?_
  obtain ⟨x559_4, hx559_4, hr⟩ := bind_some hr
  obtain ⟨x559_6, hx559_6, hr⟩ := bind_some hr
  refine cut (fun a' k' => Bs (obF v0) k0 47 a' k' ∧ IsOwn 0 47 x559_6 (a'.get 0) k' ∧ Wr (obF v0) k0 (obF (a'.get 0)) ∧ True) ?_ hQ ?_
  ·intro Q563 hQQ563 hp564
   refine gS 6 (⟨some (OwnAt (a.get 0) 0 47 out_), [(0, none)]⟩ :: _ :: _ :: _ :: ⟨some (IsAdrO (a.get 0) ((x557_2).toNat * Enc.sz Slab)), [(36, some 0), (37, some 1)]⟩ :: _ :: []) hs (by kernel_rfl) ⟨ob1 rfl fun _ _ h n => ok_moveOA (.inl rfl) (ownAt n.1 (up i0 h n.1)), mu rfl i5, o1 [(3, none)] rfl fun _ _ h n => ok_fieldAddr rfl fo47_1 (at_Slab_1 _) ((up i3 h n.1)).ptr, o1 [(38, some 2)] rfl fun _ _ h n => ok_load rfl ty3 n.1, ob1 rfl fun _ _ h n => ok_indexO rfl Try.underlying24 ty47 n.1 n.2.1 hx559_4, o1 [(40, some 4)] rfl fun _ _ h n => ok_fieldAdrO rfl fo47_1 n.1, trivial⟩ hQQ563 fun b q p => ?_
   have hgq := hg.then p.grow
   have hsb := p.size.trans hs
   have hdb := p.defers.trans hd
   have j0 := p.ke 0 rfl i0
   have y0 : Wr (obF v0) k0 (obF (b.get 0)) := by rw [p.old 0 rfl]; exact n0
   have j39 : (IsV x_.Z1) (b.get 39) q := p.ou 3 39 rfl
   have j41 : IsAdrO (a.get 0) ((x557_2).toNat * Enc.sz Slab + 1) (b.get 41) q := p.ou 5 41 rfl
   have eo : b.get 0 = a.get 0 := p.old 0 rfl
   have hns := j0.nshF
   refine tail_storeS (i := 6) (u := b.get 0) (m := (x557_2).toNat) (off := 0 + 1) rfl rfl rfl rfl szf3 upd_F47_1 (by rw [eo]; exact j41) j0 (getI_spec hx559_4).2.1 j39 fun q2 hch hz => ?_
   replace hgq := hgq.step hch y0
   have hle := hch.le hns
   replace j39 := Pers.pers hle j39
   replace j41 := Pers.pers hle j41
   replace j0 := hz
   rw [Option.some.inj hx559_6] at j0
   clear hns hle hch eo hz
   obtain ⟨q, hqq⟩ : ∃ q, q = q2 := ⟨q2, rfl⟩
   subst hqq
   exact tail_done (k := q) (hp564 _ _ ⟨⟨hgq, hsb, hdb⟩, j0, y0, trivial⟩)
  rintro a k ⟨⟨hg, hs, hd⟩, i0, n0, _⟩
  refine cutS (fun a' k' => Bs (obF v0) k0 47 a' k' ∧ IsOwn 0 47 x559_6 (a'.get 4) k' ∧ Wr (obF v0) k0 (obF (a'.get 4)) ∧ True) ?_ ?_
  ·intro Q561 hQQ561 hp562
   refine gS 2 (⟨some (OwnAt (a.get 0) 0 47 x559_6), [(0, none)]⟩ :: ⟨some (OwnAt (a.get 0) 0 47 x559_6), [(42, some 0)]⟩ :: []) hs (by kernel_rfl) ⟨ob1 rfl fun _ _ h n => ok_moveOA (.inl rfl) (ownAt n.1 (up i0 h n.1)), ob1 rfl fun _ _ h n => ok_moveOA (.inr rfl) n.1, trivial⟩ hQQ561 fun b q p => ?_
   have hgq := hg.then p.grow
   have hsb := p.size.trans hs
   have hdb := p.defers.trans hd
   have e4 : b.get 4 = a.get 0 := (p.ou 1 4 rfl).1
   have j4 : IsOwn 0 47 x559_6 (b.get 4) q := (p.ou 1 4 rfl).2
   have y4 : Wr (obF v0) k0 (obF (b.get 4)) := by rw [e4]; exact n0
   exact tail_done (k := q) (hp562 _ _ ⟨⟨hgq, hsb, hdb⟩, j4, y4, trivial⟩)
  rintro a k ⟨⟨hg, hs, hd⟩, i4, n4, _⟩
  refine wp_ret ?_
  obtain rfl := Option.some.inj hr
  exact retC1 rfl hd hg (show ResOk _ _ _ (.tmp 4) (IsOwnW _ _ _ _) from ⟨i4, n4⟩)
 rw [if_neg (by rw [hc568]; decide)] at hr
 refine wp_skip ?_
 refine wp_seq ?_
 obtain ⟨x565_3, hx565_3, hr⟩ := bind_some hr
 refine cut (fun a' k' => Bs (obF v0) k0 47 a' k' ∧ IsOwn 0 47 x565_3 (a'.get 4) k' ∧ Wr (obF v0) k0 (obF (a'.get 4)) ∧ True) ?_ hQ ?_
 ·intro Q566 hQQ566 hp567
  refine gS 3 (⟨some (OwnAt (a.get 0) 0 47 out_), [(0, none)]⟩ :: _ :: ⟨some (IsV (α := (List Slab)) ([x_])), [(44, some 1)]⟩ :: []) hs (by kernel_rfl) ⟨ob1 rfl fun _ _ h n => ok_moveOA (.inl rfl) (ownAt n.1 (up i0 h n.1)), o1 [(3, none)] rfl fun _ _ h n => ok_load rfl ty47 ((up i3 h n.1)).ptr, ob1 rfl fun _ _ h n => ok_buildSlice rfl Try.underlying24 eo47 rfl (by decide) (by decide) ⟨rfl, n.1, trivial⟩, trivial⟩ hQQ566 fun b q p => ?_
  have hgq := hg.then p.grow
  have hsb := p.size.trans hs
  have hdb := p.defers.trans hd
  have e43 : b.get 43 = a.get 0 := (p.ou 0 43 rfl).1
  have j43 : IsOwn 0 47 out_ (b.get 43) q := (p.ou 0 43 rfl).2
  have y43 : Wr (obF v0) k0 (obF (b.get 43)) := by rw [e43]; exact n0
  have j45 : (IsV (α := (List Slab)) ([x_])) (b.get 45) q := p.ou 2 45 rfl
  have hns := j43.nshF
  refine tail_appendS (i := 3) (d := 46) rfl rfl rfl rfl (by rw [hsb]; decide) (e := 47) Try.underlying24 eo47 j43 (IsV.rd j45) hx565_3 fun b2 q2 hsz hdf hoth hch hown hob => ?_
  have hle := hch.le hns
  have yn : Wr (obF v0) k0 (obF (b2.get 46)) := y43.app hgq hob
  replace j45 := Pers.pers hle j45
  replace hgq := hgq.step hch y43
  rw [← hoth 45 (by decide)] at j45
  have j46 := hown
  have y46 := yn
  replace hsb := hsz.trans hsb
  replace hdb := hdf.trans hdb
  clear hle hch hown hob hns yn hsz hdf hoth
  obtain ⟨b, hbb⟩ : ∃ b, b = b2 := ⟨b2, rfl⟩
  subst hbb
  obtain ⟨q, hqq⟩ : ∃ q, q = q2 := ⟨q2, rfl⟩
  subst hqq
  refine tail_assign (i := 4) (d := 4) rfl rfl (.inl rfl) rfl (by rw [hsb]; decide) fun b2 hsz hdf hnew hoth => ?_
  have jn : (IsOwn 0 47 x565_3) (b2.get 4) q := by rw [hnew]; exact j46
  have yn : Wr (obF v0) k0 (obF (b2.get 4)) := by rw [hnew]; exact y46
  rw [← hoth 45 (by decide)] at j45
  have j4 := jn
  have y4 := yn
  replace hsb := hsz.trans hsb
  replace hdb := hdf.trans hdb
  clear hsz hdf hoth
  obtain ⟨b, hbb⟩ : ∃ b, b = b2 := ⟨b2, rfl⟩
  subst hbb
  exact tail_done (k := q) (hp567 _ _ ⟨⟨hgq, hsb, hdb⟩, j4, y4, trivial⟩)
 rintro a k ⟨⟨hg, hs, hd⟩, i4, n4, _⟩
 refine wp_ret ?_
 obtain rfl := Option.some.inj hr
 exact retC1 rfl hd hg (show ResOk _ _ _ (.tmp 4) (IsOwnW _ _ _ _) from ⟨i4, n4⟩)
def solid_fits (out_ : (List Slab)) : Option ((List Slab) × Int) :=
 if (decide (80 < (out_.length : Int))) then
  some (([] : List Slab), 6)
 else
  some (out_, 0)
theorem solid_fits_ok {k0 : K} {v0 : Value} {out_ : (List Slab)} {r : (List Slab) × Int} (i0 : (IsV out_) v0 k0) (hr : solid_fits out_ = some r) :
  Calls Try.prog 32 #[v0] k0.w (Ret k0 (IsTup2 (IsV r.1) (IsV r.2))) := by
 unfold solid_fits at hr
 refine Ret.ofC ?_
 refine enterK Try.func32 rfl Try.ntmps32 (show 1 ≤ 8 by decide) fun a k hk0 hs hd ha => ?_
 obtain ⟨e0, _⟩ := ha
 replace i0 : (IsV out_) (a.get 0) k := by rw [e0, hk0]; exact i0
 have hQ : Gb.LetsOut (bodyPost Try.prog Try.f32 (RetC noF k0 (IsTup2 (IsV r.1) (IsV r.2)))) := letsOutC
 have hg : Chg noF k0 k := by rw [hk0]; exact Chg.refl _ k0
 refine stepL 2 (⟨some IsE0, []⟩ :: ⟨some (IsI 0), []⟩ :: []) rfl ⟨hg, hs, hd⟩ (by kernel_rfl) ⟨ob1 rfl fun b q h n => ok_assign rfl isE0_nil, aI rfl rfl, trivial⟩ [⟨_, _⟩] (fun b q p => ⟨p.ke 0 rfl i0, trivial⟩) ?_
 rintro a k ⟨⟨hg, hs, hd⟩, i0, _⟩
 refine wp_seq ?_
 refine stepL 3 (_ :: _ :: _ :: []) rfl ⟨hg, hs, hd⟩ (by kernel_rfl) ⟨mu rfl i0, o1 [(4, some 0)] rfl fun _ _ h n => ok_len rfl rfl Try.underlying24 (IsV.rd n.1), o1 [(5, some 1)] rfl fun _ _ h n => ok_gtr rfl n.1 (cI rfl), trivial⟩ [⟨_, _⟩, ⟨_, _⟩] (fun b q p => ⟨p.ke 0 rfl i0, p.ou 2 6 rfl, trivial⟩) ?_
 rintro a k ⟨⟨hg, hs, hd⟩, i0, i6, _⟩
 refine wp_cond_split (isBool i6) (fun hc586 => ?_) (fun hc586 => ?_)
 ·rw [if_pos hc586] at hr
  refine cutL noF k0 8 [⟨2, IsV ([] : List Slab)⟩, ⟨3, IsI 6⟩] ?_ ?_
  ·intro Q581 hQQ581 hp582
   refine gS 2 (⟨some IsE0, []⟩ :: ⟨some (IsI 6), []⟩ :: []) hs (by kernel_rfl) ⟨ob1 rfl fun b q h n => ok_assign rfl isE0_nil, aI rfl rfl, trivial⟩ hQQ581 fun b q p => ?_
   have hgq := hg.then p.grow
   have hsb := p.size.trans hs
   have hdb := p.defers.trans hd
   have j2 : IsE0 (b.get 2) q := p.ou 0 2 rfl
   have j3 : (IsI 6) (b.get 3) q := p.ou 1 3 rfl
   replace j2 : IsV ([] : List Slab) (b.get 2) q := j2.isV
   exact tail_done (k := q) (hp582 _ _ ⟨⟨hgq, hsb, hdb⟩, j2, j3, trivial⟩)
  rintro a k ⟨⟨hg, hs, hd⟩, i2, i3, _⟩
  refine wp_ret ?_
  obtain rfl := Option.some.inj hr
  exact retC2 rfl hd hg i2 i3
 rw [if_neg (by rw [hc586]; decide)] at hr
 refine wp_skip ?_
 refine stepL 3 (_ :: _ :: ⟨some (IsI 0), []⟩ :: []) rfl ⟨hg, hs, hd⟩ (by kernel_rfl) ⟨mu rfl i0, cp 0 rfl rfl, aI rfl rfl, trivial⟩ [⟨_, _⟩, ⟨_, _⟩] (fun b q p => ⟨p.ou 1 2 rfl, p.ou 2 3 rfl, trivial⟩) ?_
 rintro a k ⟨⟨hg, hs, hd⟩, i2, i3, _⟩
 refine wp_ret ?_
 obtain rfl := Option.some.inj hr
 exact retC2 rfl hd hg i2 i3
def solid_Of_L0 (l_ : (List Box)) (s594 : (List Slab) × Int) : Option (Flow ((List Slab) × Int) ((List Slab) × Int)) :=
 if (decide (s594.2 < (l_.length : Int))) then
  (getI l_ s594.2).bind fun x599_0 =>
  (rect_Right x599_0.Base).bind fun x600_2 =>
  if ((((!x600_2) || (decide (x599_0.Z0 < 0))) || (decide (x599_0.Z1 ≤ x599_0.Z0))) || (decide (4096 < x599_0.Z1))) then
   some (.ret (([] : List Slab), 1))
  else
   (appI s594.1 ([(⟨x599_0.Z0, x599_0.Z1, []⟩ : Slab)])).bind fun x604_7 =>
   (addI s594.2 1).bind fun x605_0 =>
   some (.go (x604_7, x605_0))
 else
  some (.ex 0 (s594.1, s594.2))
def solid_Of_L2 (l_ : (List Box)) (x625_2 : (List Int)) (s628 : (List Slab) × Int) (s635 : (List Rect) × Int) : Option (Flow ((List Rect) × Int) ((List Slab) × Int)) :=
 if (decide (s635.2 < (l_.length : Int))) then
  (getI l_ s635.2).bind fun x640_0 =>
  (getI x625_2 s628.2).bind fun x641_4 =>
  (if (decide (x640_0.Z0 < x641_4)) then
   (subI s628.2 1).bind fun x641_10 =>
   (getI x625_2 x641_10).bind fun x641_11 =>
   some (decide (x641_11 < x640_0.Z1))
  else
   some false).bind fun x641_16 =>
  (if x641_16 then
   (appI s635.1 ([x640_0.Base])).bind fun x644_4 =>
   some x644_4
  else
   some s635.1).bind fun s642 =>
  (addI s635.2 1).bind fun x648_0 =>
  some (.go (s642, x648_0))
 else
  some (.ex 4 (s635.1, s635.2))
def solid_Of_L1 (l_ : (List Box)) (x625_2 : (List Int)) (s628 : (List Slab) × Int) : Option (Flow ((List Slab) × Int) ((List Slab) × Int)) :=
 if (decide (s628.2 < (x625_2.length : Int))) then
  (iterL (solid_Of_L2 l_ x625_2 s628) (l_.length + 1) (([] : List Rect), 0)).bind fun f660 => match f660 with
   | .go _ => none
   | .ex _ s661 =>
    (region_Of s661.1).bind fun x662_1 =>
    if (x662_1.2 != 0) then
     some (.ret (([] : List Slab), x662_1.2))
    else
     (subI s628.2 1).bind fun x667_3 =>
     (getI x625_2 x667_3).bind fun x667_4 =>
     (getI x625_2 s628.2).bind fun x667_8 =>
     (solid_put s628.1 (⟨x667_4, x667_8, x662_1.1⟩ : Slab)).bind fun x667_12 =>
     (addI s628.2 1).bind fun x668_1 =>
     some (.go (x667_12, x668_1))
   | .ret r678 => some (.ret r678)
 else
  some (.ex 2 (s628.1, s628.2))
def solid_Of (l_ : (List Box)) : Option ((List Slab) × Int) :=
 (iterL (solid_Of_L0 l_) (l_.length + 1) (([] : List Slab), 0)).bind fun f619 => match f619 with
  | .go _ => none
  | .ex _ s620 =>
   if (decide (200 < (l_.length : Int))) then
    some (([] : List Slab), 6)
   else
    (solid_heights ([s620.1])).bind fun x625_2 =>
    (iterL (solid_Of_L1 l_ x625_2) (l_.length + x625_2.length + ([] : List Slab).length + 1) (([] : List Slab), 1)).bind fun f688 => match f688 with
     | .go _ => none
     | .ex _ s689 =>
      (solid_fits s689.1).bind fun x690_1 =>
      some (x690_1.1, x690_1.2)
     | .ret r693 => some r693
  | .ret r704 => some r704
theorem solid_Of_ok {k0 : K} {v0 : Value} {l_ : (List Box)} {r : (List Slab) × Int} (i0 : (IsV l_) v0 k0) (hr : solid_Of l_ = some r) :
  Calls Try.prog 9 #[v0] k0.w (Ret k0 (IsTup2 (IsV r.1) (IsV r.2))) := by
 unfold solid_Of at hr
 refine Ret.ofC ?_
 refine enterK Try.func9 rfl Try.ntmps9 (show 1 ≤ 117 by decide) fun a k hk0 hs hd ha => ?_
 obtain ⟨e0, _⟩ := ha
 replace i0 : (IsV l_) (a.get 0) k := by rw [e0, hk0]; exact i0
 have hQ : Gb.LetsOut (bodyPost Try.prog Try.f9 (RetC noF k0 (IsTup2 (IsV r.1) (IsV r.2)))) := letsOutC
 have hg : Chg noF k0 k := by rw [hk0]; exact Chg.refl _ k0
 refine stepL 2 (⟨some IsE0, []⟩ :: ⟨some (IsI 0), []⟩ :: []) rfl ⟨hg, hs, hd⟩ (by kernel_rfl) ⟨ob1 rfl fun b q h n => ok_assign rfl isE0_nil, aI rfl rfl, trivial⟩ [⟨_, _⟩] (fun b q p => ⟨p.ke 0 rfl i0, trivial⟩) ?_
 rintro a k ⟨⟨hg, hs, hd⟩, i0, _⟩
 refine cutS (fun a' k' => Bs noF k0 117 a' k' ∧ (IsV l_) (a'.get 0) k' ∧ IsOwn 0 47 ([] : List Slab) (a'.get 4) k' ∧ Lo k0 (obF (a'.get 4)) ∧ True) ?_ ?_
 ·intro Q708 hQQ708 hp709
  refine gS 1 (⟨some IsE0, []⟩ :: []) hs (by kernel_rfl) ⟨ob1 rfl fun b q h n => ok_assign rfl isE0_nil, trivial⟩ hQQ708 fun b q p => ?_
  have hgq := hg.then p.grow
  have hsb := p.size.trans hs
  have hdb := p.defers.trans hd
  have j0 := p.ke 0 rfl i0
  have j4 : IsE0 (b.get 4) q := p.ou 0 4 rfl
  have y4 : Lo k0 (obF (b.get 4)) := j4.lo
  replace j4 : IsOwn 0 47 ([] : List Slab) (b.get 4) q := j4.own0
  exact tail_done (k := q) (hp709 _ _ ⟨⟨hgq, hsb, hdb⟩, j0, j4, y4, trivial⟩)
 rintro a k ⟨⟨hg, hs, hd⟩, i0, i4, n4, _⟩
 refine wp_seq ?_
 refine cutS (fun a' k' => Bs noF k0 117 a' k' ∧ (IsV l_) (a'.get 0) k' ∧ IsOwn 0 47 ([] : List Slab) (a'.get 4) k' ∧ Lo k0 (obF (a'.get 4)) ∧ (IsV l_) (a'.get 15) k' ∧ (IsL l_) (a'.get 16) k' ∧ (IsI 0) (a'.get 17) k' ∧ True) ?_ ?_
 ·intro Q706 hQQ706 hp707
  refine gS 3 (_ :: _ :: ⟨some (IsI 0), []⟩ :: []) hs (by kernel_rfl) ⟨mu rfl i0, o1 [(15, some 0)] rfl fun _ _ h n => ok_len rfl rfl Try.underlying22 (IsV.rd n.1), ob1 rfl fun _ _ h n => ok_move rfl (cI rfl), trivial⟩ hQQ706 fun b q p => ?_
  exact tail_done (k := q) (hp707 _ _ ⟨Bs.post ⟨hg, hs, hd⟩ p, p.ke 0 rfl i0, p.ke 4 rfl i4, (by rw [p.old 4 rfl]; exact n4), p.ou 0 15 rfl, p.ou 1 16 rfl, p.ou 2 17 rfl, trivial⟩)
 rintro a k ⟨⟨hg, hs, hd⟩, i0, i4, n4, i15, i16, i17, _⟩
 refine wp_block ?_
 obtain ⟨f619, hf619, hr⟩ := bind_some hr
 refine cutFe f619 (fun s' a' k' => Bs noF k0 117 a' k' ∧ (IsV l_) (a'.get 0) k' ∧ IsOwn 0 47 s'.1 (a'.get 4) k' ∧ Lo k0 (obF (a'.get 4)) ∧ (IsV l_) (a'.get 15) k' ∧ (IsL l_) (a'.get 16) k' ∧ (IsV s'.2) (a'.get 17) k' ∧ True) (fun i' s' a' k' => (i' = 0 ∧ Bs noF k0 117 a' k' ∧ (IsV l_) (a'.get 0) k' ∧ (IsV s'.1) (a'.get 4) k' ∧ True)) (fun r' a' k' => bodyPost Try.prog Try.f9 (RetC noF k0 (IsTup2 (IsV r'.1) (IsV r'.2))) .ret a' k'.w) ?_ hQ ?_ ?_ ?_
 ·intro Q705 hQQ705 hgo hex hret
  refine sim_loop ?_ _ _ _ _ _ hf619 ⟨⟨hg, hs, hd⟩, i0, i4, n4, i15, i16, i17, trivial⟩ Q705 hQQ705 hgo hex hret
  clear hr hf619 hgo hex hret hQQ705 hQ hg hs hd i0 i15 i16 i17 i4 n4
  intro s594 fl_ a k hr hS Q hQ hgo595 hex596 hret597
  obtain ⟨⟨hg, hs, hd⟩, i0, i4, n4, i15, i16, i17, _⟩ := hS
  unfold solid_Of_L0 at hr
  refine cutS (fun a' k' => Bs noF k0 117 a' k' ∧ (IsV l_) (a'.get 0) k' ∧ IsOwn 0 47 s594.1 (a'.get 4) k' ∧ Lo k0 (obF (a'.get 4)) ∧ (IsV l_) (a'.get 15) k' ∧ (IsL l_) (a'.get 16) k' ∧ (IsV s594.2) (a'.get 17) k' ∧ (IsV (decide (s594.2 < (l_.length : Int)))) (a'.get 18) k' ∧ True) ?_ ?_
  ·intro Q617 hQQ617 hp618
   refine gS 1 (_ :: []) hs (by kernel_rfl) ⟨o1 [(17, none), (16, none)] rfl fun _ _ h n => ok_lss rfl (up i17 h n.1) (up i16 h n.2.1), trivial⟩ hQQ617 fun b q p => ?_
   exact tail_done (k := q) (hp618 _ _ ⟨Bs.post ⟨hg, hs, hd⟩ p, p.ke 0 rfl i0, p.ke 4 rfl i4, (by rw [p.old 4 rfl]; exact n4), p.ke 15 rfl i15, p.ke 16 rfl i16, p.ke 17 rfl i17, p.ou 0 18 rfl, trivial⟩)
  rintro a k ⟨⟨hg, hs, hd⟩, i0, i4, n4, i15, i16, i17, i18, _⟩
  refine wp_seq ?_
  refine wp_cond_split (isBool i18) (fun hc616 => ?_) (fun hc616 => ?_)
  ·rw [if_pos hc616] at hr
   refine wp_skip ?_
   refine wp_seq ?_
   refine wp_block ?_
   refine wp_seq ?_
   obtain ⟨x599_0, hx599_0, hr⟩ := bind_some hr
   refine cut (fun a' k' => Bs noF k0 117 a' k' ∧ (IsV l_) (a'.get 0) k' ∧ IsOwn 0 47 s594.1 (a'.get 4) k' ∧ Lo k0 (obF (a'.get 4)) ∧ (IsRef x599_0) (a'.get 6) k' ∧ (IsV l_) (a'.get 15) k' ∧ (IsL l_) (a'.get 16) k' ∧ (IsV s594.2) (a'.get 17) k' ∧ True) ?_ hQ ?_
   ·intro Q613 hQQ613 hp614
    refine gS 3 (_ :: _ :: ⟨some (IsBox k.w.heap.size (⟨(⟨0, 0, 0, 0⟩ : Rect), 0, 0⟩ : Box)), []⟩ :: []) hs (by kernel_rfl) ⟨o1 [(15, none), (17, none)] rfl fun _ _ h n => ok_indexAddr rfl Try.underlying22 ty32 (IsV.rd (up i15 h n.1)) (up i17 h n.2.1) hx599_0, o1 [(19, some 0)] rfl fun _ _ h n => ok_load rfl ty32 n.1, ob1 rfl fun _ _ h n => ok_alloc _ h.size rfl z32, trivial⟩ hQQ613 fun b q p => ?_
    have hgq := hg.then p.grow
    have hsb := p.size.trans hs
    have hdb := p.defers.trans hd
    have j0 := p.ke 0 rfl i0
    have j4 := p.ke 4 rfl i4
    have y4 : Lo k0 (obF (b.get 4)) := by rw [p.old 4 rfl]; exact n4
    obtain ⟨b6, j6, x6, z6⟩ : (IsBox k.w.heap.size (⟨(⟨0, 0, 0, 0⟩ : Rect), 0, 0⟩ : Box)) (b.get 6) q := p.ou 2 6 rfl
    replace x6 : Lo k (Eq b6) := Lo.eq x6
    have y6 : Lo k0 (Eq b6) := x6.chg hg
    have j15 := p.ke 15 rfl i15
    have j16 := p.ke 16 rfl i16
    have j17 := p.ke 17 rfl i17
    have j20 : (IsV x599_0) (b.get 20) q := p.ou 1 20 rfl
    have w4_6 : Apart (obF (b.get 4)) (Eq b6) := Apart.new (by rw [p.old 4 rfl]; exact i4.ltF) x6
    have hns := z6.nshF
    refine tail_storeB (i := 3) rfl rfl rfl rfl szf32 (Upd.self (α := Box)) j6 z6 j20 fun q2 hch hz => ?_
    replace hgq := hgq.step hch y6.wr
    have hle := hch.le hns
    replace j0 := Pers.pers hle j0
    replace j4 := j4.keep hch w4_6 hns
    replace j15 := Pers.pers hle j15
    replace j16 := Pers.pers hle j16
    replace j17 := Pers.pers hle j17
    replace j20 := Pers.pers hle j20
    replace z6 := hz
    clear hns hle hch
    obtain ⟨q, hqq⟩ : ∃ q, q = q2 := ⟨q2, rfl⟩
    subst hqq
    obtain ⟨q2, hsh, jn⟩ := z6.give
    replace j0 := Pers.pers hsh.le j0
    replace j4 := j4.handed hsh w4_6
    replace j15 := Pers.pers hsh.le j15
    replace j16 := Pers.pers hsh.le j16
    replace j17 := Pers.pers hsh.le j17
    rw [← j6] at jn
    replace j6 := jn
    replace hgq := hgq.hand hsh y6.wr
    rw [← hsh.w]
    clear hsh
    obtain ⟨q, hqq⟩ : ∃ q, q = q2 := ⟨q2, rfl⟩
    subst hqq
    exact tail_done (k := q) (hp614 _ _ ⟨⟨hgq, hsb, hdb⟩, j0, j4, y4, j6, j15, j16, j17, trivial⟩)
   rintro a k ⟨⟨hg, hs, hd⟩, i0, i4, n4, i6, i15, i16, i17, _⟩
   refine wp_seq ?_
   refine wp_seq ?_
   obtain ⟨x600_2, hx600_2, hr⟩ := bind_some hr
   refine cut (fun a' k' => Bs noF k0 117 a' k' ∧ (IsV l_) (a'.get 0) k' ∧ IsOwn 0 47 s594.1 (a'.get 4) k' ∧ Lo k0 (obF (a'.get 4)) ∧ (IsRef x599_0) (a'.get 6) k' ∧ (IsV l_) (a'.get 15) k' ∧ (IsL l_) (a'.get 16) k' ∧ (IsV s594.2) (a'.get 17) k' ∧ (IsV ((((!x600_2) || (decide (x599_0.Z0 < 0))) || (decide (x599_0.Z1 ≤ x599_0.Z0))) || (decide (4096 < x599_0.Z1)))) (a'.get 41) k' ∧ True) ?_ hQ ?_
   ·intro Q611 hQQ611 hp612
    refine gS 21 (_ :: _ :: _ :: _ :: _ :: _ :: _ :: _ :: _ :: _ :: _ :: _ :: _ :: _ :: _ :: _ :: _ :: _ :: _ :: _ :: _ :: []) hs (by kernel_rfl) ⟨o1 [(6, none)] rfl fun _ _ h n => ok_fieldAddr rfl fo32_0 (at_Box_0 _) ((up i6 h n.1)).ptr, o1 [(21, some 0)] rfl fun _ _ h n => ok_load rfl ty30 n.1, o1 [(22, some 1)] rfl fun _ _ h n => ok_call rfl Try.call29 (rect_Right_ok n.1 hx600_2), o1 [(23, some 2)] rfl fun _ _ h n => ok_not rfl n.1, cm 3 rfl rfl, gF [(6, none)] rfl rfl fun hp _ _ h n => ok_fieldAddr rfl fo32_1 (at_Box_1 _) ((up i6 h n.1)).ptr, gF [(26, some 5)] rfl rfl fun hp _ _ h n => ok_load rfl ty3 (Gd.get n.1 hp), gF [(27, some 6)] rfl rfl fun hp _ _ h n => ok_lss rfl (Gd.get n.1 hp) (cI rfl), o1 [(25, some 4), (28, some 7)] rfl fun _ _ h n => ok_pickOr rfl n.1 (cB rfl) (Gd.get n.2.1), cm 8 rfl rfl, gF [(6, none)] rfl rfl fun hp _ _ h n => ok_fieldAddr rfl fo32_1 (at_Box_1 _) ((up i6 h n.1)).ptr, gF [(31, some 10)] rfl rfl fun hp _ _ h n => ok_load rfl ty3 (Gd.get n.1 hp), gF [(6, none)] rfl rfl fun hp _ _ h n => ok_fieldAddr rfl fo32_2 (at_Box_2 _) ((up i6 h n.1)).ptr, gF [(33, some 12)] rfl rfl fun hp _ _ h n => ok_load rfl ty3 (Gd.get n.1 hp), gF [(32, some 11), (34, some 13)] rfl rfl fun hp _ _ h n => ok_geq rfl (Gd.get n.1 hp) (Gd.get n.2.1 hp), o1 [(30, some 9), (35, some 14)] rfl fun _ _ h n => ok_pickOr rfl n.1 (cB rfl) (Gd.get n.2.1), cm 15 rfl rfl, gF [(6, none)] rfl rfl fun hp _ _ h n => ok_fieldAddr rfl fo32_2 (at_Box_2 _) ((up i6 h n.1)).ptr, gF [(38, some 17)] rfl rfl fun hp _ _ h n => ok_load rfl ty3 (Gd.get n.1 hp), gF [(39, some 18)] rfl rfl fun hp _ _ h n => ok_gtr rfl (Gd.get n.1 hp) (cI rfl), o1 [(37, some 16), (40, some 19)] rfl fun _ _ h n => ok_pickOr rfl n.1 (cB rfl) (Gd.get n.2.1), trivial⟩ hQQ611 fun b q p => ?_
    exact tail_done (k := q) (hp612 _ _ ⟨Bs.post ⟨hg, hs, hd⟩ p, p.ke 0 rfl i0, p.ke 4 rfl i4, (by rw [p.old 4 rfl]; exact n4), p.ke 6 rfl i6, p.ke 15 rfl i15, p.ke 16 rfl i16, p.ke 17 rfl i17, p.ou 20 41 rfl, trivial⟩)
   rintro a k ⟨⟨hg, hs, hd⟩, i0, i4, n4, i6, i15, i16, i17, i41, _⟩
   refine wp_cond_split (isBool i41) (fun hc610 => ?_) (fun hc610 => ?_)
   ·rw [if_pos hc610] at hr
    refine cutL noF k0 117 [⟨2, IsV ([] : List Slab)⟩, ⟨3, IsI 1⟩] ?_ ?_
    ·intro Q602 hQQ602 hp603
     refine gS 2 (⟨some IsE0, []⟩ :: ⟨some (IsI 1), []⟩ :: []) hs (by kernel_rfl) ⟨ob1 rfl fun b q h n => ok_assign rfl isE0_nil, aI rfl rfl, trivial⟩ hQQ602 fun b q p => ?_
     have hgq := hg.then p.grow
     have hsb := p.size.trans hs
     have hdb := p.defers.trans hd
     have j2 : IsE0 (b.get 2) q := p.ou 0 2 rfl
     have j3 : (IsI 1) (b.get 3) q := p.ou 1 3 rfl
     replace j2 : IsV ([] : List Slab) (b.get 2) q := j2.isV
     exact tail_done (k := q) (hp603 _ _ ⟨⟨hgq, hsb, hdb⟩, j2, j3, trivial⟩)
    rintro a k ⟨⟨hg, hs, hd⟩, i2, i3, _⟩
    refine wp_ret ?_
    exact hret597 _ _ _ (Option.some.inj hr).symm (retC2 rfl hd hg i2 i3)
   rw [if_neg (by rw [hc610]; decide)] at hr
   refine wp_skip ?_
   obtain ⟨x604_7, hx604_7, hr⟩ := bind_some hr
   refine cut (fun a' k' => Bs noF k0 117 a' k' ∧ (IsV l_) (a'.get 0) k' ∧ IsOwn 0 47 x604_7 (a'.get 4) k' ∧ Lo k0 (obF (a'.get 4)) ∧ (IsV l_) (a'.get 15) k' ∧ (IsL l_) (a'.get 16) k' ∧ (IsV s594.2) (a'.get 17) k' ∧ True) ?_ hQ ?_
   ·intro Q608 hQQ608 hp609
    refine gS 7 (⟨some (OwnAt (a.get 4) 0 47 s594.1), [(4, none)]⟩ :: _ :: _ :: _ :: _ :: ⟨some (IsV (⟨x599_0.Z0, x599_0.Z1, []⟩ : Slab)), [(44, some 2), (46, some 4)]⟩ :: ⟨some (IsV (α := (List Slab)) ([(⟨x599_0.Z0, x599_0.Z1, []⟩ : Slab)])), [(47, some 5)]⟩ :: []) hs (by kernel_rfl) ⟨ob1 rfl fun _ _ h n => ok_moveOA (.inl rfl) (ownAt n.1 (up i4 h n.1)), o1 [(6, none)] rfl fun _ _ h n => ok_fieldAddr rfl fo32_1 (at_Box_1 _) ((up i6 h n.1)).ptr, o1 [(43, some 1)] rfl fun _ _ h n => ok_load rfl ty3 n.1, o1 [(6, none)] rfl fun _ _ h n => ok_fieldAddr rfl fo32_2 (at_Box_2 _) ((up i6 h n.1)).ptr, o1 [(45, some 3)] rfl fun _ _ h n => ok_load rfl ty3 n.1, ob1 rfl fun _ _ h n => ok_build rfl (bld47_0_1 n.1 n.2.1), ob1 rfl fun _ _ h n => ok_buildSlice rfl Try.underlying24 eo47 rfl (by decide) (by decide) ⟨rfl, n.1, trivial⟩, trivial⟩ hQQ608 fun b q p => ?_
    have hgq := hg.then p.grow
    have hsb := p.size.trans hs
    have hdb := p.defers.trans hd
    have j0 := p.ke 0 rfl i0
    have j15 := p.ke 15 rfl i15
    have j16 := p.ke 16 rfl i16
    have j17 := p.ke 17 rfl i17
    have e42 : b.get 42 = a.get 4 := (p.ou 0 42 rfl).1
    have j42 : IsOwn 0 47 s594.1 (b.get 42) q := (p.ou 0 42 rfl).2
    have y42 : Lo k0 (obF (b.get 42)) := by rw [e42]; exact n4
    have j48 : (IsV (α := (List Slab)) ([(⟨x599_0.Z0, x599_0.Z1, []⟩ : Slab)])) (b.get 48) q := p.ou 6 48 rfl
    have hns := j42.nshF
    refine tail_appendS (i := 7) (d := 49) rfl rfl rfl rfl (by rw [hsb]; decide) (e := 47) Try.underlying24 eo47 j42 (IsV.rd j48) hx604_7 fun b2 q2 hsz hdf hoth hch hown hob => ?_
    have hle := hch.le hns
    have yn : Lo k0 (obF (b2.get 49)) := y42.app hgq hob
    replace j0 := Pers.pers hle j0
    replace j15 := Pers.pers hle j15
    replace j16 := Pers.pers hle j16
    replace j17 := Pers.pers hle j17
    replace j48 := Pers.pers hle j48
    replace hgq := hgq.step hch y42.wr
    rw [← hoth 0 (by decide)] at j0
    rw [← hoth 15 (by decide)] at j15
    rw [← hoth 16 (by decide)] at j16
    rw [← hoth 17 (by decide)] at j17
    rw [← hoth 48 (by decide)] at j48
    have j49 := hown
    have y49 := yn
    replace hsb := hsz.trans hsb
    replace hdb := hdf.trans hdb
    clear hle hch hown hob hns yn hsz hdf hoth
    obtain ⟨b, hbb⟩ : ∃ b, b = b2 := ⟨b2, rfl⟩
    subst hbb
    obtain ⟨q, hqq⟩ : ∃ q, q = q2 := ⟨q2, rfl⟩
    subst hqq
    refine tail_assign (i := 8) (d := 4) rfl rfl (.inl rfl) rfl (by rw [hsb]; decide) fun b2 hsz hdf hnew hoth => ?_
    have jn : (IsOwn 0 47 x604_7) (b2.get 4) q := by rw [hnew]; exact j49
    have yn : Lo k0 (obF (b2.get 4)) := by rw [hnew]; exact y49
    rw [← hoth 0 (by decide)] at j0
    rw [← hoth 15 (by decide)] at j15
    rw [← hoth 16 (by decide)] at j16
    rw [← hoth 17 (by decide)] at j17
    rw [← hoth 48 (by decide)] at j48
    have j4 := jn
    have y4 := yn
    replace hsb := hsz.trans hsb
    replace hdb := hdf.trans hdb
    clear hsz hdf hoth
    obtain ⟨b, hbb⟩ : ∃ b, b = b2 := ⟨b2, rfl⟩
    subst hbb
    exact tail_done (k := q) (hp609 _ _ ⟨⟨hgq, hsb, hdb⟩, j0, j4, y4, j15, j16, j17, trivial⟩)
   rintro a k ⟨⟨hg, hs, hd⟩, i0, i4, n4, i15, i16, i17, _⟩
   obtain ⟨x605_0, hx605_0, hr⟩ := bind_some hr
   refine cut (fun a' k' => Bs noF k0 117 a' k' ∧ (IsV l_) (a'.get 0) k' ∧ IsOwn 0 47 x604_7 (a'.get 4) k' ∧ Lo k0 (obF (a'.get 4)) ∧ (IsV l_) (a'.get 15) k' ∧ (IsL l_) (a'.get 16) k' ∧ (IsV x605_0) (a'.get 17) k' ∧ True) ?_ hQ ?_
   ·intro Q606 hQQ606 hp607
    refine gS 2 (_ :: _ :: []) hs (by kernel_rfl) ⟨o1 [(17, none)] rfl fun _ _ h n => ok_add rfl (up i17 h n.1) (cI rfl) hx605_0, cm 0 rfl rfl, trivial⟩ hQQ606 fun b q p => ?_
    exact tail_done (k := q) (hp607 _ _ ⟨Bs.post ⟨hg, hs, hd⟩ p, p.ke 0 rfl i0, p.ke 4 rfl i4, (by rw [p.old 4 rfl]; exact n4), p.ke 15 rfl i15, p.ke 16 rfl i16, p.ou 1 17 rfl, trivial⟩)
   rintro a k ⟨⟨hg, hs, hd⟩, i0, i4, n4, i15, i16, i17, _⟩
   exact hgo595 _ _ _ (Option.some.inj hr).symm ⟨⟨hg, hs, hd⟩, i0, i4, n4, i15, i16, i17, trivial⟩
  rw [if_neg (by rw [hc616]; decide)] at hr
  refine wp_exit ?_
  obtain ⟨kk, sh615, ii4⟩ := i4.give
  replace i0 := Pers.pers sh615.le i0
  replace i4 := ii4
  replace hg := hg.hand sh615 n4.wr
  rw [← sh615.w]
  clear sh615
  obtain ⟨k, hkk⟩ : ∃ k, k = kk := ⟨kk, rfl⟩
  subst hkk
  exact hex596 _ _ _ _ (Option.some.inj hr).symm ⟨rfl, ⟨hg, hs, hd⟩, i0, i4, trivial⟩
 ·rintro r704 a k rfl hR
  dsimp only at hr
  obtain rfl := Option.some.inj hr
  exact hR
 ·rintro _ _ _ rfl _
  simp at hr
 clear hf619
 rintro _ s620 a k rfl ⟨rfl, ⟨hg, hs, hd⟩, i0, i4, _⟩
 dsimp only at hr
 refine wp_seq ?_
 refine stepL 3 (_ :: _ :: _ :: []) rfl ⟨hg, hs, hd⟩ (by kernel_rfl) ⟨mu rfl i0, o1 [(51, some 0)] rfl fun _ _ h n => ok_len rfl rfl Try.underlying22 (IsV.rd n.1), o1 [(52, some 1)] rfl fun _ _ h n => ok_gtr rfl n.1 (cI rfl), trivial⟩ [⟨_, _⟩, ⟨_, _⟩, ⟨_, _⟩] (fun b q p => ⟨p.ke 0 rfl i0, p.ke 4 rfl i4, p.ou 2 53 rfl, trivial⟩) ?_
 rintro a k ⟨⟨hg, hs, hd⟩, i0, i4, i53, _⟩
 refine wp_cond_split (isBool i53) (fun hc701 => ?_) (fun hc701 => ?_)
 ·rw [if_pos hc701] at hr
  refine cutL noF k0 117 [⟨2, IsV ([] : List Slab)⟩, ⟨3, IsI 6⟩] ?_ ?_
  ·intro Q623 hQQ623 hp624
   refine gS 2 (⟨some IsE0, []⟩ :: ⟨some (IsI 6), []⟩ :: []) hs (by kernel_rfl) ⟨ob1 rfl fun b q h n => ok_assign rfl isE0_nil, aI rfl rfl, trivial⟩ hQQ623 fun b q p => ?_
   have hgq := hg.then p.grow
   have hsb := p.size.trans hs
   have hdb := p.defers.trans hd
   have j2 : IsE0 (b.get 2) q := p.ou 0 2 rfl
   have j3 : (IsI 6) (b.get 3) q := p.ou 1 3 rfl
   replace j2 : IsV ([] : List Slab) (b.get 2) q := j2.isV
   exact tail_done (k := q) (hp624 _ _ ⟨⟨hgq, hsb, hdb⟩, j2, j3, trivial⟩)
  rintro a k ⟨⟨hg, hs, hd⟩, i2, i3, _⟩
  refine wp_ret ?_
  obtain rfl := Option.some.inj hr
  exact retC2 rfl hd hg i2 i3
 rw [if_neg (by rw [hc701]; decide)] at hr
 refine wp_skip ?_
 refine wp_seq ?_
 obtain ⟨x625_2, hx625_2, hr⟩ := bind_some hr
 refine cut (fun a' k' => Bs noF k0 117 a' k' ∧ (IsV l_) (a'.get 0) k' ∧ (IsV x625_2) (a'.get 7) k' ∧ True) ?_ hQ ?_
 ·intro Q699 hQQ699 hp700
  refine gS 4 (_ :: ⟨some (IsV (α := (List (List Slab))) ([s620.1])), [(54, some 0)]⟩ :: _ :: _ :: []) hs (by kernel_rfl) ⟨mu rfl i4, ob1 rfl fun _ _ h n => ok_buildSlice rfl Try.underlying73 eo24 rfl (by decide) (by decide) ⟨rfl, n.1, trivial⟩, o1 [(55, some 1)] rfl fun _ _ h n => ok_call rfl Try.call30 (solid_heights_ok n.1 hx625_2), cp 2 rfl rfl, trivial⟩ hQQ699 fun b q p => ?_
  exact tail_done (k := q) (hp700 _ _ ⟨Bs.post ⟨hg, hs, hd⟩ p, p.ke 0 rfl i0, p.ou 3 7 rfl, trivial⟩)
 rintro a k ⟨⟨hg, hs, hd⟩, i0, i7, _⟩
 refine cutS (fun a' k' => Bs noF k0 117 a' k' ∧ (IsV l_) (a'.get 0) k' ∧ (IsV x625_2) (a'.get 7) k' ∧ IsOwn 0 47 ([] : List Slab) (a'.get 8) k' ∧ Lo k0 (obF (a'.get 8)) ∧ True) ?_ ?_
 ·intro Q697 hQQ697 hp698
  refine gS 1 (⟨some IsE0, []⟩ :: []) hs (by kernel_rfl) ⟨ob1 rfl fun b q h n => ok_assign rfl isE0_nil, trivial⟩ hQQ697 fun b q p => ?_
  have hgq := hg.then p.grow
  have hsb := p.size.trans hs
  have hdb := p.defers.trans hd
  have j0 := p.ke 0 rfl i0
  have j7 := p.ke 7 rfl i7
  have j8 : IsE0 (b.get 8) q := p.ou 0 8 rfl
  have y8 : Lo k0 (obF (b.get 8)) := j8.lo
  replace j8 : IsOwn 0 47 ([] : List Slab) (b.get 8) q := j8.own0
  exact tail_done (k := q) (hp698 _ _ ⟨⟨hgq, hsb, hdb⟩, j0, j7, j8, y8, trivial⟩)
 rintro a k ⟨⟨hg, hs, hd⟩, i0, i7, i8, n8, _⟩
 refine wp_seq ?_
 refine cutS (fun a' k' => Bs noF k0 117 a' k' ∧ (IsV l_) (a'.get 0) k' ∧ (IsV x625_2) (a'.get 7) k' ∧ IsOwn 0 47 ([] : List Slab) (a'.get 8) k' ∧ Lo k0 (obF (a'.get 8)) ∧ (IsI 1) (a'.get 9) k' ∧ True) ?_ ?_
 ·intro Q695 hQQ695 hp696
  refine gS 1 (⟨some (IsI 1), []⟩ :: []) hs (by kernel_rfl) ⟨aI rfl rfl, trivial⟩ hQQ695 fun b q p => ?_
  exact tail_done (k := q) (hp696 _ _ ⟨Bs.post ⟨hg, hs, hd⟩ p, p.ke 0 rfl i0, p.ke 7 rfl i7, p.ke 8 rfl i8, (by rw [p.old 8 rfl]; exact n8), p.ou 0 9 rfl, trivial⟩)
 rintro a k ⟨⟨hg, hs, hd⟩, i0, i7, i8, n8, i9, _⟩
 refine wp_block ?_
 obtain ⟨f688, hf688, hr⟩ := bind_some hr
 refine cutFe f688 (fun s' a' k' => Bs noF k0 117 a' k' ∧ (IsV l_) (a'.get 0) k' ∧ (IsV x625_2) (a'.get 7) k' ∧ IsOwn 0 47 s'.1 (a'.get 8) k' ∧ Lo k0 (obF (a'.get 8)) ∧ (IsV s'.2) (a'.get 9) k' ∧ True) (fun i' s' a' k' => (i' = 2 ∧ Bs noF k0 117 a' k' ∧ (IsV s'.1) (a'.get 8) k' ∧ True)) (fun r' a' k' => bodyPost Try.prog Try.f9 (RetC noF k0 (IsTup2 (IsV r'.1) (IsV r'.2))) .ret a' k'.w) ?_ hQ ?_ ?_ ?_
 ·intro Q694 hQQ694 hgo hex hret
  refine sim_loop ?_ _ _ _ _ _ hf688 ⟨⟨hg, hs, hd⟩, i0, i7, i8, n8, i9, trivial⟩ Q694 hQQ694 hgo hex hret
  clear hr hf688 hgo hex hret hQQ694 hQ hg hs hd i0 i7 i8 i9 n8
  intro s628 fl_ a k hr hS Q hQ hgo629 hex630 hret631
  obtain ⟨⟨hg, hs, hd⟩, i0, i7, i8, n8, i9, _⟩ := hS
  unfold solid_Of_L1 at hr
  refine wp_seq ?_
  refine cutS (fun a' k' => Bs noF k0 117 a' k' ∧ (IsV l_) (a'.get 0) k' ∧ (IsV x625_2) (a'.get 7) k' ∧ IsOwn 0 47 s628.1 (a'.get 8) k' ∧ Lo k0 (obF (a'.get 8)) ∧ (IsV s628.2) (a'.get 9) k' ∧ (IsV (decide (s628.2 < (x625_2.length : Int)))) (a'.get 60) k' ∧ True) ?_ ?_
  ·intro Q686 hQQ686 hp687
   refine gS 4 (_ :: _ :: _ :: _ :: []) hs (by kernel_rfl) ⟨mu rfl i9, mu rfl i7, o1 [(58, some 1)] rfl fun _ _ h n => ok_len rfl rfl Try.underlying57 (IsV.rd n.1), o1 [(57, some 0), (59, some 2)] rfl fun _ _ h n => ok_lss rfl n.1 n.2.1, trivial⟩ hQQ686 fun b q p => ?_
   exact tail_done (k := q) (hp687 _ _ ⟨Bs.post ⟨hg, hs, hd⟩ p, p.ke 0 rfl i0, p.ke 7 rfl i7, p.ke 8 rfl i8, (by rw [p.old 8 rfl]; exact n8), p.ke 9 rfl i9, p.ou 3 60 rfl, trivial⟩)
  rintro a k ⟨⟨hg, hs, hd⟩, i0, i7, i8, n8, i9, i60, _⟩
  refine wp_cond_split (isBool i60) (fun hc685 => ?_) (fun hc685 => ?_)
  ·rw [if_pos hc685] at hr
   refine wp_skip ?_
   refine wp_seq ?_
   refine wp_block ?_
   refine cutS (fun a' k' => Bs noF k0 117 a' k' ∧ (IsV l_) (a'.get 0) k' ∧ (IsV x625_2) (a'.get 7) k' ∧ IsOwn 0 47 s628.1 (a'.get 8) k' ∧ Lo k0 (obF (a'.get 8)) ∧ (IsV s628.2) (a'.get 9) k' ∧ IsOwn 0 30 ([] : List Rect) (a'.get 10) k' ∧ Lo k0 (obF (a'.get 10)) ∧ Apart (obF (a'.get 8)) (obF (a'.get 10)) ∧ True) ?_ ?_
   ·intro Q682 hQQ682 hp683
    refine gS 1 (⟨some IsE0, []⟩ :: []) hs (by kernel_rfl) ⟨ob1 rfl fun b q h n => ok_assign rfl isE0_nil, trivial⟩ hQQ682 fun b q p => ?_
    have hgq := hg.then p.grow
    have hsb := p.size.trans hs
    have hdb := p.defers.trans hd
    have j0 := p.ke 0 rfl i0
    have j7 := p.ke 7 rfl i7
    have j8 := p.ke 8 rfl i8
    have y8 : Lo k0 (obF (b.get 8)) := by rw [p.old 8 rfl]; exact n8
    have j9 := p.ke 9 rfl i9
    have j10 : IsE0 (b.get 10) q := p.ou 0 10 rfl
    have y10 : Lo k0 (obF (b.get 10)) := j10.lo
    have w8_10 : Apart (obF (b.get 8)) (obF (b.get 10)) := j10.apart.symm
    replace j10 : IsOwn 0 30 ([] : List Rect) (b.get 10) q := j10.own0
    exact tail_done (k := q) (hp683 _ _ ⟨⟨hgq, hsb, hdb⟩, j0, j7, j8, y8, j9, j10, y10, w8_10, trivial⟩)
   rintro a k ⟨⟨hg, hs, hd⟩, i0, i7, i8, n8, i9, i10, n10, d8_10, _⟩
   refine wp_seq ?_
   refine cutS (fun a' k' => Bs noF k0 117 a' k' ∧ (IsV l_) (a'.get 0) k' ∧ (IsV x625_2) (a'.get 7) k' ∧ IsOwn 0 47 s628.1 (a'.get 8) k' ∧ Lo k0 (obF (a'.get 8)) ∧ (IsV s628.2) (a'.get 9) k' ∧ IsOwn 0 30 ([] : List Rect) (a'.get 10) k' ∧ Lo k0 (obF (a'.get 10)) ∧ (IsV l_) (a'.get 63) k' ∧ (IsL l_) (a'.get 64) k' ∧ (IsI 0) (a'.get 65) k' ∧ Apart (obF (a'.get 8)) (obF (a'.get 10)) ∧ True) ?_ ?_
   ·intro Q680 hQQ680 hp681
    refine gS 3 (_ :: _ :: ⟨some (IsI 0), []⟩ :: []) hs (by kernel_rfl) ⟨mu rfl i0, o1 [(63, some 0)] rfl fun _ _ h n => ok_len rfl rfl Try.underlying22 (IsV.rd n.1), ob1 rfl fun _ _ h n => ok_move rfl (cI rfl), trivial⟩ hQQ680 fun b q p => ?_
    exact tail_done (k := q) (hp681 _ _ ⟨Bs.post ⟨hg, hs, hd⟩ p, p.ke 0 rfl i0, p.ke 7 rfl i7, p.ke 8 rfl i8, (by rw [p.old 8 rfl]; exact n8), p.ke 9 rfl i9, p.ke 10 rfl i10, (by rw [p.old 10 rfl]; exact n10), p.ou 0 63 rfl, p.ou 1 64 rfl, p.ou 2 65 rfl, (by rw [p.old 8 rfl, p.old 10 rfl]; exact d8_10), trivial⟩)
   rintro a k ⟨⟨hg, hs, hd⟩, i0, i7, i8, n8, i9, i10, n10, i63, i64, i65, d8_10, _⟩
   refine wp_block ?_
   obtain ⟨f660, hf660, hr⟩ := bind_some hr
   refine cutFe f660 (fun s' a' k' => Bs noF k0 117 a' k' ∧ (IsV l_) (a'.get 0) k' ∧ (IsV x625_2) (a'.get 7) k' ∧ IsOwn 0 47 s628.1 (a'.get 8) k' ∧ Lo k0 (obF (a'.get 8)) ∧ (IsV s628.2) (a'.get 9) k' ∧ IsOwn 0 30 s'.1 (a'.get 10) k' ∧ Lo k0 (obF (a'.get 10)) ∧ (IsV l_) (a'.get 63) k' ∧ (IsL l_) (a'.get 64) k' ∧ (IsV s'.2) (a'.get 65) k' ∧ Apart (obF (a'.get 8)) (obF (a'.get 10)) ∧ True) (fun i' s' a' k' => (i' = 4 ∧ Bs noF k0 117 a' k' ∧ (IsV l_) (a'.get 0) k' ∧ (IsV x625_2) (a'.get 7) k' ∧ IsOwn 0 47 s628.1 (a'.get 8) k' ∧ Lo k0 (obF (a'.get 8)) ∧ (IsV s628.2) (a'.get 9) k' ∧ (IsV s'.1) (a'.get 10) k' ∧ True)) (fun r' a' k' => bodyPost Try.prog Try.f9 (RetC noF k0 (IsTup2 (IsV r'.1) (IsV r'.2))) .ret a' k'.w) ?_ hQ ?_ ?_ ?_
   ·intro Q679 hQQ679 hgo hex hret
    refine sim_loop ?_ _ _ _ _ _ hf660 ⟨⟨hg, hs, hd⟩, i0, i7, i8, n8, i9, i10, n10, i63, i64, i65, d8_10, trivial⟩ Q679 hQQ679 hgo hex hret
    clear hr hf660 hgo hex hret hQQ679 hQ hg hs hd d8_10 i0 i10 i63 i64 i65 i7 i8 i9 n10 n8
    intro s635 fl_ a k hr hS Q hQ hgo636 hex637 hret638
    obtain ⟨⟨hg, hs, hd⟩, i0, i7, i8, n8, i9, i10, n10, i63, i64, i65, d8_10, _⟩ := hS
    unfold solid_Of_L2 at hr
    refine cutS (fun a' k' => Bs noF k0 117 a' k' ∧ (IsV l_) (a'.get 0) k' ∧ (IsV x625_2) (a'.get 7) k' ∧ IsOwn 0 47 s628.1 (a'.get 8) k' ∧ Lo k0 (obF (a'.get 8)) ∧ (IsV s628.2) (a'.get 9) k' ∧ IsOwn 0 30 s635.1 (a'.get 10) k' ∧ Lo k0 (obF (a'.get 10)) ∧ (IsV l_) (a'.get 63) k' ∧ (IsL l_) (a'.get 64) k' ∧ (IsV s635.2) (a'.get 65) k' ∧ (IsV (decide (s635.2 < (l_.length : Int)))) (a'.get 66) k' ∧ Apart (obF (a'.get 8)) (obF (a'.get 10)) ∧ True) ?_ ?_
    ·intro Q658 hQQ658 hp659
     refine gS 1 (_ :: []) hs (by kernel_rfl) ⟨o1 [(65, none), (64, none)] rfl fun _ _ h n => ok_lss rfl (up i65 h n.1) (up i64 h n.2.1), trivial⟩ hQQ658 fun b q p => ?_
     exact tail_done (k := q) (hp659 _ _ ⟨Bs.post ⟨hg, hs, hd⟩ p, p.ke 0 rfl i0, p.ke 7 rfl i7, p.ke 8 rfl i8, (by rw [p.old 8 rfl]; exact n8), p.ke 9 rfl i9, p.ke 10 rfl i10, (by rw [p.old 10 rfl]; exact n10), p.ke 63 rfl i63, p.ke 64 rfl i64, p.ke 65 rfl i65, p.ou 0 66 rfl, (by rw [p.old 8 rfl, p.old 10 rfl]; exact d8_10), trivial⟩)
    rintro a k ⟨⟨hg, hs, hd⟩, i0, i7, i8, n8, i9, i10, n10, i63, i64, i65, i66, d8_10, _⟩
    refine wp_seq ?_
    refine wp_cond_split (isBool i66) (fun hc657 => ?_) (fun hc657 => ?_)
    ·rw [if_pos hc657] at hr
     refine wp_skip ?_
     refine wp_seq ?_
     refine wp_block ?_
     refine wp_seq ?_
     obtain ⟨x640_0, hx640_0, hr⟩ := bind_some hr
     refine cut (fun a' k' => Bs noF k0 117 a' k' ∧ (IsV l_) (a'.get 0) k' ∧ (IsV x625_2) (a'.get 7) k' ∧ IsOwn 0 47 s628.1 (a'.get 8) k' ∧ Lo k0 (obF (a'.get 8)) ∧ (IsV s628.2) (a'.get 9) k' ∧ IsOwn 0 30 s635.1 (a'.get 10) k' ∧ Lo k0 (obF (a'.get 10)) ∧ (IsRef x640_0) (a'.get 12) k' ∧ (IsV l_) (a'.get 63) k' ∧ (IsL l_) (a'.get 64) k' ∧ (IsV s635.2) (a'.get 65) k' ∧ Apart (obF (a'.get 8)) (obF (a'.get 10)) ∧ True) ?_ hQ ?_
     ·intro Q654 hQQ654 hp655
      refine gS 3 (_ :: _ :: ⟨some (IsBox k.w.heap.size (⟨(⟨0, 0, 0, 0⟩ : Rect), 0, 0⟩ : Box)), []⟩ :: []) hs (by kernel_rfl) ⟨o1 [(63, none), (65, none)] rfl fun _ _ h n => ok_indexAddr rfl Try.underlying22 ty32 (IsV.rd (up i63 h n.1)) (up i65 h n.2.1) hx640_0, o1 [(67, some 0)] rfl fun _ _ h n => ok_load rfl ty32 n.1, ob1 rfl fun _ _ h n => ok_alloc _ h.size rfl z32, trivial⟩ hQQ654 fun b q p => ?_
      have hgq := hg.then p.grow
      have hsb := p.size.trans hs
      have hdb := p.defers.trans hd
      have j0 := p.ke 0 rfl i0
      have j7 := p.ke 7 rfl i7
      have j8 := p.ke 8 rfl i8
      have y8 : Lo k0 (obF (b.get 8)) := by rw [p.old 8 rfl]; exact n8
      have j9 := p.ke 9 rfl i9
      have j10 := p.ke 10 rfl i10
      have y10 : Lo k0 (obF (b.get 10)) := by rw [p.old 10 rfl]; exact n10
      obtain ⟨b12, j12, x12, z12⟩ : (IsBox k.w.heap.size (⟨(⟨0, 0, 0, 0⟩ : Rect), 0, 0⟩ : Box)) (b.get 12) q := p.ou 2 12 rfl
      replace x12 : Lo k (Eq b12) := Lo.eq x12
      have y12 : Lo k0 (Eq b12) := x12.chg hg
      have j63 := p.ke 63 rfl i63
      have j64 := p.ke 64 rfl i64
      have j65 := p.ke 65 rfl i65
      have j68 : (IsV x640_0) (b.get 68) q := p.ou 1 68 rfl
      have w8_10 : Apart (obF (b.get 8)) (obF (b.get 10)) := by rw [p.old 8 rfl, p.old 10 rfl]; exact d8_10
      have w8_12 : Apart (obF (b.get 8)) (Eq b12) := Apart.new (by rw [p.old 8 rfl]; exact i8.ltF) x12
      have w10_12 : Apart (obF (b.get 10)) (Eq b12) := Apart.new (by rw [p.old 10 rfl]; exact i10.ltF) x12
      have hns := z12.nshF
      refine tail_storeB (i := 3) rfl rfl rfl rfl szf32 (Upd.self (α := Box)) j12 z12 j68 fun q2 hch hz => ?_
      replace hgq := hgq.step hch y12.wr
      have hle := hch.le hns
      replace j0 := Pers.pers hle j0
      replace j7 := Pers.pers hle j7
      replace j8 := j8.keep hch w8_12 hns
      replace j9 := Pers.pers hle j9
      replace j10 := j10.keep hch w10_12 hns
      replace j63 := Pers.pers hle j63
      replace j64 := Pers.pers hle j64
      replace j65 := Pers.pers hle j65
      replace j68 := Pers.pers hle j68
      replace z12 := hz
      clear hns hle hch
      obtain ⟨q, hqq⟩ : ∃ q, q = q2 := ⟨q2, rfl⟩
      subst hqq
      obtain ⟨q2, hsh, jn⟩ := z12.give
      replace j0 := Pers.pers hsh.le j0
      replace j7 := Pers.pers hsh.le j7
      replace j8 := j8.handed hsh w8_12
      replace j9 := Pers.pers hsh.le j9
      replace j10 := j10.handed hsh w10_12
      replace j63 := Pers.pers hsh.le j63
      replace j64 := Pers.pers hsh.le j64
      replace j65 := Pers.pers hsh.le j65
      rw [← j12] at jn
      replace j12 := jn
      replace hgq := hgq.hand hsh y12.wr
      rw [← hsh.w]
      clear hsh
      obtain ⟨q, hqq⟩ : ∃ q, q = q2 := ⟨q2, rfl⟩
      subst hqq
      exact tail_done (k := q) (hp655 _ _ ⟨⟨hgq, hsb, hdb⟩, j0, j7, j8, y8, j9, j10, y10, j12, j63, j64, j65, w8_10, trivial⟩)
     rintro a k ⟨⟨hg, hs, hd⟩, i0, i7, i8, n8, i9, i10, n10, i12, i63, i64, i65, d8_10, _⟩
     refine wp_seq ?_
     obtain ⟨x641_4, hx641_4, hr⟩ := bind_some hr
     obtain ⟨x641_16, hx641_16, hr⟩ := bind_some hr
     obtain ⟨x641_10, hx641_10, hx641_16⟩ := ite_bind hx641_16
     obtain ⟨x641_11, hx641_11, hx641_16⟩ := ite_bind hx641_16
     refine cut (fun a' k' => Bs noF k0 117 a' k' ∧ (IsV l_) (a'.get 0) k' ∧ (IsV x625_2) (a'.get 7) k' ∧ IsOwn 0 47 s628.1 (a'.get 8) k' ∧ Lo k0 (obF (a'.get 8)) ∧ (IsV s628.2) (a'.get 9) k' ∧ IsOwn 0 30 s635.1 (a'.get 10) k' ∧ Lo k0 (obF (a'.get 10)) ∧ (IsRef x640_0) (a'.get 12) k' ∧ (IsV l_) (a'.get 63) k' ∧ (IsL l_) (a'.get 64) k' ∧ (IsV s635.2) (a'.get 65) k' ∧ (IsV x641_16) (a'.get 85) k' ∧ Apart (obF (a'.get 8)) (obF (a'.get 10)) ∧ True) ?_ hQ ?_
     ·intro Q652 hQQ652 hp653
      refine region (a0 := a) (k0 := k) (n := 117) (m := 17) (⟨some (IsPtr x640_0.Z0), [(12, none)]⟩ :: ⟨some (IsV x640_0.Z0), [(69, some 0)]⟩ :: ⟨some (IsV x625_2), [(7, none)]⟩ :: ⟨some (IsV s628.2), [(9, none)]⟩ :: ⟨some (IsPtr x641_4), [(71, some 2), (72, some 3)]⟩ :: ⟨some (IsV x641_4), [(73, some 4)]⟩ :: ⟨some (IsV (decide (x640_0.Z0 < x641_4))), [(70, some 1), (74, some 5)]⟩ :: ⟨some (IsV (decide (x640_0.Z0 < x641_4))), [(75, some 6)]⟩ :: ⟨some (Gd ((decide (x640_0.Z0 < x641_4)) = true) (IsV x625_2)), [(7, none)]⟩ :: ⟨some (Gd ((decide (x640_0.Z0 < x641_4)) = true) (IsV s628.2)), [(9, none)]⟩ :: ⟨some (Gd ((decide (x640_0.Z0 < x641_4)) = true) (IsV x641_10)), [(78, some 9)]⟩ :: ⟨some (Gd ((decide (x640_0.Z0 < x641_4)) = true) (IsPtr x641_11)), [(77, some 8), (79, some 10)]⟩ :: ⟨some (Gd ((decide (x640_0.Z0 < x641_4)) = true) (IsV x641_11)), [(80, some 11)]⟩ :: ⟨some (Gd ((decide (x640_0.Z0 < x641_4)) = true) (IsPtr x640_0.Z1)), [(12, none)]⟩ :: ⟨some (Gd ((decide (x640_0.Z0 < x641_4)) = true) (IsV x640_0.Z1)), [(82, some 13)]⟩ :: ⟨some (Gd ((decide (x640_0.Z0 < x641_4)) = true) (IsV (decide (x641_11 < x640_0.Z1)))), [(81, some 12), (83, some 14)]⟩ :: ⟨some (IsV x641_16), [(76, some 7), (84, some 15)]⟩ :: []) hmix hs (by kernel_rfl) ⟨ob1 rfl fun b q hk hn => ok_fieldAddr rfl fo32_1 (at_Box_1 _) ((up i12 hk hn.1)).ptr, ob1 rfl fun b q hk hn => ok_load rfl ty3 hn.1, ob1 rfl fun b q hk hn => ok_move rfl (up i7 hk hn.1), ob1 rfl fun b q hk hn => ok_move rfl (up i9 hk hn.1), ob1 rfl fun b q hk hn => ok_indexAddr rfl Try.underlying57 ty3 (IsV.rd hn.1) hn.2.1 hx641_4, ob1 rfl fun b q hk hn => ok_load rfl ty3 hn.1, ob1 rfl fun b q hk hn => ok_lss rfl hn.1 hn.2.1, ob1 rfl fun b q hk hn => ok_move rfl hn.1, gdT rfl rfl fun hp b q hk hn => ok_move rfl (up i7 hk hn.1), gdT rfl rfl fun hp b q hk hn => ok_move rfl (up i9 hk hn.1), gdT rfl rfl fun hp b q hk hn => ok_sub rfl (Gd.get hn.1 hp) (isV_int.2 rfl) (hx641_10 hp), gdT rfl rfl fun hp b q hk hn => ok_indexAddr rfl Try.underlying57 ty3 (IsV.rd (Gd.get hn.1 hp)) (Gd.get hn.2.1 hp) (hx641_11 hp), gdT rfl rfl fun hp b q hk hn => ok_load rfl ty3 (Gd.get hn.1 hp), gdT rfl rfl fun hp b q hk hn => ok_fieldAddr rfl fo32_2 (at_Box_2 _) ((up i12 hk hn.1)).ptr, gdT rfl rfl fun hp b q hk hn => ok_load rfl ty3 (Gd.get hn.1 hp), gdT rfl rfl fun hp b q hk hn => ok_lss rfl (Gd.get hn.1 hp) (Gd.get hn.2.1 hp), ob1 rfl fun b q hk hn => ok_pickM rfl hn.1 hx641_16 (fun hm => (Gd.get hn.2.1 hm)) (fun _ => (isV_bool.2 rfl)), trivial⟩ hQQ652 fun b q p => ?_
      exact tail_done (k := q) (hp653 _ _ ⟨Bs.post ⟨hg, hs, hd⟩ p, p.ke 0 rfl i0, p.ke 7 rfl i7, p.ke 8 rfl i8, (by rw [p.old 8 rfl]; exact n8), p.ke 9 rfl i9, p.ke 10 rfl i10, (by rw [p.old 10 rfl]; exact n10), p.ke 12 rfl i12, p.ke 63 rfl i63, p.ke 64 rfl i64, p.ke 65 rfl i65, p.ou 16 85 rfl, (by rw [p.old 8 rfl, p.old 10 rfl]; exact d8_10), trivial⟩)
     rintro a k ⟨⟨hg, hs, hd⟩, i0, i7, i8, n8, i9, i10, n10, i12, i63, i64, i65, i85, d8_10, _⟩
     obtain ⟨s642, hs642, hr⟩ := bind_some hr
     refine cut (fun a' k' => Bs noF k0 117 a' k' ∧ (IsV l_) (a'.get 0) k' ∧ (IsV x625_2) (a'.get 7) k' ∧ IsOwn 0 47 s628.1 (a'.get 8) k' ∧ Lo k0 (obF (a'.get 8)) ∧ (IsV s628.2) (a'.get 9) k' ∧ IsOwn 0 30 s642 (a'.get 10) k' ∧ Lo k0 (obF (a'.get 10)) ∧ (IsV l_) (a'.get 63) k' ∧ (IsL l_) (a'.get 64) k' ∧ (IsV s635.2) (a'.get 65) k' ∧ Apart (obF (a'.get 8)) (obF (a'.get 10)) ∧ True) ?_ hQ ?_
     ·intro Q651 hQQ651 hp643
      replace hr := hs642
      clear hQ
      have hQ := hQQ651
      refine wp_cond_split (isBool i85) (fun hc647 => ?_) (fun hc647 => ?_)
      ·rw [if_pos hc647] at hr
       obtain ⟨x644_4, hx644_4, hr⟩ := bind_some hr
       refine cut (fun a' k' => Bs noF k0 117 a' k' ∧ (IsV l_) (a'.get 0) k' ∧ (IsV x625_2) (a'.get 7) k' ∧ IsOwn 0 47 s628.1 (a'.get 8) k' ∧ Lo k0 (obF (a'.get 8)) ∧ (IsV s628.2) (a'.get 9) k' ∧ IsOwn 0 30 x644_4 (a'.get 10) k' ∧ Lo k0 (obF (a'.get 10)) ∧ (IsV l_) (a'.get 63) k' ∧ (IsL l_) (a'.get 64) k' ∧ (IsV s635.2) (a'.get 65) k' ∧ Apart (obF (a'.get 8)) (obF (a'.get 10)) ∧ True) ?_ hQ ?_
       ·intro Q645 hQQ645 hp646
        refine gS 4 (⟨some (OwnAt (a.get 10) 0 30 s635.1), [(10, none)]⟩ :: _ :: _ :: ⟨some (IsV (α := (List Rect)) ([x640_0.Base])), [(88, some 2)]⟩ :: []) hs (by kernel_rfl) ⟨ob1 rfl fun _ _ h n => ok_moveOA (.inl rfl) (ownAt n.1 (up i10 h n.1)), o1 [(12, none)] rfl fun _ _ h n => ok_fieldAddr rfl fo32_0 (at_Box_0 _) ((up i12 h n.1)).ptr, o1 [(87, some 1)] rfl fun _ _ h n => ok_load rfl ty30 n.1, ob1 rfl fun _ _ h n => ok_buildSlice rfl Try.underlying44 eo30 rfl (by decide) (by decide) ⟨rfl, n.1, trivial⟩, trivial⟩ hQQ645 fun b q p => ?_
        have hgq := hg.then p.grow
        have hsb := p.size.trans hs
        have hdb := p.defers.trans hd
        have j0 := p.ke 0 rfl i0
        have j7 := p.ke 7 rfl i7
        have j8 := p.ke 8 rfl i8
        have y8 : Lo k0 (obF (b.get 8)) := by rw [p.old 8 rfl]; exact n8
        have j9 := p.ke 9 rfl i9
        have j63 := p.ke 63 rfl i63
        have j64 := p.ke 64 rfl i64
        have j65 := p.ke 65 rfl i65
        have e86 : b.get 86 = a.get 10 := (p.ou 0 86 rfl).1
        have j86 : IsOwn 0 30 s635.1 (b.get 86) q := (p.ou 0 86 rfl).2
        have y86 : Lo k0 (obF (b.get 86)) := by rw [e86]; exact n10
        have j89 : (IsV (α := (List Rect)) ([x640_0.Base])) (b.get 89) q := p.ou 3 89 rfl
        have w8_86 : Apart (obF (b.get 8)) (obF (b.get 86)) := by rw [p.old 8 rfl, e86]; exact d8_10
        have hns := j86.nshF
        refine tail_appendS (i := 4) (d := 90) rfl rfl rfl rfl (by rw [hsb]; decide) (e := 30) Try.underlying44 eo30 j86 (IsV.rd j89) hx644_4 fun b2 q2 hsz hdf hoth hch hown hob => ?_
        have hle := hch.le hns
        have yn : Lo k0 (obF (b2.get 90)) := y86.app hgq hob
        have v8 : Apart (obF (b.get 8)) (obF (b2.get 90)) := Apart.app w8_86 j8.ltF hob
        replace j0 := Pers.pers hle j0
        replace j7 := Pers.pers hle j7
        replace j8 := j8.keep hch w8_86 hns
        replace j9 := Pers.pers hle j9
        replace j63 := Pers.pers hle j63
        replace j64 := Pers.pers hle j64
        replace j65 := Pers.pers hle j65
        replace j89 := Pers.pers hle j89
        replace hgq := hgq.step hch y86.wr
        rw [← hoth 0 (by decide)] at j0
        rw [← hoth 7 (by decide)] at j7
        rw [← hoth 8 (by decide)] at j8
        rw [← hoth 8 (by decide)] at y8
        rw [← hoth 9 (by decide)] at j9
        rw [← hoth 63 (by decide)] at j63
        rw [← hoth 64 (by decide)] at j64
        rw [← hoth 65 (by decide)] at j65
        rw [← hoth 89 (by decide)] at j89
        rw [← hoth 8 (by decide)] at v8
        have w8_90 := v8
        have j90 := hown
        have y90 := yn
        replace hsb := hsz.trans hsb
        replace hdb := hdf.trans hdb
        clear hle hch hown hob hns yn hsz hdf hoth
        obtain ⟨b, hbb⟩ : ∃ b, b = b2 := ⟨b2, rfl⟩
        subst hbb
        obtain ⟨q, hqq⟩ : ∃ q, q = q2 := ⟨q2, rfl⟩
        subst hqq
        refine tail_assign (i := 5) (d := 10) rfl rfl (.inl rfl) rfl (by rw [hsb]; decide) fun b2 hsz hdf hnew hoth => ?_
        have jn : (IsOwn 0 30 x644_4) (b2.get 10) q := by rw [hnew]; exact j90
        have yn : Lo k0 (obF (b2.get 10)) := by rw [hnew]; exact y90
        have v8 : Apart (obF (b.get 8)) (obF (b2.get 10)) := by rw [hnew]; exact w8_90
        rw [← hoth 0 (by decide)] at j0
        rw [← hoth 7 (by decide)] at j7
        rw [← hoth 8 (by decide)] at j8
        rw [← hoth 8 (by decide)] at y8
        rw [← hoth 9 (by decide)] at j9
        rw [← hoth 63 (by decide)] at j63
        rw [← hoth 64 (by decide)] at j64
        rw [← hoth 65 (by decide)] at j65
        rw [← hoth 89 (by decide)] at j89
        rw [← hoth 8 (by decide)] at v8
        have w8_10 := v8
        have j10 := jn
        have y10 := yn
        replace hsb := hsz.trans hsb
        replace hdb := hdf.trans hdb
        clear hsz hdf hoth
        obtain ⟨b, hbb⟩ : ∃ b, b = b2 := ⟨b2, rfl⟩
        subst hbb
        exact tail_done (k := q) (hp646 _ _ ⟨⟨hgq, hsb, hdb⟩, j0, j7, j8, y8, j9, j10, y10, j63, j64, j65, w8_10, trivial⟩)
       rintro a k ⟨⟨hg, hs, hd⟩, i0, i7, i8, n8, i9, i10, n10, i63, i64, i65, d8_10, _⟩
       obtain rfl := Option.some.inj hr
       exact hp643 _ _ ⟨⟨hg, hs, hd⟩, i0, i7, i8, n8, i9, i10, n10, i63, i64, i65, d8_10, trivial⟩
      rw [if_neg (by rw [hc647]; decide)] at hr
      refine wp_skip ?_
      obtain rfl := Option.some.inj hr
      exact hp643 _ _ ⟨⟨hg, hs, hd⟩, i0, i7, i8, n8, i9, i10, n10, i63, i64, i65, d8_10, trivial⟩
     clear hs642
     rintro a k ⟨⟨hg, hs, hd⟩, i0, i7, i8, n8, i9, i10, n10, i63, i64, i65, d8_10, _⟩
     obtain ⟨x648_0, hx648_0, hr⟩ := bind_some hr
     refine cut (fun a' k' => Bs noF k0 117 a' k' ∧ (IsV l_) (a'.get 0) k' ∧ (IsV x625_2) (a'.get 7) k' ∧ IsOwn 0 47 s628.1 (a'.get 8) k' ∧ Lo k0 (obF (a'.get 8)) ∧ (IsV s628.2) (a'.get 9) k' ∧ IsOwn 0 30 s642 (a'.get 10) k' ∧ Lo k0 (obF (a'.get 10)) ∧ (IsV l_) (a'.get 63) k' ∧ (IsL l_) (a'.get 64) k' ∧ (IsV x648_0) (a'.get 65) k' ∧ Apart (obF (a'.get 8)) (obF (a'.get 10)) ∧ True) ?_ hQ ?_
     ·intro Q649 hQQ649 hp650
      refine gS 2 (_ :: _ :: []) hs (by kernel_rfl) ⟨o1 [(65, none)] rfl fun _ _ h n => ok_add rfl (up i65 h n.1) (cI rfl) hx648_0, cm 0 rfl rfl, trivial⟩ hQQ649 fun b q p => ?_
      exact tail_done (k := q) (hp650 _ _ ⟨Bs.post ⟨hg, hs, hd⟩ p, p.ke 0 rfl i0, p.ke 7 rfl i7, p.ke 8 rfl i8, (by rw [p.old 8 rfl]; exact n8), p.ke 9 rfl i9, p.ke 10 rfl i10, (by rw [p.old 10 rfl]; exact n10), p.ke 63 rfl i63, p.ke 64 rfl i64, p.ou 1 65 rfl, (by rw [p.old 8 rfl, p.old 10 rfl]; exact d8_10), trivial⟩)
     rintro a k ⟨⟨hg, hs, hd⟩, i0, i7, i8, n8, i9, i10, n10, i63, i64, i65, d8_10, _⟩
     exact hgo636 _ _ _ (Option.some.inj hr).symm ⟨⟨hg, hs, hd⟩, i0, i7, i8, n8, i9, i10, n10, i63, i64, i65, d8_10, trivial⟩
    rw [if_neg (by rw [hc657]; decide)] at hr
    refine wp_exit ?_
    obtain ⟨kk, sh656, ii10⟩ := i10.give
    replace i0 := Pers.pers sh656.le i0
    replace i7 := Pers.pers sh656.le i7
    replace i8 := i8.handed sh656 d8_10
    replace i9 := Pers.pers sh656.le i9
    replace i10 := ii10
    replace hg := hg.hand sh656 n10.wr
    rw [← sh656.w]
    clear sh656
    obtain ⟨k, hkk⟩ : ∃ k, k = kk := ⟨kk, rfl⟩
    subst hkk
    exact hex637 _ _ _ _ (Option.some.inj hr).symm ⟨rfl, ⟨hg, hs, hd⟩, i0, i7, i8, n8, i9, i10, trivial⟩
   ·rintro r678 a k rfl hR
    dsimp only at hr
    exact hret631 _ _ _ (Option.some.inj hr).symm hR
   ·rintro _ _ _ rfl _
    simp at hr
   clear hf660
   rintro _ s661 a k rfl ⟨rfl, ⟨hg, hs, hd⟩, i0, i7, i8, n8, i9, i10, _⟩
   dsimp only at hr
   refine wp_seq ?_
   obtain ⟨x662_1, hx662_1, hr⟩ := bind_some hr
   refine cut (fun a' k' => Bs noF k0 117 a' k' ∧ (IsV l_) (a'.get 0) k' ∧ (IsV x625_2) (a'.get 7) k' ∧ IsOwn 0 47 s628.1 (a'.get 8) k' ∧ Lo k0 (obF (a'.get 8)) ∧ (IsV s628.2) (a'.get 9) k' ∧ (IsV x662_1.1) (a'.get 13) k' ∧ (IsV x662_1.2) (a'.get 14) k' ∧ True) ?_ hQ ?_
   ·intro Q676 hQQ676 hp677
    refine gS 7 (_ :: _ :: _ :: _ :: _ :: _ :: _ :: []) hs (by kernel_rfl) ⟨mu rfl i10, o1 [(93, some 0)] rfl fun _ _ h n => ok_call rfl Try.call24 (region_Of_ok n.1 hx662_1), cm 1 rfl rfl, o1 [(92, some 2)] rfl fun _ _ h n => ok_ext2_0 rfl n.1, o1 [(92, some 2)] rfl fun _ _ h n => ok_ext2_1 rfl n.1, cp 3 rfl rfl, cp 4 rfl rfl, trivial⟩ hQQ676 fun b q p => ?_
    exact tail_done (k := q) (hp677 _ _ ⟨Bs.post ⟨hg, hs, hd⟩ p, p.ke 0 rfl i0, p.ke 7 rfl i7, p.ke 8 rfl i8, (by rw [p.old 8 rfl]; exact n8), p.ke 9 rfl i9, p.ou 5 13 rfl, p.ou 6 14 rfl, trivial⟩)
   rintro a k ⟨⟨hg, hs, hd⟩, i0, i7, i8, n8, i9, i13, i14, _⟩
   refine wp_seq ?_
   refine cutS (fun a' k' => Bs noF k0 117 a' k' ∧ (IsV l_) (a'.get 0) k' ∧ (IsV x625_2) (a'.get 7) k' ∧ IsOwn 0 47 s628.1 (a'.get 8) k' ∧ Lo k0 (obF (a'.get 8)) ∧ (IsV s628.2) (a'.get 9) k' ∧ (IsV x662_1.1) (a'.get 13) k' ∧ (IsV x662_1.2) (a'.get 14) k' ∧ (IsV (x662_1.2 != 0)) (a'.get 98) k' ∧ True) ?_ ?_
   ·intro Q674 hQQ674 hp675
    refine gS 2 (_ :: ⟨some (IsV (x662_1.2 != 0)), [(97, some 0)]⟩ :: []) hs (by kernel_rfl) ⟨mu rfl i14, ob1 rfl fun _ _ h n => ok_neI rfl n.1 (cI rfl), trivial⟩ hQQ674 fun b q p => ?_
    exact tail_done (k := q) (hp675 _ _ ⟨Bs.post ⟨hg, hs, hd⟩ p, p.ke 0 rfl i0, p.ke 7 rfl i7, p.ke 8 rfl i8, (by rw [p.old 8 rfl]; exact n8), p.ke 9 rfl i9, p.ke 13 rfl i13, p.ke 14 rfl i14, p.ou 1 98 rfl, trivial⟩)
   rintro a k ⟨⟨hg, hs, hd⟩, i0, i7, i8, n8, i9, i13, i14, i98, _⟩
   refine wp_cond_split (isBool i98) (fun hc673 => ?_) (fun hc673 => ?_)
   ·rw [if_pos hc673] at hr
    refine cutL noF k0 117 [⟨2, IsV ([] : List Slab)⟩, ⟨3, IsV x662_1.2⟩] ?_ ?_
    ·intro Q665 hQQ665 hp666
     refine gS 3 (_ :: ⟨some IsE0, []⟩ :: _ :: []) hs (by kernel_rfl) ⟨mu rfl i14, ob1 rfl fun b q h n => ok_assign rfl isE0_nil, cp 0 rfl rfl, trivial⟩ hQQ665 fun b q p => ?_
     have hgq := hg.then p.grow
     have hsb := p.size.trans hs
     have hdb := p.defers.trans hd
     have j2 : IsE0 (b.get 2) q := p.ou 1 2 rfl
     have j3 : (IsV x662_1.2) (b.get 3) q := p.ou 2 3 rfl
     replace j2 : IsV ([] : List Slab) (b.get 2) q := j2.isV
     exact tail_done (k := q) (hp666 _ _ ⟨⟨hgq, hsb, hdb⟩, j2, j3, trivial⟩)
    rintro a k ⟨⟨hg, hs, hd⟩, i2, i3, _⟩
    refine wp_ret ?_
    exact hret631 _ _ _ (Option.some.inj hr).symm (retC2 rfl hd hg i2 i3)
   rw [if_neg (by rw [hc673]; decide)] at hr
   refine wp_skip ?_
   obtain ⟨x667_3, hx667_3, hr⟩ := bind_some hr
   obtain ⟨x667_4, hx667_4, hr⟩ := bind_some hr
   obtain ⟨x667_8, hx667_8, hr⟩ := bind_some hr
   obtain ⟨x667_12, hx667_12, hr⟩ := bind_some hr
   refine cut (fun a' k' => Bs noF k0 117 a' k' ∧ (IsV l_) (a'.get 0) k' ∧ (IsV x625_2) (a'.get 7) k' ∧ IsOwn 0 47 x667_12 (a'.get 8) k' ∧ Lo k0 (obF (a'.get 8)) ∧ (IsV s628.2) (a'.get 9) k' ∧ True) ?_ hQ ?_
   ·intro Q671 hQQ671 hp672
    refine region (a0 := a) (k0 := k) (n := 117) (m := 12) (⟨some (OwnAt (a.get 8) 0 47 s628.1), [(8, none)]⟩ :: ⟨some (IsV x625_2), [(7, none)]⟩ :: ⟨some (IsV s628.2), [(9, none)]⟩ :: ⟨some (IsV x667_3), [(102, some 2)]⟩ :: ⟨some (IsPtr x667_4), [(101, some 1), (103, some 3)]⟩ :: ⟨some (IsV x667_4), [(104, some 4)]⟩ :: ⟨some (IsV x625_2), [(7, none)]⟩ :: ⟨some (IsV s628.2), [(9, none)]⟩ :: ⟨some (IsPtr x667_8), [(106, some 6), (107, some 7)]⟩ :: ⟨some (IsV x667_8), [(108, some 8)]⟩ :: ⟨some (IsV x662_1.1), [(13, none)]⟩ :: ⟨some (IsV (⟨x667_4, x667_8, x662_1.1⟩ : Slab)), [(105, some 5), (109, some 9), (110, some 10)]⟩ :: []) hmix hs (by kernel_rfl) ⟨ob1 rfl fun b q hk hn => ok_moveOA (.inl rfl) (ownAt hn.1 (up i8 hk hn.1)), ob1 rfl fun b q hk hn => ok_move rfl (up i7 hk hn.1), ob1 rfl fun b q hk hn => ok_move rfl (up i9 hk hn.1), ob1 rfl fun b q hk hn => ok_sub rfl hn.1 (isV_int.2 rfl) hx667_3, ob1 rfl fun b q hk hn => ok_indexAddr rfl Try.underlying57 ty3 (IsV.rd hn.1) hn.2.1 hx667_4, ob1 rfl fun b q hk hn => ok_load rfl ty3 hn.1, ob1 rfl fun b q hk hn => ok_move rfl (up i7 hk hn.1), ob1 rfl fun b q hk hn => ok_move rfl (up i9 hk hn.1), ob1 rfl fun b q hk hn => ok_indexAddr rfl Try.underlying57 ty3 (IsV.rd hn.1) hn.2.1 hx667_8, ob1 rfl fun b q hk hn => ok_load rfl ty3 hn.1, ob1 rfl fun b q hk hn => ok_move rfl (up i13 hk hn.1), ob1 rfl fun b q hk hn => ok_build rfl (bld47_0_1_2 hn.1 hn.2.1 hn.2.2.1), trivial⟩ hQQ671 fun b q p => ?_
    have hgq := hg.then p.grow
    have hsb := p.size.trans hs
    have hdb := p.defers.trans hd
    have j0 := p.ke 0 rfl i0
    have j7 := p.ke 7 rfl i7
    have j9 := p.ke 9 rfl i9
    have e100 : b.get 100 = a.get 8 := (p.ou 0 100 rfl).1
    have j100 : IsOwn 0 47 s628.1 (b.get 100) q := (p.ou 0 100 rfl).2
    have y100 : Lo k0 (obF (b.get 100)) := by rw [e100]; exact n8
    have j111 : (IsV (⟨x667_4, x667_8, x662_1.1⟩ : Slab)) (b.get 111) q := p.ou 11 111 rfl
    have hns := j100.nshF
    refine tail_call (F := obF (b.get 100)) (i := 12) (d := 112) rfl rfl rfl rfl (by rw [hsb]; decide) Try.call31 hQQ671 (solid_put_ok j100 j111 hx667_12) fun b2 q2 hsz hdf hoth hch hres => ?_
    have hle := hch.le hns
    obtain ⟨hown, hob⟩ := hres
    have yn : Lo k0 (obF (b2.get 112)) := y100.app hgq hob
    replace j0 := Pers.pers hle j0
    replace j7 := Pers.pers hle j7
    replace j9 := Pers.pers hle j9
    replace j111 := Pers.pers hle j111
    replace hgq := hgq.step hch y100.wr
    rw [← hoth 0 (by decide)] at j0
    rw [← hoth 7 (by decide)] at j7
    rw [← hoth 9 (by decide)] at j9
    rw [← hoth 111 (by decide)] at j111
    have j112 := hown
    have y112 := yn
    have hres := True.intro
    clear hown hob yn
    replace hsb := hsz.trans hsb
    replace hdb := hdf.trans hdb
    clear hle hch hres hns hsz hdf hoth
    obtain ⟨b, hbb⟩ : ∃ b, b = b2 := ⟨b2, rfl⟩
    subst hbb
    obtain ⟨q, hqq⟩ : ∃ q, q = q2 := ⟨q2, rfl⟩
    subst hqq
    refine tail_assign (i := 13) (d := 8) rfl rfl (.inl rfl) rfl (by rw [hsb]; decide) fun b2 hsz hdf hnew hoth => ?_
    have jn : (IsOwn 0 47 x667_12) (b2.get 8) q := by rw [hnew]; exact j112
    have yn : Lo k0 (obF (b2.get 8)) := by rw [hnew]; exact y112
    rw [← hoth 0 (by decide)] at j0
    rw [← hoth 7 (by decide)] at j7
    rw [← hoth 9 (by decide)] at j9
    rw [← hoth 111 (by decide)] at j111
    have j8 := jn
    have y8 := yn
    replace hsb := hsz.trans hsb
    replace hdb := hdf.trans hdb
    clear hsz hdf hoth
    obtain ⟨b, hbb⟩ : ∃ b, b = b2 := ⟨b2, rfl⟩
    subst hbb
    exact tail_done (k := q) (hp672 _ _ ⟨⟨hgq, hsb, hdb⟩, j0, j7, j8, y8, j9, trivial⟩)
   rintro a k ⟨⟨hg, hs, hd⟩, i0, i7, i8, n8, i9, _⟩
   obtain ⟨x668_1, hx668_1, hr⟩ := bind_some hr
   refine cut (fun a' k' => Bs noF k0 117 a' k' ∧ (IsV l_) (a'.get 0) k' ∧ (IsV x625_2) (a'.get 7) k' ∧ IsOwn 0 47 x667_12 (a'.get 8) k' ∧ Lo k0 (obF (a'.get 8)) ∧ (IsV x668_1) (a'.get 9) k' ∧ True) ?_ hQ ?_
   ·intro Q669 hQQ669 hp670
    refine gS 3 (_ :: _ :: _ :: []) hs (by kernel_rfl) ⟨mu rfl i9, o1 [(61, some 0)] rfl fun _ _ h n => ok_add rfl n.1 (cI rfl) hx668_1, cp 1 rfl rfl, trivial⟩ hQQ669 fun b q p => ?_
    exact tail_done (k := q) (hp670 _ _ ⟨Bs.post ⟨hg, hs, hd⟩ p, p.ke 0 rfl i0, p.ke 7 rfl i7, p.ke 8 rfl i8, (by rw [p.old 8 rfl]; exact n8), p.ou 2 9 rfl, trivial⟩)
   rintro a k ⟨⟨hg, hs, hd⟩, i0, i7, i8, n8, i9, _⟩
   exact hgo629 _ _ _ (Option.some.inj hr).symm ⟨⟨hg, hs, hd⟩, i0, i7, i8, n8, i9, trivial⟩
  rw [if_neg (by rw [hc685]; decide)] at hr
  refine wp_exit ?_
  obtain ⟨kk, sh684, ii8⟩ := i8.give
  replace i8 := ii8
  replace hg := hg.hand sh684 n8.wr
  rw [← sh684.w]
  clear sh684
  obtain ⟨k, hkk⟩ : ∃ k, k = kk := ⟨kk, rfl⟩
  subst hkk
  exact hex630 _ _ _ _ (Option.some.inj hr).symm ⟨rfl, ⟨hg, hs, hd⟩, i8, trivial⟩
 ·rintro r693 a k rfl hR
  dsimp only at hr
  obtain rfl := Option.some.inj hr
  exact hR
 ·rintro _ _ _ rfl _
  simp at hr
 clear hf688
 rintro _ s689 a k rfl ⟨rfl, ⟨hg, hs, hd⟩, i8, _⟩
 dsimp only at hr
 refine wp_seq ?_
 obtain ⟨x690_1, hx690_1, hr⟩ := bind_some hr
 refine cut (fun a' k' => Bs noF k0 117 a' k' ∧ (IsV x690_1.1) (a'.get 2) k' ∧ (IsV x690_1.2) (a'.get 3) k' ∧ True) ?_ hQ ?_
 ·intro Q691 hQQ691 hp692
  refine gS 6 (_ :: _ :: _ :: _ :: _ :: _ :: []) hs (by kernel_rfl) ⟨mu rfl i8, o1 [(113, some 0)] rfl fun _ _ h n => ok_call rfl Try.call32 (solid_fits_ok n.1 hx690_1), o1 [(114, some 1)] rfl fun _ _ h n => ok_ext2_0 rfl n.1, o1 [(114, some 1)] rfl fun _ _ h n => ok_ext2_1 rfl n.1, cp 2 rfl rfl, cp 3 rfl rfl, trivial⟩ hQQ691 fun b q p => ?_
  exact tail_done (k := q) (hp692 _ _ ⟨Bs.post ⟨hg, hs, hd⟩ p, p.ou 4 2 rfl, p.ou 5 3 rfl, trivial⟩)
 rintro a k ⟨⟨hg, hs, hd⟩, i2, i3, _⟩
 refine wp_ret ?_
 obtain rfl := Option.some.inj hr
 exact retC2 rfl hd hg i2 i3
def region_Right (a_ : (List Rect)) : Option (Bool) :=
 (region_Of a_).bind fun x713_1 =>
 (if (x713_1.2 == 0) then
  (slices_Equal_Rect x713_1.1 a_).bind fun x714_5 =>
  some x714_5
 else
  some false).bind fun x714_6 =>
 some x714_6
theorem region_Right_ok {k0 : K} {v0 : Value} {a_ : (List Rect)} {r : Bool} (i0 : (IsV a_) v0 k0) (hr : region_Right a_ = some r) :
  Calls Try.prog 41 #[v0] k0.w (Ret k0 (IsV r)) := by
 unfold region_Right at hr
 refine Ret.ofC ?_
 refine enterK Try.func41 rfl Try.ntmps41 (show 1 ≤ 17 by decide) fun a k hk0 hs hd ha => ?_
 obtain ⟨e0, _⟩ := ha
 replace i0 : (IsV a_) (a.get 0) k := by rw [e0, hk0]; exact i0
 have hQ : Gb.LetsOut (bodyPost Try.prog Try.f41 (RetC noF k0 (IsV r))) := letsOutC
 have hg : Chg noF k0 k := by rw [hk0]; exact Chg.refl _ k0
 refine stepL 1 (⟨some (IsV false), []⟩ :: []) rfl ⟨hg, hs, hd⟩ (by kernel_rfl) ⟨ob1 rfl fun _ _ h n => ok_assign rfl (isV_bool.2 rfl), trivial⟩ [⟨_, _⟩] (fun b q p => ⟨p.ke 0 rfl i0, trivial⟩) ?_
 rintro a k ⟨⟨hg, hs, hd⟩, i0, _⟩
 refine wp_seq ?_
 obtain ⟨x713_1, hx713_1, hr⟩ := bind_some hr
 refine cut (fun a' k' => Bs noF k0 17 a' k' ∧ (IsV a_) (a'.get 0) k' ∧ (IsV x713_1.1) (a'.get 3) k' ∧ (IsV x713_1.2) (a'.get 4) k' ∧ True) ?_ hQ ?_
 ·intro Q717 hQQ717 hp718
  refine gS 7 (_ :: _ :: _ :: _ :: _ :: _ :: _ :: []) hs (by kernel_rfl) ⟨mu rfl i0, o1 [(6, some 0)] rfl fun _ _ h n => ok_call rfl Try.call24 (region_Of_ok n.1 hx713_1), cm 1 rfl rfl, o1 [(5, some 2)] rfl fun _ _ h n => ok_ext2_0 rfl n.1, o1 [(5, some 2)] rfl fun _ _ h n => ok_ext2_1 rfl n.1, cp 3 rfl rfl, cp 4 rfl rfl, trivial⟩ hQQ717 fun b q p => ?_
  exact tail_done (k := q) (hp718 _ _ ⟨Bs.post ⟨hg, hs, hd⟩ p, p.ke 0 rfl i0, p.ou 5 3 rfl, p.ou 6 4 rfl, trivial⟩)
 rintro a k ⟨⟨hg, hs, hd⟩, i0, i3, i4, _⟩
 refine wp_seq ?_
 obtain ⟨x714_6, hx714_6, hr⟩ := bind_some hr
 obtain ⟨x714_5, hx714_5, hx714_6⟩ := ite_bind hx714_6
 refine cut (fun a' k' => Bs noF k0 17 a' k' ∧ (IsV x714_6) (a'.get 2) k' ∧ True) ?_ hQ ?_
 ·intro Q715 hQQ715 hp716
  refine gS 8 (_ :: _ :: _ :: _ :: _ :: _ :: _ :: _ :: []) hs (by kernel_rfl) ⟨mu rfl i4, o1 [(10, some 0)] rfl fun _ _ h n => ok_eqI rfl n.1 (cI rfl), cm 1 rfl rfl, mT rfl rfl i3, mT rfl rfl i0, gT [(13, some 3), (14, some 4)] rfl rfl fun hp _ _ h n => ok_call rfl Try.call53 (slices_Equal_Rect_ok (Gd.get n.1 hp) (Gd.get n.2.1 hp) (hx714_5 hp)), o1 [(12, some 2), (15, some 5)] rfl fun _ _ h n => ok_pickM rfl n.1 hx714_6 (Gd.get n.2.1) (cB rfl), cp 6 rfl rfl, trivial⟩ hQQ715 fun b q p => ?_
  exact tail_done (k := q) (hp716 _ _ ⟨Bs.post ⟨hg, hs, hd⟩ p, p.ou 7 2 rfl, trivial⟩)
 rintro a k ⟨⟨hg, hs, hd⟩, i2, _⟩
 refine wp_ret ?_
 obtain rfl := Option.some.inj hr
 exact retC1 rfl hd hg i2
def solid_Right_L0 (s_ : (List Slab)) (s727 : Int) : Option (Flow (Int) (Bool)) :=
 if (decide (s727 < (s_.length : Int))) then
  ((getI s_ s727).bind fun x737_1 =>
  (if ((((decide (x737_1.Z0 < 0)) || (decide (x737_1.Z1 ≤ x737_1.Z0))) || (decide (4096 < x737_1.Z1))) || ((x737_1.Area.length : Int) == 0)) then
   some true
  else
   (region_Right x737_1.Area).bind fun x738_24 =>
   some (!x738_24)).bind fun x738_26 =>
  if x738_26 then
   some (.ret false)
  else
   if (s727 == 0) then
    some (.go ())
   else
    (subI s727 1).bind fun x743_2 =>
    (getI s_ x743_2).bind fun x743_3 =>
    (if (decide (x737_1.Z0 < x743_3.Z1)) then
     some true
    else
     (if (x743_3.Z1 == x737_1.Z0) then
      (region_Same x743_3.Area x737_1.Area).bind fun x744_16 =>
      some x744_16
     else
      some false).bind fun x744_17 =>
     some x744_17).bind fun x744_18 =>
    if x744_18 then
     some (.ret false)
    else
     some (.go ()) : Option (Flow (Unit) (Bool))).bind fun f761 => match f761 with
   | .go _ =>
    (addI s727 1).bind fun x763_0 =>
    some (.go x763_0)
   | .ex _ _ => none
   | .ret r766 => some (.ret r766)
 else
  some (.ex 0 s727)
def solid_Right (s_ : (List Slab)) : Option (Bool) :=
 if (decide (80 < (s_.length : Int))) then
  some false
 else
  (iterL (solid_Right_L0 s_) (s_.length + 1) 0).bind fun f771 => match f771 with
   | .go _ => none
   | .ex _ _ =>
    some true
   | .ret r776 => some r776
theorem solid_Right_ok {k0 : K} {v0 : Value} {s_ : (List Slab)} {r : Bool} (i0 : (IsV s_) v0 k0) (hr : solid_Right s_ = some r) :
  Calls Try.prog 17 #[v0] k0.w (Ret k0 (IsV r)) := by
 unfold solid_Right at hr
 refine Ret.ofC ?_
 refine enterK Try.func17 rfl Try.ntmps17 (show 1 ≤ 70 by decide) fun a k hk0 hs hd ha => ?_
 obtain ⟨e0, _⟩ := ha
 replace i0 : (IsV s_) (a.get 0) k := by rw [e0, hk0]; exact i0
 have hQ : Gb.LetsOut (bodyPost Try.prog Try.f17 (RetC noF k0 (IsV r))) := letsOutC
 have hg : Chg noF k0 k := by rw [hk0]; exact Chg.refl _ k0
 refine stepL 1 (⟨some (IsV false), []⟩ :: []) rfl ⟨hg, hs, hd⟩ (by kernel_rfl) ⟨ob1 rfl fun _ _ h n => ok_assign rfl (isV_bool.2 rfl), trivial⟩ [⟨_, _⟩] (fun b q p => ⟨p.ke 0 rfl i0, trivial⟩) ?_
 rintro a k ⟨⟨hg, hs, hd⟩, i0, _⟩
 refine wp_seq ?_
 refine stepL 3 (_ :: _ :: _ :: []) rfl ⟨hg, hs, hd⟩ (by kernel_rfl) ⟨mu rfl i0, o1 [(6, some 0)] rfl fun _ _ h n => ok_len rfl rfl Try.underlying24 (IsV.rd n.1), o1 [(7, some 1)] rfl fun _ _ h n => ok_gtr rfl n.1 (cI rfl), trivial⟩ [⟨_, _⟩, ⟨_, _⟩] (fun b q p => ⟨p.ke 0 rfl i0, p.ou 2 8 rfl, trivial⟩) ?_
 rintro a k ⟨⟨hg, hs, hd⟩, i0, i8, _⟩
 refine wp_cond_split (isBool i8) (fun hc780 => ?_) (fun hc780 => ?_)
 ·rw [if_pos hc780] at hr
  refine stepL 1 (⟨some (IsV false), []⟩ :: []) rfl ⟨hg, hs, hd⟩ (by kernel_rfl) ⟨ob1 rfl fun _ _ h n => ok_assign rfl (isV_bool.2 rfl), trivial⟩ [⟨_, _⟩] (fun b q p => ⟨p.ou 0 2 rfl, trivial⟩) ?_
  rintro a k ⟨⟨hg, hs, hd⟩, i2, _⟩
  refine wp_ret ?_
  obtain rfl := Option.some.inj hr
  exact retC1 rfl hd hg i2
 rw [if_neg (by rw [hc780]; decide)] at hr
 refine wp_skip ?_
 refine wp_seq ?_
 refine stepL 3 (_ :: _ :: ⟨some (IsI 0), []⟩ :: []) rfl ⟨hg, hs, hd⟩ (by kernel_rfl) ⟨mu rfl i0, o1 [(9, some 0)] rfl fun _ _ h n => ok_len rfl rfl Try.underlying24 (IsV.rd n.1), ob1 rfl fun _ _ h n => ok_move rfl (cI rfl), trivial⟩ [⟨_, _⟩, ⟨_, _⟩, ⟨_, _⟩, ⟨_, _⟩] (fun b q p => ⟨p.ke 0 rfl i0, p.ou 0 9 rfl, p.ou 1 10 rfl, p.ou 2 11 rfl, trivial⟩) ?_
 rintro a k ⟨⟨hg, hs, hd⟩, i0, i9, i10, i11, _⟩
 refine wp_block ?_
 obtain ⟨f771, hf771, hr⟩ := bind_some hr
 refine cutFe f771 (fun s' a' k' => Bs noF k0 70 a' k' ∧ (IsV s_) (a'.get 0) k' ∧ (IsV s_) (a'.get 9) k' ∧ (IsL s_) (a'.get 10) k' ∧ (IsV s') (a'.get 11) k' ∧ True) (fun i' s' a' k' => (i' = 0 ∧ Bs noF k0 70 a' k' ∧ True)) (fun r' a' k' => bodyPost Try.prog Try.f17 (RetC noF k0 (IsV r')) .ret a' k'.w) ?_ hQ ?_ ?_ ?_
 ·intro Q777 hQQ777 hgo hex hret
  refine sim_loop ?_ _ _ _ _ _ hf771 ⟨⟨hg, hs, hd⟩, i0, i9, i10, i11, trivial⟩ Q777 hQQ777 hgo hex hret
  clear hr hf771 hgo hex hret hQQ777 hQ hg hs hd i0 i10 i11 i9
  intro s727 fl_ a k hr hS Q hQ hgo728 hex729 hret730
  obtain ⟨⟨hg, hs, hd⟩, i0, i9, i10, i11, _⟩ := hS
  unfold solid_Right_L0 at hr
  refine stepL 1 (_ :: []) rfl ⟨hg, hs, hd⟩ (by kernel_rfl) ⟨o1 [(11, none), (10, none)] rfl fun _ _ h n => ok_lss rfl (up i11 h n.1) (up i10 h n.2.1), trivial⟩ [⟨_, _⟩, ⟨_, _⟩, ⟨_, _⟩, ⟨_, _⟩, ⟨_, _⟩] (fun b q p => ⟨p.ke 0 rfl i0, p.ke 9 rfl i9, p.ke 10 rfl i10, p.ke 11 rfl i11, p.ou 0 12 rfl, trivial⟩) ?_
  rintro a k ⟨⟨hg, hs, hd⟩, i0, i9, i10, i11, i12, _⟩
  refine wp_seq ?_
  refine wp_cond_split (isBool i12) (fun hc768 => ?_) (fun hc768 => ?_)
  ·rw [if_pos hc768] at hr
   refine wp_skip ?_
   refine wp_seq ?_
   obtain ⟨f761, hf761, hr⟩ := bind_some hr
   refine cutFg f761 (fun s' a' k' => Bs noF k0 70 a' k' ∧ (IsV s_) (a'.get 0) k' ∧ (IsV s_) (a'.get 9) k' ∧ (IsL s_) (a'.get 10) k' ∧ (IsV s727) (a'.get 11) k' ∧ True) (fun i' s' a' k' => False) (fun r' a' k' => bodyPost Try.prog Try.f17 (RetC noF k0 (IsV r')) .ret a' k'.w) ?_ hQ ?_ ?_ ?_
   ·intro Q767 hQQ767 hgo734 hex735 hret736
    replace hr := hf761
    clear hQ
    have hQ := hQQ767
    refine wp_block ?_
    refine wp_seq ?_
    obtain ⟨x737_1, hx737_1, hr⟩ := bind_some hr
    refine cut (fun a' k' => Bs noF k0 70 a' k' ∧ (IsV s_) (a'.get 0) k' ∧ (IsV s727) (a'.get 3) k' ∧ (IsRef x737_1) (a'.get 4) k' ∧ (IsV s_) (a'.get 9) k' ∧ (IsL s_) (a'.get 10) k' ∧ (IsV s727) (a'.get 11) k' ∧ True) ?_ hQ ?_
    ·intro Q759 hQQ759 hp760
     refine gS 5 (_ :: _ :: _ :: ⟨some (IsBox k.w.heap.size (⟨0, 0, []⟩ : Slab)), []⟩ :: _ :: []) hs (by kernel_rfl) ⟨mu rfl i11, o1 [(9, none), (11, none)] rfl fun _ _ h n => ok_indexAddr rfl Try.underlying24 ty47 (IsV.rd (up i9 h n.1)) (up i11 h n.2.1) hx737_1, o1 [(14, some 1)] rfl fun _ _ h n => ok_load rfl ty47 n.1, ob1 rfl fun _ _ h n => ok_alloc _ h.size rfl z47, cp 0 rfl rfl, trivial⟩ hQQ759 fun b q p => ?_
     have hgq := hg.then p.grow
     have hsb := p.size.trans hs
     have hdb := p.defers.trans hd
     have j0 := p.ke 0 rfl i0
     have j3 : (IsV s727) (b.get 3) q := p.ou 4 3 rfl
     obtain ⟨b4, j4, x4, z4⟩ : (IsBox k.w.heap.size (⟨0, 0, []⟩ : Slab)) (b.get 4) q := p.ou 3 4 rfl
     replace x4 : Lo k (Eq b4) := Lo.eq x4
     have y4 : Lo k0 (Eq b4) := x4.chg hg
     have j9 := p.ke 9 rfl i9
     have j10 := p.ke 10 rfl i10
     have j11 := p.ke 11 rfl i11
     have j15 : (IsV x737_1) (b.get 15) q := p.ou 2 15 rfl
     have hns := z4.nshF
     refine tail_storeB (i := 5) rfl rfl rfl rfl szf47 (Upd.self (α := Slab)) j4 z4 j15 fun q2 hch hz => ?_
     replace hgq := hgq.step hch y4.wr
     have hle := hch.le hns
     replace j0 := Pers.pers hle j0
     replace j3 := Pers.pers hle j3
     replace j9 := Pers.pers hle j9
     replace j10 := Pers.pers hle j10
     replace j11 := Pers.pers hle j11
     replace j15 := Pers.pers hle j15
     replace z4 := hz
     clear hns hle hch
     obtain ⟨q, hqq⟩ : ∃ q, q = q2 := ⟨q2, rfl⟩
     subst hqq
     obtain ⟨q2, hsh, jn⟩ := z4.give
     replace j0 := Pers.pers hsh.le j0
     replace j3 := Pers.pers hsh.le j3
     replace j9 := Pers.pers hsh.le j9
     replace j10 := Pers.pers hsh.le j10
     replace j11 := Pers.pers hsh.le j11
     rw [← j4] at jn
     replace j4 := jn
     replace hgq := hgq.hand hsh y4.wr
     rw [← hsh.w]
     clear hsh
     obtain ⟨q, hqq⟩ : ∃ q, q = q2 := ⟨q2, rfl⟩
     subst hqq
     exact tail_done (k := q) (hp760 _ _ ⟨⟨hgq, hsb, hdb⟩, j0, j3, j4, j9, j10, j11, trivial⟩)
    rintro a k ⟨⟨hg, hs, hd⟩, i0, i3, i4, i9, i10, i11, _⟩
    refine wp_seq ?_
    refine wp_seq ?_
    obtain ⟨x738_26, hx738_26, hr⟩ := bind_some hr
    obtain ⟨x738_24, hx738_24, hx738_26⟩ := ite_bindF hx738_26
    refine cut (fun a' k' => Bs noF k0 70 a' k' ∧ (IsV s_) (a'.get 0) k' ∧ (IsV s727) (a'.get 3) k' ∧ (IsRef x737_1) (a'.get 4) k' ∧ (IsV s_) (a'.get 9) k' ∧ (IsL s_) (a'.get 10) k' ∧ (IsV s727) (a'.get 11) k' ∧ (IsV x738_26) (a'.get 42) k' ∧ True) ?_ hQ ?_
    ·intro Q757 hQQ757 hp758
     refine gS 27 (_ :: _ :: _ :: _ :: _ :: _ :: _ :: _ :: _ :: _ :: _ :: _ :: _ :: _ :: _ :: _ :: _ :: _ :: _ :: _ :: _ :: _ :: _ :: _ :: _ :: _ :: _ :: []) hs (by kernel_rfl) ⟨o1 [(4, none)] rfl fun _ _ h n => ok_fieldAddr rfl fo47_0 (at_Slab_0 _) ((up i4 h n.1)).ptr, o1 [(16, some 0)] rfl fun _ _ h n => ok_load rfl ty3 n.1, o1 [(17, some 1)] rfl fun _ _ h n => ok_lss rfl n.1 (cI rfl), cm 2 rfl rfl, gF [(4, none)] rfl rfl fun hp _ _ h n => ok_fieldAddr rfl fo47_0 (at_Slab_0 _) ((up i4 h n.1)).ptr, gF [(20, some 4)] rfl rfl fun hp _ _ h n => ok_load rfl ty3 (Gd.get n.1 hp), gF [(4, none)] rfl rfl fun hp _ _ h n => ok_fieldAddr rfl fo47_1 (at_Slab_1 _) ((up i4 h n.1)).ptr, gF [(22, some 6)] rfl rfl fun hp _ _ h n => ok_load rfl ty3 (Gd.get n.1 hp), gF [(21, some 5), (23, some 7)] rfl rfl fun hp _ _ h n => ok_geq rfl (Gd.get n.1 hp) (Gd.get n.2.1 hp), o1 [(19, some 3), (24, some 8)] rfl fun _ _ h n => ok_pickOr rfl n.1 (cB rfl) (Gd.get n.2.1), cm 9 rfl rfl, gF [(4, none)] rfl rfl fun hp _ _ h n => ok_fieldAddr rfl fo47_1 (at_Slab_1 _) ((up i4 h n.1)).ptr, gF [(27, some 11)] rfl rfl fun hp _ _ h n => ok_load rfl ty3 (Gd.get n.1 hp), gF [(28, some 12)] rfl rfl fun hp _ _ h n => ok_gtr rfl (Gd.get n.1 hp) (cI rfl), o1 [(26, some 10), (29, some 13)] rfl fun _ _ h n => ok_pickOr rfl n.1 (cB rfl) (Gd.get n.2.1), cm 14 rfl rfl, gF [(4, none)] rfl rfl fun hp _ _ h n => ok_fieldAddr rfl fo47_2 (at_Slab_2 _) ((up i4 h n.1)).ptr, gF [(32, some 16)] rfl rfl fun hp _ _ h n => ok_load rfl ty44 (Gd.get n.1 hp), gF [(33, some 17)] rfl rfl fun hp _ _ h n => ok_len rfl rfl Try.underlying44 (IsV.rd (Gd.get n.1 hp)), gF [(34, some 18)] rfl rfl fun hp _ _ h n => ok_eqI rfl (Gd.get n.1 hp) (cI rfl), o1 [(31, some 15), (35, some 19)] rfl fun _ _ h n => ok_pickOr rfl n.1 (cB rfl) (Gd.get n.2.1), cm 20 rfl rfl, gF [(4, none)] rfl rfl fun hp _ _ h n => ok_fieldAddr rfl fo47_2 (at_Slab_2 _) ((up i4 h n.1)).ptr, gF [(38, some 22)] rfl rfl fun hp _ _ h n => ok_load rfl ty44 (Gd.get n.1 hp), gF [(39, some 23)] rfl rfl fun hp _ _ h n => ok_call rfl Try.call41 (region_Right_ok (Gd.get n.1 hp) (hx738_24 hp)), gF [(40, some 24)] rfl rfl fun hp _ _ h n => ok_not rfl (Gd.get n.1 hp), o1 [(37, some 21), (41, some 25)] rfl fun _ _ h n => ok_pickM rfl n.1 hx738_26 (cB rfl) (Gd.get n.2.1), trivial⟩ hQQ757 fun b q p => ?_
     exact tail_done (k := q) (hp758 _ _ ⟨Bs.post ⟨hg, hs, hd⟩ p, p.ke 0 rfl i0, p.ke 3 rfl i3, p.ke 4 rfl i4, p.ke 9 rfl i9, p.ke 10 rfl i10, p.ke 11 rfl i11, p.ou 26 42 rfl, trivial⟩)
    rintro a k ⟨⟨hg, hs, hd⟩, i0, i3, i4, i9, i10, i11, i42, _⟩
    refine wp_cond_split (isBool i42) (fun hc756 => ?_) (fun hc756 => ?_)
    ·rw [if_pos hc756] at hr
     refine stepL 1 (⟨some (IsV false), []⟩ :: []) rfl ⟨hg, hs, hd⟩ (by kernel_rfl) ⟨ob1 rfl fun _ _ h n => ok_assign rfl (isV_bool.2 rfl), trivial⟩ [⟨_, _⟩] (fun b q p => ⟨p.ou 0 2 rfl, trivial⟩) ?_
     rintro a k ⟨⟨hg, hs, hd⟩, i2, _⟩
     refine wp_ret ?_
     exact hret736 _ _ _ (Option.some.inj hr).symm (retC1 rfl hd hg i2)
    rw [if_neg (by rw [hc756]; decide)] at hr
    refine wp_skip ?_
    refine wp_seq ?_
    refine stepL 2 (_ :: _ :: []) rfl ⟨hg, hs, hd⟩ (by kernel_rfl) ⟨mu rfl i3, o1 [(43, some 0)] rfl fun _ _ h n => ok_eqI rfl n.1 (cI rfl), trivial⟩ [⟨_, _⟩, ⟨_, _⟩, ⟨_, _⟩, ⟨_, _⟩, ⟨_, _⟩, ⟨_, _⟩, ⟨_, _⟩] (fun b q p => ⟨p.ke 0 rfl i0, p.ke 3 rfl i3, p.ke 4 rfl i4, p.ke 9 rfl i9, p.ke 10 rfl i10, p.ke 11 rfl i11, p.ou 1 44 rfl, trivial⟩) ?_
    rintro a k ⟨⟨hg, hs, hd⟩, i0, i3, i4, i9, i10, i11, i44, _⟩
    refine wp_cond_split (isBool i44) (fun hc753 => ?_) (fun hc753 => ?_)
    ·rw [if_pos hc753] at hr
     refine wp_exit ?_
     exact hgo734 _ _ _ (Option.some.inj hr).symm ⟨⟨hg, hs, hd⟩, i0, i9, i10, i11, trivial⟩
    rw [if_neg (by rw [hc753]; decide)] at hr
    refine wp_skip ?_
    refine wp_seq ?_
    obtain ⟨x743_2, hx743_2, hr⟩ := bind_some hr
    obtain ⟨x743_3, hx743_3, hr⟩ := bind_some hr
    refine cut (fun a' k' => Bs noF k0 70 a' k' ∧ (IsV s_) (a'.get 0) k' ∧ (IsRef x737_1) (a'.get 4) k' ∧ (IsRef x743_3) (a'.get 5) k' ∧ (IsV s_) (a'.get 9) k' ∧ (IsL s_) (a'.get 10) k' ∧ (IsV s727) (a'.get 11) k' ∧ True) ?_ hQ ?_
    ·intro Q751 hQQ751 hp752
     refine gS 6 (_ :: _ :: _ :: _ :: _ :: ⟨some (IsBox k.w.heap.size (⟨0, 0, []⟩ : Slab)), []⟩ :: []) hs (by kernel_rfl) ⟨mu rfl i0, mu rfl i3, o1 [(46, some 1)] rfl fun _ _ h n => ok_sub rfl n.1 (cI rfl) hx743_2, o1 [(45, some 0), (47, some 2)] rfl fun _ _ h n => ok_indexAddr rfl Try.underlying24 ty47 (IsV.rd n.1) n.2.1 hx743_3, o1 [(48, some 3)] rfl fun _ _ h n => ok_load rfl ty47 n.1, ob1 rfl fun _ _ h n => ok_alloc _ h.size rfl z47, trivial⟩ hQQ751 fun b q p => ?_
     have hgq := hg.then p.grow
     have hsb := p.size.trans hs
     have hdb := p.defers.trans hd
     have j0 := p.ke 0 rfl i0
     have j4 := p.ke 4 rfl i4
     obtain ⟨b5, j5, x5, z5⟩ : (IsBox k.w.heap.size (⟨0, 0, []⟩ : Slab)) (b.get 5) q := p.ou 5 5 rfl
     replace x5 : Lo k (Eq b5) := Lo.eq x5
     have y5 : Lo k0 (Eq b5) := x5.chg hg
     have j9 := p.ke 9 rfl i9
     have j10 := p.ke 10 rfl i10
     have j11 := p.ke 11 rfl i11
     have j49 : (IsV x743_3) (b.get 49) q := p.ou 4 49 rfl
     have hns := z5.nshF
     refine tail_storeB (i := 6) rfl rfl rfl rfl szf47 (Upd.self (α := Slab)) j5 z5 j49 fun q2 hch hz => ?_
     replace hgq := hgq.step hch y5.wr
     have hle := hch.le hns
     replace j0 := Pers.pers hle j0
     replace j4 := Pers.pers hle j4
     replace j9 := Pers.pers hle j9
     replace j10 := Pers.pers hle j10
     replace j11 := Pers.pers hle j11
     replace j49 := Pers.pers hle j49
     replace z5 := hz
     clear hns hle hch
     obtain ⟨q, hqq⟩ : ∃ q, q = q2 := ⟨q2, rfl⟩
     subst hqq
     obtain ⟨q2, hsh, jn⟩ := z5.give
     replace j0 := Pers.pers hsh.le j0
     replace j4 := Pers.pers hsh.le j4
     replace j9 := Pers.pers hsh.le j9
     replace j10 := Pers.pers hsh.le j10
     replace j11 := Pers.pers hsh.le j11
     rw [← j5] at jn
     replace j5 := jn
     replace hgq := hgq.hand hsh y5.wr
     rw [← hsh.w]
     clear hsh
     obtain ⟨q, hqq⟩ : ∃ q, q = q2 := ⟨q2, rfl⟩
     subst hqq
     exact tail_done (k := q) (hp752 _ _ ⟨⟨hgq, hsb, hdb⟩, j0, j4, j5, j9, j10, j11, trivial⟩)
    rintro a k ⟨⟨hg, hs, hd⟩, i0, i4, i5, i9, i10, i11, _⟩
    refine wp_seq ?_
    obtain ⟨x744_18, hx744_18, hr⟩ := bind_some hr
    obtain ⟨x744_17, hx744_17, hx744_18⟩ := ite_bindF hx744_18
    obtain ⟨x744_16, hx744_16, hx744_17⟩ := ite_bindP hx744_17
    refine cut (fun a' k' => Bs noF k0 70 a' k' ∧ (IsV s_) (a'.get 0) k' ∧ (IsV s_) (a'.get 9) k' ∧ (IsL s_) (a'.get 10) k' ∧ (IsV s727) (a'.get 11) k' ∧ (IsV x744_18) (a'.get 68) k' ∧ True) ?_ hQ ?_
    ·intro Q749 hQQ749 hp750
     refine gS 19 (_ :: _ :: _ :: _ :: _ :: _ :: _ :: _ :: _ :: _ :: _ :: ⟨some (Gd ((decide (x737_1.Z0 < x743_3.Z1)) = false) (IsV (x743_3.Z1 == x737_1.Z0))), [(60, some 10)]⟩ :: ⟨some (Gd (((decide (x737_1.Z0 < x743_3.Z1)) = false) ∧ (x743_3.Z1 == x737_1.Z0) = true) (IsPtr x743_3.Area)), [(5, none)]⟩ :: ⟨some (Gd (((decide (x737_1.Z0 < x743_3.Z1)) = false) ∧ (x743_3.Z1 == x737_1.Z0) = true) (IsV x743_3.Area)), [(62, some 12)]⟩ :: ⟨some (Gd (((decide (x737_1.Z0 < x743_3.Z1)) = false) ∧ (x743_3.Z1 == x737_1.Z0) = true) (IsPtr x737_1.Area)), [(4, none)]⟩ :: ⟨some (Gd (((decide (x737_1.Z0 < x743_3.Z1)) = false) ∧ (x743_3.Z1 == x737_1.Z0) = true) (IsV x737_1.Area)), [(64, some 14)]⟩ :: ⟨some (Gd (((decide (x737_1.Z0 < x743_3.Z1)) = false) ∧ (x743_3.Z1 == x737_1.Z0) = true) (IsV x744_16)), [(63, some 13), (65, some 15)]⟩ :: _ :: _ :: []) hs (by kernel_rfl) ⟨o1 [(5, none)] rfl fun _ _ h n => ok_fieldAddr rfl fo47_1 (at_Slab_1 _) ((up i5 h n.1)).ptr, o1 [(50, some 0)] rfl fun _ _ h n => ok_load rfl ty3 n.1, o1 [(4, none)] rfl fun _ _ h n => ok_fieldAddr rfl fo47_0 (at_Slab_0 _) ((up i4 h n.1)).ptr, o1 [(52, some 2)] rfl fun _ _ h n => ok_load rfl ty3 n.1, o1 [(51, some 1), (53, some 3)] rfl fun _ _ h n => ok_gtr rfl n.1 n.2.1, cm 4 rfl rfl, gF [(5, none)] rfl rfl fun hp _ _ h n => ok_fieldAddr rfl fo47_1 (at_Slab_1 _) ((up i5 h n.1)).ptr, gF [(56, some 6)] rfl rfl fun hp _ _ h n => ok_load rfl ty3 (Gd.get n.1 hp), gF [(4, none)] rfl rfl fun hp _ _ h n => ok_fieldAddr rfl fo47_0 (at_Slab_0 _) ((up i4 h n.1)).ptr, gF [(58, some 8)] rfl rfl fun hp _ _ h n => ok_load rfl ty3 (Gd.get n.1 hp), gF [(57, some 7), (59, some 9)] rfl rfl fun hp _ _ h n => ok_eqI rfl (Gd.get n.1 hp) (Gd.get n.2.1 hp), gdF rfl rfl fun hp _ _ h n => ok_move rfl (Gd.get n.1 hp), gdTT rfl rfl fun hp b q h n => ok_fieldAddr rfl fo47_2 (at_Slab_2 _) ((up i5 h n.1)).ptr, gdTT rfl rfl fun hp b q h n => ok_load rfl ty44 (Gd.get n.1 hp), gdTT rfl rfl fun hp b q h n => ok_fieldAddr rfl fo47_2 (at_Slab_2 _) ((up i4 h n.1)).ptr, gdTT rfl rfl fun hp b q h n => ok_load rfl ty44 (Gd.get n.1 hp), gdTT rfl rfl fun hp b q h n => ok_call rfl Try.call35 (region_Same_ok (Gd.get n.1 hp) (Gd.get n.2.1 hp) (hx744_16 hp)), gF [(61, some 11), (66, some 16)] rfl rfl fun hp _ _ h n => ok_pickM rfl (Gd.get n.1 hp) (hx744_17 hp) (fun hm => (Gd.get n.2.1 ⟨hp, hm⟩)) (cB rfl), o1 [(55, some 5), (67, some 17)] rfl fun _ _ h n => ok_pickM rfl n.1 hx744_18 (cB rfl) (Gd.get n.2.1), trivial⟩ hQQ749 fun b q p => ?_
     exact tail_done (k := q) (hp750 _ _ ⟨Bs.post ⟨hg, hs, hd⟩ p, p.ke 0 rfl i0, p.ke 9 rfl i9, p.ke 10 rfl i10, p.ke 11 rfl i11, p.ou 18 68 rfl, trivial⟩)
    rintro a k ⟨⟨hg, hs, hd⟩, i0, i9, i10, i11, i68, _⟩
    refine wp_cond_split (isBool i68) (fun hc748 => ?_) (fun hc748 => ?_)
    ·rw [if_pos hc748] at hr
     refine stepL 1 (⟨some (IsV false), []⟩ :: []) rfl ⟨hg, hs, hd⟩ (by kernel_rfl) ⟨ob1 rfl fun _ _ h n => ok_assign rfl (isV_bool.2 rfl), trivial⟩ [⟨_, _⟩] (fun b q p => ⟨p.ou 0 2 rfl, trivial⟩) ?_
     rintro a k ⟨⟨hg, hs, hd⟩, i2, _⟩
     refine wp_ret ?_
     exact hret736 _ _ _ (Option.some.inj hr).symm (retC1 rfl hd hg i2)
    rw [if_neg (by rw [hc748]; decide)] at hr
    refine wp_skip ?_
    exact hgo734 _ _ _ (Option.some.inj hr).symm ⟨⟨hg, hs, hd⟩, i0, i9, i10, i11, trivial⟩
   ·rintro r766 a k rfl hR
    dsimp only at hr
    exact hret730 _ _ _ (Option.some.inj hr).symm hR
   ·rintro _ _ _ _ _ hX
    exact hX.elim
   clear hf761
   rintro s762 a k rfl ⟨⟨hg, hs, hd⟩, i0, i9, i10, i11, _⟩
   dsimp only at hr
   obtain ⟨x763_0, hx763_0, hr⟩ := bind_some hr
   refine cut (fun a' k' => Bs noF k0 70 a' k' ∧ (IsV s_) (a'.get 0) k' ∧ (IsV s_) (a'.get 9) k' ∧ (IsL s_) (a'.get 10) k' ∧ (IsV x763_0) (a'.get 11) k' ∧ True) ?_ hQ ?_
   ·intro Q764 hQQ764 hp765
    refine gS 2 (_ :: _ :: []) hs (by kernel_rfl) ⟨o1 [(11, none)] rfl fun _ _ h n => ok_add rfl (up i11 h n.1) (cI rfl) hx763_0, cm 0 rfl rfl, trivial⟩ hQQ764 fun b q p => ?_
    exact tail_done (k := q) (hp765 _ _ ⟨Bs.post ⟨hg, hs, hd⟩ p, p.ke 0 rfl i0, p.ke 9 rfl i9, p.ke 10 rfl i10, p.ou 1 11 rfl, trivial⟩)
   rintro a k ⟨⟨hg, hs, hd⟩, i0, i9, i10, i11, _⟩
   exact hgo728 _ _ _ (Option.some.inj hr).symm ⟨⟨hg, hs, hd⟩, i0, i9, i10, i11, trivial⟩
  rw [if_neg (by rw [hc768]; decide)] at hr
  refine wp_exit ?_
  exact hex729 _ _ _ _ (Option.some.inj hr).symm ⟨rfl, ⟨hg, hs, hd⟩, trivial⟩
 ·rintro r776 a k rfl hR
  dsimp only at hr
  obtain rfl := Option.some.inj hr
  exact hR
 ·rintro _ _ _ rfl _
  simp at hr
 clear hf771
 rintro _ s772 a k rfl ⟨rfl, ⟨hg, hs, hd⟩, _⟩
 dsimp only at hr
 refine stepL 1 (⟨some (IsV true), []⟩ :: []) rfl ⟨hg, hs, hd⟩ (by kernel_rfl) ⟨ob1 rfl fun _ _ h n => ok_assign rfl (isV_bool.2 rfl), trivial⟩ [⟨_, _⟩] (fun b q p => ⟨p.ou 0 2 rfl, trivial⟩) ?_
 rintro a k ⟨⟨hg, hs, hd⟩, i2, _⟩
 refine wp_ret ?_
 obtain rfl := Option.some.inj hr
 exact retC1 rfl hd hg i2
def solid_at_L0 (s_ : (List Slab)) (z_ : Int) (s787 : Int) : Option (Flow (Int) ((List Rect))) :=
 if (decide (s787 < (s_.length : Int))) then
  (getI s_ s787).bind fun x792_0 =>
  if ((decide (x792_0.Z0 ≤ z_)) && (decide (z_ < x792_0.Z1))) then
   some (.ret x792_0.Area)
  else
   (addI s787 1).bind fun x797_0 =>
   some (.go x797_0)
 else
  some (.ex 0 s787)
def solid_at (s_ : (List Slab)) (z_ : Int) : Option ((List Rect)) :=
 (iterL (solid_at_L0 s_ z_) (s_.length + 1) 0).bind fun f808 => match f808 with
  | .go _ => none
  | .ex _ _ =>
   some ([] : List Rect)
  | .ret r813 => some r813
theorem solid_at_ok {k0 : K} {v0 v1 : Value} {s_ : (List Slab)} {z_ : Int} {r : (List Rect)} (i0 : (IsV s_) v0 k0) (i1 : (IsV z_) v1 k0) (hr : solid_at s_ z_ = some r) :
  Calls Try.prog 43 #[v0, v1] k0.w (Ret k0 (IsV r)) := by
 unfold solid_at at hr
 refine Ret.ofC ?_
 refine enterK Try.func43 rfl Try.ntmps43 (show 2 ≤ 26 by decide) fun a k hk0 hs hd ha => ?_
 obtain ⟨e0, e1, _⟩ := ha
 replace i0 : (IsV s_) (a.get 0) k := by rw [e0, hk0]; exact i0
 replace i1 : (IsV z_) (a.get 1) k := by rw [e1, hk0]; exact i1
 have hQ : Gb.LetsOut (bodyPost Try.prog Try.f43 (RetC noF k0 (IsV r))) := letsOutC
 have hg : Chg noF k0 k := by rw [hk0]; exact Chg.refl _ k0
 refine stepL 1 (⟨some IsE0, []⟩ :: []) rfl ⟨hg, hs, hd⟩ (by kernel_rfl) ⟨ob1 rfl fun b q h n => ok_assign rfl isE0_nil, trivial⟩ [⟨_, _⟩, ⟨_, _⟩] (fun b q p => ⟨p.ke 0 rfl i0, p.ke 1 rfl i1, trivial⟩) ?_
 rintro a k ⟨⟨hg, hs, hd⟩, i0, i1, _⟩
 refine wp_seq ?_
 refine stepL 3 (_ :: _ :: ⟨some (IsI 0), []⟩ :: []) rfl ⟨hg, hs, hd⟩ (by kernel_rfl) ⟨mu rfl i0, o1 [(7, some 0)] rfl fun _ _ h n => ok_len rfl rfl Try.underlying24 (IsV.rd n.1), ob1 rfl fun _ _ h n => ok_move rfl (cI rfl), trivial⟩ [⟨_, _⟩, ⟨_, _⟩, ⟨_, _⟩, ⟨_, _⟩] (fun b q p => ⟨p.ke 1 rfl i1, p.ou 0 7 rfl, p.ou 1 8 rfl, p.ou 2 9 rfl, trivial⟩) ?_
 rintro a k ⟨⟨hg, hs, hd⟩, i1, i7, i8, i9, _⟩
 refine wp_block ?_
 obtain ⟨f808, hf808, hr⟩ := bind_some hr
 refine cutFe f808 (fun s' a' k' => Bs noF k0 26 a' k' ∧ (IsV z_) (a'.get 1) k' ∧ (IsV s_) (a'.get 7) k' ∧ (IsL s_) (a'.get 8) k' ∧ (IsV s') (a'.get 9) k' ∧ True) (fun i' s' a' k' => (i' = 0 ∧ Bs noF k0 26 a' k' ∧ True)) (fun r' a' k' => bodyPost Try.prog Try.f43 (RetC noF k0 (IsV r')) .ret a' k'.w) ?_ hQ ?_ ?_ ?_
 ·intro Q814 hQQ814 hgo hex hret
  refine sim_loop ?_ _ _ _ _ _ hf808 ⟨⟨hg, hs, hd⟩, i1, i7, i8, i9, trivial⟩ Q814 hQQ814 hgo hex hret
  clear hr hf808 hgo hex hret hQQ814 hQ hg hs hd i1 i7 i8 i9
  intro s787 fl_ a k hr hS Q hQ hgo788 hex789 hret790
  obtain ⟨⟨hg, hs, hd⟩, i1, i7, i8, i9, _⟩ := hS
  unfold solid_at_L0 at hr
  refine stepL 1 (_ :: []) rfl ⟨hg, hs, hd⟩ (by kernel_rfl) ⟨o1 [(9, none), (8, none)] rfl fun _ _ h n => ok_lss rfl (up i9 h n.1) (up i8 h n.2.1), trivial⟩ [⟨_, _⟩, ⟨_, _⟩, ⟨_, _⟩, ⟨_, _⟩, ⟨_, _⟩] (fun b q p => ⟨p.ke 1 rfl i1, p.ke 7 rfl i7, p.ke 8 rfl i8, p.ke 9 rfl i9, p.ou 0 10 rfl, trivial⟩) ?_
  rintro a k ⟨⟨hg, hs, hd⟩, i1, i7, i8, i9, i10, _⟩
  refine wp_seq ?_
  refine wp_cond_split (isBool i10) (fun hc805 => ?_) (fun hc805 => ?_)
  ·rw [if_pos hc805] at hr
   refine wp_skip ?_
   refine wp_seq ?_
   refine wp_block ?_
   refine wp_seq ?_
   obtain ⟨x792_0, hx792_0, hr⟩ := bind_some hr
   refine cut (fun a' k' => Bs noF k0 26 a' k' ∧ (IsV z_) (a'.get 1) k' ∧ (IsRef x792_0) (a'.get 6) k' ∧ (IsV s_) (a'.get 7) k' ∧ (IsL s_) (a'.get 8) k' ∧ (IsV s787) (a'.get 9) k' ∧ True) ?_ hQ ?_
   ·intro Q803 hQQ803 hp804
    refine gS 3 (_ :: _ :: ⟨some (IsBox k.w.heap.size (⟨0, 0, []⟩ : Slab)), []⟩ :: []) hs (by kernel_rfl) ⟨o1 [(7, none), (9, none)] rfl fun _ _ h n => ok_indexAddr rfl Try.underlying24 ty47 (IsV.rd (up i7 h n.1)) (up i9 h n.2.1) hx792_0, o1 [(11, some 0)] rfl fun _ _ h n => ok_load rfl ty47 n.1, ob1 rfl fun _ _ h n => ok_alloc _ h.size rfl z47, trivial⟩ hQQ803 fun b q p => ?_
    have hgq := hg.then p.grow
    have hsb := p.size.trans hs
    have hdb := p.defers.trans hd
    have j1 := p.ke 1 rfl i1
    obtain ⟨b6, j6, x6, z6⟩ : (IsBox k.w.heap.size (⟨0, 0, []⟩ : Slab)) (b.get 6) q := p.ou 2 6 rfl
    replace x6 : Lo k (Eq b6) := Lo.eq x6
    have y6 : Lo k0 (Eq b6) := x6.chg hg
    have j7 := p.ke 7 rfl i7
    have j8 := p.ke 8 rfl i8
    have j9 := p.ke 9 rfl i9
    have j12 : (IsV x792_0) (b.get 12) q := p.ou 1 12 rfl
    have hns := z6.nshF
    refine tail_storeB (i := 3) rfl rfl rfl rfl szf47 (Upd.self (α := Slab)) j6 z6 j12 fun q2 hch hz => ?_
    replace hgq := hgq.step hch y6.wr
    have hle := hch.le hns
    replace j1 := Pers.pers hle j1
    replace j7 := Pers.pers hle j7
    replace j8 := Pers.pers hle j8
    replace j9 := Pers.pers hle j9
    replace j12 := Pers.pers hle j12
    replace z6 := hz
    clear hns hle hch
    obtain ⟨q, hqq⟩ : ∃ q, q = q2 := ⟨q2, rfl⟩
    subst hqq
    obtain ⟨q2, hsh, jn⟩ := z6.give
    replace j1 := Pers.pers hsh.le j1
    replace j7 := Pers.pers hsh.le j7
    replace j8 := Pers.pers hsh.le j8
    replace j9 := Pers.pers hsh.le j9
    rw [← j6] at jn
    replace j6 := jn
    replace hgq := hgq.hand hsh y6.wr
    rw [← hsh.w]
    clear hsh
    obtain ⟨q, hqq⟩ : ∃ q, q = q2 := ⟨q2, rfl⟩
    subst hqq
    exact tail_done (k := q) (hp804 _ _ ⟨⟨hgq, hsb, hdb⟩, j1, j6, j7, j8, j9, trivial⟩)
   rintro a k ⟨⟨hg, hs, hd⟩, i1, i6, i7, i8, i9, _⟩
   refine stepL 10 (_ :: _ :: _ :: _ :: _ :: _ :: _ :: _ :: _ :: _ :: []) rfl ⟨hg, hs, hd⟩ (by kernel_rfl) ⟨o1 [(6, none)] rfl fun _ _ h n => ok_fieldAddr rfl fo47_0 (at_Slab_0 _) ((up i6 h n.1)).ptr, o1 [(13, some 0)] rfl fun _ _ h n => ok_load rfl ty3 n.1, mu rfl i1, o1 [(14, some 1), (15, some 2)] rfl fun _ _ h n => ok_leq rfl n.1 n.2.1, cm 3 rfl rfl, mT rfl rfl i1, gT [(6, none)] rfl rfl fun hp _ _ h n => ok_fieldAddr rfl fo47_1 (at_Slab_1 _) ((up i6 h n.1)).ptr, gT [(19, some 6)] rfl rfl fun hp _ _ h n => ok_load rfl ty3 (Gd.get n.1 hp), gT [(18, some 5), (20, some 7)] rfl rfl fun hp _ _ h n => ok_lss rfl (Gd.get n.1 hp) (Gd.get n.2.1 hp), o1 [(17, some 4), (21, some 8)] rfl fun _ _ h n => ok_pickAnd rfl n.1 (Gd.get n.2.1) (cB rfl), trivial⟩ [⟨_, _⟩, ⟨_, _⟩, ⟨_, _⟩, ⟨_, _⟩, ⟨_, _⟩, ⟨_, _⟩] (fun b q p => ⟨p.ke 1 rfl i1, p.ke 6 rfl i6, p.ke 7 rfl i7, p.ke 8 rfl i8, p.ke 9 rfl i9, p.ou 9 22 rfl, trivial⟩) ?_
   rintro a k ⟨⟨hg, hs, hd⟩, i1, i6, i7, i8, i9, i22, _⟩
   refine wp_cond_split (isBool i22) (fun hc800 => ?_) (fun hc800 => ?_)
   ·rw [if_pos hc800] at hr
    refine stepL 3 (_ :: _ :: _ :: []) rfl ⟨hg, hs, hd⟩ (by kernel_rfl) ⟨o1 [(6, none)] rfl fun _ _ h n => ok_fieldAddr rfl fo47_2 (at_Slab_2 _) ((up i6 h n.1)).ptr, o1 [(23, some 0)] rfl fun _ _ h n => ok_load rfl ty44 n.1, cp 1 rfl rfl, trivial⟩ [⟨_, _⟩] (fun b q p => ⟨p.ou 2 4 rfl, trivial⟩) ?_
    rintro a k ⟨⟨hg, hs, hd⟩, i4, _⟩
    refine wp_ret ?_
    exact hret790 _ _ _ (Option.some.inj hr).symm (retC1 rfl hd hg i4)
   rw [if_neg (by rw [hc800]; decide)] at hr
   refine wp_skip ?_
   obtain ⟨x797_0, hx797_0, hr⟩ := bind_some hr
   refine cut (fun a' k' => Bs noF k0 26 a' k' ∧ (IsV z_) (a'.get 1) k' ∧ (IsV s_) (a'.get 7) k' ∧ (IsL s_) (a'.get 8) k' ∧ (IsV x797_0) (a'.get 9) k' ∧ True) ?_ hQ ?_
   ·intro Q798 hQQ798 hp799
    refine gS 2 (_ :: _ :: []) hs (by kernel_rfl) ⟨o1 [(9, none)] rfl fun _ _ h n => ok_add rfl (up i9 h n.1) (cI rfl) hx797_0, cm 0 rfl rfl, trivial⟩ hQQ798 fun b q p => ?_
    exact tail_done (k := q) (hp799 _ _ ⟨Bs.post ⟨hg, hs, hd⟩ p, p.ke 1 rfl i1, p.ke 7 rfl i7, p.ke 8 rfl i8, p.ou 1 9 rfl, trivial⟩)
   rintro a k ⟨⟨hg, hs, hd⟩, i1, i7, i8, i9, _⟩
   exact hgo788 _ _ _ (Option.some.inj hr).symm ⟨⟨hg, hs, hd⟩, i1, i7, i8, i9, trivial⟩
  rw [if_neg (by rw [hc805]; decide)] at hr
  refine wp_exit ?_
  exact hex789 _ _ _ _ (Option.some.inj hr).symm ⟨rfl, ⟨hg, hs, hd⟩, trivial⟩
 ·rintro r813 a k rfl hR
  dsimp only at hr
  obtain rfl := Option.some.inj hr
  exact hR
 ·rintro _ _ _ rfl _
  simp at hr
 clear hf808
 rintro _ s809 a k rfl ⟨rfl, ⟨hg, hs, hd⟩, _⟩
 dsimp only at hr
 refine cutL noF k0 26 [⟨4, IsV ([] : List Rect)⟩] ?_ ?_
 ·intro Q811 hQQ811 hp812
  refine gS 1 (⟨some IsE0, []⟩ :: []) hs (by kernel_rfl) ⟨ob1 rfl fun b q h n => ok_assign rfl isE0_nil, trivial⟩ hQQ811 fun b q p => ?_
  have hgq := hg.then p.grow
  have hsb := p.size.trans hs
  have hdb := p.defers.trans hd
  have j4 : IsE0 (b.get 4) q := p.ou 0 4 rfl
  replace j4 : IsV ([] : List Rect) (b.get 4) q := j4.isV
  exact tail_done (k := q) (hp812 _ _ ⟨⟨hgq, hsb, hdb⟩, j4, trivial⟩)
 rintro a k ⟨⟨hg, hs, hd⟩, i4, _⟩
 refine wp_ret ?_
 obtain rfl := Option.some.inj hr
 exact retC1 rfl hd hg i4
def solid_combine_L0 (a_ : (List Slab)) (b_ : (List Slab)) (op_ : ((List Rect) → (List Rect) → Option ((List Rect) × Int))) (x824_3 : (List Int)) (s827 : (List Slab) × Int) : Option (Flow ((List Slab) × Int) ((List Slab) × Int)) :=
 if (decide (s827.2 < (x824_3.length : Int))) then
  (subI s827.2 1).bind fun x832_4 =>
  (getI x824_3 x832_4).bind fun x832_5 =>
  (solid_at a_ x832_5).bind fun x832_7 =>
  (subI s827.2 1).bind fun x832_11 =>
  (getI x824_3 x832_11).bind fun x832_12 =>
  (solid_at b_ x832_12).bind fun x832_14 =>
  (op_ x832_7 x832_14).bind fun x832_15 =>
  if (x832_15.2 != 0) then
   some (.ret (([] : List Slab), x832_15.2))
  else
   (subI s827.2 1).bind fun x837_3 =>
   (getI x824_3 x837_3).bind fun x837_4 =>
   (getI x824_3 s827.2).bind fun x837_8 =>
   (solid_put s827.1 (⟨x837_4, x837_8, x832_15.1⟩ : Slab)).bind fun x837_12 =>
   (addI s827.2 1).bind fun x838_1 =>
   some (.go (x837_12, x838_1))
 else
  some (.ex 0 (s827.1, s827.2))
def solid_combine (a_ : (List Slab)) (b_ : (List Slab)) (op_ : ((List Rect) → (List Rect) → Option ((List Rect) × Int))) : Option ((List Slab) × Int) :=
 (solid_Right a_).bind fun x820_1 =>
 (if (!x820_1) then
  some true
 else
  (solid_Right b_).bind fun x820_5 =>
  some (!x820_5)).bind fun x820_7 =>
 if x820_7 then
  some (([] : List Slab), 1)
 else
  (solid_heights ([a_, b_])).bind fun x824_3 =>
  (iterL (solid_combine_L0 a_ b_ op_ x824_3) (a_.length + b_.length + x824_3.length + ([] : List Slab).length + 1) (([] : List Slab), 1)).bind fun f852 => match f852 with
   | .go _ => none
   | .ex _ s853 =>
    (solid_fits s853.1).bind fun x854_1 =>
    some (x854_1.1, x854_1.2)
   | .ret r857 => some r857
theorem solid_combine_ok {k0 : K} {v0 v1 v2 : Value} {a_ : (List Slab)} {b_ : (List Slab)} {op_ : ((List Rect) → (List Rect) → Option ((List Rect) × Int))} {r : (List Slab) × Int} (i0 : (IsV a_) v0 k0) (i1 : (IsV b_) v1 k0) (i2 : (IsFn2T Try.prog op_) v2 k0) (hr : solid_combine a_ b_ op_ = some r) :
  Calls Try.prog 37 #[v0, v1, v2] k0.w (Ret k0 (IsTup2 (IsV r.1) (IsV r.2))) := by
 unfold solid_combine at hr
 refine Ret.ofC ?_
 refine enterK Try.func37 rfl Try.ntmps37 (show 3 ≤ 70 by decide) fun a k hk0 hs hd ha => ?_
 obtain ⟨e0, e1, e2, _⟩ := ha
 replace i0 : (IsV a_) (a.get 0) k := by rw [e0, hk0]; exact i0
 replace i1 : (IsV b_) (a.get 1) k := by rw [e1, hk0]; exact i1
 replace i2 : (IsFn2T Try.prog op_) (a.get 2) k := by rw [e2, hk0]; exact i2
 have hQ : Gb.LetsOut (bodyPost Try.prog Try.f37 (RetC noF k0 (IsTup2 (IsV r.1) (IsV r.2)))) := letsOutC
 have hg : Chg noF k0 k := by rw [hk0]; exact Chg.refl _ k0
 refine stepL 2 (⟨some IsE0, []⟩ :: ⟨some (IsI 0), []⟩ :: []) rfl ⟨hg, hs, hd⟩ (by kernel_rfl) ⟨ob1 rfl fun b q h n => ok_assign rfl isE0_nil, aI rfl rfl, trivial⟩ [⟨_, _⟩, ⟨_, _⟩, ⟨_, _⟩] (fun b q p => ⟨p.ke 0 rfl i0, p.ke 1 rfl i1, p.ke 2 rfl i2, trivial⟩) ?_
 rintro a k ⟨⟨hg, hs, hd⟩, i0, i1, i2, _⟩
 refine wp_seq ?_
 refine wp_seq ?_
 obtain ⟨x820_1, hx820_1, hr⟩ := bind_some hr
 obtain ⟨x820_7, hx820_7, hr⟩ := bind_some hr
 obtain ⟨x820_5, hx820_5, hx820_7⟩ := ite_bindF hx820_7
 refine cut (fun a' k' => Bs noF k0 70 a' k' ∧ (IsV a_) (a'.get 0) k' ∧ (IsV b_) (a'.get 1) k' ∧ (IsFn2T Try.prog op_) (a'.get 2) k' ∧ (IsV x820_7) (a'.get 20) k' ∧ True) ?_ hQ ?_
 ·intro Q866 hQQ866 hp867
  refine gS 8 (_ :: _ :: _ :: _ :: _ :: _ :: _ :: _ :: []) hs (by kernel_rfl) ⟨mu rfl i0, o1 [(13, some 0)] rfl fun _ _ h n => ok_call rfl Try.call17 (solid_Right_ok n.1 hx820_1), o1 [(14, some 1)] rfl fun _ _ h n => ok_not rfl n.1, cm 2 rfl rfl, mF rfl rfl i1, gF [(17, some 4)] rfl rfl fun hp _ _ h n => ok_call rfl Try.call17 (solid_Right_ok (Gd.get n.1 hp) (hx820_5 hp)), gF [(18, some 5)] rfl rfl fun hp _ _ h n => ok_not rfl (Gd.get n.1 hp), o1 [(16, some 3), (19, some 6)] rfl fun _ _ h n => ok_pickM rfl n.1 hx820_7 (cB rfl) (Gd.get n.2.1), trivial⟩ hQQ866 fun b q p => ?_
  exact tail_done (k := q) (hp867 _ _ ⟨Bs.post ⟨hg, hs, hd⟩ p, p.ke 0 rfl i0, p.ke 1 rfl i1, p.ke 2 rfl i2, p.ou 7 20 rfl, trivial⟩)
 rintro a k ⟨⟨hg, hs, hd⟩, i0, i1, i2, i20, _⟩
 refine wp_cond_split (isBool i20) (fun hc865 => ?_) (fun hc865 => ?_)
 ·rw [if_pos hc865] at hr
  refine cutL noF k0 70 [⟨6, IsV ([] : List Slab)⟩, ⟨7, IsI 1⟩] ?_ ?_
  ·intro Q822 hQQ822 hp823
   refine gS 2 (⟨some IsE0, []⟩ :: ⟨some (IsI 1), []⟩ :: []) hs (by kernel_rfl) ⟨ob1 rfl fun b q h n => ok_assign rfl isE0_nil, aI rfl rfl, trivial⟩ hQQ822 fun b q p => ?_
   have hgq := hg.then p.grow
   have hsb := p.size.trans hs
   have hdb := p.defers.trans hd
   have j6 : IsE0 (b.get 6) q := p.ou 0 6 rfl
   have j7 : (IsI 1) (b.get 7) q := p.ou 1 7 rfl
   replace j6 : IsV ([] : List Slab) (b.get 6) q := j6.isV
   exact tail_done (k := q) (hp823 _ _ ⟨⟨hgq, hsb, hdb⟩, j6, j7, trivial⟩)
  rintro a k ⟨⟨hg, hs, hd⟩, i6, i7, _⟩
  refine wp_ret ?_
  obtain rfl := Option.some.inj hr
  exact retC2 rfl hd hg i6 i7
 rw [if_neg (by rw [hc865]; decide)] at hr
 refine wp_skip ?_
 refine wp_seq ?_
 obtain ⟨x824_3, hx824_3, hr⟩ := bind_some hr
 refine cut (fun a' k' => Bs noF k0 70 a' k' ∧ (IsV a_) (a'.get 0) k' ∧ (IsV b_) (a'.get 1) k' ∧ (IsFn2T Try.prog op_) (a'.get 2) k' ∧ (IsV x824_3) (a'.get 8) k' ∧ True) ?_ hQ ?_
 ·intro Q863 hQQ863 hp864
  refine gS 5 (_ :: _ :: ⟨some (IsV (α := (List (List Slab))) ([a_, b_])), [(21, some 0), (22, some 1)]⟩ :: _ :: _ :: []) hs (by kernel_rfl) ⟨mu rfl i0, mu rfl i1, ob1 rfl fun _ _ h n => ok_buildSlice rfl Try.underlying73 eo24 rfl (by decide) (by decide) ⟨rfl, n.1, rfl, n.2.1, trivial⟩, o1 [(23, some 2)] rfl fun _ _ h n => ok_call rfl Try.call30 (solid_heights_ok n.1 hx824_3), cp 3 rfl rfl, trivial⟩ hQQ863 fun b q p => ?_
  exact tail_done (k := q) (hp864 _ _ ⟨Bs.post ⟨hg, hs, hd⟩ p, p.ke 0 rfl i0, p.ke 1 rfl i1, p.ke 2 rfl i2, p.ou 4 8 rfl, trivial⟩)
 rintro a k ⟨⟨hg, hs, hd⟩, i0, i1, i2, i8, _⟩
 refine cutS (fun a' k' => Bs noF k0 70 a' k' ∧ (IsV a_) (a'.get 0) k' ∧ (IsV b_) (a'.get 1) k' ∧ (IsFn2T Try.prog op_) (a'.get 2) k' ∧ (IsV x824_3) (a'.get 8) k' ∧ IsOwn 0 47 ([] : List Slab) (a'.get 9) k' ∧ Lo k0 (obF (a'.get 9)) ∧ True) ?_ ?_
 ·intro Q861 hQQ861 hp862
  refine gS 1 (⟨some IsE0, []⟩ :: []) hs (by kernel_rfl) ⟨ob1 rfl fun b q h n => ok_assign rfl isE0_nil, trivial⟩ hQQ861 fun b q p => ?_
  have hgq := hg.then p.grow
  have hsb := p.size.trans hs
  have hdb := p.defers.trans hd
  have j0 := p.ke 0 rfl i0
  have j1 := p.ke 1 rfl i1
  have j2 := p.ke 2 rfl i2
  have j8 := p.ke 8 rfl i8
  have j9 : IsE0 (b.get 9) q := p.ou 0 9 rfl
  have y9 : Lo k0 (obF (b.get 9)) := j9.lo
  replace j9 : IsOwn 0 47 ([] : List Slab) (b.get 9) q := j9.own0
  exact tail_done (k := q) (hp862 _ _ ⟨⟨hgq, hsb, hdb⟩, j0, j1, j2, j8, j9, y9, trivial⟩)
 rintro a k ⟨⟨hg, hs, hd⟩, i0, i1, i2, i8, i9, n9, _⟩
 refine wp_seq ?_
 refine cutS (fun a' k' => Bs noF k0 70 a' k' ∧ (IsV a_) (a'.get 0) k' ∧ (IsV b_) (a'.get 1) k' ∧ (IsFn2T Try.prog op_) (a'.get 2) k' ∧ (IsV x824_3) (a'.get 8) k' ∧ IsOwn 0 47 ([] : List Slab) (a'.get 9) k' ∧ Lo k0 (obF (a'.get 9)) ∧ (IsI 1) (a'.get 10) k' ∧ True) ?_ ?_
 ·intro Q859 hQQ859 hp860
  refine gS 1 (⟨some (IsI 1), []⟩ :: []) hs (by kernel_rfl) ⟨aI rfl rfl, trivial⟩ hQQ859 fun b q p => ?_
  exact tail_done (k := q) (hp860 _ _ ⟨Bs.post ⟨hg, hs, hd⟩ p, p.ke 0 rfl i0, p.ke 1 rfl i1, p.ke 2 rfl i2, p.ke 8 rfl i8, p.ke 9 rfl i9, (by rw [p.old 9 rfl]; exact n9), p.ou 0 10 rfl, trivial⟩)
 rintro a k ⟨⟨hg, hs, hd⟩, i0, i1, i2, i8, i9, n9, i10, _⟩
 refine wp_block ?_
 obtain ⟨f852, hf852, hr⟩ := bind_some hr
 refine cutFe f852 (fun s' a' k' => Bs noF k0 70 a' k' ∧ (IsV a_) (a'.get 0) k' ∧ (IsV b_) (a'.get 1) k' ∧ (IsFn2T Try.prog op_) (a'.get 2) k' ∧ (IsV x824_3) (a'.get 8) k' ∧ IsOwn 0 47 s'.1 (a'.get 9) k' ∧ Lo k0 (obF (a'.get 9)) ∧ (IsV s'.2) (a'.get 10) k' ∧ True) (fun i' s' a' k' => (i' = 0 ∧ Bs noF k0 70 a' k' ∧ (IsV s'.1) (a'.get 9) k' ∧ True)) (fun r' a' k' => bodyPost Try.prog Try.f37 (RetC noF k0 (IsTup2 (IsV r'.1) (IsV r'.2))) .ret a' k'.w) ?_ hQ ?_ ?_ ?_
 ·intro Q858 hQQ858 hgo hex hret
  refine sim_loop ?_ _ _ _ _ _ hf852 ⟨⟨hg, hs, hd⟩, i0, i1, i2, i8, i9, n9, i10, trivial⟩ Q858 hQQ858 hgo hex hret
  clear hr hf852 hgo hex hret hQQ858 hQ hg hs hd i0 i1 i10 i2 i8 i9 n9
  intro s827 fl_ a k hr hS Q hQ hgo828 hex829 hret830
  obtain ⟨⟨hg, hs, hd⟩, i0, i1, i2, i8, i9, n9, i10, _⟩ := hS
  unfold solid_combine_L0 at hr
  refine wp_seq ?_
  refine cutS (fun a' k' => Bs noF k0 70 a' k' ∧ (IsV a_) (a'.get 0) k' ∧ (IsV b_) (a'.get 1) k' ∧ (IsFn2T Try.prog op_) (a'.get 2) k' ∧ (IsV x824_3) (a'.get 8) k' ∧ IsOwn 0 47 s827.1 (a'.get 9) k' ∧ Lo k0 (obF (a'.get 9)) ∧ (IsV s827.2) (a'.get 10) k' ∧ (IsV (decide (s827.2 < (x824_3.length : Int)))) (a'.get 28) k' ∧ True) ?_ ?_
  ·intro Q850 hQQ850 hp851
   refine gS 4 (_ :: _ :: _ :: _ :: []) hs (by kernel_rfl) ⟨mu rfl i10, mu rfl i8, o1 [(26, some 1)] rfl fun _ _ h n => ok_len rfl rfl Try.underlying57 (IsV.rd n.1), o1 [(25, some 0), (27, some 2)] rfl fun _ _ h n => ok_lss rfl n.1 n.2.1, trivial⟩ hQQ850 fun b q p => ?_
   exact tail_done (k := q) (hp851 _ _ ⟨Bs.post ⟨hg, hs, hd⟩ p, p.ke 0 rfl i0, p.ke 1 rfl i1, p.ke 2 rfl i2, p.ke 8 rfl i8, p.ke 9 rfl i9, (by rw [p.old 9 rfl]; exact n9), p.ke 10 rfl i10, p.ou 3 28 rfl, trivial⟩)
  rintro a k ⟨⟨hg, hs, hd⟩, i0, i1, i2, i8, i9, n9, i10, i28, _⟩
  refine wp_cond_split (isBool i28) (fun hc849 => ?_) (fun hc849 => ?_)
  ·rw [if_pos hc849] at hr
   refine wp_skip ?_
   refine wp_seq ?_
   refine wp_block ?_
   refine wp_seq ?_
   obtain ⟨x832_4, hx832_4, hr⟩ := bind_some hr
   obtain ⟨x832_5, hx832_5, hr⟩ := bind_some hr
   obtain ⟨x832_7, hx832_7, hr⟩ := bind_some hr
   obtain ⟨x832_11, hx832_11, hr⟩ := bind_some hr
   obtain ⟨x832_12, hx832_12, hr⟩ := bind_some hr
   obtain ⟨x832_14, hx832_14, hr⟩ := bind_some hr
   obtain ⟨x832_15, hx832_15, hr⟩ := bind_some hr
   refine cut (fun a' k' => Bs noF k0 70 a' k' ∧ (IsV a_) (a'.get 0) k' ∧ (IsV b_) (a'.get 1) k' ∧ (IsFn2T Try.prog op_) (a'.get 2) k' ∧ (IsV x824_3) (a'.get 8) k' ∧ IsOwn 0 47 s827.1 (a'.get 9) k' ∧ Lo k0 (obF (a'.get 9)) ∧ (IsV s827.2) (a'.get 10) k' ∧ (IsV x832_15.1) (a'.get 11) k' ∧ (IsV x832_15.2) (a'.get 12) k' ∧ True) ?_ hQ ?_
   ·intro Q846 hQQ846 hp847
    refine region (a0 := a) (k0 := k) (n := 70) (m := 21) (⟨some (IsFn2T Try.prog op_), [(2, none)]⟩ :: ⟨some (IsV a_), [(0, none)]⟩ :: ⟨some (IsV x824_3), [(8, none)]⟩ :: ⟨some (IsV s827.2), [(10, none)]⟩ :: ⟨some (IsV x832_4), [(35, some 3)]⟩ :: ⟨some (IsPtr x832_5), [(34, some 2), (36, some 4)]⟩ :: ⟨some (IsV x832_5), [(37, some 5)]⟩ :: ⟨some (IsV x832_7), [(33, some 1), (38, some 6)]⟩ :: ⟨some (IsV b_), [(1, none)]⟩ :: ⟨some (IsV x824_3), [(8, none)]⟩ :: ⟨some (IsV s827.2), [(10, none)]⟩ :: ⟨some (IsV x832_11), [(42, some 10)]⟩ :: ⟨some (IsPtr x832_12), [(41, some 9), (43, some 11)]⟩ :: ⟨some (IsV x832_12), [(44, some 12)]⟩ :: ⟨some (IsV x832_14), [(40, some 8), (45, some 13)]⟩ :: ⟨some (IsTup2 (IsV x832_15.1) (IsV x832_15.2)), [(32, some 0), (39, some 7), (46, some 14)]⟩ :: ⟨some (IsTup2 (IsV x832_15.1) (IsV x832_15.2)), [(47, some 15)]⟩ :: ⟨some (IsV x832_15.1), [(31, some 16)]⟩ :: ⟨some (IsV x832_15.2), [(31, some 16)]⟩ :: ⟨some (IsV x832_15.1), [(48, some 17)]⟩ :: ⟨some (IsV x832_15.2), [(49, some 18)]⟩ :: []) hmix hs (by kernel_rfl) ⟨ob1 rfl fun b q hk hn => ok_move rfl (up i2 hk hn.1), ob1 rfl fun b q hk hn => ok_move rfl (up i0 hk hn.1), ob1 rfl fun b q hk hn => ok_move rfl (up i8 hk hn.1), ob1 rfl fun b q hk hn => ok_move rfl (up i10 hk hn.1), ob1 rfl fun b q hk hn => ok_sub rfl hn.1 (isV_int.2 rfl) hx832_4, ob1 rfl fun b q hk hn => ok_indexAddr rfl Try.underlying57 ty3 (IsV.rd hn.1) hn.2.1 hx832_5, ob1 rfl fun b q hk hn => ok_load rfl ty3 hn.1, ob1 rfl fun b q hk hn => ok_call rfl Try.call43 (solid_at_ok hn.1 hn.2.1 hx832_7), ob1 rfl fun b q hk hn => ok_move rfl (up i1 hk hn.1), ob1 rfl fun b q hk hn => ok_move rfl (up i8 hk hn.1), ob1 rfl fun b q hk hn => ok_move rfl (up i10 hk hn.1), ob1 rfl fun b q hk hn => ok_sub rfl hn.1 (isV_int.2 rfl) hx832_11, ob1 rfl fun b q hk hn => ok_indexAddr rfl Try.underlying57 ty3 (IsV.rd hn.1) hn.2.1 hx832_12, ob1 rfl fun b q hk hn => ok_load rfl ty3 hn.1, ob1 rfl fun b q hk hn => ok_call rfl Try.call43 (solid_at_ok hn.1 hn.2.1 hx832_14), ob1 rfl fun b q hk hn => ok_callF2T rfl hn.1 hn.2.1 hn.2.2.1 hx832_15, ob1 rfl fun b q hk hn => ok_move rfl hn.1, ob1 rfl fun b q hk hn => ok_ext2_0 rfl hn.1, ob1 rfl fun b q hk hn => ok_ext2_1 rfl hn.1, ob1 rfl fun b q hk hn => ok_assign rfl hn.1, ob1 rfl fun b q hk hn => ok_assign rfl hn.1, trivial⟩ hQQ846 fun b q p => ?_
    exact tail_done (k := q) (hp847 _ _ ⟨Bs.post ⟨hg, hs, hd⟩ p, p.ke 0 rfl i0, p.ke 1 rfl i1, p.ke 2 rfl i2, p.ke 8 rfl i8, p.ke 9 rfl i9, (by rw [p.old 9 rfl]; exact n9), p.ke 10 rfl i10, p.ou 19 11 rfl, p.ou 20 12 rfl, trivial⟩)
   rintro a k ⟨⟨hg, hs, hd⟩, i0, i1, i2, i8, i9, n9, i10, i11, i12, _⟩
   refine wp_seq ?_
   refine cutS (fun a' k' => Bs noF k0 70 a' k' ∧ (IsV a_) (a'.get 0) k' ∧ (IsV b_) (a'.get 1) k' ∧ (IsFn2T Try.prog op_) (a'.get 2) k' ∧ (IsV x824_3) (a'.get 8) k' ∧ IsOwn 0 47 s827.1 (a'.get 9) k' ∧ Lo k0 (obF (a'.get 9)) ∧ (IsV s827.2) (a'.get 10) k' ∧ (IsV x832_15.1) (a'.get 11) k' ∧ (IsV x832_15.2) (a'.get 12) k' ∧ (IsV (x832_15.2 != 0)) (a'.get 51) k' ∧ True) ?_ ?_
   ·intro Q844 hQQ844 hp845
    refine gS 2 (_ :: ⟨some (IsV (x832_15.2 != 0)), [(50, some 0)]⟩ :: []) hs (by kernel_rfl) ⟨mu rfl i12, ob1 rfl fun _ _ h n => ok_neI rfl n.1 (cI rfl), trivial⟩ hQQ844 fun b q p => ?_
    exact tail_done (k := q) (hp845 _ _ ⟨Bs.post ⟨hg, hs, hd⟩ p, p.ke 0 rfl i0, p.ke 1 rfl i1, p.ke 2 rfl i2, p.ke 8 rfl i8, p.ke 9 rfl i9, (by rw [p.old 9 rfl]; exact n9), p.ke 10 rfl i10, p.ke 11 rfl i11, p.ke 12 rfl i12, p.ou 1 51 rfl, trivial⟩)
   rintro a k ⟨⟨hg, hs, hd⟩, i0, i1, i2, i8, i9, n9, i10, i11, i12, i51, _⟩
   refine wp_cond_split (isBool i51) (fun hc843 => ?_) (fun hc843 => ?_)
   ·rw [if_pos hc843] at hr
    refine cutL noF k0 70 [⟨6, IsV ([] : List Slab)⟩, ⟨7, IsV x832_15.2⟩] ?_ ?_
    ·intro Q835 hQQ835 hp836
     refine gS 3 (_ :: ⟨some IsE0, []⟩ :: _ :: []) hs (by kernel_rfl) ⟨mu rfl i12, ob1 rfl fun b q h n => ok_assign rfl isE0_nil, cp 0 rfl rfl, trivial⟩ hQQ835 fun b q p => ?_
     have hgq := hg.then p.grow
     have hsb := p.size.trans hs
     have hdb := p.defers.trans hd
     have j6 : IsE0 (b.get 6) q := p.ou 1 6 rfl
     have j7 : (IsV x832_15.2) (b.get 7) q := p.ou 2 7 rfl
     replace j6 : IsV ([] : List Slab) (b.get 6) q := j6.isV
     exact tail_done (k := q) (hp836 _ _ ⟨⟨hgq, hsb, hdb⟩, j6, j7, trivial⟩)
    rintro a k ⟨⟨hg, hs, hd⟩, i6, i7, _⟩
    refine wp_ret ?_
    exact hret830 _ _ _ (Option.some.inj hr).symm (retC2 rfl hd hg i6 i7)
   rw [if_neg (by rw [hc843]; decide)] at hr
   refine wp_skip ?_
   obtain ⟨x837_3, hx837_3, hr⟩ := bind_some hr
   obtain ⟨x837_4, hx837_4, hr⟩ := bind_some hr
   obtain ⟨x837_8, hx837_8, hr⟩ := bind_some hr
   obtain ⟨x837_12, hx837_12, hr⟩ := bind_some hr
   refine cut (fun a' k' => Bs noF k0 70 a' k' ∧ (IsV a_) (a'.get 0) k' ∧ (IsV b_) (a'.get 1) k' ∧ (IsFn2T Try.prog op_) (a'.get 2) k' ∧ (IsV x824_3) (a'.get 8) k' ∧ IsOwn 0 47 x837_12 (a'.get 9) k' ∧ Lo k0 (obF (a'.get 9)) ∧ (IsV s827.2) (a'.get 10) k' ∧ True) ?_ hQ ?_
   ·intro Q841 hQQ841 hp842
    refine region (a0 := a) (k0 := k) (n := 70) (m := 12) (⟨some (OwnAt (a.get 9) 0 47 s827.1), [(9, none)]⟩ :: ⟨some (IsV x824_3), [(8, none)]⟩ :: ⟨some (IsV s827.2), [(10, none)]⟩ :: ⟨some (IsV x837_3), [(55, some 2)]⟩ :: ⟨some (IsPtr x837_4), [(54, some 1), (56, some 3)]⟩ :: ⟨some (IsV x837_4), [(57, some 4)]⟩ :: ⟨some (IsV x824_3), [(8, none)]⟩ :: ⟨some (IsV s827.2), [(10, none)]⟩ :: ⟨some (IsPtr x837_8), [(59, some 6), (60, some 7)]⟩ :: ⟨some (IsV x837_8), [(61, some 8)]⟩ :: ⟨some (IsV x832_15.1), [(11, none)]⟩ :: ⟨some (IsV (⟨x837_4, x837_8, x832_15.1⟩ : Slab)), [(58, some 5), (62, some 9), (63, some 10)]⟩ :: []) hmix hs (by kernel_rfl) ⟨ob1 rfl fun b q hk hn => ok_moveOA (.inl rfl) (ownAt hn.1 (up i9 hk hn.1)), ob1 rfl fun b q hk hn => ok_move rfl (up i8 hk hn.1), ob1 rfl fun b q hk hn => ok_move rfl (up i10 hk hn.1), ob1 rfl fun b q hk hn => ok_sub rfl hn.1 (isV_int.2 rfl) hx837_3, ob1 rfl fun b q hk hn => ok_indexAddr rfl Try.underlying57 ty3 (IsV.rd hn.1) hn.2.1 hx837_4, ob1 rfl fun b q hk hn => ok_load rfl ty3 hn.1, ob1 rfl fun b q hk hn => ok_move rfl (up i8 hk hn.1), ob1 rfl fun b q hk hn => ok_move rfl (up i10 hk hn.1), ob1 rfl fun b q hk hn => ok_indexAddr rfl Try.underlying57 ty3 (IsV.rd hn.1) hn.2.1 hx837_8, ob1 rfl fun b q hk hn => ok_load rfl ty3 hn.1, ob1 rfl fun b q hk hn => ok_move rfl (up i11 hk hn.1), ob1 rfl fun b q hk hn => ok_build rfl (bld47_0_1_2 hn.1 hn.2.1 hn.2.2.1), trivial⟩ hQQ841 fun b q p => ?_
    have hgq := hg.then p.grow
    have hsb := p.size.trans hs
    have hdb := p.defers.trans hd
    have j0 := p.ke 0 rfl i0
    have j1 := p.ke 1 rfl i1
    have j2 := p.ke 2 rfl i2
    have j8 := p.ke 8 rfl i8
    have j10 := p.ke 10 rfl i10
    have e53 : b.get 53 = a.get 9 := (p.ou 0 53 rfl).1
    have j53 : IsOwn 0 47 s827.1 (b.get 53) q := (p.ou 0 53 rfl).2
    have y53 : Lo k0 (obF (b.get 53)) := by rw [e53]; exact n9
    have j64 : (IsV (⟨x837_4, x837_8, x832_15.1⟩ : Slab)) (b.get 64) q := p.ou 11 64 rfl
    have hns := j53.nshF
    refine tail_call (F := obF (b.get 53)) (i := 12) (d := 65) rfl rfl rfl rfl (by rw [hsb]; decide) Try.call31 hQQ841 (solid_put_ok j53 j64 hx837_12) fun b2 q2 hsz hdf hoth hch hres => ?_
    have hle := hch.le hns
    obtain ⟨hown, hob⟩ := hres
    have yn : Lo k0 (obF (b2.get 65)) := y53.app hgq hob
    replace j0 := Pers.pers hle j0
    replace j1 := Pers.pers hle j1
    replace j2 := Pers.pers hle j2
    replace j8 := Pers.pers hle j8
    replace j10 := Pers.pers hle j10
    replace j64 := Pers.pers hle j64
    replace hgq := hgq.step hch y53.wr
    rw [← hoth 0 (by decide)] at j0
    rw [← hoth 1 (by decide)] at j1
    rw [← hoth 2 (by decide)] at j2
    rw [← hoth 8 (by decide)] at j8
    rw [← hoth 10 (by decide)] at j10
    rw [← hoth 64 (by decide)] at j64
    have j65 := hown
    have y65 := yn
    have hres := True.intro
    clear hown hob yn
    replace hsb := hsz.trans hsb
    replace hdb := hdf.trans hdb
    clear hle hch hres hns hsz hdf hoth
    obtain ⟨b, hbb⟩ : ∃ b, b = b2 := ⟨b2, rfl⟩
    subst hbb
    obtain ⟨q, hqq⟩ : ∃ q, q = q2 := ⟨q2, rfl⟩
    subst hqq
    refine tail_assign (i := 13) (d := 9) rfl rfl (.inl rfl) rfl (by rw [hsb]; decide) fun b2 hsz hdf hnew hoth => ?_
    have jn : (IsOwn 0 47 x837_12) (b2.get 9) q := by rw [hnew]; exact j65
    have yn : Lo k0 (obF (b2.get 9)) := by rw [hnew]; exact y65
    rw [← hoth 0 (by decide)] at j0
    rw [← hoth 1 (by decide)] at j1
    rw [← hoth 2 (by decide)] at j2
    rw [← hoth 8 (by decide)] at j8
    rw [← hoth 10 (by decide)] at j10
    rw [← hoth 64 (by decide)] at j64
    have j9 := jn
    have y9 := yn
    replace hsb := hsz.trans hsb
    replace hdb := hdf.trans hdb
    clear hsz hdf hoth
    obtain ⟨b, hbb⟩ : ∃ b, b = b2 := ⟨b2, rfl⟩
    subst hbb
    exact tail_done (k := q) (hp842 _ _ ⟨⟨hgq, hsb, hdb⟩, j0, j1, j2, j8, j9, y9, j10, trivial⟩)
   rintro a k ⟨⟨hg, hs, hd⟩, i0, i1, i2, i8, i9, n9, i10, _⟩
   obtain ⟨x838_1, hx838_1, hr⟩ := bind_some hr
   refine cut (fun a' k' => Bs noF k0 70 a' k' ∧ (IsV a_) (a'.get 0) k' ∧ (IsV b_) (a'.get 1) k' ∧ (IsFn2T Try.prog op_) (a'.get 2) k' ∧ (IsV x824_3) (a'.get 8) k' ∧ IsOwn 0 47 x837_12 (a'.get 9) k' ∧ Lo k0 (obF (a'.get 9)) ∧ (IsV x838_1) (a'.get 10) k' ∧ True) ?_ hQ ?_
   ·intro Q839 hQQ839 hp840
    refine gS 3 (_ :: _ :: _ :: []) hs (by kernel_rfl) ⟨mu rfl i10, o1 [(29, some 0)] rfl fun _ _ h n => ok_add rfl n.1 (cI rfl) hx838_1, cp 1 rfl rfl, trivial⟩ hQQ839 fun b q p => ?_
    exact tail_done (k := q) (hp840 _ _ ⟨Bs.post ⟨hg, hs, hd⟩ p, p.ke 0 rfl i0, p.ke 1 rfl i1, p.ke 2 rfl i2, p.ke 8 rfl i8, p.ke 9 rfl i9, (by rw [p.old 9 rfl]; exact n9), p.ou 2 10 rfl, trivial⟩)
   rintro a k ⟨⟨hg, hs, hd⟩, i0, i1, i2, i8, i9, n9, i10, _⟩
   exact hgo828 _ _ _ (Option.some.inj hr).symm ⟨⟨hg, hs, hd⟩, i0, i1, i2, i8, i9, n9, i10, trivial⟩
  rw [if_neg (by rw [hc849]; decide)] at hr
  refine wp_exit ?_
  obtain ⟨kk, sh848, ii9⟩ := i9.give
  replace i9 := ii9
  replace hg := hg.hand sh848 n9.wr
  rw [← sh848.w]
  clear sh848
  obtain ⟨k, hkk⟩ : ∃ k, k = kk := ⟨kk, rfl⟩
  subst hkk
  exact hex829 _ _ _ _ (Option.some.inj hr).symm ⟨rfl, ⟨hg, hs, hd⟩, i9, trivial⟩
 ·rintro r857 a k rfl hR
  dsimp only at hr
  obtain rfl := Option.some.inj hr
  exact hR
 ·rintro _ _ _ rfl _
  simp at hr
 clear hf852
 rintro _ s853 a k rfl ⟨rfl, ⟨hg, hs, hd⟩, i9, _⟩
 dsimp only at hr
 refine wp_seq ?_
 obtain ⟨x854_1, hx854_1, hr⟩ := bind_some hr
 refine cut (fun a' k' => Bs noF k0 70 a' k' ∧ (IsV x854_1.1) (a'.get 6) k' ∧ (IsV x854_1.2) (a'.get 7) k' ∧ True) ?_ hQ ?_
 ·intro Q855 hQQ855 hp856
  refine gS 6 (_ :: _ :: _ :: _ :: _ :: _ :: []) hs (by kernel_rfl) ⟨mu rfl i9, o1 [(66, some 0)] rfl fun _ _ h n => ok_call rfl Try.call32 (solid_fits_ok n.1 hx854_1), o1 [(67, some 1)] rfl fun _ _ h n => ok_ext2_0 rfl n.1, o1 [(67, some 1)] rfl fun _ _ h n => ok_ext2_1 rfl n.1, cp 2 rfl rfl, cp 3 rfl rfl, trivial⟩ hQQ855 fun b q p => ?_
  exact tail_done (k := q) (hp856 _ _ ⟨Bs.post ⟨hg, hs, hd⟩ p, p.ou 4 6 rfl, p.ou 5 7 rfl, trivial⟩)
 rintro a k ⟨⟨hg, hs, hd⟩, i6, i7, _⟩
 refine wp_ret ?_
 obtain rfl := Option.some.inj hr
 exact retC2 rfl hd hg i6 i7
def slices_BinarySearchFunc_strip_int_L0 (x_ : (List RegionStrip)) (target_ : Int) (cmp_ : (RegionStrip → Int → Option (Int))) (s873 : Int × Int) : Option (Flow (Int × Int) (Int × Bool)) :=
 if (decide (s873.1 < s873.2)) then
  (addI s873.1 s873.2).bind fun x878_2 =>
  (getI x_ (IntKind.i64.wrap (IK.shr (IK.mk (IntKind.u64.wrap x878_2) : IK .u64) 1).n)).bind fun x879_3 =>
  (cmp_ x879_3 target_).bind fun x879_6 =>
  (if (decide (x879_6 < 0)) then
   (addI (IntKind.i64.wrap (IK.shr (IK.mk (IntKind.u64.wrap x878_2) : IK .u64) 1).n) 1).bind fun x882_1 =>
   some (x882_1, s873.2)
  else
   some (s873.1, (IntKind.i64.wrap (IK.shr (IK.mk (IntKind.u64.wrap x878_2) : IK .u64) 1).n))).bind fun s880 =>
  some (.go (s880.1, s880.2))
 else
  some (.ex 0 (s873.1, s873.2))
def slices_BinarySearchFunc_strip_int (x_ : (List RegionStrip)) (target_ : Int) (cmp_ : (RegionStrip → Int → Option (Int))) : Option (Int × Bool) :=
 (iterL (slices_BinarySearchFunc_strip_int_L0 x_ target_ cmp_) (x_.length + 1) (0, (x_.length : Int))).bind fun f897 => match f897 with
  | .go _ => none
  | .ex _ s898 =>
   (if (decide (s898.1 < (x_.length : Int))) then
    (getI x_ s898.1).bind fun x899_8 =>
    (cmp_ x899_8 target_).bind fun x899_11 =>
    some (x899_11 == 0)
   else
    some false).bind fun x899_13 =>
   some (s898.1, x899_13)
  | .ret r902 => some r902
theorem slices_BinarySearchFunc_strip_int_ok {k0 : K} {v0 v1 v2 : Value} {x_ : (List RegionStrip)} {target_ : Int} {cmp_ : (RegionStrip → Int → Option (Int))} {r : Int × Bool} (i0 : (IsV x_) v0 k0) (i1 : (IsV target_) v1 k0) (i2 : (IsFn2 Try.prog cmp_) v2 k0) (hr : slices_BinarySearchFunc_strip_int x_ target_ cmp_ = some r) :
  Calls Try.prog 84 #[v0, v1, v2] k0.w (Ret k0 (IsTup2 (IsV r.1) (IsV r.2))) := by
 unfold slices_BinarySearchFunc_strip_int at hr
 refine Ret.ofC ?_
 refine enterK Try.func84 rfl Try.ntmps84 (show 3 ≤ 49 by decide) fun a k hk0 hs hd ha => ?_
 obtain ⟨e0, e1, e2, _⟩ := ha
 replace i0 : (IsV x_) (a.get 0) k := by rw [e0, hk0]; exact i0
 replace i1 : (IsV target_) (a.get 1) k := by rw [e1, hk0]; exact i1
 replace i2 : (IsFn2 Try.prog cmp_) (a.get 2) k := by rw [e2, hk0]; exact i2
 have hQ : Gb.LetsOut (bodyPost Try.prog Try.f84 (RetC noF k0 (IsTup2 (IsV r.1) (IsV r.2)))) := letsOutC
 have hg : Chg noF k0 k := by rw [hk0]; exact Chg.refl _ k0
 refine stepL 2 (⟨some (IsI 0), []⟩ :: ⟨some (IsV false), []⟩ :: []) rfl ⟨hg, hs, hd⟩ (by kernel_rfl) ⟨aI rfl rfl, ob1 rfl fun _ _ h n => ok_assign rfl (isV_bool.2 rfl), trivial⟩ [⟨_, _⟩, ⟨_, _⟩, ⟨_, _⟩] (fun b q p => ⟨p.ke 0 rfl i0, p.ke 1 rfl i1, p.ke 2 rfl i2, trivial⟩) ?_
 rintro a k ⟨⟨hg, hs, hd⟩, i0, i1, i2, _⟩
 refine stepL 3 (_ :: _ :: _ :: []) rfl ⟨hg, hs, hd⟩ (by kernel_rfl) ⟨mu rfl i0, o1 [(12, some 0)] rfl fun _ _ h n => ok_len rfl rfl Try.underlying69 (IsV.rd n.1), cp 1 rfl rfl, trivial⟩ [⟨_, _⟩, ⟨_, _⟩, ⟨_, _⟩, ⟨_, _⟩] (fun b q p => ⟨p.ke 0 rfl i0, p.ke 1 rfl i1, p.ke 2 rfl i2, p.ou 2 8 rfl, trivial⟩) ?_
 rintro a k ⟨⟨hg, hs, hd⟩, i0, i1, i2, i8, _⟩
 refine stepL 3 (_ :: ⟨some (IsI 0), []⟩ :: _ :: []) rfl ⟨hg, hs, hd⟩ (by kernel_rfl) ⟨mu rfl i8, aI rfl rfl, cp 0 rfl rfl, trivial⟩ [⟨_, _⟩, ⟨_, _⟩, ⟨_, _⟩, ⟨_, _⟩, ⟨_, _⟩, ⟨_, _⟩] (fun b q p => ⟨p.ke 0 rfl i0, p.ke 1 rfl i1, p.ke 2 rfl i2, p.ke 8 rfl i8, p.ou 1 9 rfl, p.ou 2 10 rfl, trivial⟩) ?_
 rintro a k ⟨⟨hg, hs, hd⟩, i0, i1, i2, i8, i9, i10, _⟩
 refine wp_seq ?_
 refine wp_block ?_
 obtain ⟨f897, hf897, hr⟩ := bind_some hr
 refine cutFe f897 (fun s' a' k' => Bs noF k0 49 a' k' ∧ (IsV x_) (a'.get 0) k' ∧ (IsV target_) (a'.get 1) k' ∧ (IsFn2 Try.prog cmp_) (a'.get 2) k' ∧ (IsL x_) (a'.get 8) k' ∧ (IsV s'.1) (a'.get 9) k' ∧ (IsV s'.2) (a'.get 10) k' ∧ True) (fun i' s' a' k' => (i' = 0 ∧ Bs noF k0 49 a' k' ∧ (IsV x_) (a'.get 0) k' ∧ (IsV target_) (a'.get 1) k' ∧ (IsFn2 Try.prog cmp_) (a'.get 2) k' ∧ (IsL x_) (a'.get 8) k' ∧ (IsV s'.1) (a'.get 9) k' ∧ True)) (fun r' a' k' => bodyPost Try.prog Try.f84 (RetC noF k0 (IsTup2 (IsV r'.1) (IsV r'.2))) .ret a' k'.w) ?_ hQ ?_ ?_ ?_
 ·intro Q903 hQQ903 hgo hex hret
  refine sim_loop ?_ _ _ _ _ _ hf897 ⟨⟨hg, hs, hd⟩, i0, i1, i2, i8, i9, i10, trivial⟩ Q903 hQQ903 hgo hex hret
  clear hr hf897 hgo hex hret hQQ903 hQ hg hs hd i0 i1 i10 i2 i8 i9
  intro s873 fl_ a k hr hS Q hQ hgo874 hex875 hret876
  obtain ⟨⟨hg, hs, hd⟩, i0, i1, i2, i8, i9, i10, _⟩ := hS
  unfold slices_BinarySearchFunc_strip_int_L0 at hr
  refine wp_seq ?_
  refine stepL 3 (_ :: _ :: _ :: []) rfl ⟨hg, hs, hd⟩ (by kernel_rfl) ⟨mu rfl i9, mu rfl i10, o1 [(15, some 0), (16, some 1)] rfl fun _ _ h n => ok_lss rfl n.1 n.2.1, trivial⟩ [⟨_, _⟩, ⟨_, _⟩, ⟨_, _⟩, ⟨_, _⟩, ⟨_, _⟩, ⟨_, _⟩, ⟨_, _⟩] (fun b q p => ⟨p.ke 0 rfl i0, p.ke 1 rfl i1, p.ke 2 rfl i2, p.ke 8 rfl i8, p.ke 9 rfl i9, p.ke 10 rfl i10, p.ou 2 17 rfl, trivial⟩) ?_
  rintro a k ⟨⟨hg, hs, hd⟩, i0, i1, i2, i8, i9, i10, i17, _⟩
  refine wp_cond_split (isBool i17) (fun hc894 => ?_) (fun hc894 => ?_)
  ·rw [if_pos hc894] at hr
   refine wp_skip ?_
   refine wp_block ?_
   refine wp_seq ?_
   obtain ⟨x878_2, hx878_2, hr⟩ := bind_some hr
   refine cut (fun a' k' => Bs noF k0 49 a' k' ∧ (IsV x_) (a'.get 0) k' ∧ (IsV target_) (a'.get 1) k' ∧ (IsFn2 Try.prog cmp_) (a'.get 2) k' ∧ (IsL x_) (a'.get 8) k' ∧ (IsV s873.1) (a'.get 9) k' ∧ (IsV s873.2) (a'.get 10) k' ∧ (IsI (IntKind.i64.wrap (IK.shr (IK.mk (IntKind.u64.wrap x878_2) : IK .u64) 1).n)) (a'.get 11) k' ∧ True) ?_ hQ ?_
   ·intro Q892 hQQ892 hp893
    refine gS 7 (_ :: _ :: _ :: ⟨some (IsV (IK.mk (IntKind.u64.wrap x878_2) : IK .u64)), [(20, some 2)]⟩ :: ⟨some (IsV (IK.shr (IK.mk (IntKind.u64.wrap x878_2) : IK .u64) 1)), [(21, some 3)]⟩ :: ⟨some (IsI (IntKind.i64.wrap (IK.shr (IK.mk (IntKind.u64.wrap x878_2) : IK .u64) 1).n)), [(22, some 4)]⟩ :: _ :: []) hs (by kernel_rfl) ⟨mu rfl i9, mu rfl i10, o1 [(18, some 0), (19, some 1)] rfl fun _ _ h n => ok_add rfl n.1 n.2.1 hx878_2, ob1 rfl fun _ _ h n => ok_conv_ik rfl (by rw [Try.underlying3]; rfl) Try.underlying92 n.1, ob1 rfl fun _ _ h n => ok_shrK rfl n.1 (by decide) (by decide), ob1 rfl fun _ _ h n => ok_conv_ki rfl (by rw [Try.underlying92]; rfl) Try.underlying3 n.1, cp 5 rfl rfl, trivial⟩ hQQ892 fun b q p => ?_
    exact tail_done (k := q) (hp893 _ _ ⟨Bs.post ⟨hg, hs, hd⟩ p, p.ke 0 rfl i0, p.ke 1 rfl i1, p.ke 2 rfl i2, p.ke 8 rfl i8, p.ke 9 rfl i9, p.ke 10 rfl i10, p.ou 6 11 rfl, trivial⟩)
   rintro a k ⟨⟨hg, hs, hd⟩, i0, i1, i2, i8, i9, i10, i11, _⟩
   refine wp_seq ?_
   obtain ⟨x879_3, hx879_3, hr⟩ := bind_some hr
   obtain ⟨x879_6, hx879_6, hr⟩ := bind_some hr
   refine cut (fun a' k' => Bs noF k0 49 a' k' ∧ (IsV x_) (a'.get 0) k' ∧ (IsV target_) (a'.get 1) k' ∧ (IsFn2 Try.prog cmp_) (a'.get 2) k' ∧ (IsL x_) (a'.get 8) k' ∧ (IsV s873.1) (a'.get 9) k' ∧ (IsV s873.2) (a'.get 10) k' ∧ (IsI (IntKind.i64.wrap (IK.shr (IK.mk (IntKind.u64.wrap x878_2) : IK .u64) 1).n)) (a'.get 11) k' ∧ (IsV (decide (x879_6 < 0))) (a'.get 31) k' ∧ True) ?_ hQ ?_
   ·intro Q890 hQQ890 hp891
    refine gS 8 (_ :: _ :: _ :: _ :: _ :: _ :: ⟨some (IsV x879_6), [(24, some 0), (28, some 4), (29, some 5)]⟩ :: _ :: []) hs (by kernel_rfl) ⟨mu rfl i2, mu rfl i0, mu rfl i11, o1 [(25, some 1), (26, some 2)] rfl fun _ _ h n => ok_indexAddr rfl Try.underlying69 ty85 (IsV.rd n.1) n.2.1 hx879_3, o1 [(27, some 3)] rfl fun _ _ h n => ok_load rfl ty85 n.1, mu rfl i1, ob1 rfl fun _ _ h n => ok_callF2 rfl n.1 n.2.1 n.2.2.1 hx879_6, o1 [(30, some 6)] rfl fun _ _ h n => ok_lss rfl n.1 (cI rfl), trivial⟩ hQQ890 fun b q p => ?_
    exact tail_done (k := q) (hp891 _ _ ⟨Bs.post ⟨hg, hs, hd⟩ p, p.ke 0 rfl i0, p.ke 1 rfl i1, p.ke 2 rfl i2, p.ke 8 rfl i8, p.ke 9 rfl i9, p.ke 10 rfl i10, p.ke 11 rfl i11, p.ou 7 31 rfl, trivial⟩)
   rintro a k ⟨⟨hg, hs, hd⟩, i0, i1, i2, i8, i9, i10, i11, i31, _⟩
   obtain ⟨s880, hs880, hr⟩ := bind_some hr
   refine cut (fun a' k' => Bs noF k0 49 a' k' ∧ (IsV x_) (a'.get 0) k' ∧ (IsV target_) (a'.get 1) k' ∧ (IsFn2 Try.prog cmp_) (a'.get 2) k' ∧ (IsL x_) (a'.get 8) k' ∧ (IsV s880.1) (a'.get 9) k' ∧ (IsV s880.2) (a'.get 10) k' ∧ True) ?_ hQ ?_
   ·intro Q889 hQQ889 hp881
    replace hr := hs880
    clear hQ
    have hQ := hQQ889
    refine wp_cond_split (isBool i31) (fun hc888 => ?_) (fun hc888 => ?_)
    ·rw [if_pos hc888] at hr
     obtain ⟨x882_1, hx882_1, hr⟩ := bind_some hr
     refine cut (fun a' k' => Bs noF k0 49 a' k' ∧ (IsV x_) (a'.get 0) k' ∧ (IsV target_) (a'.get 1) k' ∧ (IsFn2 Try.prog cmp_) (a'.get 2) k' ∧ (IsL x_) (a'.get 8) k' ∧ (IsV x882_1) (a'.get 9) k' ∧ (IsV s873.2) (a'.get 10) k' ∧ True) ?_ hQ ?_
     ·intro Q883 hQQ883 hp884
      refine gS 3 (_ :: _ :: _ :: []) hs (by kernel_rfl) ⟨mu rfl i11, o1 [(32, some 0)] rfl fun _ _ h n => ok_add rfl n.1 (cI rfl) hx882_1, cp 1 rfl rfl, trivial⟩ hQQ883 fun b q p => ?_
      exact tail_done (k := q) (hp884 _ _ ⟨Bs.post ⟨hg, hs, hd⟩ p, p.ke 0 rfl i0, p.ke 1 rfl i1, p.ke 2 rfl i2, p.ke 8 rfl i8, p.ou 2 9 rfl, p.ke 10 rfl i10, trivial⟩)
     rintro a k ⟨⟨hg, hs, hd⟩, i0, i1, i2, i8, i9, i10, _⟩
     obtain rfl := Option.some.inj hr
     exact hp881 _ _ ⟨⟨hg, hs, hd⟩, i0, i1, i2, i8, i9, i10, trivial⟩
    rw [if_neg (by rw [hc888]; decide)] at hr
    refine cut (fun a' k' => Bs noF k0 49 a' k' ∧ (IsV x_) (a'.get 0) k' ∧ (IsV target_) (a'.get 1) k' ∧ (IsFn2 Try.prog cmp_) (a'.get 2) k' ∧ (IsL x_) (a'.get 8) k' ∧ (IsV s873.1) (a'.get 9) k' ∧ (IsI (IntKind.i64.wrap (IK.shr (IK.mk (IntKind.u64.wrap x878_2) : IK .u64) 1).n)) (a'.get 10) k' ∧ True) ?_ hQ ?_
    ·intro Q886 hQQ886 hp887
     refine gS 2 (_ :: _ :: []) hs (by kernel_rfl) ⟨mu rfl i11, cp 0 rfl rfl, trivial⟩ hQQ886 fun b q p => ?_
     exact tail_done (k := q) (hp887 _ _ ⟨Bs.post ⟨hg, hs, hd⟩ p, p.ke 0 rfl i0, p.ke 1 rfl i1, p.ke 2 rfl i2, p.ke 8 rfl i8, p.ke 9 rfl i9, p.ou 1 10 rfl, trivial⟩)
    rintro a k ⟨⟨hg, hs, hd⟩, i0, i1, i2, i8, i9, i10, _⟩
    obtain rfl := Option.some.inj hr
    exact hp881 _ _ ⟨⟨hg, hs, hd⟩, i0, i1, i2, i8, i9, i10, trivial⟩
   clear hs880
   rintro a k ⟨⟨hg, hs, hd⟩, i0, i1, i2, i8, i9, i10, _⟩
   exact hgo874 _ _ _ (Option.some.inj hr).symm ⟨⟨hg, hs, hd⟩, i0, i1, i2, i8, i9, i10, trivial⟩
  rw [if_neg (by rw [hc894]; decide)] at hr
  refine wp_exit ?_
  exact hex875 _ _ _ _ (Option.some.inj hr).symm ⟨rfl, ⟨hg, hs, hd⟩, i0, i1, i2, i8, i9, trivial⟩
 ·rintro r902 a k rfl hR
  dsimp only at hr
  obtain rfl := Option.some.inj hr
  exact hR
 ·rintro _ _ _ rfl _
  simp at hr
 clear hf897
 rintro _ s898 a k rfl ⟨rfl, ⟨hg, hs, hd⟩, i0, i1, i2, i8, i9, _⟩
 dsimp only at hr
 refine wp_seq ?_
 obtain ⟨x899_13, hx899_13, hr⟩ := bind_some hr
 obtain ⟨x899_8, hx899_8, hx899_13⟩ := ite_bind hx899_13
 obtain ⟨x899_11, hx899_11, hx899_13⟩ := ite_bind hx899_13
 refine cut (fun a' k' => Bs noF k0 49 a' k' ∧ (IsV s898.1) (a'.get 6) k' ∧ (IsV x899_13) (a'.get 7) k' ∧ True) ?_ hQ ?_
 ·intro Q900 hQQ900 hp901
  refine gS 16 (_ :: _ :: _ :: _ :: _ :: _ :: _ :: _ :: _ :: _ :: _ :: ⟨some (Gd ((decide (s898.1 < (x_.length : Int))) = true) (IsV x899_11)), [(40, some 5), (44, some 9), (45, some 10)]⟩ :: _ :: _ :: _ :: _ :: []) hs (by kernel_rfl) ⟨mu rfl i9, mu rfl i9, mu rfl i8, o1 [(36, some 1), (37, some 2)] rfl fun _ _ h n => ok_lss rfl n.1 n.2.1, cm 3 rfl rfl, mT rfl rfl i2, mT rfl rfl i0, mT rfl rfl i9, gT [(41, some 6), (42, some 7)] rfl rfl fun hp _ _ h n => ok_indexAddr rfl Try.underlying69 ty85 (IsV.rd (Gd.get n.1 hp)) (Gd.get n.2.1 hp) (hx899_8 hp), gT [(43, some 8)] rfl rfl fun hp _ _ h n => ok_load rfl ty85 (Gd.get n.1 hp), mT rfl rfl i1, gdT rfl rfl fun hp _ _ h n => ok_callF2 rfl (Gd.get n.1 hp) (Gd.get n.2.1 hp) (Gd.get n.2.2.1 hp) (hx899_11 hp), gT [(46, some 11)] rfl rfl fun hp _ _ h n => ok_eqI rfl (Gd.get n.1 hp) (cI rfl), o1 [(39, some 4), (47, some 12)] rfl fun _ _ h n => ok_pickM rfl n.1 hx899_13 (Gd.get n.2.1) (cB rfl), cp 0 rfl rfl, cp 13 rfl rfl, trivial⟩ hQQ900 fun b q p => ?_
  exact tail_done (k := q) (hp901 _ _ ⟨Bs.post ⟨hg, hs, hd⟩ p, p.ou 14 6 rfl, p.ou 15 7 rfl, trivial⟩)
 rintro a k ⟨⟨hg, hs, hd⟩, i6, i7, _⟩
 refine wp_ret ?_
 obtain rfl := Option.some.inj hr
 exact retC2 rfl hd hg i6 i7
def region_at_1 (s_ : RegionStrip) (x_ : Int) : Option (Int) :=
 if (decide (s_.x1 ≤ x_)) then
  some (-1)
 else
  some 1
theorem region_at_1_ok {k0 : K} {v0 v1 : Value} {s_ : RegionStrip} {x_ : Int} {r : Int} (i0 : (IsV s_) v0 k0) (i1 : (IsV x_) v1 k0) (hr : region_at_1 s_ x_ = some r) :
  Calls Try.prog 85 #[v0, v1] k0.w (Ret k0 (IsV r)) := by
 unfold region_at_1 at hr
 refine Ret.ofC ?_
 refine enterK Try.func85 rfl Try.ntmps85 (show 2 ≤ 9 by decide) fun a k hk0 hs hd ha => ?_
 obtain ⟨e0, e1, _⟩ := ha
 replace i0 : (IsV s_) (a.get 0) k := by rw [e0, hk0]; exact i0
 replace i1 : (IsV x_) (a.get 1) k := by rw [e1, hk0]; exact i1
 have hQ : Gb.LetsOut (bodyPost Try.prog Try.f85 (RetC noF k0 (IsV r))) := letsOutC
 have hg : Chg noF k0 k := by rw [hk0]; exact Chg.refl _ k0
 refine stepL 2 (⟨some (IsRef s_), [(0, none)]⟩ :: ⟨some (IsI 0), []⟩ :: []) rfl ⟨hg, hs, hd⟩ (by kernel_rfl) ⟨ob1 rfl fun _ _ h n => ok_boxR rfl (up i0 h n.1), aI rfl rfl, trivial⟩ [⟨_, _⟩, ⟨_, _⟩] (fun b q p => ⟨p.ke 1 rfl i1, p.ou 0 2 rfl, trivial⟩) ?_
 rintro a k ⟨⟨hg, hs, hd⟩, i1, i2, _⟩
 refine wp_seq ?_
 refine stepL 4 (_ :: _ :: _ :: _ :: []) rfl ⟨hg, hs, hd⟩ (by kernel_rfl) ⟨o1 [(2, none)] rfl fun _ _ h n => ok_fieldAddr rfl fo85_1 (at_RegionStrip_1 _) ((up i2 h n.1)).ptr, o1 [(5, some 0)] rfl fun _ _ h n => ok_load rfl ty3 n.1, mu rfl i1, o1 [(6, some 1), (7, some 2)] rfl fun _ _ h n => ok_leq rfl n.1 n.2.1, trivial⟩ [⟨_, _⟩] (fun b q p => ⟨p.ou 3 8 rfl, trivial⟩) ?_
 rintro a k ⟨⟨hg, hs, hd⟩, i8, _⟩
 refine wp_cond_split (isBool i8) (fun hc918 => ?_) (fun hc918 => ?_)
 ·rw [if_pos hc918] at hr
  refine stepL 1 (⟨some (IsI (-1)), []⟩ :: []) rfl ⟨hg, hs, hd⟩ (by kernel_rfl) ⟨aI rfl rfl, trivial⟩ [⟨_, _⟩] (fun b q p => ⟨p.ou 0 4 rfl, trivial⟩) ?_
  rintro a k ⟨⟨hg, hs, hd⟩, i4, _⟩
  refine wp_ret ?_
  obtain rfl := Option.some.inj hr
  exact retC1 rfl hd hg i4
 rw [if_neg (by rw [hc918]; decide)] at hr
 refine wp_skip ?_
 refine stepL 1 (⟨some (IsI 1), []⟩ :: []) rfl ⟨hg, hs, hd⟩ (by kernel_rfl) ⟨aI rfl rfl, trivial⟩ [⟨_, _⟩] (fun b q p => ⟨p.ou 0 4 rfl, trivial⟩) ?_
 rintro a k ⟨⟨hg, hs, hd⟩, i4, _⟩
 refine wp_ret ?_
 obtain rfl := Option.some.inj hr
 exact retC1 rfl hd hg i4
def region_at (l_ : (List RegionStrip)) (x_ : Int) : Option ((List RegionSpan)) :=
 (slices_BinarySearchFunc_strip_int l_ x_ region_at_1).bind fun x924_2 =>
 (if (decide (x924_2.1 < (l_.length : Int))) then
  (getI l_ x924_2.1).bind fun x925_7 =>
  some (decide (x925_7.x0 ≤ x_))
 else
  some false).bind fun x925_12 =>
 if x925_12 then
  (getI l_ x924_2.1).bind fun x926_2 =>
  some x926_2.column
 else
  some ([] : List RegionSpan)
theorem region_at_ok {k0 : K} {v0 v1 : Value} {l_ : (List RegionStrip)} {x_ : Int} {r : (List RegionSpan)} (i0 : (IsV l_) v0 k0) (i1 : (IsV x_) v1 k0) (hr : region_at l_ x_ = some r) :
  Calls Try.prog 66 #[v0, v1] k0.w (Ret k0 (IsV r)) := by
 unfold region_at at hr
 refine Ret.ofC ?_
 refine enterK Try.func66 rfl Try.ntmps66 (show 2 ≤ 31 by decide) fun a k hk0 hs hd ha => ?_
 obtain ⟨e0, e1, _⟩ := ha
 replace i0 : (IsV l_) (a.get 0) k := by rw [e0, hk0]; exact i0
 replace i1 : (IsV x_) (a.get 1) k := by rw [e1, hk0]; exact i1
 have hQ : Gb.LetsOut (bodyPost Try.prog Try.f66 (RetC noF k0 (IsV r))) := letsOutC
 have hg : Chg noF k0 k := by rw [hk0]; exact Chg.refl _ k0
 refine stepL 1 (⟨some IsE0, []⟩ :: []) rfl ⟨hg, hs, hd⟩ (by kernel_rfl) ⟨ob1 rfl fun b q h n => ok_assign rfl isE0_nil, trivial⟩ [⟨_, _⟩, ⟨_, _⟩] (fun b q p => ⟨p.ke 0 rfl i0, p.ke 1 rfl i1, trivial⟩) ?_
 rintro a k ⟨⟨hg, hs, hd⟩, i0, i1, _⟩
 refine wp_seq ?_
 obtain ⟨x924_2, hx924_2, hr⟩ := bind_some hr
 refine cut (fun a' k' => Bs noF k0 31 a' k' ∧ (IsV l_) (a'.get 0) k' ∧ (IsV x_) (a'.get 1) k' ∧ (IsV x924_2.1) (a'.get 5) k' ∧ True) ?_ hQ ?_
 ·intro Q935 hQQ935 hp936
  refine gS 8 (_ :: _ :: _ :: _ :: _ :: _ :: _ :: _ :: []) hs (by kernel_rfl) ⟨mu rfl i0, mu rfl i1, o1 [(8, some 0), (9, some 1)] rfl fun _ _ h n => ok_call rfl Try.call84 (slices_BinarySearchFunc_strip_int_ok n.1 n.2.1 ⟨85, _, _, rfl, Try.call85, fun k9 hk9 _ _ _ _ _ hx0 hx1 hy9 => by simpa [evalT] using region_at_1_ok hx0 hx1 hy9⟩ hx924_2), cm 2 rfl rfl, o1 [(7, some 3)] rfl fun _ _ h n => ok_ext2_0 rfl n.1, o1 [(7, some 3)] rfl fun _ _ h n => ok_ext2_1 rfl n.1, cp 4 rfl rfl, cp 5 rfl rfl, trivial⟩ hQQ935 fun b q p => ?_
  exact tail_done (k := q) (hp936 _ _ ⟨Bs.post ⟨hg, hs, hd⟩ p, p.ke 0 rfl i0, p.ke 1 rfl i1, p.ou 6 5 rfl, trivial⟩)
 rintro a k ⟨⟨hg, hs, hd⟩, i0, i1, i5, _⟩
 refine wp_seq ?_
 refine wp_seq ?_
 obtain ⟨x925_12, hx925_12, hr⟩ := bind_some hr
 obtain ⟨x925_7, hx925_7, hx925_12⟩ := ite_bind hx925_12
 refine cut (fun a' k' => Bs noF k0 31 a' k' ∧ (IsV l_) (a'.get 0) k' ∧ (IsV x924_2.1) (a'.get 5) k' ∧ (IsV x925_12) (a'.get 25) k' ∧ True) ?_ hQ ?_
 ·intro Q933 hQQ933 hp934
  refine gS 13 (_ :: _ :: _ :: _ :: _ :: _ :: _ :: _ :: _ :: _ :: _ :: _ :: _ :: []) hs (by kernel_rfl) ⟨mu rfl i5, mu rfl i0, o1 [(14, some 1)] rfl fun _ _ h n => ok_len rfl rfl Try.underlying69 (IsV.rd n.1), o1 [(13, some 0), (15, some 2)] rfl fun _ _ h n => ok_lss rfl n.1 n.2.1, cm 3 rfl rfl, mT rfl rfl i0, mT rfl rfl i5, gT [(18, some 5), (19, some 6)] rfl rfl fun hp _ _ h n => ok_indexAddr rfl Try.underlying69 ty85 (IsV.rd (Gd.get n.1 hp)) (Gd.get n.2.1 hp) (hx925_7 hp), gT [(20, some 7)] rfl rfl fun hp _ _ h n => ok_fieldAddr rfl fo85_0 (at_RegionStrip_0 _) (Gd.get n.1 hp), gT [(21, some 8)] rfl rfl fun hp _ _ h n => ok_load rfl ty3 (Gd.get n.1 hp), mT rfl rfl i1, gT [(22, some 9), (23, some 10)] rfl rfl fun hp _ _ h n => ok_leq rfl (Gd.get n.1 hp) (Gd.get n.2.1 hp), o1 [(17, some 4), (24, some 11)] rfl fun _ _ h n => ok_pickM rfl n.1 hx925_12 (Gd.get n.2.1) (cB rfl), trivial⟩ hQQ933 fun b q p => ?_
  exact tail_done (k := q) (hp934 _ _ ⟨Bs.post ⟨hg, hs, hd⟩ p, p.ke 0 rfl i0, p.ke 5 rfl i5, p.ou 12 25 rfl, trivial⟩)
 rintro a k ⟨⟨hg, hs, hd⟩, i0, i5, i25, _⟩
 refine wp_cond_split (isBool i25) (fun hc932 => ?_) (fun hc932 => ?_)
 ·rw [if_pos hc932] at hr
  refine wp_seq ?_
  obtain ⟨x926_2, hx926_2, hr⟩ := bind_some hr
  refine cut (fun a' k' => Bs noF k0 31 a' k' ∧ (IsV x926_2.column) (a'.get 4) k' ∧ True) ?_ hQ ?_
  ·intro Q927 hQQ927 hp928
   refine gS 6 (_ :: _ :: _ :: _ :: _ :: _ :: []) hs (by kernel_rfl) ⟨mu rfl i0, mu rfl i5, o1 [(26, some 0), (27, some 1)] rfl fun _ _ h n => ok_indexAddr rfl Try.underlying69 ty85 (IsV.rd n.1) n.2.1 hx926_2, o1 [(28, some 2)] rfl fun _ _ h n => ok_fieldAddr rfl fo85_2 (at_RegionStrip_2 _) n.1, o1 [(29, some 3)] rfl fun _ _ h n => ok_load rfl ty81 n.1, cp 4 rfl rfl, trivial⟩ hQQ927 fun b q p => ?_
   exact tail_done (k := q) (hp928 _ _ ⟨Bs.post ⟨hg, hs, hd⟩ p, p.ou 5 4 rfl, trivial⟩)
  rintro a k ⟨⟨hg, hs, hd⟩, i4, _⟩
  refine wp_ret ?_
  obtain rfl := Option.some.inj hr
  exact retC1 rfl hd hg i4
 rw [if_neg (by rw [hc932]; decide)] at hr
 refine wp_skip ?_
 refine cutL noF k0 31 [⟨4, IsV ([] : List RegionSpan)⟩] ?_ ?_
 ·intro Q930 hQQ930 hp931
  refine gS 1 (⟨some IsE0, []⟩ :: []) hs (by kernel_rfl) ⟨ob1 rfl fun b q h n => ok_assign rfl isE0_nil, trivial⟩ hQQ930 fun b q p => ?_
  have hgq := hg.then p.grow
  have hsb := p.size.trans hs
  have hdb := p.defers.trans hd
  have j4 : IsE0 (b.get 4) q := p.ou 0 4 rfl
  replace j4 : IsV ([] : List RegionSpan) (b.get 4) q := j4.isV
  exact tail_done (k := q) (hp931 _ _ ⟨⟨hgq, hsb, hdb⟩, j4, trivial⟩)
 rintro a k ⟨⟨hg, hs, hd⟩, i4, _⟩
 refine wp_ret ?_
 obtain rfl := Option.some.inj hr
 exact retC1 rfl hd hg i4
section
open Go.Proofs Go.RowKit Go.Lib Go.Sort Go.Shelf
def Try.growL93_ren : Go.Shelf.Ren := ⟨fun | 4 => 93 | n => n, fun | 22 => 81 | 25 => 83 | 3 => 3 | 4 => 4 | 9 => 9 | 20 => 20 | 0 => 0 | 2 => 3 | n => n, fun | n => n⟩
theorem Try.growL93 : Go.Proofs.Lays8.n4 Try.prog Try.growL93_ren := {
 mixed := by kernel_rfl,
 f4 := ⟨Try.f93.name, by decide, Try.func93.trans (congrArg some (by kernel_rfl))⟩,
 t0 := Try.underlying0,
 a0 := Try.isAgg0,
 z0 := Try.sizeOf0,
 v0 := Try.zeroValue0,
 t3 := Try.underlying3,
 a3 := Try.isAgg3,
 z3 := Try.sizeOf3,
 v3 := Try.zeroValue3,
 t4 := Try.underlying4,
 a4 := Try.isAgg4,
 z4 := Try.sizeOf4,
 v4 := Try.zeroValue4,
 t9 := Try.underlying9,
 a9 := Try.isAgg9,
 z9 := Try.sizeOf9,
 v9 := Try.zeroValue9,
 t20 := Try.underlying20,
 a20 := Try.isAgg20,
 z20 := Try.sizeOf20,
 v20 := Try.zeroValue20,
 t22 := Try.underlying81,
 a22 := Try.isAgg81,
 z22 := Try.sizeOf81,
 v22 := Try.zeroValue81 }
theorem slices_Grow_span_okO {k0 : K} {v0 v1 : Value} {n : Int} {r : List RegionSpan} (i0 : v0 = .slice none 0 0) (i1 : IsV n v1 k0) (hr : growI RegionSpan n = some r) : Calls Try.prog 93 #[v0, v1] k0.w (Ret k0 (IsOwn k0.w.heap.size 83 r)) := by
 refine grow_own eo83 i0 i1 hr ?_ fun m i z h0 hm hi hz hs hb => ?_
 ·have hcon := Any8.slices_Grow_room Try.growL93 none 0 0 0 k0.w (by omega) (by omega) (by omega) (by omega)
  change Calls Try.prog 93 _ _ _ at hcon
  exact hcon
 ·have hcon := Any8.slices_Grow_grow Try.growL93 i z hi hz hs none 0 0 m [] k0.w (by omega) (by omega) (by
   have : (0 + m) * i.bytes ≤ 1073741824 * 65536 := Nat.mul_le_mul (by omega) hb
   omega) (by omega) (by simp) (fun _ => rfl) (fun a h => by simp at h)
  change Calls Try.prog 93 _ _ _ at hcon
  exact hcon
end
def slices_Concat_span_L0 (slices_ : (List (List RegionSpan))) (s942 : Int × Int) : Option (Flow (Int × Int) ((List RegionSpan))) :=
 if (decide (s942.2 < (slices_.length : Int))) then
  (getI slices_ s942.2).bind fun x947_0 =>
  (addI s942.1 (x947_0.length : Int)).bind fun x948_3 =>
  if (decide (x948_3 < 0)) then
   none
  else
   (addI s942.2 1).bind fun x950_0 =>
   some (.go (x948_3, x950_0))
 else
  some (.ex 0 (s942.1, s942.2))
def slices_Concat_span_L1 (slices_ : (List (List RegionSpan))) (s967 : (List RegionSpan) × Int) : Option (Flow ((List RegionSpan) × Int) ((List RegionSpan))) :=
 if (decide (s967.2 < (slices_.length : Int))) then
  (getI slices_ s967.2).bind fun x972_0 =>
  (appI s967.1 x972_0).bind fun x973_2 =>
  (addI s967.2 1).bind fun x974_0 =>
  some (.go (x973_2, x974_0))
 else
  some (.ex 2 (s967.1, s967.2))
def slices_Concat_span (slices_ : (List (List RegionSpan))) : Option ((List RegionSpan)) :=
 (iterL (slices_Concat_span_L0 slices_) (slices_.length + 1) (0, 0)).bind fun f963 => match f963 with
  | .go _ => none
  | .ex _ s964 =>
   (growI RegionSpan s964.1).bind fun x965_1 =>
   (iterL (slices_Concat_span_L1 slices_) (slices_.length + 1) (x965_1, 0)).bind fun f984 => match f984 with
    | .go _ => none
    | .ex _ s985 =>
     some s985.1
    | .ret r989 => some r989
  | .ret r995 => some r995
theorem slices_Concat_span_okO {k0 : K} {v0 : Value} {slices_ : (List (List RegionSpan))} {r : (List RegionSpan)} (i0 : (IsV slices_) v0 k0) (hr : slices_Concat_span slices_ = some r) :
  Calls Try.prog 82 #[v0] k0.w (Ret k0 (IsOwn k0.w.heap.size 83 r)) := by
 unfold slices_Concat_span at hr
 refine Ret.ofC ?_
 refine enterK Try.func82 rfl Try.ntmps82 (show 1 ≤ 36 by decide) fun a k hk0 hs hd ha => ?_
 obtain ⟨e0, _⟩ := ha
 replace i0 : (IsV slices_) (a.get 0) k := by rw [e0, hk0]; exact i0
 have hQ : Gb.LetsOut (bodyPost Try.prog Try.f82 (RetC noF k0 (IsOwn k0.w.heap.size 83 r))) := letsOutC
 have hg : Chg noF k0 k := by rw [hk0]; exact Chg.refl _ k0
 refine stepL 1 (⟨some IsE0, []⟩ :: []) rfl ⟨hg, hs, hd⟩ (by kernel_rfl) ⟨ob1 rfl fun b q h n => ok_assign rfl isE0_nil, trivial⟩ [⟨_, _⟩] (fun b q p => ⟨p.ke 0 rfl i0, trivial⟩) ?_
 rintro a k ⟨⟨hg, hs, hd⟩, i0, _⟩
 refine stepL 1 (⟨some (IsI 0), []⟩ :: []) rfl ⟨hg, hs, hd⟩ (by kernel_rfl) ⟨aI rfl rfl, trivial⟩ [⟨_, _⟩, ⟨_, _⟩] (fun b q p => ⟨p.ke 0 rfl i0, p.ou 0 3 rfl, trivial⟩) ?_
 rintro a k ⟨⟨hg, hs, hd⟩, i0, i3, _⟩
 refine wp_seq ?_
 refine stepL 3 (_ :: _ :: ⟨some (IsI 0), []⟩ :: []) rfl ⟨hg, hs, hd⟩ (by kernel_rfl) ⟨mu rfl i0, o1 [(9, some 0)] rfl fun _ _ h n => ok_len rfl rfl Try.underlying124 (IsV.rd n.1), ob1 rfl fun _ _ h n => ok_move rfl (cI rfl), trivial⟩ [⟨_, _⟩, ⟨_, _⟩, ⟨_, _⟩, ⟨_, _⟩, ⟨_, _⟩] (fun b q p => ⟨p.ke 0 rfl i0, p.ke 3 rfl i3, p.ou 0 9 rfl, p.ou 1 10 rfl, p.ou 2 11 rfl, trivial⟩) ?_
 rintro a k ⟨⟨hg, hs, hd⟩, i0, i3, i9, i10, i11, _⟩
 refine wp_block ?_
 obtain ⟨f963, hf963, hr⟩ := bind_some hr
 refine cutFe f963 (fun s' a' k' => Bs noF k0 36 a' k' ∧ (IsV slices_) (a'.get 0) k' ∧ (IsV s'.1) (a'.get 3) k' ∧ (IsV slices_) (a'.get 9) k' ∧ (IsL slices_) (a'.get 10) k' ∧ (IsV s'.2) (a'.get 11) k' ∧ True) (fun i' s' a' k' => (i' = 0 ∧ Bs noF k0 36 a' k' ∧ (IsV slices_) (a'.get 0) k' ∧ (IsV s'.1) (a'.get 3) k' ∧ True)) (fun r' a' k' => bodyPost Try.prog Try.f82 (RetC noF k0 (IsOwn k0.w.heap.size 83 r')) .ret a' k'.w) ?_ hQ ?_ ?_ ?_
 ·intro Q996 hQQ996 hgo hex hret
  refine sim_loop ?_ _ _ _ _ _ hf963 ⟨⟨hg, hs, hd⟩, i0, i3, i9, i10, i11, trivial⟩ Q996 hQQ996 hgo hex hret
  clear hr hf963 hgo hex hret hQQ996 hQ hg hs hd i0 i10 i11 i3 i9
  intro s942 fl_ a k hr hS Q hQ hgo943 hex944 hret945
  obtain ⟨⟨hg, hs, hd⟩, i0, i3, i9, i10, i11, _⟩ := hS
  unfold slices_Concat_span_L0 at hr
  refine stepL 1 (_ :: []) rfl ⟨hg, hs, hd⟩ (by kernel_rfl) ⟨o1 [(11, none), (10, none)] rfl fun _ _ h n => ok_lss rfl (up i11 h n.1) (up i10 h n.2.1), trivial⟩ [⟨_, _⟩, ⟨_, _⟩, ⟨_, _⟩, ⟨_, _⟩, ⟨_, _⟩, ⟨_, _⟩] (fun b q p => ⟨p.ke 0 rfl i0, p.ke 3 rfl i3, p.ke 9 rfl i9, p.ke 10 rfl i10, p.ke 11 rfl i11, p.ou 0 12 rfl, trivial⟩) ?_
  rintro a k ⟨⟨hg, hs, hd⟩, i0, i3, i9, i10, i11, i12, _⟩
  refine wp_seq ?_
  refine wp_cond_split (isBool i12) (fun hc960 => ?_) (fun hc960 => ?_)
  ·rw [if_pos hc960] at hr
   refine wp_skip ?_
   refine wp_seq ?_
   refine wp_block ?_
   refine wp_seq ?_
   obtain ⟨x947_0, hx947_0, hr⟩ := bind_some hr
   refine cut (fun a' k' => Bs noF k0 36 a' k' ∧ (IsV slices_) (a'.get 0) k' ∧ (IsV s942.1) (a'.get 3) k' ∧ (IsV x947_0) (a'.get 5) k' ∧ (IsV slices_) (a'.get 9) k' ∧ (IsL slices_) (a'.get 10) k' ∧ (IsV s942.2) (a'.get 11) k' ∧ True) ?_ hQ ?_
   ·intro Q958 hQQ958 hp959
    refine gS 3 (_ :: _ :: _ :: []) hs (by kernel_rfl) ⟨o1 [(9, none), (11, none)] rfl fun _ _ h n => ok_indexAddr rfl Try.underlying124 ty81 (IsV.rd (up i9 h n.1)) (up i11 h n.2.1) hx947_0, o1 [(13, some 0)] rfl fun _ _ h n => ok_load rfl ty81 n.1, cp 1 rfl rfl, trivial⟩ hQQ958 fun b q p => ?_
    exact tail_done (k := q) (hp959 _ _ ⟨Bs.post ⟨hg, hs, hd⟩ p, p.ke 0 rfl i0, p.ke 3 rfl i3, p.ou 2 5 rfl, p.ke 9 rfl i9, p.ke 10 rfl i10, p.ke 11 rfl i11, trivial⟩)
   rintro a k ⟨⟨hg, hs, hd⟩, i0, i3, i5, i9, i10, i11, _⟩
   refine wp_seq ?_
   obtain ⟨x948_3, hx948_3, hr⟩ := bind_some hr
   refine cut (fun a' k' => Bs noF k0 36 a' k' ∧ (IsV slices_) (a'.get 0) k' ∧ (IsV x948_3) (a'.get 3) k' ∧ (IsV slices_) (a'.get 9) k' ∧ (IsL slices_) (a'.get 10) k' ∧ (IsV s942.2) (a'.get 11) k' ∧ True) ?_ hQ ?_
   ·intro Q956 hQQ956 hp957
    refine gS 5 (_ :: _ :: _ :: _ :: _ :: []) hs (by kernel_rfl) ⟨mu rfl i3, mu rfl i5, o1 [(16, some 1)] rfl fun _ _ h n => ok_len rfl rfl Try.underlying81 (IsV.rd n.1), o1 [(15, some 0), (17, some 2)] rfl fun _ _ h n => ok_add rfl n.1 n.2.1 hx948_3, cp 3 rfl rfl, trivial⟩ hQQ956 fun b q p => ?_
    exact tail_done (k := q) (hp957 _ _ ⟨Bs.post ⟨hg, hs, hd⟩ p, p.ke 0 rfl i0, p.ou 4 3 rfl, p.ke 9 rfl i9, p.ke 10 rfl i10, p.ke 11 rfl i11, trivial⟩)
   rintro a k ⟨⟨hg, hs, hd⟩, i0, i3, i9, i10, i11, _⟩
   refine stepL 2 (_ :: _ :: []) rfl ⟨hg, hs, hd⟩ (by kernel_rfl) ⟨mu rfl i3, o1 [(19, some 0)] rfl fun _ _ h n => ok_lss rfl n.1 (cI rfl), trivial⟩ [⟨_, _⟩, ⟨_, _⟩, ⟨_, _⟩, ⟨_, _⟩, ⟨_, _⟩, ⟨_, _⟩] (fun b q p => ⟨p.ke 0 rfl i0, p.ke 3 rfl i3, p.ke 9 rfl i9, p.ke 10 rfl i10, p.ke 11 rfl i11, p.ou 1 20 rfl, trivial⟩) ?_
   rintro a k ⟨⟨hg, hs, hd⟩, i0, i3, i9, i10, i11, i20, _⟩
   refine wp_cond_split (isBool i20) (fun hc953 => ?_) (fun hc953 => ?_)
   ·rw [if_pos hc953] at hr
    simp at hr
   rw [if_neg (by rw [hc953]; decide)] at hr
   refine wp_skip ?_
   obtain ⟨x950_0, hx950_0, hr⟩ := bind_some hr
   refine cut (fun a' k' => Bs noF k0 36 a' k' ∧ (IsV slices_) (a'.get 0) k' ∧ (IsV x948_3) (a'.get 3) k' ∧ (IsV slices_) (a'.get 9) k' ∧ (IsL slices_) (a'.get 10) k' ∧ (IsV x950_0) (a'.get 11) k' ∧ True) ?_ hQ ?_
   ·intro Q951 hQQ951 hp952
    refine gS 2 (_ :: _ :: []) hs (by kernel_rfl) ⟨o1 [(11, none)] rfl fun _ _ h n => ok_add rfl (up i11 h n.1) (cI rfl) hx950_0, cm 0 rfl rfl, trivial⟩ hQQ951 fun b q p => ?_
    exact tail_done (k := q) (hp952 _ _ ⟨Bs.post ⟨hg, hs, hd⟩ p, p.ke 0 rfl i0, p.ke 3 rfl i3, p.ke 9 rfl i9, p.ke 10 rfl i10, p.ou 1 11 rfl, trivial⟩)
   rintro a k ⟨⟨hg, hs, hd⟩, i0, i3, i9, i10, i11, _⟩
   exact hgo943 _ _ _ (Option.some.inj hr).symm ⟨⟨hg, hs, hd⟩, i0, i3, i9, i10, i11, trivial⟩
  rw [if_neg (by rw [hc960]; decide)] at hr
  refine wp_exit ?_
  exact hex944 _ _ _ _ (Option.some.inj hr).symm ⟨rfl, ⟨hg, hs, hd⟩, i0, i3, trivial⟩
 ·rintro r995 a k rfl hR
  dsimp only at hr
  obtain rfl := Option.some.inj hr
  exact hR
 ·rintro _ _ _ rfl _
  simp at hr
 clear hf963
 rintro _ s964 a k rfl ⟨rfl, ⟨hg, hs, hd⟩, i0, i3, _⟩
 dsimp only at hr
 refine wp_seq ?_
 obtain ⟨x965_1, hx965_1, hr⟩ := bind_some hr
 refine cut (fun a' k' => Bs noF k0 36 a' k' ∧ (IsV slices_) (a'.get 0) k' ∧ IsOwn 0 83 x965_1 (a'.get 6) k' ∧ Lo k0 (obF (a'.get 6)) ∧ True) ?_ hQ ?_
 ·intro Q993 hQQ993 hp994
  refine gS 3 (_ :: _ :: _ :: []) hs (by kernel_rfl) ⟨mu rfl i3, o1 [(23, some 0)] rfl fun _ _ h n => ok_call rfl Try.call93 (ret_weaken h.size (slices_Grow_span_okO rfl n.1 hx965_1)), cp 1 rfl rfl, trivial⟩ hQQ993 fun b q p => ?_
  have hgq := hg.then p.grow
  have hsb := p.size.trans hs
  have hdb := p.defers.trans hd
  have j0 := p.ke 0 rfl i0
  have j6 : (IsOwn k.w.heap.size 83 x965_1) (b.get 6) q := p.ou 2 6 rfl
  have x6 : Lo k (obF (b.get 6)) := j6.loF
  have y6 := x6.chg hg
  replace j6 := j6.weaken (Nat.zero_le _)
  exact tail_done (k := q) (hp994 _ _ ⟨⟨hgq, hsb, hdb⟩, j0, j6, y6, trivial⟩)
 rintro a k ⟨⟨hg, hs, hd⟩, i0, i6, n6, _⟩
 refine wp_seq ?_
 refine cutS (fun a' k' => Bs noF k0 36 a' k' ∧ IsOwn 0 83 x965_1 (a'.get 6) k' ∧ Lo k0 (obF (a'.get 6)) ∧ (IsV slices_) (a'.get 25) k' ∧ (IsL slices_) (a'.get 26) k' ∧ (IsI 0) (a'.get 27) k' ∧ True) ?_ ?_
 ·intro Q991 hQQ991 hp992
  refine gS 3 (_ :: _ :: ⟨some (IsI 0), []⟩ :: []) hs (by kernel_rfl) ⟨mu rfl i0, o1 [(25, some 0)] rfl fun _ _ h n => ok_len rfl rfl Try.underlying124 (IsV.rd n.1), ob1 rfl fun _ _ h n => ok_move rfl (cI rfl), trivial⟩ hQQ991 fun b q p => ?_
  exact tail_done (k := q) (hp992 _ _ ⟨Bs.post ⟨hg, hs, hd⟩ p, p.ke 6 rfl i6, (by rw [p.old 6 rfl]; exact n6), p.ou 0 25 rfl, p.ou 1 26 rfl, p.ou 2 27 rfl, trivial⟩)
 rintro a k ⟨⟨hg, hs, hd⟩, i6, n6, i25, i26, i27, _⟩
 refine wp_block ?_
 obtain ⟨f984, hf984, hr⟩ := bind_some hr
 refine cutFe f984 (fun s' a' k' => Bs noF k0 36 a' k' ∧ IsOwn 0 83 s'.1 (a'.get 6) k' ∧ Lo k0 (obF (a'.get 6)) ∧ (IsV slices_) (a'.get 25) k' ∧ (IsL slices_) (a'.get 26) k' ∧ (IsV s'.2) (a'.get 27) k' ∧ True) (fun i' s' a' k' => (i' = 2 ∧ Bs noF k0 36 a' k' ∧ IsOwn 0 83 s'.1 (a'.get 6) k' ∧ Lo k0 (obF (a'.get 6)) ∧ True)) (fun r' a' k' => bodyPost Try.prog Try.f82 (RetC noF k0 (IsOwn k0.w.heap.size 83 r')) .ret a' k'.w) ?_ hQ ?_ ?_ ?_
 ·intro Q990 hQQ990 hgo hex hret
  refine sim_loop ?_ _ _ _ _ _ hf984 ⟨⟨hg, hs, hd⟩, i6, n6, i25, i26, i27, trivial⟩ Q990 hQQ990 hgo hex hret
  clear hr hf984 hgo hex hret hQQ990 hQ hg hs hd i25 i26 i27 i6 n6
  intro s967 fl_ a k hr hS Q hQ hgo968 hex969 hret970
  obtain ⟨⟨hg, hs, hd⟩, i6, n6, i25, i26, i27, _⟩ := hS
  unfold slices_Concat_span_L1 at hr
  refine cutS (fun a' k' => Bs noF k0 36 a' k' ∧ IsOwn 0 83 s967.1 (a'.get 6) k' ∧ Lo k0 (obF (a'.get 6)) ∧ (IsV slices_) (a'.get 25) k' ∧ (IsL slices_) (a'.get 26) k' ∧ (IsV s967.2) (a'.get 27) k' ∧ (IsV (decide (s967.2 < (slices_.length : Int)))) (a'.get 28) k' ∧ True) ?_ ?_
  ·intro Q982 hQQ982 hp983
   refine gS 1 (_ :: []) hs (by kernel_rfl) ⟨o1 [(27, none), (26, none)] rfl fun _ _ h n => ok_lss rfl (up i27 h n.1) (up i26 h n.2.1), trivial⟩ hQQ982 fun b q p => ?_
   exact tail_done (k := q) (hp983 _ _ ⟨Bs.post ⟨hg, hs, hd⟩ p, p.ke 6 rfl i6, (by rw [p.old 6 rfl]; exact n6), p.ke 25 rfl i25, p.ke 26 rfl i26, p.ke 27 rfl i27, p.ou 0 28 rfl, trivial⟩)
  rintro a k ⟨⟨hg, hs, hd⟩, i6, n6, i25, i26, i27, i28, _⟩
  refine wp_seq ?_
  refine wp_cond_split (isBool i28) (fun hc981 => ?_) (fun hc981 => ?_)
  ·rw [if_pos hc981] at hr
   refine wp_skip ?_
   refine wp_seq ?_
   refine wp_block ?_
   refine wp_seq ?_
   obtain ⟨x972_0, hx972_0, hr⟩ := bind_some hr
   refine cut (fun a' k' => Bs noF k0 36 a' k' ∧ IsOwn 0 83 s967.1 (a'.get 6) k' ∧ Lo k0 (obF (a'.get 6)) ∧ (IsV x972_0) (a'.get 8) k' ∧ (IsV slices_) (a'.get 25) k' ∧ (IsL slices_) (a'.get 26) k' ∧ (IsV s967.2) (a'.get 27) k' ∧ True) ?_ hQ ?_
   ·intro Q979 hQQ979 hp980
    refine gS 3 (_ :: _ :: _ :: []) hs (by kernel_rfl) ⟨o1 [(25, none), (27, none)] rfl fun _ _ h n => ok_indexAddr rfl Try.underlying124 ty81 (IsV.rd (up i25 h n.1)) (up i27 h n.2.1) hx972_0, o1 [(29, some 0)] rfl fun _ _ h n => ok_load rfl ty81 n.1, cp 1 rfl rfl, trivial⟩ hQQ979 fun b q p => ?_
    exact tail_done (k := q) (hp980 _ _ ⟨Bs.post ⟨hg, hs, hd⟩ p, p.ke 6 rfl i6, (by rw [p.old 6 rfl]; exact n6), p.ou 2 8 rfl, p.ke 25 rfl i25, p.ke 26 rfl i26, p.ke 27 rfl i27, trivial⟩)
   rintro a k ⟨⟨hg, hs, hd⟩, i6, n6, i8, i25, i26, i27, _⟩
   obtain ⟨x973_2, hx973_2, hr⟩ := bind_some hr
   refine cut (fun a' k' => Bs noF k0 36 a' k' ∧ IsOwn 0 83 x973_2 (a'.get 6) k' ∧ Lo k0 (obF (a'.get 6)) ∧ (IsV slices_) (a'.get 25) k' ∧ (IsL slices_) (a'.get 26) k' ∧ (IsV s967.2) (a'.get 27) k' ∧ True) ?_ hQ ?_
   ·intro Q977 hQQ977 hp978
    refine gS 2 (⟨some (OwnAt (a.get 6) 0 83 s967.1), [(6, none)]⟩ :: _ :: []) hs (by kernel_rfl) ⟨ob1 rfl fun _ _ h n => ok_moveOA (.inl rfl) (ownAt n.1 (up i6 h n.1)), mu rfl i8, trivial⟩ hQQ977 fun b q p => ?_
    have hgq := hg.then p.grow
    have hsb := p.size.trans hs
    have hdb := p.defers.trans hd
    have j25 := p.ke 25 rfl i25
    have j26 := p.ke 26 rfl i26
    have j27 := p.ke 27 rfl i27
    have e31 : b.get 31 = a.get 6 := (p.ou 0 31 rfl).1
    have j31 : IsOwn 0 83 s967.1 (b.get 31) q := (p.ou 0 31 rfl).2
    have y31 : Lo k0 (obF (b.get 31)) := by rw [e31]; exact n6
    have j32 : (IsV x972_0) (b.get 32) q := p.ou 1 32 rfl
    have hns := j31.nshF
    refine tail_appendS (i := 2) (d := 33) rfl rfl rfl rfl (by rw [hsb]; decide) (e := 83) Try.underlying81 eo83 j31 (IsV.rd j32) hx973_2 fun b2 q2 hsz hdf hoth hch hown hob => ?_
    have hle := hch.le hns
    have yn : Lo k0 (obF (b2.get 33)) := y31.app hgq hob
    replace j25 := Pers.pers hle j25
    replace j26 := Pers.pers hle j26
    replace j27 := Pers.pers hle j27
    replace j32 := Pers.pers hle j32
    replace hgq := hgq.step hch y31.wr
    rw [← hoth 25 (by decide)] at j25
    rw [← hoth 26 (by decide)] at j26
    rw [← hoth 27 (by decide)] at j27
    rw [← hoth 32 (by decide)] at j32
    have j33 := hown
    have y33 := yn
    replace hsb := hsz.trans hsb
    replace hdb := hdf.trans hdb
    clear hle hch hown hob hns yn hsz hdf hoth
    obtain ⟨b, hbb⟩ : ∃ b, b = b2 := ⟨b2, rfl⟩
    subst hbb
    obtain ⟨q, hqq⟩ : ∃ q, q = q2 := ⟨q2, rfl⟩
    subst hqq
    refine tail_assign (i := 3) (d := 6) rfl rfl (.inl rfl) rfl (by rw [hsb]; decide) fun b2 hsz hdf hnew hoth => ?_
    have jn : (IsOwn 0 83 x973_2) (b2.get 6) q := by rw [hnew]; exact j33
    have yn : Lo k0 (obF (b2.get 6)) := by rw [hnew]; exact y33
    rw [← hoth 25 (by decide)] at j25
    rw [← hoth 26 (by decide)] at j26
    rw [← hoth 27 (by decide)] at j27
    rw [← hoth 32 (by decide)] at j32
    have j6 := jn
    have y6 := yn
    replace hsb := hsz.trans hsb
    replace hdb := hdf.trans hdb
    clear hsz hdf hoth
    obtain ⟨b, hbb⟩ : ∃ b, b = b2 := ⟨b2, rfl⟩
    subst hbb
    exact tail_done (k := q) (hp978 _ _ ⟨⟨hgq, hsb, hdb⟩, j6, y6, j25, j26, j27, trivial⟩)
   rintro a k ⟨⟨hg, hs, hd⟩, i6, n6, i25, i26, i27, _⟩
   obtain ⟨x974_0, hx974_0, hr⟩ := bind_some hr
   refine cut (fun a' k' => Bs noF k0 36 a' k' ∧ IsOwn 0 83 x973_2 (a'.get 6) k' ∧ Lo k0 (obF (a'.get 6)) ∧ (IsV slices_) (a'.get 25) k' ∧ (IsL slices_) (a'.get 26) k' ∧ (IsV x974_0) (a'.get 27) k' ∧ True) ?_ hQ ?_
   ·intro Q975 hQQ975 hp976
    refine gS 2 (_ :: _ :: []) hs (by kernel_rfl) ⟨o1 [(27, none)] rfl fun _ _ h n => ok_add rfl (up i27 h n.1) (cI rfl) hx974_0, cm 0 rfl rfl, trivial⟩ hQQ975 fun b q p => ?_
    exact tail_done (k := q) (hp976 _ _ ⟨Bs.post ⟨hg, hs, hd⟩ p, p.ke 6 rfl i6, (by rw [p.old 6 rfl]; exact n6), p.ke 25 rfl i25, p.ke 26 rfl i26, p.ou 1 27 rfl, trivial⟩)
   rintro a k ⟨⟨hg, hs, hd⟩, i6, n6, i25, i26, i27, _⟩
   exact hgo968 _ _ _ (Option.some.inj hr).symm ⟨⟨hg, hs, hd⟩, i6, n6, i25, i26, i27, trivial⟩
  rw [if_neg (by rw [hc981]; decide)] at hr
  refine wp_exit ?_
  exact hex969 _ _ _ _ (Option.some.inj hr).symm ⟨rfl, ⟨hg, hs, hd⟩, i6, n6, trivial⟩
 ·rintro r989 a k rfl hR
  dsimp only at hr
  obtain rfl := Option.some.inj hr
  exact hR
 ·rintro _ _ _ rfl _
  simp at hr
 clear hf984
 rintro _ s985 a k rfl ⟨rfl, ⟨hg, hs, hd⟩, i6, n6, _⟩
 dsimp only at hr
 refine cutS (fun a' k' => Bs noF k0 36 a' k' ∧ IsOwn 0 83 s985.1 (a'.get 2) k' ∧ Lo k0 (obF (a'.get 2)) ∧ True) ?_ ?_
 ·intro Q987 hQQ987 hp988
  refine gS 2 (⟨some (OwnAt (a.get 6) 0 83 s985.1), [(6, none)]⟩ :: ⟨some (OwnAt (a.get 6) 0 83 s985.1), [(35, some 0)]⟩ :: []) hs (by kernel_rfl) ⟨ob1 rfl fun _ _ h n => ok_moveOA (.inl rfl) (ownAt n.1 (up i6 h n.1)), ob1 rfl fun _ _ h n => ok_moveOA (.inr rfl) n.1, trivial⟩ hQQ987 fun b q p => ?_
  have hgq := hg.then p.grow
  have hsb := p.size.trans hs
  have hdb := p.defers.trans hd
  have e2 : b.get 2 = a.get 6 := (p.ou 1 2 rfl).1
  have j2 : IsOwn 0 83 s985.1 (b.get 2) q := (p.ou 1 2 rfl).2
  have y2 : Lo k0 (obF (b.get 2)) := by rw [e2]; exact n6
  exact tail_done (k := q) (hp988 _ _ ⟨⟨hgq, hsb, hdb⟩, j2, y2, trivial⟩)
 rintro a k ⟨⟨hg, hs, hd⟩, i2, n2, _⟩
 refine wp_ret ?_
 obtain rfl := Option.some.inj hr
 exact retC1 rfl hd hg (show ResOk _ _ _ (.tmp 2) _ from IsOwn.raise (k0 := k0) i2 n2)
theorem slices_Concat_span_ok {k0 : K} {v0 : Value} {slices_ : (List (List RegionSpan))} {r : (List RegionSpan)} (i0 : (IsV slices_) v0 k0) (hr : slices_Concat_span slices_ = some r) :
  Calls Try.prog 82 #[v0] k0.w (Ret k0 (IsV r)) :=
 ret_give (slices_Concat_span_okO i0 hr)
def slices_BinarySearchFunc_span_int_L0 (x_ : (List RegionSpan)) (target_ : Int) (cmp_ : (RegionSpan → Int → Option (Int))) (s1006 : Int × Int) : Option (Flow (Int × Int) (Int × Bool)) :=
 if (decide (s1006.1 < s1006.2)) then
  (addI s1006.1 s1006.2).bind fun x1011_2 =>
  (getI x_ (IntKind.i64.wrap (IK.shr (IK.mk (IntKind.u64.wrap x1011_2) : IK .u64) 1).n)).bind fun x1012_3 =>
  (cmp_ x1012_3 target_).bind fun x1012_6 =>
  (if (decide (x1012_6 < 0)) then
   (addI (IntKind.i64.wrap (IK.shr (IK.mk (IntKind.u64.wrap x1011_2) : IK .u64) 1).n) 1).bind fun x1015_1 =>
   some (x1015_1, s1006.2)
  else
   some (s1006.1, (IntKind.i64.wrap (IK.shr (IK.mk (IntKind.u64.wrap x1011_2) : IK .u64) 1).n))).bind fun s1013 =>
  some (.go (s1013.1, s1013.2))
 else
  some (.ex 0 (s1006.1, s1006.2))
def slices_BinarySearchFunc_span_int (x_ : (List RegionSpan)) (target_ : Int) (cmp_ : (RegionSpan → Int → Option (Int))) : Option (Int × Bool) :=
 (iterL (slices_BinarySearchFunc_span_int_L0 x_ target_ cmp_) (x_.length + 1) (0, (x_.length : Int))).bind fun f1030 => match f1030 with
  | .go _ => none
  | .ex _ s1031 =>
   (if (decide (s1031.1 < (x_.length : Int))) then
    (getI x_ s1031.1).bind fun x1032_8 =>
    (cmp_ x1032_8 target_).bind fun x1032_11 =>
    some (x1032_11 == 0)
   else
    some false).bind fun x1032_13 =>
   some (s1031.1, x1032_13)
  | .ret r1035 => some r1035
theorem slices_BinarySearchFunc_span_int_ok {k0 : K} {v0 v1 v2 : Value} {x_ : (List RegionSpan)} {target_ : Int} {cmp_ : (RegionSpan → Int → Option (Int))} {r : Int × Bool} (i0 : (IsV x_) v0 k0) (i1 : (IsV target_) v1 k0) (i2 : (IsFn2 Try.prog cmp_) v2 k0) (hr : slices_BinarySearchFunc_span_int x_ target_ cmp_ = some r) :
  Calls Try.prog 94 #[v0, v1, v2] k0.w (Ret k0 (IsTup2 (IsV r.1) (IsV r.2))) := by
 unfold slices_BinarySearchFunc_span_int at hr
 refine Ret.ofC ?_
 refine enterK Try.func94 rfl Try.ntmps94 (show 3 ≤ 49 by decide) fun a k hk0 hs hd ha => ?_
 obtain ⟨e0, e1, e2, _⟩ := ha
 replace i0 : (IsV x_) (a.get 0) k := by rw [e0, hk0]; exact i0
 replace i1 : (IsV target_) (a.get 1) k := by rw [e1, hk0]; exact i1
 replace i2 : (IsFn2 Try.prog cmp_) (a.get 2) k := by rw [e2, hk0]; exact i2
 have hQ : Gb.LetsOut (bodyPost Try.prog Try.f94 (RetC noF k0 (IsTup2 (IsV r.1) (IsV r.2)))) := letsOutC
 have hg : Chg noF k0 k := by rw [hk0]; exact Chg.refl _ k0
 refine stepL 2 (⟨some (IsI 0), []⟩ :: ⟨some (IsV false), []⟩ :: []) rfl ⟨hg, hs, hd⟩ (by kernel_rfl) ⟨aI rfl rfl, ob1 rfl fun _ _ h n => ok_assign rfl (isV_bool.2 rfl), trivial⟩ [⟨_, _⟩, ⟨_, _⟩, ⟨_, _⟩] (fun b q p => ⟨p.ke 0 rfl i0, p.ke 1 rfl i1, p.ke 2 rfl i2, trivial⟩) ?_
 rintro a k ⟨⟨hg, hs, hd⟩, i0, i1, i2, _⟩
 refine stepL 3 (_ :: _ :: _ :: []) rfl ⟨hg, hs, hd⟩ (by kernel_rfl) ⟨mu rfl i0, o1 [(12, some 0)] rfl fun _ _ h n => ok_len rfl rfl Try.underlying81 (IsV.rd n.1), cp 1 rfl rfl, trivial⟩ [⟨_, _⟩, ⟨_, _⟩, ⟨_, _⟩, ⟨_, _⟩] (fun b q p => ⟨p.ke 0 rfl i0, p.ke 1 rfl i1, p.ke 2 rfl i2, p.ou 2 8 rfl, trivial⟩) ?_
 rintro a k ⟨⟨hg, hs, hd⟩, i0, i1, i2, i8, _⟩
 refine stepL 3 (_ :: ⟨some (IsI 0), []⟩ :: _ :: []) rfl ⟨hg, hs, hd⟩ (by kernel_rfl) ⟨mu rfl i8, aI rfl rfl, cp 0 rfl rfl, trivial⟩ [⟨_, _⟩, ⟨_, _⟩, ⟨_, _⟩, ⟨_, _⟩, ⟨_, _⟩, ⟨_, _⟩] (fun b q p => ⟨p.ke 0 rfl i0, p.ke 1 rfl i1, p.ke 2 rfl i2, p.ke 8 rfl i8, p.ou 1 9 rfl, p.ou 2 10 rfl, trivial⟩) ?_
 rintro a k ⟨⟨hg, hs, hd⟩, i0, i1, i2, i8, i9, i10, _⟩
 refine wp_seq ?_
 refine wp_block ?_
 obtain ⟨f1030, hf1030, hr⟩ := bind_some hr
 refine cutFe f1030 (fun s' a' k' => Bs noF k0 49 a' k' ∧ (IsV x_) (a'.get 0) k' ∧ (IsV target_) (a'.get 1) k' ∧ (IsFn2 Try.prog cmp_) (a'.get 2) k' ∧ (IsL x_) (a'.get 8) k' ∧ (IsV s'.1) (a'.get 9) k' ∧ (IsV s'.2) (a'.get 10) k' ∧ True) (fun i' s' a' k' => (i' = 0 ∧ Bs noF k0 49 a' k' ∧ (IsV x_) (a'.get 0) k' ∧ (IsV target_) (a'.get 1) k' ∧ (IsFn2 Try.prog cmp_) (a'.get 2) k' ∧ (IsL x_) (a'.get 8) k' ∧ (IsV s'.1) (a'.get 9) k' ∧ True)) (fun r' a' k' => bodyPost Try.prog Try.f94 (RetC noF k0 (IsTup2 (IsV r'.1) (IsV r'.2))) .ret a' k'.w) ?_ hQ ?_ ?_ ?_
 ·intro Q1036 hQQ1036 hgo hex hret
  refine sim_loop ?_ _ _ _ _ _ hf1030 ⟨⟨hg, hs, hd⟩, i0, i1, i2, i8, i9, i10, trivial⟩ Q1036 hQQ1036 hgo hex hret
  clear hr hf1030 hgo hex hret hQQ1036 hQ hg hs hd i0 i1 i10 i2 i8 i9
  intro s1006 fl_ a k hr hS Q hQ hgo1007 hex1008 hret1009
  obtain ⟨⟨hg, hs, hd⟩, i0, i1, i2, i8, i9, i10, _⟩ := hS
  unfold slices_BinarySearchFunc_span_int_L0 at hr
  refine wp_seq ?_
  refine stepL 3 (_ :: _ :: _ :: []) rfl ⟨hg, hs, hd⟩ (by kernel_rfl) ⟨mu rfl i9, mu rfl i10, o1 [(15, some 0), (16, some 1)] rfl fun _ _ h n => ok_lss rfl n.1 n.2.1, trivial⟩ [⟨_, _⟩, ⟨_, _⟩, ⟨_, _⟩, ⟨_, _⟩, ⟨_, _⟩, ⟨_, _⟩, ⟨_, _⟩] (fun b q p => ⟨p.ke 0 rfl i0, p.ke 1 rfl i1, p.ke 2 rfl i2, p.ke 8 rfl i8, p.ke 9 rfl i9, p.ke 10 rfl i10, p.ou 2 17 rfl, trivial⟩) ?_
  rintro a k ⟨⟨hg, hs, hd⟩, i0, i1, i2, i8, i9, i10, i17, _⟩
  refine wp_cond_split (isBool i17) (fun hc1027 => ?_) (fun hc1027 => ?_)
  ·rw [if_pos hc1027] at hr
   refine wp_skip ?_
   refine wp_block ?_
   refine wp_seq ?_
   obtain ⟨x1011_2, hx1011_2, hr⟩ := bind_some hr
   refine cut (fun a' k' => Bs noF k0 49 a' k' ∧ (IsV x_) (a'.get 0) k' ∧ (IsV target_) (a'.get 1) k' ∧ (IsFn2 Try.prog cmp_) (a'.get 2) k' ∧ (IsL x_) (a'.get 8) k' ∧ (IsV s1006.1) (a'.get 9) k' ∧ (IsV s1006.2) (a'.get 10) k' ∧ (IsI (IntKind.i64.wrap (IK.shr (IK.mk (IntKind.u64.wrap x1011_2) : IK .u64) 1).n)) (a'.get 11) k' ∧ True) ?_ hQ ?_
   ·intro Q1025 hQQ1025 hp1026
    refine gS 7 (_ :: _ :: _ :: ⟨some (IsV (IK.mk (IntKind.u64.wrap x1011_2) : IK .u64)), [(20, some 2)]⟩ :: ⟨some (IsV (IK.shr (IK.mk (IntKind.u64.wrap x1011_2) : IK .u64) 1)), [(21, some 3)]⟩ :: ⟨some (IsI (IntKind.i64.wrap (IK.shr (IK.mk (IntKind.u64.wrap x1011_2) : IK .u64) 1).n)), [(22, some 4)]⟩ :: _ :: []) hs (by kernel_rfl) ⟨mu rfl i9, mu rfl i10, o1 [(18, some 0), (19, some 1)] rfl fun _ _ h n => ok_add rfl n.1 n.2.1 hx1011_2, ob1 rfl fun _ _ h n => ok_conv_ik rfl (by rw [Try.underlying3]; rfl) Try.underlying92 n.1, ob1 rfl fun _ _ h n => ok_shrK rfl n.1 (by decide) (by decide), ob1 rfl fun _ _ h n => ok_conv_ki rfl (by rw [Try.underlying92]; rfl) Try.underlying3 n.1, cp 5 rfl rfl, trivial⟩ hQQ1025 fun b q p => ?_
    exact tail_done (k := q) (hp1026 _ _ ⟨Bs.post ⟨hg, hs, hd⟩ p, p.ke 0 rfl i0, p.ke 1 rfl i1, p.ke 2 rfl i2, p.ke 8 rfl i8, p.ke 9 rfl i9, p.ke 10 rfl i10, p.ou 6 11 rfl, trivial⟩)
   rintro a k ⟨⟨hg, hs, hd⟩, i0, i1, i2, i8, i9, i10, i11, _⟩
   refine wp_seq ?_
   obtain ⟨x1012_3, hx1012_3, hr⟩ := bind_some hr
   obtain ⟨x1012_6, hx1012_6, hr⟩ := bind_some hr
   refine cut (fun a' k' => Bs noF k0 49 a' k' ∧ (IsV x_) (a'.get 0) k' ∧ (IsV target_) (a'.get 1) k' ∧ (IsFn2 Try.prog cmp_) (a'.get 2) k' ∧ (IsL x_) (a'.get 8) k' ∧ (IsV s1006.1) (a'.get 9) k' ∧ (IsV s1006.2) (a'.get 10) k' ∧ (IsI (IntKind.i64.wrap (IK.shr (IK.mk (IntKind.u64.wrap x1011_2) : IK .u64) 1).n)) (a'.get 11) k' ∧ (IsV (decide (x1012_6 < 0))) (a'.get 31) k' ∧ True) ?_ hQ ?_
   ·intro Q1023 hQQ1023 hp1024
    refine gS 8 (_ :: _ :: _ :: _ :: _ :: _ :: ⟨some (IsV x1012_6), [(24, some 0), (28, some 4), (29, some 5)]⟩ :: _ :: []) hs (by kernel_rfl) ⟨mu rfl i2, mu rfl i0, mu rfl i11, o1 [(25, some 1), (26, some 2)] rfl fun _ _ h n => ok_indexAddr rfl Try.underlying81 ty83 (IsV.rd n.1) n.2.1 hx1012_3, o1 [(27, some 3)] rfl fun _ _ h n => ok_load rfl ty83 n.1, mu rfl i1, ob1 rfl fun _ _ h n => ok_callF2 rfl n.1 n.2.1 n.2.2.1 hx1012_6, o1 [(30, some 6)] rfl fun _ _ h n => ok_lss rfl n.1 (cI rfl), trivial⟩ hQQ1023 fun b q p => ?_
    exact tail_done (k := q) (hp1024 _ _ ⟨Bs.post ⟨hg, hs, hd⟩ p, p.ke 0 rfl i0, p.ke 1 rfl i1, p.ke 2 rfl i2, p.ke 8 rfl i8, p.ke 9 rfl i9, p.ke 10 rfl i10, p.ke 11 rfl i11, p.ou 7 31 rfl, trivial⟩)
   rintro a k ⟨⟨hg, hs, hd⟩, i0, i1, i2, i8, i9, i10, i11, i31, _⟩
   obtain ⟨s1013, hs1013, hr⟩ := bind_some hr
   refine cut (fun a' k' => Bs noF k0 49 a' k' ∧ (IsV x_) (a'.get 0) k' ∧ (IsV target_) (a'.get 1) k' ∧ (IsFn2 Try.prog cmp_) (a'.get 2) k' ∧ (IsL x_) (a'.get 8) k' ∧ (IsV s1013.1) (a'.get 9) k' ∧ (IsV s1013.2) (a'.get 10) k' ∧ True) ?_ hQ ?_
   ·intro Q1022 hQQ1022 hp1014
    replace hr := hs1013
    clear hQ
    have hQ := hQQ1022
    refine wp_cond_split (isBool i31) (fun hc1021 => ?_) (fun hc1021 => ?_)
    ·rw [if_pos hc1021] at hr
     obtain ⟨x1015_1, hx1015_1, hr⟩ := bind_some hr
     refine cut (fun a' k' => Bs noF k0 49 a' k' ∧ (IsV x_) (a'.get 0) k' ∧ (IsV target_) (a'.get 1) k' ∧ (IsFn2 Try.prog cmp_) (a'.get 2) k' ∧ (IsL x_) (a'.get 8) k' ∧ (IsV x1015_1) (a'.get 9) k' ∧ (IsV s1006.2) (a'.get 10) k' ∧ True) ?_ hQ ?_
     ·intro Q1016 hQQ1016 hp1017
      refine gS 3 (_ :: _ :: _ :: []) hs (by kernel_rfl) ⟨mu rfl i11, o1 [(32, some 0)] rfl fun _ _ h n => ok_add rfl n.1 (cI rfl) hx1015_1, cp 1 rfl rfl, trivial⟩ hQQ1016 fun b q p => ?_
      exact tail_done (k := q) (hp1017 _ _ ⟨Bs.post ⟨hg, hs, hd⟩ p, p.ke 0 rfl i0, p.ke 1 rfl i1, p.ke 2 rfl i2, p.ke 8 rfl i8, p.ou 2 9 rfl, p.ke 10 rfl i10, trivial⟩)
     rintro a k ⟨⟨hg, hs, hd⟩, i0, i1, i2, i8, i9, i10, _⟩
     obtain rfl := Option.some.inj hr
     exact hp1014 _ _ ⟨⟨hg, hs, hd⟩, i0, i1, i2, i8, i9, i10, trivial⟩
    rw [if_neg (by rw [hc1021]; decide)] at hr
    refine cut (fun a' k' => Bs noF k0 49 a' k' ∧ (IsV x_) (a'.get 0) k' ∧ (IsV target_) (a'.get 1) k' ∧ (IsFn2 Try.prog cmp_) (a'.get 2) k' ∧ (IsL x_) (a'.get 8) k' ∧ (IsV s1006.1) (a'.get 9) k' ∧ (IsI (IntKind.i64.wrap (IK.shr (IK.mk (IntKind.u64.wrap x1011_2) : IK .u64) 1).n)) (a'.get 10) k' ∧ True) ?_ hQ ?_
    ·intro Q1019 hQQ1019 hp1020
     refine gS 2 (_ :: _ :: []) hs (by kernel_rfl) ⟨mu rfl i11, cp 0 rfl rfl, trivial⟩ hQQ1019 fun b q p => ?_
     exact tail_done (k := q) (hp1020 _ _ ⟨Bs.post ⟨hg, hs, hd⟩ p, p.ke 0 rfl i0, p.ke 1 rfl i1, p.ke 2 rfl i2, p.ke 8 rfl i8, p.ke 9 rfl i9, p.ou 1 10 rfl, trivial⟩)
    rintro a k ⟨⟨hg, hs, hd⟩, i0, i1, i2, i8, i9, i10, _⟩
    obtain rfl := Option.some.inj hr
    exact hp1014 _ _ ⟨⟨hg, hs, hd⟩, i0, i1, i2, i8, i9, i10, trivial⟩
   clear hs1013
   rintro a k ⟨⟨hg, hs, hd⟩, i0, i1, i2, i8, i9, i10, _⟩
   exact hgo1007 _ _ _ (Option.some.inj hr).symm ⟨⟨hg, hs, hd⟩, i0, i1, i2, i8, i9, i10, trivial⟩
  rw [if_neg (by rw [hc1027]; decide)] at hr
  refine wp_exit ?_
  exact hex1008 _ _ _ _ (Option.some.inj hr).symm ⟨rfl, ⟨hg, hs, hd⟩, i0, i1, i2, i8, i9, trivial⟩
 ·rintro r1035 a k rfl hR
  dsimp only at hr
  obtain rfl := Option.some.inj hr
  exact hR
 ·rintro _ _ _ rfl _
  simp at hr
 clear hf1030
 rintro _ s1031 a k rfl ⟨rfl, ⟨hg, hs, hd⟩, i0, i1, i2, i8, i9, _⟩
 dsimp only at hr
 refine wp_seq ?_
 obtain ⟨x1032_13, hx1032_13, hr⟩ := bind_some hr
 obtain ⟨x1032_8, hx1032_8, hx1032_13⟩ := ite_bind hx1032_13
 obtain ⟨x1032_11, hx1032_11, hx1032_13⟩ := ite_bind hx1032_13
 refine cut (fun a' k' => Bs noF k0 49 a' k' ∧ (IsV s1031.1) (a'.get 6) k' ∧ (IsV x1032_13) (a'.get 7) k' ∧ True) ?_ hQ ?_
 ·intro Q1033 hQQ1033 hp1034
  refine gS 16 (_ :: _ :: _ :: _ :: _ :: _ :: _ :: _ :: _ :: _ :: _ :: ⟨some (Gd ((decide (s1031.1 < (x_.length : Int))) = true) (IsV x1032_11)), [(40, some 5), (44, some 9), (45, some 10)]⟩ :: _ :: _ :: _ :: _ :: []) hs (by kernel_rfl) ⟨mu rfl i9, mu rfl i9, mu rfl i8, o1 [(36, some 1), (37, some 2)] rfl fun _ _ h n => ok_lss rfl n.1 n.2.1, cm 3 rfl rfl, mT rfl rfl i2, mT rfl rfl i0, mT rfl rfl i9, gT [(41, some 6), (42, some 7)] rfl rfl fun hp _ _ h n => ok_indexAddr rfl Try.underlying81 ty83 (IsV.rd (Gd.get n.1 hp)) (Gd.get n.2.1 hp) (hx1032_8 hp), gT [(43, some 8)] rfl rfl fun hp _ _ h n => ok_load rfl ty83 (Gd.get n.1 hp), mT rfl rfl i1, gdT rfl rfl fun hp _ _ h n => ok_callF2 rfl (Gd.get n.1 hp) (Gd.get n.2.1 hp) (Gd.get n.2.2.1 hp) (hx1032_11 hp), gT [(46, some 11)] rfl rfl fun hp _ _ h n => ok_eqI rfl (Gd.get n.1 hp) (cI rfl), o1 [(39, some 4), (47, some 12)] rfl fun _ _ h n => ok_pickM rfl n.1 hx1032_13 (Gd.get n.2.1) (cB rfl), cp 0 rfl rfl, cp 13 rfl rfl, trivial⟩ hQQ1033 fun b q p => ?_
  exact tail_done (k := q) (hp1034 _ _ ⟨Bs.post ⟨hg, hs, hd⟩ p, p.ou 14 6 rfl, p.ou 15 7 rfl, trivial⟩)
 rintro a k ⟨⟨hg, hs, hd⟩, i6, i7, _⟩
 refine wp_ret ?_
 obtain rfl := Option.some.inj hr
 exact retC2 rfl hd hg i6 i7
def region_inside_1 (s_ : RegionSpan) (y_ : Int) : Option (Int) :=
 if (decide (s_.to_ ≤ y_)) then
  some (-1)
 else
  some 1
theorem region_inside_1_ok {k0 : K} {v0 v1 : Value} {s_ : RegionSpan} {y_ : Int} {r : Int} (i0 : (IsV s_) v0 k0) (i1 : (IsV y_) v1 k0) (hr : region_inside_1 s_ y_ = some r) :
  Calls Try.prog 95 #[v0, v1] k0.w (Ret k0 (IsV r)) := by
 unfold region_inside_1 at hr
 refine Ret.ofC ?_
 refine enterK Try.func95 rfl Try.ntmps95 (show 2 ≤ 9 by decide) fun a k hk0 hs hd ha => ?_
 obtain ⟨e0, e1, _⟩ := ha
 replace i0 : (IsV s_) (a.get 0) k := by rw [e0, hk0]; exact i0
 replace i1 : (IsV y_) (a.get 1) k := by rw [e1, hk0]; exact i1
 have hQ : Gb.LetsOut (bodyPost Try.prog Try.f95 (RetC noF k0 (IsV r))) := letsOutC
 have hg : Chg noF k0 k := by rw [hk0]; exact Chg.refl _ k0
 refine stepL 2 (⟨some (IsRef s_), [(0, none)]⟩ :: ⟨some (IsI 0), []⟩ :: []) rfl ⟨hg, hs, hd⟩ (by kernel_rfl) ⟨ob1 rfl fun _ _ h n => ok_boxR rfl (up i0 h n.1), aI rfl rfl, trivial⟩ [⟨_, _⟩, ⟨_, _⟩] (fun b q p => ⟨p.ke 1 rfl i1, p.ou 0 2 rfl, trivial⟩) ?_
 rintro a k ⟨⟨hg, hs, hd⟩, i1, i2, _⟩
 refine wp_seq ?_
 refine stepL 4 (_ :: _ :: _ :: _ :: []) rfl ⟨hg, hs, hd⟩ (by kernel_rfl) ⟨o1 [(2, none)] rfl fun _ _ h n => ok_fieldAddr rfl fo83_1 (at_RegionSpan_1 _) ((up i2 h n.1)).ptr, o1 [(5, some 0)] rfl fun _ _ h n => ok_load rfl ty3 n.1, mu rfl i1, o1 [(6, some 1), (7, some 2)] rfl fun _ _ h n => ok_leq rfl n.1 n.2.1, trivial⟩ [⟨_, _⟩] (fun b q p => ⟨p.ou 3 8 rfl, trivial⟩) ?_
 rintro a k ⟨⟨hg, hs, hd⟩, i8, _⟩
 refine wp_cond_split (isBool i8) (fun hc1051 => ?_) (fun hc1051 => ?_)
 ·rw [if_pos hc1051] at hr
  refine stepL 1 (⟨some (IsI (-1)), []⟩ :: []) rfl ⟨hg, hs, hd⟩ (by kernel_rfl) ⟨aI rfl rfl, trivial⟩ [⟨_, _⟩] (fun b q p => ⟨p.ou 0 4 rfl, trivial⟩) ?_
  rintro a k ⟨⟨hg, hs, hd⟩, i4, _⟩
  refine wp_ret ?_
  obtain rfl := Option.some.inj hr
  exact retC1 rfl hd hg i4
 rw [if_neg (by rw [hc1051]; decide)] at hr
 refine wp_skip ?_
 refine stepL 1 (⟨some (IsI 1), []⟩ :: []) rfl ⟨hg, hs, hd⟩ (by kernel_rfl) ⟨aI rfl rfl, trivial⟩ [⟨_, _⟩] (fun b q p => ⟨p.ou 0 4 rfl, trivial⟩) ?_
 rintro a k ⟨⟨hg, hs, hd⟩, i4, _⟩
 refine wp_ret ?_
 obtain rfl := Option.some.inj hr
 exact retC1 rfl hd hg i4
def region_inside (l_ : (List RegionSpan)) (y_ : Int) : Option (Bool) :=
 (slices_BinarySearchFunc_span_int l_ y_ region_inside_1).bind fun x1057_2 =>
 (if (decide (x1057_2.1 < (l_.length : Int))) then
  (getI l_ x1057_2.1).bind fun x1058_7 =>
  some (decide (x1058_7.from_ ≤ y_))
 else
  some false).bind fun x1058_12 =>
 some x1058_12
theorem region_inside_ok {k0 : K} {v0 v1 : Value} {l_ : (List RegionSpan)} {y_ : Int} {r : Bool} (i0 : (IsV l_) v0 k0) (i1 : (IsV y_) v1 k0) (hr : region_inside l_ y_ = some r) :
  Calls Try.prog 83 #[v0, v1] k0.w (Ret k0 (IsV r)) := by
 unfold region_inside at hr
 refine Ret.ofC ?_
 refine enterK Try.func83 rfl Try.ntmps83 (show 2 ≤ 26 by decide) fun a k hk0 hs hd ha => ?_
 obtain ⟨e0, e1, _⟩ := ha
 replace i0 : (IsV l_) (a.get 0) k := by rw [e0, hk0]; exact i0
 replace i1 : (IsV y_) (a.get 1) k := by rw [e1, hk0]; exact i1
 have hQ : Gb.LetsOut (bodyPost Try.prog Try.f83 (RetC noF k0 (IsV r))) := letsOutC
 have hg : Chg noF k0 k := by rw [hk0]; exact Chg.refl _ k0
 refine stepL 1 (⟨some (IsV false), []⟩ :: []) rfl ⟨hg, hs, hd⟩ (by kernel_rfl) ⟨ob1 rfl fun _ _ h n => ok_assign rfl (isV_bool.2 rfl), trivial⟩ [⟨_, _⟩, ⟨_, _⟩] (fun b q p => ⟨p.ke 0 rfl i0, p.ke 1 rfl i1, trivial⟩) ?_
 rintro a k ⟨⟨hg, hs, hd⟩, i0, i1, _⟩
 refine wp_seq ?_
 obtain ⟨x1057_2, hx1057_2, hr⟩ := bind_some hr
 refine cut (fun a' k' => Bs noF k0 26 a' k' ∧ (IsV l_) (a'.get 0) k' ∧ (IsV y_) (a'.get 1) k' ∧ (IsV x1057_2.1) (a'.get 5) k' ∧ True) ?_ hQ ?_
 ·intro Q1061 hQQ1061 hp1062
  refine gS 8 (_ :: _ :: _ :: _ :: _ :: _ :: _ :: _ :: []) hs (by kernel_rfl) ⟨mu rfl i0, mu rfl i1, o1 [(8, some 0), (9, some 1)] rfl fun _ _ h n => ok_call rfl Try.call94 (slices_BinarySearchFunc_span_int_ok n.1 n.2.1 ⟨95, _, _, rfl, Try.call95, fun k9 hk9 _ _ _ _ _ hx0 hx1 hy9 => by simpa [evalT] using region_inside_1_ok hx0 hx1 hy9⟩ hx1057_2), cm 2 rfl rfl, o1 [(7, some 3)] rfl fun _ _ h n => ok_ext2_0 rfl n.1, o1 [(7, some 3)] rfl fun _ _ h n => ok_ext2_1 rfl n.1, cp 4 rfl rfl, cp 5 rfl rfl, trivial⟩ hQQ1061 fun b q p => ?_
  exact tail_done (k := q) (hp1062 _ _ ⟨Bs.post ⟨hg, hs, hd⟩ p, p.ke 0 rfl i0, p.ke 1 rfl i1, p.ou 6 5 rfl, trivial⟩)
 rintro a k ⟨⟨hg, hs, hd⟩, i0, i1, i5, _⟩
 refine wp_seq ?_
 obtain ⟨x1058_12, hx1058_12, hr⟩ := bind_some hr
 obtain ⟨x1058_7, hx1058_7, hx1058_12⟩ := ite_bind hx1058_12
 refine cut (fun a' k' => Bs noF k0 26 a' k' ∧ (IsV x1058_12) (a'.get 4) k' ∧ True) ?_ hQ ?_
 ·intro Q1059 hQQ1059 hp1060
  refine gS 14 (_ :: _ :: _ :: _ :: _ :: _ :: _ :: _ :: _ :: _ :: _ :: _ :: _ :: _ :: []) hs (by kernel_rfl) ⟨mu rfl i5, mu rfl i0, o1 [(14, some 1)] rfl fun _ _ h n => ok_len rfl rfl Try.underlying81 (IsV.rd n.1), o1 [(13, some 0), (15, some 2)] rfl fun _ _ h n => ok_lss rfl n.1 n.2.1, cm 3 rfl rfl, mT rfl rfl i0, mT rfl rfl i5, gT [(18, some 5), (19, some 6)] rfl rfl fun hp _ _ h n => ok_indexAddr rfl Try.underlying81 ty83 (IsV.rd (Gd.get n.1 hp)) (Gd.get n.2.1 hp) (hx1058_7 hp), gT [(20, some 7)] rfl rfl fun hp _ _ h n => ok_fieldAddr rfl fo83_0 (at_RegionSpan_0 _) (Gd.get n.1 hp), gT [(21, some 8)] rfl rfl fun hp _ _ h n => ok_load rfl ty3 (Gd.get n.1 hp), mT rfl rfl i1, gT [(22, some 9), (23, some 10)] rfl rfl fun hp _ _ h n => ok_leq rfl (Gd.get n.1 hp) (Gd.get n.2.1 hp), o1 [(17, some 4), (24, some 11)] rfl fun _ _ h n => ok_pickM rfl n.1 hx1058_12 (Gd.get n.2.1) (cB rfl), cp 12 rfl rfl, trivial⟩ hQQ1059 fun b q p => ?_
  exact tail_done (k := q) (hp1060 _ _ ⟨Bs.post ⟨hg, hs, hd⟩ p, p.ou 13 4 rfl, trivial⟩)
 rintro a k ⟨⟨hg, hs, hd⟩, i4, _⟩
 refine wp_ret ?_
 obtain rfl := Option.some.inj hr
 exact retC1 rfl hd hg i4
end Go.Proofs.Ytmniloampanhfaa
