/- What the functions of credit compute, part 3 -/
import Derived.Test.YtbanncpkgbiklaaTa2
namespace Go.Proofs.Ytbanncpkgbiklaa
open Go.Gb
def cDo (l_ : (List Account)) (m_ : Move) : Option ((List Account) × Int) :=
  (cRight l_).bind fun x302_1 =>
  (if (!x302_1) then
    some true
  else
    (cValid m_).bind fun x302_5 =>
    some (!x302_5)).bind fun x302_7 =>
  if x302_7 then
    some (([] : List Account), 1)
  else
    (clone l_).bind fun x306_1 =>
    if (m_.Kind == 0) then
      (cOpen x306_1 m_).bind fun x308_2 =>
      some (x308_2.1, x308_2.2)
    else
      (cFind x306_1 m_.From).bind fun x312_3 =>
      (cFind x306_1 m_.To).bind fun x312_7 =>
      (if (x312_3.isNone) then
        some (x312_3.isNone)
      else
        some ((m_.Kind == 1) && (x312_7.isNone))).bind fun s315 =>
      if s315 then
        some (([] : List Account), 4)
      else
        (if (m_.Kind == 1) then
          (atI x306_1 x312_7).bind fun x327_3 =>
          some (!x327_3.Receives)
        else
          some false).bind fun x327_7 =>
        if x327_7 then
          some (([] : List Account), 24)
        else
          (atI x306_1 x312_3).bind fun x331_1 =>
          if (decide (x331_1.Units < m_.N)) then
            some (([] : List Account), 23)
          else
            (if (m_.Kind == 1) then
              (atI x306_1 x312_7).bind fun x335_3 =>
              (addI x335_3.Units m_.N).bind fun x335_8 =>
              some (decide (1073741824 < x335_8))
            else
              some false).bind fun x335_10 =>
            if x335_10 then
              some (([] : List Account), 6)
            else
              (atI x306_1 x312_3).bind fun x339_1 =>
              (subI x339_1.Units m_.N).bind fun x339_6 =>
              (atI x306_1 x312_3).bind fun x339_7 =>
              (some (x306_1.set ((x312_3.getD 0)).toNat ({ x339_7 with Units := x339_6 }))).bind fun x339_9 =>
              (if (m_.Kind == 1) then
                (atI x339_9 x312_7).bind fun x343_1 =>
                (addI x343_1.Units m_.N).bind fun x343_6 =>
                (atI x339_9 x312_7).bind fun x343_7 =>
                (some (x339_9.set ((x312_7.getD 0)).toNat ({ x343_7 with Units := x343_6 }))).bind fun x343_9 =>
                some x343_9
              else
                some x339_9).bind fun s341 =>
              some (s341, 0)
theorem cDo_ok {k0 : K} {v0 v1 : Value} {l_ : (List Account)} {m_ : Move} {r : (List Account) × Int} (i0 : (IsV l_) v0 k0) (i1 : (IsV m_) v1 k0) (hr : cDo l_ m_ = some r) :
    Calls Try.prog 13 #[v0, v1] k0.w (Ret k0 (IsTup2 (IsV r.1) (IsV r.2))) := by
  unfold cDo at hr
  refine Ret.ofC ?_
  refine enterK Try.func13 rfl Try.ntmps13 (show 2 ≤ 96 by decide) fun a k hk0 hs hd ha => ?_
  obtain ⟨e0, e1, _⟩ := ha
  replace i0 : (IsV l_) (a.get 0) k := by rw [e0, hk0]; exact i0
  replace i1 : (IsV m_) (a.get 1) k := by rw [e1, hk0]; exact i1
  have hQ : Gb.LetsOut (bodyPost Try.prog Try.f13 (RetC noF k0 (IsTup2 (IsV r.1) (IsV r.2)))) := letsOutC
  have hg : Chg noF k0 k := by rw [hk0]; exact Chg.refl _ k0
  refine wp_seq ?_
  refine cut (fun a' k' => Chg noF k0 k' ∧ a'.tmps.size = 96 ∧ a'.defers = [] ∧ (IsV l_) (a'.get 0) k' ∧ (IsRef m_) (a'.get 3) k' ∧ True) ?_ hQ ?_
  · intro Q391 hQQ391 hp392
    refine regionS (a0 := a) (k0 := k) (n := 96) (m := 3) (⟨some (IsBox k.w.heap.size m_), [(1, none)]⟩ :: ⟨some IsE0, []⟩ :: ⟨some (IsV (α := Int) 0), []⟩ :: []) hs (by kernel_rfl) ⟨⟨inferInstance, fun b q hk hn => ok_box _ hk.size rfl (up i1 hk hn.1), rfl⟩, ⟨inferInstance, fun b q hk hn => ok_assign rfl isE0_nil, rfl⟩, ⟨inferInstance, fun b q hk hn => ok_assign rfl (isV_int.2 rfl), rfl⟩, trivial⟩ hQQ391 fun b q p => ?_
    have hgq := hg.then p.grow
    have hsb := p.size.trans hs
    have hdb := p.defers.trans hd
    have j0 := keep p 0 rfl i0
    obtain ⟨b3, j3, x3, z3⟩ : (IsBox k.w.heap.size m_) (b.get 3) q := out p 0 3 _ rfl rfl rfl
    replace x3 : Lo k (Eq b3) := Lo.eq x3
    have y3 : Lo k0 (Eq b3) := x3.chg hg
    obtain ⟨q2, hsh, jn⟩ := z3.give
    replace j0 := Pers.pers hsh.le j0
    rw [← j3] at jn
    replace j3 := jn
    replace hgq := hgq.hand hsh y3.wr
    rw [← hsh.w]
    clear hsh
    obtain ⟨q, hqq⟩ : ∃ q, q = q2 := ⟨q2, rfl⟩
    subst hqq
    exact tail_done (k := q) (hp392 _ _ ⟨hgq, hsb, hdb, j0, j3, trivial⟩)
  · rintro a k ⟨hg, hs, hd, i0, i3, _⟩
    refine wp_seq ?_
    refine wp_seq ?_
    obtain ⟨x302_1, hx302_1, hr⟩ := bind_some hr
    obtain ⟨x302_7, hx302_7, hr⟩ := bind_some hr
    refine cut (fun a' k' => Chg noF k0 k' ∧ a'.tmps.size = 96 ∧ a'.defers = [] ∧ (IsV l_) (a'.get 0) k' ∧ (IsRef m_) (a'.get 3) k' ∧ (IsV x302_7) (a'.get 17) k' ∧ True) ?_ hQ ?_
    · intro Q386 hQQ386 hp387
      rcases Bool.eq_false_or_eq_true (!x302_1) with hm388 | hm388
      · have ht389 := hx302_7
        rw [if_pos hm388] at ht389
        have hk390 : x302_7 = true := (Option.some.inj ht389).symm
        refine regionS (a0 := a) (k0 := k) (n := 96) (m := 8) (⟨some (IsV l_), [(0, none)]⟩ :: ⟨some (IsV x302_1), [(10, some 0)]⟩ :: ⟨some (IsV (!x302_1)), [(11, some 1)]⟩ :: ⟨some (IsV (!x302_1)), [(12, some 2)]⟩ :: ⟨none, []⟩ :: ⟨none, []⟩ :: ⟨none, []⟩ :: ⟨some (IsV x302_7), [(13, some 3), (16, some 6)]⟩ :: []) hs (by kernel_rfl) ⟨⟨inferInstance, fun b q hk hn => ok_move rfl (up i0 hk hn.1), rfl⟩, ⟨inferInstance, fun b q hk hn => ok_call rfl Try.call17 (cRight_ok hn.1 hx302_1), rfl⟩, ⟨inferInstance, fun b q hk hn => ok_not rfl hn.1, rfl⟩, ⟨inferInstance, fun b q hk hn => ok_move rfl hn.1, rfl⟩, guardT hm388, guardT hm388, guardT hm388, ⟨inferInstance, fun b q hk hn => ok_cast (Option.some.inj ht389) (ok_pick_t rfl hn.1 hm388 (isV_bool.2 rfl)), rfl⟩, trivial⟩ hQQ386 fun b q p => ?_
        have hgq := hg.then p.grow
        have hsb := p.size.trans hs
        have hdb := p.defers.trans hd
        have j0 := keep p 0 rfl i0
        have j3 := keep p 3 rfl i3
        have j17 : (IsV x302_7) (b.get 17) q := out p 7 17 _ rfl rfl rfl
        exact tail_done (k := q) (hp387 _ _ ⟨hgq, hsb, hdb, j0, j3, j17, trivial⟩)
      · have ht389 := hx302_7
        rw [if_neg (by rw [hm388]; decide)] at ht389
        obtain ⟨x302_5, hx302_5, ht389⟩ := bind_some ht389
        refine regionS (a0 := a) (k0 := k) (n := 96) (m := 8) (⟨some (IsV l_), [(0, none)]⟩ :: ⟨some (IsV x302_1), [(10, some 0)]⟩ :: ⟨some (IsV (!x302_1)), [(11, some 1)]⟩ :: ⟨some (IsV (!x302_1)), [(12, some 2)]⟩ :: ⟨some (IsV m_), [(3, none)]⟩ :: ⟨some (IsV x302_5), [(14, some 4)]⟩ :: ⟨some (IsV (!x302_5)), [(15, some 5)]⟩ :: ⟨some (IsV x302_7), [(13, some 3), (16, some 6)]⟩ :: []) hs (by kernel_rfl) ⟨⟨inferInstance, fun b q hk hn => ok_move rfl (up i0 hk hn.1), rfl⟩, ⟨inferInstance, fun b q hk hn => ok_call rfl Try.call17 (cRight_ok hn.1 hx302_1), rfl⟩, ⟨inferInstance, fun b q hk hn => ok_not rfl hn.1, rfl⟩, ⟨inferInstance, fun b q hk hn => ok_move rfl hn.1, rfl⟩, ⟨inferInstance, fun b q hk hn => ok_load rfl ty33 ((up i3 hk hn.1)).ptr, guardF hm388⟩, ⟨inferInstance, fun b q hk hn => ok_call rfl Try.call28 (cValid_ok hn.1 hx302_5), guardF hm388⟩, ⟨inferInstance, fun b q hk hn => ok_not rfl hn.1, guardF hm388⟩, ⟨inferInstance, fun b q hk hn => ok_cast (Option.some.inj ht389) (ok_pick_f rfl hn.1 hm388 hn.2.1), rfl⟩, trivial⟩ hQQ386 fun b q p => ?_
        have hgq := hg.then p.grow
        have hsb := p.size.trans hs
        have hdb := p.defers.trans hd
        have j0 := keep p 0 rfl i0
        have j3 := keep p 3 rfl i3
        have j17 : (IsV x302_7) (b.get 17) q := out p 7 17 _ rfl rfl rfl
        exact tail_done (k := q) (hp387 _ _ ⟨hgq, hsb, hdb, j0, j3, j17, trivial⟩)
    · rintro a k ⟨hg, hs, hd, i0, i3, i17, _⟩
      refine wp_cond_split (isBool i17) (fun hc385 => ?_) (fun hc385 => ?_)
      · rw [if_pos hc385] at hr
        refine wp_seq ?_
        refine cut (fun a' k' => Chg noF k0 k' ∧ a'.tmps.size = 96 ∧ a'.defers = [] ∧ (IsV ([] : List Account)) (a'.get 4) k' ∧ (IsV (α := Int) 1) (a'.get 5) k' ∧ True) ?_ hQ ?_
        · intro Q304 hQQ304 hp305
          refine regionS (a0 := a) (k0 := k) (n := 96) (m := 2) (⟨some IsE0, []⟩ :: ⟨some (IsV (α := Int) 1), []⟩ :: []) hs (by kernel_rfl) ⟨⟨inferInstance, fun b q hk hn => ok_assign rfl isE0_nil, rfl⟩, ⟨inferInstance, fun b q hk hn => ok_assign rfl (isV_int.2 rfl), rfl⟩, trivial⟩ hQQ304 fun b q p => ?_
          have hgq := hg.then p.grow
          have hsb := p.size.trans hs
          have hdb := p.defers.trans hd
          have j4 : IsE0 (b.get 4) q := out p 0 4 _ rfl rfl rfl
          have j5 : (IsV (α := Int) 1) (b.get 5) q := out p 1 5 _ rfl rfl rfl
          replace j4 : IsV ([] : List Account) (b.get 4) q := j4.isV
          exact tail_done (k := q) (hp305 _ _ ⟨hgq, hsb, hdb, j4, j5, trivial⟩)
        · rintro a k ⟨hg, hs, hd, i4, i5, _⟩
          refine wp_ret ?_
          obtain rfl := Option.some.inj hr
          exact retC2 rfl hd hg i4 i5
      · rw [if_neg (by rw [hc385]; decide)] at hr
        refine wp_skip ?_
        refine wp_seq ?_
        obtain ⟨x306_1, hx306_1, hr⟩ := bind_some hr
        refine cut (fun a' k' => Chg noF k0 k' ∧ a'.tmps.size = 96 ∧ a'.defers = [] ∧ (IsRef m_) (a'.get 3) k' ∧ IsOwn 0 35 x306_1 (a'.get 6) k' ∧ Lo k0 (obF (a'.get 6)) ∧ True) ?_ hQ ?_
        · intro Q383 hQQ383 hp384
          refine regionS (a0 := a) (k0 := k) (n := 96) (m := 3) (⟨some (IsV l_), [(0, none)]⟩ :: ⟨some (IsOwn k.w.heap.size 35 x306_1), [(18, some 0)]⟩ :: ⟨some (IsOwn k.w.heap.size 35 x306_1), [(19, some 1)]⟩ :: []) hs (by kernel_rfl) ⟨⟨inferInstance, fun b q hk hn => ok_move rfl (up i0 hk hn.1), rfl⟩, ⟨inferInstance, fun b q hk hn => ok_call rfl Try.call25 (ret_weaken hk.size (clone_okO hn.1 hx306_1)), rfl⟩, ⟨inferInstance, fun b q hk hn => ok_assign rfl hn.1, rfl⟩, trivial⟩ hQQ383 fun b q p => ?_
          have hgq := hg.then p.grow
          have hsb := p.size.trans hs
          have hdb := p.defers.trans hd
          have j3 := keep p 3 rfl i3
          have j6 : (IsOwn k.w.heap.size 35 x306_1) (b.get 6) q := out p 2 6 _ rfl rfl rfl
          have x6 : Lo k (obF (b.get 6)) := j6.loF
          have y6 := x6.chg hg
          replace j6 := j6.weaken (Nat.zero_le _)
          exact tail_done (k := q) (hp384 _ _ ⟨hgq, hsb, hdb, j3, j6, y6, trivial⟩)
        · rintro a k ⟨hg, hs, hd, i3, i6, n6, _⟩
          refine wp_seq ?_
          refine wp_seq ?_
          refine cut (fun a' k' => Chg noF k0 k' ∧ a'.tmps.size = 96 ∧ a'.defers = [] ∧ (IsRef m_) (a'.get 3) k' ∧ IsOwn 0 35 x306_1 (a'.get 6) k' ∧ Lo k0 (obF (a'.get 6)) ∧ (IsV (m_.Kind == 0)) (a'.get 22) k' ∧ True) ?_ hQ ?_
          · intro Q381 hQQ381 hp382
            refine regionS (a0 := a) (k0 := k) (n := 96) (m := 3) (⟨some (IsPtr m_.Kind), [(3, none)]⟩ :: ⟨some (IsV m_.Kind), [(20, some 0)]⟩ :: ⟨some (IsV (m_.Kind == 0)), [(21, some 1)]⟩ :: []) hs (by kernel_rfl) ⟨⟨inferInstance, fun b q hk hn => ok_fieldAddr rfl fo33_0 (at_Move_0 _) ((up i3 hk hn.1)).ptr, rfl⟩, ⟨inferInstance, fun b q hk hn => ok_load rfl ty3 hn.1, rfl⟩, ⟨inferInstance, fun b q hk hn => ok_eqI rfl hn.1 (isV_int.2 rfl), rfl⟩, trivial⟩ hQQ381 fun b q p => ?_
            have hgq := hg.then p.grow
            have hsb := p.size.trans hs
            have hdb := p.defers.trans hd
            have j3 := keep p 3 rfl i3
            have j6 := keep p 6 rfl i6
            have y6 : Lo k0 (obF (b.get 6)) := by rw [p.old 6 rfl]; exact n6
            have j22 : (IsV (m_.Kind == 0)) (b.get 22) q := out p 2 22 _ rfl rfl rfl
            exact tail_done (k := q) (hp382 _ _ ⟨hgq, hsb, hdb, j3, j6, y6, j22, trivial⟩)
          · rintro a k ⟨hg, hs, hd, i3, i6, n6, i22, _⟩
            refine wp_cond_split (isBool i22) (fun hc380 => ?_) (fun hc380 => ?_)
            · rw [if_pos hc380] at hr
              refine wp_seq ?_
              obtain ⟨x308_2, hx308_2, hr⟩ := bind_some hr
              refine cut (fun a' k' => Chg noF k0 k' ∧ a'.tmps.size = 96 ∧ a'.defers = [] ∧ (IsV x308_2.1) (a'.get 4) k' ∧ (IsV x308_2.2) (a'.get 5) k' ∧ True) ?_ hQ ?_
              · intro Q309 hQQ309 hp310
                refine regionS (a0 := a) (k0 := k) (n := 96) (m := 2) (⟨some (OwnAt (a.get 6) 0 35 x306_1), [(6, none)]⟩ :: ⟨some (IsV m_), [(3, none)]⟩ :: []) hs (by kernel_rfl) ⟨⟨inferInstance, fun b q hk hn => ok_moveOA (.inl rfl) ⟨hn.1, up i6 hk hn.1⟩, rfl⟩, ⟨inferInstance, fun b q hk hn => ok_load rfl ty33 ((up i3 hk hn.1)).ptr, rfl⟩, trivial⟩ hQQ309 fun b q p => ?_
                have hgq := hg.then p.grow
                have hsb := p.size.trans hs
                have hdb := p.defers.trans hd
                have e23 : b.get 23 = a.get 6 := (out p 0 23 _ rfl rfl rfl).1
                have j23 : IsOwn 0 35 x306_1 (b.get 23) q := (out p 0 23 _ rfl rfl rfl).2
                have y23 : Lo k0 (obF (b.get 23)) := by rw [e23]; exact n6
                have j24 : (IsV m_) (b.get 24) q := out p 1 24 _ rfl rfl rfl
                have hns := j23.nshF
                refine tail_call (F := obF (b.get 23)) (i := 2) (d := 25) rfl rfl rfl rfl (by rw [hsb]; decide) Try.call29 hQQ309 (cOpen_ok j23 j24 hx308_2) fun b2 q2 hsz hdf hoth hch hres => ?_
                have hle := hch.le hns
                replace j24 := Pers.pers hle j24
                replace hgq := hgq.step hch y23.wr
                rw [← hoth 24 (by decide)] at j24
                have j25 : (IsTup2 (IsV x308_2.1) (IsV x308_2.2)) (b2.get 25) q2 := hres
                replace hsb := hsz.trans hsb
                replace hdb := hdf.trans hdb
                clear hle hch hres hns hsz hdf hoth
                obtain ⟨b, hbb⟩ : ∃ b, b = b2 := ⟨b2, rfl⟩
                subst hbb
                obtain ⟨q, hqq⟩ : ∃ q, q = q2 := ⟨q2, rfl⟩
                subst hqq
                have jx : (IsTup2 (IsV x308_2.1) (IsV x308_2.2)) (b.get 25) q := j25
                obtain ⟨y0_, y1_, hxt, jy0_, jy1_⟩ := jx
                refine tail_ext (i := 3) (d := 26) rfl rfl rfl rfl (by rw [hsb]; decide) hxt rfl fun b2 hsz hdf hnew hoth => ?_
                have jn : (IsV x308_2.1) (b2.get 26) q := by rw [hnew]; exact jy0_
                rw [← hoth 24 (by decide)] at j24
                rw [← hoth 25 (by decide)] at j25
                have j26 := jn
                replace hsb := hsz.trans hsb
                replace hdb := hdf.trans hdb
                clear hsz hdf hoth jn hnew hxt
                obtain ⟨b, hbb⟩ : ∃ b, b = b2 := ⟨b2, rfl⟩
                subst hbb
                have jx : (IsTup2 (IsV x308_2.1) (IsV x308_2.2)) (b.get 25) q := j25
                obtain ⟨y0_, y1_, hxt, jy0_, jy1_⟩ := jx
                refine tail_ext (i := 4) (d := 27) rfl rfl rfl rfl (by rw [hsb]; decide) hxt rfl fun b2 hsz hdf hnew hoth => ?_
                have jn : (IsV x308_2.2) (b2.get 27) q := by rw [hnew]; exact jy1_
                rw [← hoth 24 (by decide)] at j24
                rw [← hoth 25 (by decide)] at j25
                rw [← hoth 26 (by decide)] at j26
                have j27 := jn
                replace hsb := hsz.trans hsb
                replace hdb := hdf.trans hdb
                clear hsz hdf hoth jn hnew hxt
                obtain ⟨b, hbb⟩ : ∃ b, b = b2 := ⟨b2, rfl⟩
                subst hbb
                refine tail_assign (i := 5) (d := 4) rfl rfl (.inl rfl) rfl (by rw [hsb]; decide) fun b2 hsz hdf hnew hoth => ?_
                have jn : (IsV x308_2.1) (b2.get 4) q := by rw [hnew]; exact j26
                rw [← hoth 24 (by decide)] at j24
                rw [← hoth 25 (by decide)] at j25
                rw [← hoth 26 (by decide)] at j26
                rw [← hoth 27 (by decide)] at j27
                have j4 := jn
                replace hsb := hsz.trans hsb
                replace hdb := hdf.trans hdb
                clear hsz hdf hoth
                obtain ⟨b, hbb⟩ : ∃ b, b = b2 := ⟨b2, rfl⟩
                subst hbb
                refine tail_assign (i := 6) (d := 5) rfl rfl (.inl rfl) rfl (by rw [hsb]; decide) fun b2 hsz hdf hnew hoth => ?_
                have jn : (IsV x308_2.2) (b2.get 5) q := by rw [hnew]; exact j27
                rw [← hoth 4 (by decide)] at j4
                rw [← hoth 24 (by decide)] at j24
                rw [← hoth 25 (by decide)] at j25
                rw [← hoth 26 (by decide)] at j26
                rw [← hoth 27 (by decide)] at j27
                have j5 := jn
                replace hsb := hsz.trans hsb
                replace hdb := hdf.trans hdb
                clear hsz hdf hoth
                obtain ⟨b, hbb⟩ : ∃ b, b = b2 := ⟨b2, rfl⟩
                subst hbb
                exact tail_done (k := q) (hp310 _ _ ⟨hgq, hsb, hdb, j4, j5, trivial⟩)
              · rintro a k ⟨hg, hs, hd, i4, i5, _⟩
                refine wp_ret ?_
                obtain rfl := Option.some.inj hr
                exact retC2 rfl hd hg i4 i5
            · rw [if_neg (by rw [hc380]; decide)] at hr
              refine wp_skip ?_
              refine wp_seq ?_
              obtain ⟨u311, q6⟩ : ∃ u, a.get 6 = u := ⟨_, rfl⟩
              obtain ⟨x312_3, hx312_3, hr⟩ := bind_some hr
              obtain ⟨x312_7, hx312_7, hr⟩ := bind_some hr
              refine cut (fun a' k' => Chg noF k0 k' ∧ a'.tmps.size = 96 ∧ a'.defers = [] ∧ (IsRef m_) (a'.get 3) k' ∧ a'.get 6 = u311 ∧ IsOwn 0 35 x306_1 (a'.get 6) k' ∧ Lo k0 (obF (a'.get 6)) ∧ (IsEP u311 (Enc.sz Account) x312_3) (a'.get 7) k' ∧ (IsEP u311 (Enc.sz Account) x312_7) (a'.get 8) k' ∧ True) ?_ hQ ?_
              · intro Q378 hQQ378 hp379
                refine region (a0 := a) (k0 := k) (n := 96) (m := 10) (⟨some (OwnAt (a.get 6) 0 35 x306_1), [(6, none)]⟩ :: ⟨some (IsPtr m_.From), [(3, none)]⟩ :: ⟨some (IsV m_.From), [(29, some 1)]⟩ :: ⟨some (IsEP u311 (Enc.sz Account) x312_3), [(28, some 0), (30, some 2)]⟩ :: ⟨some (OwnAt (a.get 6) 0 35 x306_1), [(6, none)]⟩ :: ⟨some (IsPtr m_.To), [(3, none)]⟩ :: ⟨some (IsV m_.To), [(33, some 5)]⟩ :: ⟨some (IsEP u311 (Enc.sz Account) x312_7), [(32, some 4), (34, some 6)]⟩ :: ⟨some (IsEP u311 (Enc.sz Account) x312_3), [(31, some 3)]⟩ :: ⟨some (IsEP u311 (Enc.sz Account) x312_7), [(35, some 7)]⟩ :: []) hmix hs (by kernel_rfl) ⟨⟨inferInstance, fun b q hk hn => ok_moveOA (.inl rfl) ⟨hn.1, up i6 hk hn.1⟩, rfl⟩, ⟨inferInstance, fun b q hk hn => ok_fieldAddr rfl fo33_1 (at_Move_1 _) ((up i3 hk hn.1)).ptr, rfl⟩, ⟨inferInstance, fun b q hk hn => ok_load rfl ty3 hn.1, rfl⟩, ⟨inferInstance, fun b q hk hn => ok_call rfl Try.call30 (ret_ep (by obtain ⟨kb9, hb9, hv9⟩ := IsOwn.give (hn.1).2; exact borrow hb9 (cFind_ok hv9 (Pers.pers hb9.le hn.2.1) hx312_3)) ((hn.1).1.trans q6)), rfl⟩, ⟨inferInstance, fun b q hk hn => ok_moveOA (.inl rfl) ⟨hn.1, up i6 hk hn.1⟩, rfl⟩, ⟨inferInstance, fun b q hk hn => ok_fieldAddr rfl fo33_2 (at_Move_2 _) ((up i3 hk hn.1)).ptr, rfl⟩, ⟨inferInstance, fun b q hk hn => ok_load rfl ty3 hn.1, rfl⟩, ⟨inferInstance, fun b q hk hn => ok_call rfl Try.call30 (ret_ep (by obtain ⟨kb9, hb9, hv9⟩ := IsOwn.give (hn.1).2; exact borrow hb9 (cFind_ok hv9 (Pers.pers hb9.le hn.2.1) hx312_7)) ((hn.1).1.trans q6)), rfl⟩, ⟨inferInstance, fun b q hk hn => ok_assign rfl hn.1, rfl⟩, ⟨inferInstance, fun b q hk hn => ok_assign rfl hn.1, rfl⟩, trivial⟩ hQQ378 fun b q p => ?_
                have hgq := hg.then p.grow
                have hsb := p.size.trans hs
                have hdb := p.defers.trans hd
                have j3 := keep p 3 rfl i3
                have j6 := keep p 6 rfl i6
                have y6 : Lo k0 (obF (b.get 6)) := by rw [p.old 6 rfl]; exact n6
                have j7 : (IsEP u311 (Enc.sz Account) x312_3) (b.get 7) q := out p 8 7 _ rfl rfl rfl
                have j8 : (IsEP u311 (Enc.sz Account) x312_7) (b.get 8) q := out p 9 8 _ rfl rfl rfl
                have qb6 := (p.old 6 rfl).trans q6
                exact tail_done (k := q) (hp379 _ _ ⟨hgq, hsb, hdb, j3, qb6, j6, y6, j7, j8, trivial⟩)
              · rintro a k ⟨hg, hs, hd, i3, q6, i6, n6, i7, i8, _⟩
                refine wp_seq ?_
                refine cut (fun a' k' => Chg noF k0 k' ∧ a'.tmps.size = 96 ∧ a'.defers = [] ∧ (IsRef m_) (a'.get 3) k' ∧ a'.get 6 = u311 ∧ IsOwn 0 35 x306_1 (a'.get 6) k' ∧ Lo k0 (obF (a'.get 6)) ∧ (IsEP u311 (Enc.sz Account) x312_3) (a'.get 7) k' ∧ (IsEP u311 (Enc.sz Account) x312_7) (a'.get 8) k' ∧ (IsV (m_.Kind == 1)) (a'.get 9) k' ∧ True) ?_ hQ ?_
                · intro Q376 hQQ376 hp377
                  refine regionS (a0 := a) (k0 := k) (n := 96) (m := 4) (⟨some (IsPtr m_.Kind), [(3, none)]⟩ :: ⟨some (IsV m_.Kind), [(36, some 0)]⟩ :: ⟨some (IsV (m_.Kind == 1)), [(37, some 1)]⟩ :: ⟨some (IsV (m_.Kind == 1)), [(38, some 2)]⟩ :: []) hs (by kernel_rfl) ⟨⟨inferInstance, fun b q hk hn => ok_fieldAddr rfl fo33_0 (at_Move_0 _) ((up i3 hk hn.1)).ptr, rfl⟩, ⟨inferInstance, fun b q hk hn => ok_load rfl ty3 hn.1, rfl⟩, ⟨inferInstance, fun b q hk hn => ok_eqI rfl hn.1 (isV_int.2 rfl), rfl⟩, ⟨inferInstance, fun b q hk hn => ok_assign rfl hn.1, rfl⟩, trivial⟩ hQQ376 fun b q p => ?_
                  have hgq := hg.then p.grow
                  have hsb := p.size.trans hs
                  have hdb := p.defers.trans hd
                  have j3 := keep p 3 rfl i3
                  have j6 := keep p 6 rfl i6
                  have y6 : Lo k0 (obF (b.get 6)) := by rw [p.old 6 rfl]; exact n6
                  have j7 := keep p 7 rfl i7
                  have j8 := keep p 8 rfl i8
                  have j9 : (IsV (m_.Kind == 1)) (b.get 9) q := out p 3 9 _ rfl rfl rfl
                  have qb6 := (p.old 6 rfl).trans q6
                  exact tail_done (k := q) (hp377 _ _ ⟨hgq, hsb, hdb, j3, qb6, j6, y6, j7, j8, j9, trivial⟩)
                · rintro a k ⟨hg, hs, hd, i3, q6, i6, n6, i7, i8, i9, _⟩
                  refine wp_seq ?_
                  refine wp_block ?_
                  refine wp_seq ?_
                  refine wp_seq ?_
                  refine cut (fun a' k' => Chg noF k0 k' ∧ a'.tmps.size = 96 ∧ a'.defers = [] ∧ (IsRef m_) (a'.get 3) k' ∧ a'.get 6 = u311 ∧ IsOwn 0 35 x306_1 (a'.get 6) k' ∧ Lo k0 (obF (a'.get 6)) ∧ (IsEP u311 (Enc.sz Account) x312_3) (a'.get 7) k' ∧ (IsEP u311 (Enc.sz Account) x312_7) (a'.get 8) k' ∧ (IsV (m_.Kind == 1)) (a'.get 9) k' ∧ (IsV (x312_3.isNone)) (a'.get 39) k' ∧ True) ?_ hQ ?_
                  · intro Q374 hQQ374 hp375
                    refine regionS (a0 := a) (k0 := k) (n := 96) (m := 3) (⟨some (IsEP u311 (Enc.sz Account) x312_3), [(7, none)]⟩ :: ⟨some (IsV (x312_3.isNone)), [(40, some 0)]⟩ :: ⟨some (IsV (x312_3.isNone)), [(41, some 1)]⟩ :: []) hs (by kernel_rfl) ⟨⟨inferInstance, fun b q hk hn => ok_move rfl (up i7 hk hn.1), rfl⟩, ⟨inferInstance, fun b q hk hn => ok_eqEP rfl Try.underlying52 hn.1, rfl⟩, ⟨inferInstance, fun b q hk hn => ok_assign rfl hn.1, rfl⟩, trivial⟩ hQQ374 fun b q p => ?_
                    have hgq := hg.then p.grow
                    have hsb := p.size.trans hs
                    have hdb := p.defers.trans hd
                    have j3 := keep p 3 rfl i3
                    have j6 := keep p 6 rfl i6
                    have y6 : Lo k0 (obF (b.get 6)) := by rw [p.old 6 rfl]; exact n6
                    have j7 := keep p 7 rfl i7
                    have j8 := keep p 8 rfl i8
                    have j9 := keep p 9 rfl i9
                    have j39 : (IsV (x312_3.isNone)) (b.get 39) q := out p 2 39 _ rfl rfl rfl
                    have qb6 := (p.old 6 rfl).trans q6
                    exact tail_done (k := q) (hp375 _ _ ⟨hgq, hsb, hdb, j3, qb6, j6, y6, j7, j8, j9, j39, trivial⟩)
                  · rintro a k ⟨hg, hs, hd, i3, q6, i6, n6, i7, i8, i9, i39, _⟩
                    obtain ⟨s315, hs315, hr⟩ := bind_some hr
                    refine cut (fun a' k' => Chg noF k0 k' ∧ a'.tmps.size = 96 ∧ a'.defers = [] ∧ (IsRef m_) (a'.get 3) k' ∧ a'.get 6 = u311 ∧ IsOwn 0 35 x306_1 (a'.get 6) k' ∧ Lo k0 (obF (a'.get 6)) ∧ (IsEP u311 (Enc.sz Account) x312_3) (a'.get 7) k' ∧ (IsEP u311 (Enc.sz Account) x312_7) (a'.get 8) k' ∧ (IsV (m_.Kind == 1)) (a'.get 9) k' ∧ (IsV s315) (a'.get 39) k' ∧ True) ?_ hQ ?_
                    · intro Q373 hQQ373 hp316
                      replace hr := hs315
                      clear hQ
                      have hQ := hQQ373
                      refine wp_cond_split (isBool i39) (fun hc323 => ?_) (fun hc323 => ?_)
                      · rw [if_pos hc323] at hr
                        refine wp_skip ?_
                        obtain rfl := Option.some.inj hr
                        exact hp316 _ _ ⟨hg, hs, hd, i3, q6, i6, n6, i7, i8, i9, i39, trivial⟩
                      · rw [if_neg (by rw [hc323]; decide)] at hr
                        refine cut (fun a' k' => Chg noF k0 k' ∧ a'.tmps.size = 96 ∧ a'.defers = [] ∧ (IsRef m_) (a'.get 3) k' ∧ a'.get 6 = u311 ∧ IsOwn 0 35 x306_1 (a'.get 6) k' ∧ Lo k0 (obF (a'.get 6)) ∧ (IsEP u311 (Enc.sz Account) x312_3) (a'.get 7) k' ∧ (IsEP u311 (Enc.sz Account) x312_7) (a'.get 8) k' ∧ (IsV (m_.Kind == 1)) (a'.get 9) k' ∧ (IsV ((m_.Kind == 1) && (x312_7.isNone))) (a'.get 39) k' ∧ True) ?_ hQ ?_
                        · intro Q318 hQQ318 hp319
                          rcases Bool.eq_false_or_eq_true (m_.Kind == 1) with hm320 | hm320
                          · refine regionS (a0 := a) (k0 := k) (n := 96) (m := 6) (⟨some (IsV (m_.Kind == 1)), [(9, none)]⟩ :: ⟨some (IsV (m_.Kind == 1)), [(42, some 0)]⟩ :: ⟨some (IsEP u311 (Enc.sz Account) x312_7), [(8, none)]⟩ :: ⟨some (IsV (x312_7.isNone)), [(44, some 2)]⟩ :: ⟨some (IsV ((m_.Kind == 1) && (x312_7.isNone))), [(43, some 1), (45, some 3)]⟩ :: ⟨some (IsV ((m_.Kind == 1) && (x312_7.isNone))), [(46, some 4)]⟩ :: []) hs (by kernel_rfl) ⟨⟨inferInstance, fun b q hk hn => ok_move rfl (up i9 hk hn.1), rfl⟩, ⟨inferInstance, fun b q hk hn => ok_move rfl hn.1, rfl⟩, ⟨inferInstance, fun b q hk hn => ok_move rfl (up i8 hk hn.1), guardT hm320⟩, ⟨inferInstance, fun b q hk hn => ok_eqEP rfl Try.underlying52 hn.1, guardT hm320⟩, ⟨inferInstance, fun b q hk hn => ok_cast (and_t hm320) (ok_pick_t rfl hn.1 hm320 hn.2.1), rfl⟩, ⟨inferInstance, fun b q hk hn => ok_assign rfl hn.1, rfl⟩, trivial⟩ hQQ318 fun b q p => ?_
                            have hgq := hg.then p.grow
                            have hsb := p.size.trans hs
                            have hdb := p.defers.trans hd
                            have j3 := keep p 3 rfl i3
                            have j6 := keep p 6 rfl i6
                            have y6 : Lo k0 (obF (b.get 6)) := by rw [p.old 6 rfl]; exact n6
                            have j7 := keep p 7 rfl i7
                            have j8 := keep p 8 rfl i8
                            have j9 := keep p 9 rfl i9
                            have j39 : (IsV ((m_.Kind == 1) && (x312_7.isNone))) (b.get 39) q := out p 5 39 _ rfl rfl rfl
                            have qb6 := (p.old 6 rfl).trans q6
                            exact tail_done (k := q) (hp319 _ _ ⟨hgq, hsb, hdb, j3, qb6, j6, y6, j7, j8, j9, j39, trivial⟩)
                          · have hk322 : ((m_.Kind == 1) && (x312_7.isNone)) = false := (and_f hm320).symm
                            refine regionS (a0 := a) (k0 := k) (n := 96) (m := 6) (⟨some (IsV (m_.Kind == 1)), [(9, none)]⟩ :: ⟨some (IsV (m_.Kind == 1)), [(42, some 0)]⟩ :: ⟨none, []⟩ :: ⟨none, []⟩ :: ⟨some (IsV ((m_.Kind == 1) && (x312_7.isNone))), [(43, some 1), (45, some 3)]⟩ :: ⟨some (IsV ((m_.Kind == 1) && (x312_7.isNone))), [(46, some 4)]⟩ :: []) hs (by kernel_rfl) ⟨⟨inferInstance, fun b q hk hn => ok_move rfl (up i9 hk hn.1), rfl⟩, ⟨inferInstance, fun b q hk hn => ok_move rfl hn.1, rfl⟩, guardF hm320, guardF hm320, ⟨inferInstance, fun b q hk hn => ok_cast (and_f hm320) (ok_pick_f rfl hn.1 hm320 (isV_bool.2 rfl)), rfl⟩, ⟨inferInstance, fun b q hk hn => ok_assign rfl hn.1, rfl⟩, trivial⟩ hQQ318 fun b q p => ?_
                            have hgq := hg.then p.grow
                            have hsb := p.size.trans hs
                            have hdb := p.defers.trans hd
                            have j3 := keep p 3 rfl i3
                            have j6 := keep p 6 rfl i6
                            have y6 : Lo k0 (obF (b.get 6)) := by rw [p.old 6 rfl]; exact n6
                            have j7 := keep p 7 rfl i7
                            have j8 := keep p 8 rfl i8
                            have j9 := keep p 9 rfl i9
                            have j39 : (IsV ((m_.Kind == 1) && (x312_7.isNone))) (b.get 39) q := out p 5 39 _ rfl rfl rfl
                            have qb6 := (p.old 6 rfl).trans q6
                            exact tail_done (k := q) (hp319 _ _ ⟨hgq, hsb, hdb, j3, qb6, j6, y6, j7, j8, j9, j39, trivial⟩)
                        · rintro a k ⟨hg, hs, hd, i3, q6, i6, n6, i7, i8, i9, i39, _⟩
                          obtain rfl := Option.some.inj hr
                          exact hp316 _ _ ⟨hg, hs, hd, i3, q6, i6, n6, i7, i8, i9, i39, trivial⟩
                    · clear hs315
                      rintro a k ⟨hg, hs, hd, i3, q6, i6, n6, i7, i8, i9, i39, _⟩
                      refine wp_cond_split (isBool i39) (fun hc372 => ?_) (fun hc372 => ?_)
                      · rw [if_pos hc372] at hr
                        refine wp_seq ?_
                        refine cut (fun a' k' => Chg noF k0 k' ∧ a'.tmps.size = 96 ∧ a'.defers = [] ∧ (IsV ([] : List Account)) (a'.get 4) k' ∧ (IsV (α := Int) 4) (a'.get 5) k' ∧ True) ?_ hQ ?_
                        · intro Q325 hQQ325 hp326
                          refine regionS (a0 := a) (k0 := k) (n := 96) (m := 2) (⟨some IsE0, []⟩ :: ⟨some (IsV (α := Int) 4), []⟩ :: []) hs (by kernel_rfl) ⟨⟨inferInstance, fun b q hk hn => ok_assign rfl isE0_nil, rfl⟩, ⟨inferInstance, fun b q hk hn => ok_assign rfl (isV_int.2 rfl), rfl⟩, trivial⟩ hQQ325 fun b q p => ?_
                          have hgq := hg.then p.grow
                          have hsb := p.size.trans hs
                          have hdb := p.defers.trans hd
                          have j4 : IsE0 (b.get 4) q := out p 0 4 _ rfl rfl rfl
                          have j5 : (IsV (α := Int) 4) (b.get 5) q := out p 1 5 _ rfl rfl rfl
                          replace j4 : IsV ([] : List Account) (b.get 4) q := j4.isV
                          exact tail_done (k := q) (hp326 _ _ ⟨hgq, hsb, hdb, j4, j5, trivial⟩)
                        · rintro a k ⟨hg, hs, hd, i4, i5, _⟩
                          refine wp_ret ?_
                          obtain rfl := Option.some.inj hr
                          exact retC2 rfl hd hg i4 i5
                      · rw [if_neg (by rw [hc372]; decide)] at hr
                        refine wp_seq ?_
                        obtain ⟨x327_7, hx327_7, hr⟩ := bind_some hr
                        refine cut (fun a' k' => Chg noF k0 k' ∧ a'.tmps.size = 96 ∧ a'.defers = [] ∧ (IsRef m_) (a'.get 3) k' ∧ a'.get 6 = u311 ∧ IsOwn 0 35 x306_1 (a'.get 6) k' ∧ Lo k0 (obF (a'.get 6)) ∧ (IsEP u311 (Enc.sz Account) x312_3) (a'.get 7) k' ∧ (IsEP u311 (Enc.sz Account) x312_7) (a'.get 8) k' ∧ (IsV (m_.Kind == 1)) (a'.get 9) k' ∧ (IsV x327_7) (a'.get 47) k' ∧ True) ?_ hQ ?_
                        · intro Q367 hQQ367 hp368
                          rcases Bool.eq_false_or_eq_true (m_.Kind == 1) with hm369 | hm369
                          · have ht370 := hx327_7
                            rw [if_pos hm369] at ht370
                            obtain ⟨x327_3, hx327_3, ht370⟩ := bind_some ht370
                            refine regionS (a0 := a) (k0 := k) (n := 96) (m := 9) (⟨some (IsV (m_.Kind == 1)), [(9, none)]⟩ :: ⟨some (IsV (m_.Kind == 1)), [(48, some 0)]⟩ :: ⟨some (IsEP u311 (Enc.sz Account) x312_7), [(8, none)]⟩ :: ⟨some (IsPtr x327_3), [(50, some 2)]⟩ :: ⟨some (IsPtr x327_3.Receives), [(51, some 3)]⟩ :: ⟨some (IsV x327_3.Receives), [(52, some 4)]⟩ :: ⟨some (IsV (!x327_3.Receives)), [(53, some 5)]⟩ :: ⟨some (IsV x327_7), [(49, some 1), (54, some 6)]⟩ :: ⟨some (IsV x327_7), [(55, some 7)]⟩ :: []) hs (by kernel_rfl) ⟨⟨inferInstance, fun b q hk hn => ok_move rfl (up i9 hk hn.1), rfl⟩, ⟨inferInstance, fun b q hk hn => ok_move rfl hn.1, rfl⟩, ⟨inferInstance, fun b q hk hn => ok_move rfl (up i8 hk hn.1), guardT hm369⟩, ⟨inferInstance, fun b q hk hn => ok_nilCheckP rfl hn.1 (rdO i6 hk q6) hx327_3, guardT hm369⟩, ⟨inferInstance, fun b q hk hn => ok_fieldAddr rfl fo35_2 (at_Account_2 _) hn.1, guardT hm369⟩, ⟨inferInstance, fun b q hk hn => ok_load rfl ty4 hn.1, guardT hm369⟩, ⟨inferInstance, fun b q hk hn => ok_not rfl hn.1, guardT hm369⟩, ⟨inferInstance, fun b q hk hn => ok_cast (Option.some.inj ht370) (ok_pick_t rfl hn.1 hm369 hn.2.1), rfl⟩, ⟨inferInstance, fun b q hk hn => ok_assign rfl hn.1, rfl⟩, trivial⟩ hQQ367 fun b q p => ?_
                            have hgq := hg.then p.grow
                            have hsb := p.size.trans hs
                            have hdb := p.defers.trans hd
                            have j3 := keep p 3 rfl i3
                            have j6 := keep p 6 rfl i6
                            have y6 : Lo k0 (obF (b.get 6)) := by rw [p.old 6 rfl]; exact n6
                            have j7 := keep p 7 rfl i7
                            have j8 := keep p 8 rfl i8
                            have j9 := keep p 9 rfl i9
                            have j47 : (IsV x327_7) (b.get 47) q := out p 8 47 _ rfl rfl rfl
                            have qb6 := (p.old 6 rfl).trans q6
                            exact tail_done (k := q) (hp368 _ _ ⟨hgq, hsb, hdb, j3, qb6, j6, y6, j7, j8, j9, j47, trivial⟩)
                          · have ht370 := hx327_7
                            rw [if_neg (by rw [hm369]; decide)] at ht370
                            have hk371 : x327_7 = false := (Option.some.inj ht370).symm
                            refine regionS (a0 := a) (k0 := k) (n := 96) (m := 9) (⟨some (IsV (m_.Kind == 1)), [(9, none)]⟩ :: ⟨some (IsV (m_.Kind == 1)), [(48, some 0)]⟩ :: ⟨none, []⟩ :: ⟨none, []⟩ :: ⟨none, []⟩ :: ⟨none, []⟩ :: ⟨none, []⟩ :: ⟨some (IsV x327_7), [(49, some 1), (54, some 6)]⟩ :: ⟨some (IsV x327_7), [(55, some 7)]⟩ :: []) hs (by kernel_rfl) ⟨⟨inferInstance, fun b q hk hn => ok_move rfl (up i9 hk hn.1), rfl⟩, ⟨inferInstance, fun b q hk hn => ok_move rfl hn.1, rfl⟩, guardF hm369, guardF hm369, guardF hm369, guardF hm369, guardF hm369, ⟨inferInstance, fun b q hk hn => ok_cast (Option.some.inj ht370) (ok_pick_f rfl hn.1 hm369 (isV_bool.2 rfl)), rfl⟩, ⟨inferInstance, fun b q hk hn => ok_assign rfl hn.1, rfl⟩, trivial⟩ hQQ367 fun b q p => ?_
                            have hgq := hg.then p.grow
                            have hsb := p.size.trans hs
                            have hdb := p.defers.trans hd
                            have j3 := keep p 3 rfl i3
                            have j6 := keep p 6 rfl i6
                            have y6 : Lo k0 (obF (b.get 6)) := by rw [p.old 6 rfl]; exact n6
                            have j7 := keep p 7 rfl i7
                            have j8 := keep p 8 rfl i8
                            have j9 := keep p 9 rfl i9
                            have j47 : (IsV x327_7) (b.get 47) q := out p 8 47 _ rfl rfl rfl
                            have qb6 := (p.old 6 rfl).trans q6
                            exact tail_done (k := q) (hp368 _ _ ⟨hgq, hsb, hdb, j3, qb6, j6, y6, j7, j8, j9, j47, trivial⟩)
                        · rintro a k ⟨hg, hs, hd, i3, q6, i6, n6, i7, i8, i9, i47, _⟩
                          refine wp_cond_split (isBool i47) (fun hc366 => ?_) (fun hc366 => ?_)
                          · rw [if_pos hc366] at hr
                            refine wp_seq ?_
                            refine cut (fun a' k' => Chg noF k0 k' ∧ a'.tmps.size = 96 ∧ a'.defers = [] ∧ (IsV ([] : List Account)) (a'.get 4) k' ∧ (IsV (α := Int) 24) (a'.get 5) k' ∧ True) ?_ hQ ?_
                            · intro Q329 hQQ329 hp330
                              refine regionS (a0 := a) (k0 := k) (n := 96) (m := 2) (⟨some IsE0, []⟩ :: ⟨some (IsV (α := Int) 24), []⟩ :: []) hs (by kernel_rfl) ⟨⟨inferInstance, fun b q hk hn => ok_assign rfl isE0_nil, rfl⟩, ⟨inferInstance, fun b q hk hn => ok_assign rfl (isV_int.2 rfl), rfl⟩, trivial⟩ hQQ329 fun b q p => ?_
                              have hgq := hg.then p.grow
                              have hsb := p.size.trans hs
                              have hdb := p.defers.trans hd
                              have j4 : IsE0 (b.get 4) q := out p 0 4 _ rfl rfl rfl
                              have j5 : (IsV (α := Int) 24) (b.get 5) q := out p 1 5 _ rfl rfl rfl
                              replace j4 : IsV ([] : List Account) (b.get 4) q := j4.isV
                              exact tail_done (k := q) (hp330 _ _ ⟨hgq, hsb, hdb, j4, j5, trivial⟩)
                            · rintro a k ⟨hg, hs, hd, i4, i5, _⟩
                              refine wp_ret ?_
                              obtain rfl := Option.some.inj hr
                              exact retC2 rfl hd hg i4 i5
                          · rw [if_neg (by rw [hc366]; decide)] at hr
                            refine wp_seq ?_
                            obtain ⟨x331_1, hx331_1, hr⟩ := bind_some hr
                            refine cut (fun a' k' => Chg noF k0 k' ∧ a'.tmps.size = 96 ∧ a'.defers = [] ∧ (IsRef m_) (a'.get 3) k' ∧ a'.get 6 = u311 ∧ IsOwn 0 35 x306_1 (a'.get 6) k' ∧ Lo k0 (obF (a'.get 6)) ∧ (IsEP u311 (Enc.sz Account) x312_3) (a'.get 7) k' ∧ (IsEP u311 (Enc.sz Account) x312_7) (a'.get 8) k' ∧ (IsV (m_.Kind == 1)) (a'.get 9) k' ∧ (IsV (decide (x331_1.Units < m_.N))) (a'.get 56) k' ∧ True) ?_ hQ ?_
                            · intro Q364 hQQ364 hp365
                              refine region (a0 := a) (k0 := k) (n := 96) (m := 8) (⟨some (IsEP u311 (Enc.sz Account) x312_3), [(7, none)]⟩ :: ⟨some (IsPtr x331_1), [(57, some 0)]⟩ :: ⟨some (IsPtr x331_1.Units), [(58, some 1)]⟩ :: ⟨some (IsV x331_1.Units), [(59, some 2)]⟩ :: ⟨some (IsPtr m_.N), [(3, none)]⟩ :: ⟨some (IsV m_.N), [(61, some 4)]⟩ :: ⟨some (IsV (decide (x331_1.Units < m_.N))), [(60, some 3), (62, some 5)]⟩ :: ⟨some (IsV (decide (x331_1.Units < m_.N))), [(63, some 6)]⟩ :: []) hmix hs (by kernel_rfl) ⟨⟨inferInstance, fun b q hk hn => ok_move rfl (up i7 hk hn.1), rfl⟩, ⟨inferInstance, fun b q hk hn => ok_nilCheckP rfl hn.1 (rdO i6 hk q6) hx331_1, rfl⟩, ⟨inferInstance, fun b q hk hn => ok_fieldAddr rfl fo35_1 (at_Account_1 _) hn.1, rfl⟩, ⟨inferInstance, fun b q hk hn => ok_load rfl ty3 hn.1, rfl⟩, ⟨inferInstance, fun b q hk hn => ok_fieldAddr rfl fo33_3 (at_Move_3 _) ((up i3 hk hn.1)).ptr, rfl⟩, ⟨inferInstance, fun b q hk hn => ok_load rfl ty3 hn.1, rfl⟩, ⟨inferInstance, fun b q hk hn => ok_lss rfl hn.1 hn.2.1, rfl⟩, ⟨inferInstance, fun b q hk hn => ok_assign rfl hn.1, rfl⟩, trivial⟩ hQQ364 fun b q p => ?_
                              have hgq := hg.then p.grow
                              have hsb := p.size.trans hs
                              have hdb := p.defers.trans hd
                              have j3 := keep p 3 rfl i3
                              have j6 := keep p 6 rfl i6
                              have y6 : Lo k0 (obF (b.get 6)) := by rw [p.old 6 rfl]; exact n6
                              have j7 := keep p 7 rfl i7
                              have j8 := keep p 8 rfl i8
                              have j9 := keep p 9 rfl i9
                              have j56 : (IsV (decide (x331_1.Units < m_.N))) (b.get 56) q := out p 7 56 _ rfl rfl rfl
                              have qb6 := (p.old 6 rfl).trans q6
                              exact tail_done (k := q) (hp365 _ _ ⟨hgq, hsb, hdb, j3, qb6, j6, y6, j7, j8, j9, j56, trivial⟩)
                            · rintro a k ⟨hg, hs, hd, i3, q6, i6, n6, i7, i8, i9, i56, _⟩
                              refine wp_cond_split (isBool i56) (fun hc363 => ?_) (fun hc363 => ?_)
                              · rw [if_pos hc363] at hr
                                refine wp_seq ?_
                                refine cut (fun a' k' => Chg noF k0 k' ∧ a'.tmps.size = 96 ∧ a'.defers = [] ∧ (IsV ([] : List Account)) (a'.get 4) k' ∧ (IsV (α := Int) 23) (a'.get 5) k' ∧ True) ?_ hQ ?_
                                · intro Q333 hQQ333 hp334
                                  refine regionS (a0 := a) (k0 := k) (n := 96) (m := 2) (⟨some IsE0, []⟩ :: ⟨some (IsV (α := Int) 23), []⟩ :: []) hs (by kernel_rfl) ⟨⟨inferInstance, fun b q hk hn => ok_assign rfl isE0_nil, rfl⟩, ⟨inferInstance, fun b q hk hn => ok_assign rfl (isV_int.2 rfl), rfl⟩, trivial⟩ hQQ333 fun b q p => ?_
                                  have hgq := hg.then p.grow
                                  have hsb := p.size.trans hs
                                  have hdb := p.defers.trans hd
                                  have j4 : IsE0 (b.get 4) q := out p 0 4 _ rfl rfl rfl
                                  have j5 : (IsV (α := Int) 23) (b.get 5) q := out p 1 5 _ rfl rfl rfl
                                  replace j4 : IsV ([] : List Account) (b.get 4) q := j4.isV
                                  exact tail_done (k := q) (hp334 _ _ ⟨hgq, hsb, hdb, j4, j5, trivial⟩)
                                · rintro a k ⟨hg, hs, hd, i4, i5, _⟩
                                  refine wp_ret ?_
                                  obtain rfl := Option.some.inj hr
                                  exact retC2 rfl hd hg i4 i5
                              · rw [if_neg (by rw [hc363]; decide)] at hr
                                refine wp_seq ?_
                                obtain ⟨x335_10, hx335_10, hr⟩ := bind_some hr
                                refine cut (fun a' k' => Chg noF k0 k' ∧ a'.tmps.size = 96 ∧ a'.defers = [] ∧ (IsRef m_) (a'.get 3) k' ∧ a'.get 6 = u311 ∧ IsOwn 0 35 x306_1 (a'.get 6) k' ∧ Lo k0 (obF (a'.get 6)) ∧ (IsEP u311 (Enc.sz Account) x312_3) (a'.get 7) k' ∧ (IsEP u311 (Enc.sz Account) x312_7) (a'.get 8) k' ∧ (IsV (m_.Kind == 1)) (a'.get 9) k' ∧ (IsV x335_10) (a'.get 64) k' ∧ True) ?_ hQ ?_
                                · intro Q358 hQQ358 hp359
                                  rcases Bool.eq_false_or_eq_true (m_.Kind == 1) with hm360 | hm360
                                  · have ht361 := hx335_10
                                    rw [if_pos hm360] at ht361
                                    obtain ⟨x335_3, hx335_3, ht361⟩ := bind_some ht361
                                    obtain ⟨x335_8, hx335_8, ht361⟩ := bind_some ht361
                                    refine region (a0 := a) (k0 := k) (n := 96) (m := 12) (⟨some (IsV (m_.Kind == 1)), [(9, none)]⟩ :: ⟨some (IsV (m_.Kind == 1)), [(65, some 0)]⟩ :: ⟨some (IsEP u311 (Enc.sz Account) x312_7), [(8, none)]⟩ :: ⟨some (IsPtr x335_3), [(67, some 2)]⟩ :: ⟨some (IsPtr x335_3.Units), [(68, some 3)]⟩ :: ⟨some (IsV x335_3.Units), [(69, some 4)]⟩ :: ⟨some (IsPtr m_.N), [(3, none)]⟩ :: ⟨some (IsV m_.N), [(71, some 6)]⟩ :: ⟨some (IsV x335_8), [(70, some 5), (72, some 7)]⟩ :: ⟨some (IsV (decide (1073741824 < x335_8))), [(73, some 8)]⟩ :: ⟨some (IsV x335_10), [(66, some 1), (74, some 9)]⟩ :: ⟨some (IsV x335_10), [(75, some 10)]⟩ :: []) hmix hs (by kernel_rfl) ⟨⟨inferInstance, fun b q hk hn => ok_move rfl (up i9 hk hn.1), rfl⟩, ⟨inferInstance, fun b q hk hn => ok_move rfl hn.1, rfl⟩, ⟨inferInstance, fun b q hk hn => ok_move rfl (up i8 hk hn.1), guardT hm360⟩, ⟨inferInstance, fun b q hk hn => ok_nilCheckP rfl hn.1 (rdO i6 hk q6) hx335_3, guardT hm360⟩, ⟨inferInstance, fun b q hk hn => ok_fieldAddr rfl fo35_1 (at_Account_1 _) hn.1, guardT hm360⟩, ⟨inferInstance, fun b q hk hn => ok_load rfl ty3 hn.1, guardT hm360⟩, ⟨inferInstance, fun b q hk hn => ok_fieldAddr rfl fo33_3 (at_Move_3 _) ((up i3 hk hn.1)).ptr, guardT hm360⟩, ⟨inferInstance, fun b q hk hn => ok_load rfl ty3 hn.1, guardT hm360⟩, ⟨inferInstance, fun b q hk hn => ok_add rfl hn.1 hn.2.1 hx335_8, guardT hm360⟩, ⟨inferInstance, fun b q hk hn => ok_gtr rfl hn.1 (isV_int.2 rfl), guardT hm360⟩, ⟨inferInstance, fun b q hk hn => ok_cast (Option.some.inj ht361) (ok_pick_t rfl hn.1 hm360 hn.2.1), rfl⟩, ⟨inferInstance, fun b q hk hn => ok_assign rfl hn.1, rfl⟩, trivial⟩ hQQ358 fun b q p => ?_
                                    have hgq := hg.then p.grow
                                    have hsb := p.size.trans hs
                                    have hdb := p.defers.trans hd
                                    have j3 := keep p 3 rfl i3
                                    have j6 := keep p 6 rfl i6
                                    have y6 : Lo k0 (obF (b.get 6)) := by rw [p.old 6 rfl]; exact n6
                                    have j7 := keep p 7 rfl i7
                                    have j8 := keep p 8 rfl i8
                                    have j9 := keep p 9 rfl i9
                                    have j64 : (IsV x335_10) (b.get 64) q := out p 11 64 _ rfl rfl rfl
                                    have qb6 := (p.old 6 rfl).trans q6
                                    exact tail_done (k := q) (hp359 _ _ ⟨hgq, hsb, hdb, j3, qb6, j6, y6, j7, j8, j9, j64, trivial⟩)
                                  · have ht361 := hx335_10
                                    rw [if_neg (by rw [hm360]; decide)] at ht361
                                    have hk362 : x335_10 = false := (Option.some.inj ht361).symm
                                    refine region (a0 := a) (k0 := k) (n := 96) (m := 12) (⟨some (IsV (m_.Kind == 1)), [(9, none)]⟩ :: ⟨some (IsV (m_.Kind == 1)), [(65, some 0)]⟩ :: ⟨none, []⟩ :: ⟨none, []⟩ :: ⟨none, []⟩ :: ⟨none, []⟩ :: ⟨none, []⟩ :: ⟨none, []⟩ :: ⟨none, []⟩ :: ⟨none, []⟩ :: ⟨some (IsV x335_10), [(66, some 1), (74, some 9)]⟩ :: ⟨some (IsV x335_10), [(75, some 10)]⟩ :: []) hmix hs (by kernel_rfl) ⟨⟨inferInstance, fun b q hk hn => ok_move rfl (up i9 hk hn.1), rfl⟩, ⟨inferInstance, fun b q hk hn => ok_move rfl hn.1, rfl⟩, guardF hm360, guardF hm360, guardF hm360, guardF hm360, guardF hm360, guardF hm360, guardF hm360, guardF hm360, ⟨inferInstance, fun b q hk hn => ok_cast (Option.some.inj ht361) (ok_pick_f rfl hn.1 hm360 (isV_bool.2 rfl)), rfl⟩, ⟨inferInstance, fun b q hk hn => ok_assign rfl hn.1, rfl⟩, trivial⟩ hQQ358 fun b q p => ?_
                                    have hgq := hg.then p.grow
                                    have hsb := p.size.trans hs
                                    have hdb := p.defers.trans hd
                                    have j3 := keep p 3 rfl i3
                                    have j6 := keep p 6 rfl i6
                                    have y6 : Lo k0 (obF (b.get 6)) := by rw [p.old 6 rfl]; exact n6
                                    have j7 := keep p 7 rfl i7
                                    have j8 := keep p 8 rfl i8
                                    have j9 := keep p 9 rfl i9
                                    have j64 : (IsV x335_10) (b.get 64) q := out p 11 64 _ rfl rfl rfl
                                    have qb6 := (p.old 6 rfl).trans q6
                                    exact tail_done (k := q) (hp359 _ _ ⟨hgq, hsb, hdb, j3, qb6, j6, y6, j7, j8, j9, j64, trivial⟩)
                                · rintro a k ⟨hg, hs, hd, i3, q6, i6, n6, i7, i8, i9, i64, _⟩
                                  refine wp_cond_split (isBool i64) (fun hc357 => ?_) (fun hc357 => ?_)
                                  · rw [if_pos hc357] at hr
                                    refine wp_seq ?_
                                    refine cut (fun a' k' => Chg noF k0 k' ∧ a'.tmps.size = 96 ∧ a'.defers = [] ∧ (IsV ([] : List Account)) (a'.get 4) k' ∧ (IsV (α := Int) 6) (a'.get 5) k' ∧ True) ?_ hQ ?_
                                    · intro Q337 hQQ337 hp338
                                      refine regionS (a0 := a) (k0 := k) (n := 96) (m := 2) (⟨some IsE0, []⟩ :: ⟨some (IsV (α := Int) 6), []⟩ :: []) hs (by kernel_rfl) ⟨⟨inferInstance, fun b q hk hn => ok_assign rfl isE0_nil, rfl⟩, ⟨inferInstance, fun b q hk hn => ok_assign rfl (isV_int.2 rfl), rfl⟩, trivial⟩ hQQ337 fun b q p => ?_
                                      have hgq := hg.then p.grow
                                      have hsb := p.size.trans hs
                                      have hdb := p.defers.trans hd
                                      have j4 : IsE0 (b.get 4) q := out p 0 4 _ rfl rfl rfl
                                      have j5 : (IsV (α := Int) 6) (b.get 5) q := out p 1 5 _ rfl rfl rfl
                                      replace j4 : IsV ([] : List Account) (b.get 4) q := j4.isV
                                      exact tail_done (k := q) (hp338 _ _ ⟨hgq, hsb, hdb, j4, j5, trivial⟩)
                                    · rintro a k ⟨hg, hs, hd, i4, i5, _⟩
                                      refine wp_ret ?_
                                      obtain rfl := Option.some.inj hr
                                      exact retC2 rfl hd hg i4 i5
                                  · rw [if_neg (by rw [hc357]; decide)] at hr
                                    refine wp_skip ?_
                                    refine wp_seq ?_
                                    obtain ⟨x339_1, hx339_1, hr⟩ := bind_some hr
                                    obtain ⟨x339_6, hx339_6, hr⟩ := bind_some hr
                                    obtain ⟨x339_7, hx339_7, hr⟩ := bind_some hr
                                    obtain ⟨x339_9, hx339_9, hr⟩ := bind_some hr
                                    refine cut (fun a' k' => Chg noF k0 k' ∧ a'.tmps.size = 96 ∧ a'.defers = [] ∧ (IsRef m_) (a'.get 3) k' ∧ a'.get 6 = u311 ∧ IsOwn 0 35 x339_9 (a'.get 6) k' ∧ Lo k0 (obF (a'.get 6)) ∧ (IsEP u311 (Enc.sz Account) x312_7) (a'.get 8) k' ∧ (IsV (m_.Kind == 1)) (a'.get 9) k' ∧ True) ?_ hQ ?_
                                    · intro Q355 hQQ355 hp356
                                      refine region (a0 := a) (k0 := k) (n := 96) (m := 9) (⟨some (IsEP u311 (Enc.sz Account) x312_3), [(7, none)]⟩ :: ⟨some (IsPtr x339_1), [(76, some 0)]⟩ :: ⟨some (IsPtr x339_1.Units), [(77, some 1)]⟩ :: ⟨some (IsV x339_1.Units), [(78, some 2)]⟩ :: ⟨some (IsPtr m_.N), [(3, none)]⟩ :: ⟨some (IsV m_.N), [(80, some 4)]⟩ :: ⟨some (IsV x339_6), [(79, some 3), (81, some 5)]⟩ :: ⟨some (IsAdrO (a.get 6) (((x312_3.getD 0)).toNat * Enc.sz Account)), [(76, some 0)]⟩ :: ⟨some (IsAdrO (a.get 6) (((x312_3.getD 0)).toNat * Enc.sz Account + 1)), [(83, some 7)]⟩ :: []) hmix hs (by kernel_rfl) ⟨⟨inferInstance, fun b q hk hn => ok_move rfl (up i7 hk hn.1), rfl⟩, ⟨inferInstance, fun b q hk hn => ok_nilCheckP rfl hn.1 (rdO i6 hk q6) hx339_1, rfl⟩, ⟨inferInstance, fun b q hk hn => ok_fieldAddr rfl fo35_1 (at_Account_1 _) hn.1, rfl⟩, ⟨inferInstance, fun b q hk hn => ok_load rfl ty3 hn.1, rfl⟩, ⟨inferInstance, fun b q hk hn => ok_fieldAddr rfl fo33_3 (at_Move_3 _) ((up i3 hk hn.1)).ptr, rfl⟩, ⟨inferInstance, fun b q hk hn => ok_load rfl ty3 hn.1, rfl⟩, ⟨inferInstance, fun b q hk hn => ok_sub rfl hn.1 hn.2.1 hx339_6, rfl⟩, ⟨inferInstance, fun b q hk hn => ok_nilCheckO rfl (by rw [q6]; exact hn.1) (atI_spec hx339_7).1, rfl⟩, ⟨inferInstance, fun b q hk hn => ok_fieldAdrO rfl fo35_1 hn.1, rfl⟩, trivial⟩ hQQ355 fun b q p => ?_
                                      have hgq := hg.then p.grow
                                      have hsb := p.size.trans hs
                                      have hdb := p.defers.trans hd
                                      have j3 := keep p 3 rfl i3
                                      have j6 := keep p 6 rfl i6
                                      have y6 : Lo k0 (obF (b.get 6)) := by rw [p.old 6 rfl]; exact n6
                                      have j8 := keep p 8 rfl i8
                                      have j9 := keep p 9 rfl i9
                                      have j82 : (IsV x339_6) (b.get 82) q := out p 6 82 _ rfl rfl rfl
                                      have j84 : IsAdrO (a.get 6) (((x312_3.getD 0)).toNat * Enc.sz Account + 1) (b.get 84) q := out p 8 84 _ rfl rfl rfl
                                      have qb6 := (p.old 6 rfl).trans q6
                                      have eo : b.get 6 = a.get 6 := p.old 6 rfl
                                      have hns := j6.nshF
                                      refine tail_storeS (i := 9) (u := b.get 6) (m := ((x312_3.getD 0)).toNat) (off := 0 + 1) rfl rfl rfl rfl szf3 upd_F35_1 (by rw [eo]; exact j84) j6 (getI_spec (atI_spec hx339_7).2).2.1 j82 fun q2 hch hz => ?_
                                      replace hgq := hgq.step hch y6.wr
                                      have hle := hch.le hns
                                      replace j3 := Pers.pers hle j3
                                      replace j8 := Pers.pers hle j8
                                      replace j9 := Pers.pers hle j9
                                      replace j82 := Pers.pers hle j82
                                      replace j84 := Pers.pers hle j84
                                      replace j6 := hz
                                      rw [Option.some.inj hx339_9] at j6
                                      clear hns hle hch eo hz
                                      obtain ⟨q, hqq⟩ : ∃ q, q = q2 := ⟨q2, rfl⟩
                                      subst hqq
                                      exact tail_done (k := q) (hp356 _ _ ⟨hgq, hsb, hdb, j3, qb6, j6, y6, j8, j9, trivial⟩)
                                    · rintro a k ⟨hg, hs, hd, i3, q6, i6, n6, i8, i9, _⟩
                                      refine wp_seq ?_
                                      refine wp_seq ?_
                                      refine cut (fun a' k' => Chg noF k0 k' ∧ a'.tmps.size = 96 ∧ a'.defers = [] ∧ (IsRef m_) (a'.get 3) k' ∧ a'.get 6 = u311 ∧ IsOwn 0 35 x339_9 (a'.get 6) k' ∧ Lo k0 (obF (a'.get 6)) ∧ (IsEP u311 (Enc.sz Account) x312_7) (a'.get 8) k' ∧ (IsV (m_.Kind == 1)) (a'.get 85) k' ∧ True) ?_ hQ ?_
                                      · intro Q353 hQQ353 hp354
                                        refine regionS (a0 := a) (k0 := k) (n := 96) (m := 1) (⟨some (IsV (m_.Kind == 1)), [(9, none)]⟩ :: []) hs (by kernel_rfl) ⟨⟨inferInstance, fun b q hk hn => ok_move rfl (up i9 hk hn.1), rfl⟩, trivial⟩ hQQ353 fun b q p => ?_
                                        have hgq := hg.then p.grow
                                        have hsb := p.size.trans hs
                                        have hdb := p.defers.trans hd
                                        have j3 := keep p 3 rfl i3
                                        have j6 := keep p 6 rfl i6
                                        have y6 : Lo k0 (obF (b.get 6)) := by rw [p.old 6 rfl]; exact n6
                                        have j8 := keep p 8 rfl i8
                                        have j85 : (IsV (m_.Kind == 1)) (b.get 85) q := out p 0 85 _ rfl rfl rfl
                                        have qb6 := (p.old 6 rfl).trans q6
                                        exact tail_done (k := q) (hp354 _ _ ⟨hgq, hsb, hdb, j3, qb6, j6, y6, j8, j85, trivial⟩)
                                      · rintro a k ⟨hg, hs, hd, i3, q6, i6, n6, i8, i85, _⟩
                                        obtain ⟨s341, hs341, hr⟩ := bind_some hr
                                        refine cut (fun a' k' => Chg noF k0 k' ∧ a'.tmps.size = 96 ∧ a'.defers = [] ∧ a'.get 6 = u311 ∧ (IsV s341) (a'.get 6) k' ∧ True) ?_ hQ ?_
                                        · intro Q352 hQQ352 hp342
                                          replace hr := hs341
                                          clear hQ
                                          have hQ := hQQ352
                                          refine wp_cond_split (isBool i85) (fun hc348 => ?_) (fun hc348 => ?_)
                                          · rw [if_pos hc348] at hr
                                            obtain ⟨x343_1, hx343_1, hr⟩ := bind_some hr
                                            obtain ⟨x343_6, hx343_6, hr⟩ := bind_some hr
                                            obtain ⟨x343_7, hx343_7, hr⟩ := bind_some hr
                                            obtain ⟨x343_9, hx343_9, hr⟩ := bind_some hr
                                            refine cut (fun a' k' => Chg noF k0 k' ∧ a'.tmps.size = 96 ∧ a'.defers = [] ∧ a'.get 6 = u311 ∧ IsOwn 0 35 x343_9 (a'.get 6) k' ∧ Lo k0 (obF (a'.get 6)) ∧ True) ?_ hQ ?_
                                            · intro Q345 hQQ345 hp346
                                              refine region (a0 := a) (k0 := k) (n := 96) (m := 9) (⟨some (IsEP u311 (Enc.sz Account) x312_7), [(8, none)]⟩ :: ⟨some (IsPtr x343_1), [(86, some 0)]⟩ :: ⟨some (IsPtr x343_1.Units), [(87, some 1)]⟩ :: ⟨some (IsV x343_1.Units), [(88, some 2)]⟩ :: ⟨some (IsPtr m_.N), [(3, none)]⟩ :: ⟨some (IsV m_.N), [(90, some 4)]⟩ :: ⟨some (IsV x343_6), [(89, some 3), (91, some 5)]⟩ :: ⟨some (IsAdrO (a.get 6) (((x312_7.getD 0)).toNat * Enc.sz Account)), [(86, some 0)]⟩ :: ⟨some (IsAdrO (a.get 6) (((x312_7.getD 0)).toNat * Enc.sz Account + 1)), [(93, some 7)]⟩ :: []) hmix hs (by kernel_rfl) ⟨⟨inferInstance, fun b q hk hn => ok_move rfl (up i8 hk hn.1), rfl⟩, ⟨inferInstance, fun b q hk hn => ok_nilCheckP rfl hn.1 (rdO i6 hk q6) hx343_1, rfl⟩, ⟨inferInstance, fun b q hk hn => ok_fieldAddr rfl fo35_1 (at_Account_1 _) hn.1, rfl⟩, ⟨inferInstance, fun b q hk hn => ok_load rfl ty3 hn.1, rfl⟩, ⟨inferInstance, fun b q hk hn => ok_fieldAddr rfl fo33_3 (at_Move_3 _) ((up i3 hk hn.1)).ptr, rfl⟩, ⟨inferInstance, fun b q hk hn => ok_load rfl ty3 hn.1, rfl⟩, ⟨inferInstance, fun b q hk hn => ok_add rfl hn.1 hn.2.1 hx343_6, rfl⟩, ⟨inferInstance, fun b q hk hn => ok_nilCheckO rfl (by rw [q6]; exact hn.1) (atI_spec hx343_7).1, rfl⟩, ⟨inferInstance, fun b q hk hn => ok_fieldAdrO rfl fo35_1 hn.1, rfl⟩, trivial⟩ hQQ345 fun b q p => ?_
                                              have hgq := hg.then p.grow
                                              have hsb := p.size.trans hs
                                              have hdb := p.defers.trans hd
                                              have j6 := keep p 6 rfl i6
                                              have y6 : Lo k0 (obF (b.get 6)) := by rw [p.old 6 rfl]; exact n6
                                              have j92 : (IsV x343_6) (b.get 92) q := out p 6 92 _ rfl rfl rfl
                                              have j94 : IsAdrO (a.get 6) (((x312_7.getD 0)).toNat * Enc.sz Account + 1) (b.get 94) q := out p 8 94 _ rfl rfl rfl
                                              have qb6 := (p.old 6 rfl).trans q6
                                              have eo : b.get 6 = a.get 6 := p.old 6 rfl
                                              have hns := j6.nshF
                                              refine tail_storeS (i := 9) (u := b.get 6) (m := ((x312_7.getD 0)).toNat) (off := 0 + 1) rfl rfl rfl rfl szf3 upd_F35_1 (by rw [eo]; exact j94) j6 (getI_spec (atI_spec hx343_7).2).2.1 j92 fun q2 hch hz => ?_
                                              replace hgq := hgq.step hch y6.wr
                                              have hle := hch.le hns
                                              replace j92 := Pers.pers hle j92
                                              replace j94 := Pers.pers hle j94
                                              replace j6 := hz
                                              rw [Option.some.inj hx343_9] at j6
                                              clear hns hle hch eo hz
                                              obtain ⟨q, hqq⟩ : ∃ q, q = q2 := ⟨q2, rfl⟩
                                              subst hqq
                                              exact tail_done (k := q) (hp346 _ _ ⟨hgq, hsb, hdb, qb6, j6, y6, trivial⟩)
                                            · rintro a k ⟨hg, hs, hd, q6, i6, n6, _⟩
                                              obtain ⟨kk, sh344, ii6⟩ := i6.give
                                              replace i6 := ii6
                                              replace hg := hg.hand sh344 n6.wr
                                              rw [← sh344.w]
                                              clear sh344
                                              obtain ⟨k, hkk⟩ : ∃ k, k = kk := ⟨kk, rfl⟩
                                              subst hkk
                                              obtain rfl := Option.some.inj hr
                                              exact hp342 _ _ ⟨hg, hs, hd, q6, i6, trivial⟩
                                          · rw [if_neg (by rw [hc348]; decide)] at hr
                                            refine wp_skip ?_
                                            obtain ⟨kk, sh347, ii6⟩ := i6.give
                                            replace i6 := ii6
                                            replace hg := hg.hand sh347 n6.wr
                                            rw [← sh347.w]
                                            clear sh347
                                            obtain ⟨k, hkk⟩ : ∃ k, k = kk := ⟨kk, rfl⟩
                                            subst hkk
                                            obtain rfl := Option.some.inj hr
                                            exact hp342 _ _ ⟨hg, hs, hd, q6, i6, trivial⟩
                                        · clear hs341
                                          rintro a k ⟨hg, hs, hd, q6, i6, _⟩
                                          refine wp_seq ?_
                                          refine cut (fun a' k' => Chg noF k0 k' ∧ a'.tmps.size = 96 ∧ a'.defers = [] ∧ (IsV s341) (a'.get 4) k' ∧ (IsV (α := Int) 0) (a'.get 5) k' ∧ True) ?_ hQ ?_
                                          · intro Q350 hQQ350 hp351
                                            refine regionS (a0 := a) (k0 := k) (n := 96) (m := 3) (⟨some (IsV s341), [(6, none)]⟩ :: ⟨some (IsV s341), [(95, some 0)]⟩ :: ⟨some (IsV (α := Int) 0), []⟩ :: []) hs (by kernel_rfl) ⟨⟨inferInstance, fun b q hk hn => ok_move rfl (up i6 hk hn.1), rfl⟩, ⟨inferInstance, fun b q hk hn => ok_assign rfl hn.1, rfl⟩, ⟨inferInstance, fun b q hk hn => ok_assign rfl (isV_int.2 rfl), rfl⟩, trivial⟩ hQQ350 fun b q p => ?_
                                            have hgq := hg.then p.grow
                                            have hsb := p.size.trans hs
                                            have hdb := p.defers.trans hd
                                            have j4 : (IsV s341) (b.get 4) q := out p 1 4 _ rfl rfl rfl
                                            have j5 : (IsV (α := Int) 0) (b.get 5) q := out p 2 5 _ rfl rfl rfl
                                            exact tail_done (k := q) (hp351 _ _ ⟨hgq, hsb, hdb, j4, j5, trivial⟩)
                                          · rintro a k ⟨hg, hs, hd, i4, i5, _⟩
                                            refine wp_ret ?_
                                            obtain rfl := Option.some.inj hr
                                            exact retC2 rfl hd hg i4 i5
def cRun_L0 (moves : (List Move)) (s400 : (List Account) × Int) : Option (Flow ((List Account) × Int) ((List Account) × Int × Int)) :=
  if (decide (s400.2 < (moves.length : Int))) then
    (getI moves s400.2).bind fun x405_1 =>
    (cDo s400.1 x405_1).bind fun x406_2 =>
    if (x406_2.2 != 0) then
      some (.ret (s400.1, s400.2, x406_2.2))
    else
      (addI s400.2 1).bind fun x412_0 =>
      some (.go (x406_2.1, x412_0))
  else
    some (.ex 0 (s400.1, s400.2))
def cRun (l_ : (List Account)) (moves : (List Move)) : Option ((List Account) × Int × Int) :=
  (cRight l_).bind fun x394_1 =>
  if (!x394_1) then
    some (([] : List Account), 0, 1)
  else
    (clone l_).bind fun x398_1 =>
    (iterL (cRun_L0 moves) (moves.length + 1) (x398_1, 0)).bind fun f427 => match f427 with
      | .go _ => none
      | .ex _ s428 =>
        some (s428.1, (moves.length : Int), 0)
      | .ret r432 => some r432
theorem cRun_ok {k0 : K} {v0 v1 : Value} {l_ : (List Account)} {moves : (List Move)} {r : (List Account) × Int × Int} (i0 : (IsV l_) v0 k0) (i1 : (IsV moves) v1 k0) (hr : cRun l_ moves = some r) :
    Calls Try.prog 10 #[v0, v1] k0.w (Ret k0 (IsTup3 (IsV r.1) (IsV r.2.1) (IsV r.2.2))) := by
  unfold cRun at hr
  refine Ret.ofC ?_
  refine enterK Try.func10 rfl Try.ntmps10 (show 2 ≤ 40 by decide) fun a k hk0 hs hd ha => ?_
  obtain ⟨e0, e1, _⟩ := ha
  replace i0 : (IsV l_) (a.get 0) k := by rw [e0, hk0]; exact i0
  replace i1 : (IsV moves) (a.get 1) k := by rw [e1, hk0]; exact i1
  have hQ : Gb.LetsOut (bodyPost Try.prog Try.f10 (RetC noF k0 (IsTup3 (IsV r.1) (IsV r.2.1) (IsV r.2.2)))) := letsOutC
  have hg : Chg noF k0 k := by rw [hk0]; exact Chg.refl _ k0
  refine wp_seq ?_
  refine cut (fun a' k' => Chg noF k0 k' ∧ a'.tmps.size = 40 ∧ a'.defers = [] ∧ (IsV l_) (a'.get 0) k' ∧ (IsV moves) (a'.get 1) k' ∧ True) ?_ hQ ?_
  · intro Q441 hQQ441 hp442
    refine regionS (a0 := a) (k0 := k) (n := 40) (m := 3) (⟨some IsE0, []⟩ :: ⟨some (IsV (α := Int) 0), []⟩ :: ⟨some (IsV (α := Int) 0), []⟩ :: []) hs (by kernel_rfl) ⟨⟨inferInstance, fun b q hk hn => ok_assign rfl isE0_nil, rfl⟩, ⟨inferInstance, fun b q hk hn => ok_assign rfl (isV_int.2 rfl), rfl⟩, ⟨inferInstance, fun b q hk hn => ok_assign rfl (isV_int.2 rfl), rfl⟩, trivial⟩ hQQ441 fun b q p => ?_
    have hgq := hg.then p.grow
    have hsb := p.size.trans hs
    have hdb := p.defers.trans hd
    have j0 := keep p 0 rfl i0
    have j1 := keep p 1 rfl i1
    exact tail_done (k := q) (hp442 _ _ ⟨hgq, hsb, hdb, j0, j1, trivial⟩)
  · rintro a k ⟨hg, hs, hd, i0, i1, _⟩
    refine wp_seq ?_
    refine wp_seq ?_
    obtain ⟨x394_1, hx394_1, hr⟩ := bind_some hr
    refine cut (fun a' k' => Chg noF k0 k' ∧ a'.tmps.size = 40 ∧ a'.defers = [] ∧ (IsV l_) (a'.get 0) k' ∧ (IsV moves) (a'.get 1) k' ∧ (IsV (!x394_1)) (a'.get 14) k' ∧ True) ?_ hQ ?_
    · intro Q439 hQQ439 hp440
      refine regionS (a0 := a) (k0 := k) (n := 40) (m := 3) (⟨some (IsV l_), [(0, none)]⟩ :: ⟨some (IsV x394_1), [(12, some 0)]⟩ :: ⟨some (IsV (!x394_1)), [(13, some 1)]⟩ :: []) hs (by kernel_rfl) ⟨⟨inferInstance, fun b q hk hn => ok_move rfl (up i0 hk hn.1), rfl⟩, ⟨inferInstance, fun b q hk hn => ok_call rfl Try.call17 (cRight_ok hn.1 hx394_1), rfl⟩, ⟨inferInstance, fun b q hk hn => ok_not rfl hn.1, rfl⟩, trivial⟩ hQQ439 fun b q p => ?_
      have hgq := hg.then p.grow
      have hsb := p.size.trans hs
      have hdb := p.defers.trans hd
      have j0 := keep p 0 rfl i0
      have j1 := keep p 1 rfl i1
      have j14 : (IsV (!x394_1)) (b.get 14) q := out p 2 14 _ rfl rfl rfl
      exact tail_done (k := q) (hp440 _ _ ⟨hgq, hsb, hdb, j0, j1, j14, trivial⟩)
    · rintro a k ⟨hg, hs, hd, i0, i1, i14, _⟩
      refine wp_cond_split (isBool i14) (fun hc438 => ?_) (fun hc438 => ?_)
      · rw [if_pos hc438] at hr
        refine wp_seq ?_
        refine cut (fun a' k' => Chg noF k0 k' ∧ a'.tmps.size = 40 ∧ a'.defers = [] ∧ (IsV ([] : List Account)) (a'.get 4) k' ∧ (IsV (α := Int) 0) (a'.get 5) k' ∧ (IsV (α := Int) 1) (a'.get 6) k' ∧ True) ?_ hQ ?_
        · intro Q396 hQQ396 hp397
          refine regionS (a0 := a) (k0 := k) (n := 40) (m := 3) (⟨some IsE0, []⟩ :: ⟨some (IsV (α := Int) 0), []⟩ :: ⟨some (IsV (α := Int) 1), []⟩ :: []) hs (by kernel_rfl) ⟨⟨inferInstance, fun b q hk hn => ok_assign rfl isE0_nil, rfl⟩, ⟨inferInstance, fun b q hk hn => ok_assign rfl (isV_int.2 rfl), rfl⟩, ⟨inferInstance, fun b q hk hn => ok_assign rfl (isV_int.2 rfl), rfl⟩, trivial⟩ hQQ396 fun b q p => ?_
          have hgq := hg.then p.grow
          have hsb := p.size.trans hs
          have hdb := p.defers.trans hd
          have j4 : IsE0 (b.get 4) q := out p 0 4 _ rfl rfl rfl
          have j5 : (IsV (α := Int) 0) (b.get 5) q := out p 1 5 _ rfl rfl rfl
          have j6 : (IsV (α := Int) 1) (b.get 6) q := out p 2 6 _ rfl rfl rfl
          replace j4 : IsV ([] : List Account) (b.get 4) q := j4.isV
          exact tail_done (k := q) (hp397 _ _ ⟨hgq, hsb, hdb, j4, j5, j6, trivial⟩)
        · rintro a k ⟨hg, hs, hd, i4, i5, i6, _⟩
          refine wp_ret ?_
          obtain rfl := Option.some.inj hr
          exact retC3 rfl hd hg i4 i5 i6
      · rw [if_neg (by rw [hc438]; decide)] at hr
        refine wp_skip ?_
        refine wp_seq ?_
        obtain ⟨x398_1, hx398_1, hr⟩ := bind_some hr
        refine cut (fun a' k' => Chg noF k0 k' ∧ a'.tmps.size = 40 ∧ a'.defers = [] ∧ (IsV moves) (a'.get 1) k' ∧ (IsV x398_1) (a'.get 7) k' ∧ True) ?_ hQ ?_
        · intro Q436 hQQ436 hp437
          refine regionS (a0 := a) (k0 := k) (n := 40) (m := 3) (⟨some (IsV l_), [(0, none)]⟩ :: ⟨some (IsV x398_1), [(15, some 0)]⟩ :: ⟨some (IsV x398_1), [(16, some 1)]⟩ :: []) hs (by kernel_rfl) ⟨⟨inferInstance, fun b q hk hn => ok_move rfl (up i0 hk hn.1), rfl⟩, ⟨inferInstance, fun b q hk hn => ok_call rfl Try.call25 (clone_ok hn.1 hx398_1), rfl⟩, ⟨inferInstance, fun b q hk hn => ok_assign rfl hn.1, rfl⟩, trivial⟩ hQQ436 fun b q p => ?_
          have hgq := hg.then p.grow
          have hsb := p.size.trans hs
          have hdb := p.defers.trans hd
          have j1 := keep p 1 rfl i1
          have j7 : (IsV x398_1) (b.get 7) q := out p 2 7 _ rfl rfl rfl
          exact tail_done (k := q) (hp437 _ _ ⟨hgq, hsb, hdb, j1, j7, trivial⟩)
        · rintro a k ⟨hg, hs, hd, i1, i7, _⟩
          refine wp_seq ?_
          refine wp_seq ?_
          refine cut (fun a' k' => Chg noF k0 k' ∧ a'.tmps.size = 40 ∧ a'.defers = [] ∧ (IsV moves) (a'.get 1) k' ∧ (IsV x398_1) (a'.get 7) k' ∧ (IsV moves) (a'.get 17) k' ∧ (IsV (α := Int) (moves.length : Int)) (a'.get 18) k' ∧ (IsV (α := Int) 0) (a'.get 19) k' ∧ True) ?_ hQ ?_
          · intro Q434 hQQ434 hp435
            refine regionS (a0 := a) (k0 := k) (n := 40) (m := 3) (⟨some (IsV moves), [(1, none)]⟩ :: ⟨some (IsV (α := Int) (moves.length : Int)), [(17, some 0)]⟩ :: ⟨some (IsV (α := Int) 0), []⟩ :: []) hs (by kernel_rfl) ⟨⟨inferInstance, fun b q hk hn => ok_move rfl (up i1 hk hn.1), rfl⟩, ⟨inferInstance, fun b q hk hn => ok_len rfl rfl Try.underlying23 (IsV.rd hn.1), rfl⟩, ⟨inferInstance, fun b q hk hn => ok_move rfl (isV_int.2 rfl), rfl⟩, trivial⟩ hQQ434 fun b q p => ?_
            have hgq := hg.then p.grow
            have hsb := p.size.trans hs
            have hdb := p.defers.trans hd
            have j1 := keep p 1 rfl i1
            have j7 := keep p 7 rfl i7
            have j17 : (IsV moves) (b.get 17) q := out p 0 17 _ rfl rfl rfl
            have j18 : (IsV (α := Int) (moves.length : Int)) (b.get 18) q := out p 1 18 _ rfl rfl rfl
            have j19 : (IsV (α := Int) 0) (b.get 19) q := out p 2 19 _ rfl rfl rfl
            exact tail_done (k := q) (hp435 _ _ ⟨hgq, hsb, hdb, j1, j7, j17, j18, j19, trivial⟩)
          · rintro a k ⟨hg, hs, hd, i1, i7, i17, i18, i19, _⟩
            refine wp_block ?_
            obtain ⟨f427, hf427, hr⟩ := bind_some hr
            refine cutF f427 (fun s' a' k' => Chg noF k0 k' ∧ a'.tmps.size = 40 ∧ a'.defers = [] ∧ (IsV moves) (a'.get 1) k' ∧ (IsV s'.1) (a'.get 7) k' ∧ (IsV moves) (a'.get 17) k' ∧ (IsV (α := Int) (moves.length : Int)) (a'.get 18) k' ∧ (IsV s'.2) (a'.get 19) k' ∧ True) (fun i' s' a' k' => (i' = 0 ∧ Chg noF k0 k' ∧ a'.tmps.size = 40 ∧ a'.defers = [] ∧ (IsV moves) (a'.get 1) k' ∧ (IsV s'.1) (a'.get 7) k' ∧ True)) (fun r' a' k' => bodyPost Try.prog Try.f10 (RetC noF k0 (IsTup3 (IsV r'.1) (IsV r'.2.1) (IsV r'.2.2))) .ret a' k'.w) ?_ hQ ?_ ?_ ?_
            · intro Q433 hQQ433 hgo hex hret
              refine sim_loop ?_ _ _ _ _ _ hf427 ⟨hg, hs, hd, i1, i7, i17, i18, i19, trivial⟩ Q433 hQQ433 hgo hex hret
              clear hr hf427 hgo hex hret hQQ433 hQ hd hg hs i1 i17 i18 i19 i7
              intro s400 fl_ a k hr hS Q hQ hgo401 hex402 hret403
              obtain ⟨hg, hs, hd, i1, i7, i17, i18, i19, _⟩ := hS
              unfold cRun_L0 at hr
              refine wp_seq ?_
              refine cut (fun a' k' => Chg noF k0 k' ∧ a'.tmps.size = 40 ∧ a'.defers = [] ∧ (IsV moves) (a'.get 1) k' ∧ (IsV s400.1) (a'.get 7) k' ∧ (IsV moves) (a'.get 17) k' ∧ (IsV (α := Int) (moves.length : Int)) (a'.get 18) k' ∧ (IsV s400.2) (a'.get 19) k' ∧ (IsV (decide (s400.2 < (moves.length : Int)))) (a'.get 20) k' ∧ True) ?_ hQ ?_
              · intro Q425 hQQ425 hp426
                refine regionS (a0 := a) (k0 := k) (n := 40) (m := 1) (⟨some (IsV (decide (s400.2 < (moves.length : Int)))), [(19, none), (18, none)]⟩ :: []) hs (by kernel_rfl) ⟨⟨inferInstance, fun b q hk hn => ok_lss rfl (up i19 hk hn.1) (up i18 hk hn.2.1), rfl⟩, trivial⟩ hQQ425 fun b q p => ?_
                have hgq := hg.then p.grow
                have hsb := p.size.trans hs
                have hdb := p.defers.trans hd
                have j1 := keep p 1 rfl i1
                have j7 := keep p 7 rfl i7
                have j17 := keep p 17 rfl i17
                have j18 := keep p 18 rfl i18
                have j19 := keep p 19 rfl i19
                have j20 : (IsV (decide (s400.2 < (moves.length : Int)))) (b.get 20) q := out p 0 20 _ rfl rfl rfl
                exact tail_done (k := q) (hp426 _ _ ⟨hgq, hsb, hdb, j1, j7, j17, j18, j19, j20, trivial⟩)
              · rintro a k ⟨hg, hs, hd, i1, i7, i17, i18, i19, i20, _⟩
                refine wp_seq ?_
                refine wp_cond_split (isBool i20) (fun hc424 => ?_) (fun hc424 => ?_)
                · rw [if_pos hc424] at hr
                  refine wp_skip ?_
                  refine wp_seq ?_
                  refine wp_block ?_
                  refine wp_seq ?_
                  obtain ⟨x405_1, hx405_1, hr⟩ := bind_some hr
                  refine cut (fun a' k' => Chg noF k0 k' ∧ a'.tmps.size = 40 ∧ a'.defers = [] ∧ (IsV moves) (a'.get 1) k' ∧ (IsV s400.1) (a'.get 7) k' ∧ (IsV s400.2) (a'.get 8) k' ∧ (IsRef x405_1) (a'.get 9) k' ∧ (IsV moves) (a'.get 17) k' ∧ (IsV (α := Int) (moves.length : Int)) (a'.get 18) k' ∧ (IsV s400.2) (a'.get 19) k' ∧ True) ?_ hQ ?_
                  · intro Q422 hQQ422 hp423
                    refine regionS (a0 := a) (k0 := k) (n := 40) (m := 5) (⟨some (IsV s400.2), [(19, none)]⟩ :: ⟨some (IsPtr x405_1), [(17, none), (19, none)]⟩ :: ⟨some (IsV x405_1), [(22, some 1)]⟩ :: ⟨some (IsBox k.w.heap.size (⟨0, 0, 0, 0⟩ : Move)), []⟩ :: ⟨some (IsV s400.2), [(21, some 0)]⟩ :: []) hs (by kernel_rfl) ⟨⟨inferInstance, fun b q hk hn => ok_move rfl (up i19 hk hn.1), rfl⟩, ⟨inferInstance, fun b q hk hn => ok_indexAddr rfl Try.underlying23 ty33 (IsV.rd (up i17 hk hn.1)) (up i19 hk hn.2.1) hx405_1, rfl⟩, ⟨inferInstance, fun b q hk hn => ok_load rfl ty33 hn.1, rfl⟩, ⟨inferInstance, fun b q hk hn => ok_alloc _ hk.size rfl z33, rfl⟩, ⟨inferInstance, fun b q hk hn => ok_assign rfl hn.1, rfl⟩, trivial⟩ hQQ422 fun b q p => ?_
                    have hgq := hg.then p.grow
                    have hsb := p.size.trans hs
                    have hdb := p.defers.trans hd
                    have j1 := keep p 1 rfl i1
                    have j7 := keep p 7 rfl i7
                    have j8 : (IsV s400.2) (b.get 8) q := out p 4 8 _ rfl rfl rfl
                    obtain ⟨b9, j9, x9, z9⟩ : (IsBox k.w.heap.size (⟨0, 0, 0, 0⟩ : Move)) (b.get 9) q := out p 3 9 _ rfl rfl rfl
                    replace x9 : Lo k (Eq b9) := Lo.eq x9
                    have y9 : Lo k0 (Eq b9) := x9.chg hg
                    have j17 := keep p 17 rfl i17
                    have j18 := keep p 18 rfl i18
                    have j19 := keep p 19 rfl i19
                    have j23 : (IsV x405_1) (b.get 23) q := out p 2 23 _ rfl rfl rfl
                    have hns := z9.nshF
                    refine tail_storeB (i := 5) rfl rfl rfl rfl szf33 (Upd.self (α := Move)) j9 z9 j23 fun q2 hch hz => ?_
                    replace hgq := hgq.step hch y9.wr
                    have hle := hch.le hns
                    replace j1 := Pers.pers hle j1
                    replace j7 := Pers.pers hle j7
                    replace j8 := Pers.pers hle j8
                    replace j17 := Pers.pers hle j17
                    replace j18 := Pers.pers hle j18
                    replace j19 := Pers.pers hle j19
                    replace j23 := Pers.pers hle j23
                    replace z9 := hz
                    clear hns hle hch
                    obtain ⟨q, hqq⟩ : ∃ q, q = q2 := ⟨q2, rfl⟩
                    subst hqq
                    obtain ⟨q2, hsh, jn⟩ := z9.give
                    replace j1 := Pers.pers hsh.le j1
                    replace j7 := Pers.pers hsh.le j7
                    replace j8 := Pers.pers hsh.le j8
                    replace j17 := Pers.pers hsh.le j17
                    replace j18 := Pers.pers hsh.le j18
                    replace j19 := Pers.pers hsh.le j19
                    rw [← j9] at jn
                    replace j9 := jn
                    replace hgq := hgq.hand hsh y9.wr
                    rw [← hsh.w]
                    clear hsh
                    obtain ⟨q, hqq⟩ : ∃ q, q = q2 := ⟨q2, rfl⟩
                    subst hqq
                    exact tail_done (k := q) (hp423 _ _ ⟨hgq, hsb, hdb, j1, j7, j8, j9, j17, j18, j19, trivial⟩)
                  · rintro a k ⟨hg, hs, hd, i1, i7, i8, i9, i17, i18, i19, _⟩
                    refine wp_seq ?_
                    obtain ⟨x406_2, hx406_2, hr⟩ := bind_some hr
                    refine cut (fun a' k' => Chg noF k0 k' ∧ a'.tmps.size = 40 ∧ a'.defers = [] ∧ (IsV moves) (a'.get 1) k' ∧ (IsV s400.1) (a'.get 7) k' ∧ (IsV s400.2) (a'.get 8) k' ∧ (IsV x406_2.1) (a'.get 10) k' ∧ (IsV x406_2.2) (a'.get 11) k' ∧ (IsV moves) (a'.get 17) k' ∧ (IsV (α := Int) (moves.length : Int)) (a'.get 18) k' ∧ (IsV s400.2) (a'.get 19) k' ∧ True) ?_ hQ ?_
                    · intro Q420 hQQ420 hp421
                      refine regionS (a0 := a) (k0 := k) (n := 40) (m := 8) (⟨some (IsV s400.1), [(7, none)]⟩ :: ⟨some (IsV x405_1), [(9, none)]⟩ :: ⟨some (IsTup2 (IsV x406_2.1) (IsV x406_2.2)), [(25, some 0), (26, some 1)]⟩ :: ⟨some (IsTup2 (IsV x406_2.1) (IsV x406_2.2)), [(27, some 2)]⟩ :: ⟨some (IsV x406_2.1), [(24, some 3)]⟩ :: ⟨some (IsV x406_2.2), [(24, some 3)]⟩ :: ⟨some (IsV x406_2.1), [(28, some 4)]⟩ :: ⟨some (IsV x406_2.2), [(29, some 5)]⟩ :: []) hs (by kernel_rfl) ⟨⟨inferInstance, fun b q hk hn => ok_move rfl (up i7 hk hn.1), rfl⟩, ⟨inferInstance, fun b q hk hn => ok_load rfl ty33 ((up i9 hk hn.1)).ptr, rfl⟩, ⟨inferInstance, fun b q hk hn => ok_call rfl Try.call13 (cDo_ok hn.1 hn.2.1 hx406_2), rfl⟩, ⟨inferInstance, fun b q hk hn => ok_move rfl hn.1, rfl⟩, ⟨inferInstance, fun b q hk hn => ok_ext2_0 rfl hn.1, rfl⟩, ⟨inferInstance, fun b q hk hn => ok_ext2_1 rfl hn.1, rfl⟩, ⟨inferInstance, fun b q hk hn => ok_assign rfl hn.1, rfl⟩, ⟨inferInstance, fun b q hk hn => ok_assign rfl hn.1, rfl⟩, trivial⟩ hQQ420 fun b q p => ?_
                      have hgq := hg.then p.grow
                      have hsb := p.size.trans hs
                      have hdb := p.defers.trans hd
                      have j1 := keep p 1 rfl i1
                      have j7 := keep p 7 rfl i7
                      have j8 := keep p 8 rfl i8
                      have j10 : (IsV x406_2.1) (b.get 10) q := out p 6 10 _ rfl rfl rfl
                      have j11 : (IsV x406_2.2) (b.get 11) q := out p 7 11 _ rfl rfl rfl
                      have j17 := keep p 17 rfl i17
                      have j18 := keep p 18 rfl i18
                      have j19 := keep p 19 rfl i19
                      exact tail_done (k := q) (hp421 _ _ ⟨hgq, hsb, hdb, j1, j7, j8, j10, j11, j17, j18, j19, trivial⟩)
                    · rintro a k ⟨hg, hs, hd, i1, i7, i8, i10, i11, i17, i18, i19, _⟩
                      refine wp_seq ?_
                      refine wp_seq ?_
                      refine cut (fun a' k' => Chg noF k0 k' ∧ a'.tmps.size = 40 ∧ a'.defers = [] ∧ (IsV moves) (a'.get 1) k' ∧ (IsV s400.1) (a'.get 7) k' ∧ (IsV s400.2) (a'.get 8) k' ∧ (IsV x406_2.1) (a'.get 10) k' ∧ (IsV x406_2.2) (a'.get 11) k' ∧ (IsV moves) (a'.get 17) k' ∧ (IsV (α := Int) (moves.length : Int)) (a'.get 18) k' ∧ (IsV s400.2) (a'.get 19) k' ∧ (IsV (x406_2.2 != 0)) (a'.get 31) k' ∧ True) ?_ hQ ?_
                      · intro Q418 hQQ418 hp419
                        refine regionS (a0 := a) (k0 := k) (n := 40) (m := 2) (⟨some (IsV x406_2.2), [(11, none)]⟩ :: ⟨some (IsV (x406_2.2 != 0)), [(30, some 0)]⟩ :: []) hs (by kernel_rfl) ⟨⟨inferInstance, fun b q hk hn => ok_move rfl (up i11 hk hn.1), rfl⟩, ⟨inferInstance, fun b q hk hn => ok_neI rfl hn.1 (isV_int.2 rfl), rfl⟩, trivial⟩ hQQ418 fun b q p => ?_
                        have hgq := hg.then p.grow
                        have hsb := p.size.trans hs
                        have hdb := p.defers.trans hd
                        have j1 := keep p 1 rfl i1
                        have j7 := keep p 7 rfl i7
                        have j8 := keep p 8 rfl i8
                        have j10 := keep p 10 rfl i10
                        have j11 := keep p 11 rfl i11
                        have j17 := keep p 17 rfl i17
                        have j18 := keep p 18 rfl i18
                        have j19 := keep p 19 rfl i19
                        have j31 : (IsV (x406_2.2 != 0)) (b.get 31) q := out p 1 31 _ rfl rfl rfl
                        exact tail_done (k := q) (hp419 _ _ ⟨hgq, hsb, hdb, j1, j7, j8, j10, j11, j17, j18, j19, j31, trivial⟩)
                      · rintro a k ⟨hg, hs, hd, i1, i7, i8, i10, i11, i17, i18, i19, i31, _⟩
                        refine wp_cond_split (isBool i31) (fun hc417 => ?_) (fun hc417 => ?_)
                        · rw [if_pos hc417] at hr
                          refine wp_seq ?_
                          refine cut (fun a' k' => Chg noF k0 k' ∧ a'.tmps.size = 40 ∧ a'.defers = [] ∧ (IsV s400.1) (a'.get 4) k' ∧ (IsV s400.2) (a'.get 5) k' ∧ (IsV x406_2.2) (a'.get 6) k' ∧ True) ?_ hQ ?_
                          · intro Q409 hQQ409 hp410
                            refine regionS (a0 := a) (k0 := k) (n := 40) (m := 6) (⟨some (IsV s400.1), [(7, none)]⟩ :: ⟨some (IsV s400.2), [(8, none)]⟩ :: ⟨some (IsV x406_2.2), [(11, none)]⟩ :: ⟨some (IsV s400.1), [(32, some 0)]⟩ :: ⟨some (IsV s400.2), [(33, some 1)]⟩ :: ⟨some (IsV x406_2.2), [(34, some 2)]⟩ :: []) hs (by kernel_rfl) ⟨⟨inferInstance, fun b q hk hn => ok_move rfl (up i7 hk hn.1), rfl⟩, ⟨inferInstance, fun b q hk hn => ok_move rfl (up i8 hk hn.1), rfl⟩, ⟨inferInstance, fun b q hk hn => ok_move rfl (up i11 hk hn.1), rfl⟩, ⟨inferInstance, fun b q hk hn => ok_assign rfl hn.1, rfl⟩, ⟨inferInstance, fun b q hk hn => ok_assign rfl hn.1, rfl⟩, ⟨inferInstance, fun b q hk hn => ok_assign rfl hn.1, rfl⟩, trivial⟩ hQQ409 fun b q p => ?_
                            have hgq := hg.then p.grow
                            have hsb := p.size.trans hs
                            have hdb := p.defers.trans hd
                            have j4 : (IsV s400.1) (b.get 4) q := out p 3 4 _ rfl rfl rfl
                            have j5 : (IsV s400.2) (b.get 5) q := out p 4 5 _ rfl rfl rfl
                            have j6 : (IsV x406_2.2) (b.get 6) q := out p 5 6 _ rfl rfl rfl
                            exact tail_done (k := q) (hp410 _ _ ⟨hgq, hsb, hdb, j4, j5, j6, trivial⟩)
                          · rintro a k ⟨hg, hs, hd, i4, i5, i6, _⟩
                            refine wp_ret ?_
                            exact hret403 _ _ _ (Option.some.inj hr).symm (retC3 rfl hd hg i4 i5 i6)
                        · rw [if_neg (by rw [hc417]; decide)] at hr
                          refine wp_skip ?_
                          refine cut (fun a' k' => Chg noF k0 k' ∧ a'.tmps.size = 40 ∧ a'.defers = [] ∧ (IsV moves) (a'.get 1) k' ∧ (IsV x406_2.1) (a'.get 7) k' ∧ (IsV moves) (a'.get 17) k' ∧ (IsV (α := Int) (moves.length : Int)) (a'.get 18) k' ∧ (IsV s400.2) (a'.get 19) k' ∧ True) ?_ hQ ?_
                          · intro Q415 hQQ415 hp416
                            refine regionS (a0 := a) (k0 := k) (n := 40) (m := 2) (⟨some (IsV x406_2.1), [(10, none)]⟩ :: ⟨some (IsV x406_2.1), [(35, some 0)]⟩ :: []) hs (by kernel_rfl) ⟨⟨inferInstance, fun b q hk hn => ok_move rfl (up i10 hk hn.1), rfl⟩, ⟨inferInstance, fun b q hk hn => ok_assign rfl hn.1, rfl⟩, trivial⟩ hQQ415 fun b q p => ?_
                            have hgq := hg.then p.grow
                            have hsb := p.size.trans hs
                            have hdb := p.defers.trans hd
                            have j1 := keep p 1 rfl i1
                            have j7 : (IsV x406_2.1) (b.get 7) q := out p 1 7 _ rfl rfl rfl
                            have j17 := keep p 17 rfl i17
                            have j18 := keep p 18 rfl i18
                            have j19 := keep p 19 rfl i19
                            exact tail_done (k := q) (hp416 _ _ ⟨hgq, hsb, hdb, j1, j7, j17, j18, j19, trivial⟩)
                          · rintro a k ⟨hg, hs, hd, i1, i7, i17, i18, i19, _⟩
                            obtain ⟨x412_0, hx412_0, hr⟩ := bind_some hr
                            refine cut (fun a' k' => Chg noF k0 k' ∧ a'.tmps.size = 40 ∧ a'.defers = [] ∧ (IsV moves) (a'.get 1) k' ∧ (IsV x406_2.1) (a'.get 7) k' ∧ (IsV moves) (a'.get 17) k' ∧ (IsV (α := Int) (moves.length : Int)) (a'.get 18) k' ∧ (IsV x412_0) (a'.get 19) k' ∧ True) ?_ hQ ?_
                            · intro Q413 hQQ413 hp414
                              refine regionS (a0 := a) (k0 := k) (n := 40) (m := 2) (⟨some (IsV x412_0), [(19, none)]⟩ :: ⟨some (IsV x412_0), [(36, some 0)]⟩ :: []) hs (by kernel_rfl) ⟨⟨inferInstance, fun b q hk hn => ok_add rfl (up i19 hk hn.1) (isV_int.2 rfl) hx412_0, rfl⟩, ⟨inferInstance, fun b q hk hn => ok_move rfl hn.1, rfl⟩, trivial⟩ hQQ413 fun b q p => ?_
                              have hgq := hg.then p.grow
                              have hsb := p.size.trans hs
                              have hdb := p.defers.trans hd
                              have j1 := keep p 1 rfl i1
                              have j7 := keep p 7 rfl i7
                              have j17 := keep p 17 rfl i17
                              have j18 := keep p 18 rfl i18
                              have j19 : (IsV x412_0) (b.get 19) q := out p 1 19 _ rfl rfl rfl
                              exact tail_done (k := q) (hp414 _ _ ⟨hgq, hsb, hdb, j1, j7, j17, j18, j19, trivial⟩)
                            · rintro a k ⟨hg, hs, hd, i1, i7, i17, i18, i19, _⟩
                              exact hgo401 _ _ _ (Option.some.inj hr).symm ⟨hg, hs, hd, i1, i7, i17, i18, i19, trivial⟩
                · rw [if_neg (by rw [hc424]; decide)] at hr
                  refine wp_exit ?_
                  exact hex402 _ _ _ _ (Option.some.inj hr).symm ⟨rfl, hg, hs, hd, i1, i7, trivial⟩
            · rintro _ _ _ rfl _
              simp at hr
            · clear hf427
              rintro _ s428 a k rfl ⟨rfl, hg, hs, hd, i1, i7, _⟩
              dsimp only at hr
              refine wp_seq ?_
              refine cut (fun a' k' => Chg noF k0 k' ∧ a'.tmps.size = 40 ∧ a'.defers = [] ∧ (IsV s428.1) (a'.get 4) k' ∧ (IsV (α := Int) (moves.length : Int)) (a'.get 5) k' ∧ (IsV (α := Int) 0) (a'.get 6) k' ∧ True) ?_ hQ ?_
              · intro Q430 hQQ430 hp431
                refine regionS (a0 := a) (k0 := k) (n := 40) (m := 6) (⟨some (IsV s428.1), [(7, none)]⟩ :: ⟨some (IsV moves), [(1, none)]⟩ :: ⟨some (IsV (α := Int) (moves.length : Int)), [(38, some 1)]⟩ :: ⟨some (IsV s428.1), [(37, some 0)]⟩ :: ⟨some (IsV (α := Int) (moves.length : Int)), [(39, some 2)]⟩ :: ⟨some (IsV (α := Int) 0), []⟩ :: []) hs (by kernel_rfl) ⟨⟨inferInstance, fun b q hk hn => ok_move rfl (up i7 hk hn.1), rfl⟩, ⟨inferInstance, fun b q hk hn => ok_move rfl (up i1 hk hn.1), rfl⟩, ⟨inferInstance, fun b q hk hn => ok_len rfl rfl Try.underlying23 (IsV.rd hn.1), rfl⟩, ⟨inferInstance, fun b q hk hn => ok_assign rfl hn.1, rfl⟩, ⟨inferInstance, fun b q hk hn => ok_assign rfl hn.1, rfl⟩, ⟨inferInstance, fun b q hk hn => ok_assign rfl (isV_int.2 rfl), rfl⟩, trivial⟩ hQQ430 fun b q p => ?_
                have hgq := hg.then p.grow
                have hsb := p.size.trans hs
                have hdb := p.defers.trans hd
                have j4 : (IsV s428.1) (b.get 4) q := out p 3 4 _ rfl rfl rfl
                have j5 : (IsV (α := Int) (moves.length : Int)) (b.get 5) q := out p 4 5 _ rfl rfl rfl
                have j6 : (IsV (α := Int) 0) (b.get 6) q := out p 5 6 _ rfl rfl rfl
                exact tail_done (k := q) (hp431 _ _ ⟨hgq, hsb, hdb, j4, j5, j6, trivial⟩)
              · rintro a k ⟨hg, hs, hd, i4, i5, i6, _⟩
                refine wp_ret ?_
                obtain rfl := Option.some.inj hr
                exact retC3 rfl hd hg i4 i5 i6
            · rintro r432 a k rfl hR
              dsimp only at hr
              obtain rfl := Option.some.inj hr
              exact hR
def cTrace_L0 (l_ : (List Account)) (s451 : (GMap Int (List (Int × Int))) × Int) : Option (Flow ((GMap Int (List (Int × Int))) × Int) ((List (Int × Int)) × Int)) :=
  if (decide (s451.2 < (l_.length : Int))) then
    (getI l_ s451.2).bind fun x456_0 =>
    (cPut s451.1 x456_0.Lot x456_0.Lot x456_0.Units).bind fun x457_7 =>
    (addI s451.2 1).bind fun x458_0 =>
    some (.go (x457_7, x458_0))
  else
    some (.ex 0 (s451.1, s451.2))
def cTrace_L1 (moves : (List Move)) (s471 : (GMap Int (List (Int × Int))) × Int) : Option (Flow ((GMap Int (List (Int × Int))) × Int) ((List (Int × Int)) × Int)) :=
  if (decide (s471.2 < (moves.length : Int))) then
    (getI moves s471.2).bind fun x476_0 =>
    (if (x476_0.Kind == 0) then
      (cPut s471.1 x476_0.To x476_0.To x476_0.N).bind fun x481_7 =>
      some x481_7
    else
      (if (x476_0.Kind == 1) then
        (cTake s471.1 x476_0.From x476_0.To x476_0.N).bind fun x487_7 =>
        some x487_7
      else
        (if (x476_0.Kind == 2) then
          (cTake s471.1 x476_0.From 0 x476_0.N).bind fun x493_5 =>
          some x493_5
        else
          (if (x476_0.Kind == 3) then
            (cTake s471.1 x476_0.From (-1) x476_0.N).bind fun x499_5 =>
            some x499_5
          else
            some s471.1).bind fun s497 =>
          some s497).bind fun s491 =>
        some s491).bind fun s485 =>
      some s485).bind fun s479 =>
    (addI s471.2 1).bind fun x515_0 =>
    some (.go (s479, x515_0))
  else
    some (.ex 2 (s471.1, s471.2))
def cTrace (l_ : (List Account)) (moves : (List Move)) (lot : Int) : Option ((List (Int × Int)) × Int) :=
  (cRun l_ moves).bind fun x444_2 =>
  if (x444_2.2.2 != 0) then
    some (([] : List (Int × Int)), x444_2.2.2)
  else
    (iterL (cTrace_L0 l_) (l_.length + 1) ((⟨[]⟩ : (GMap Int (List (Int × Int)))), 0)).bind fun f468 => match f468 with
      | .go _ => none
      | .ex _ s469 =>
        (iterL (cTrace_L1 moves) (moves.length + 1) (s469.1, 0)).bind fun f529 => match f529 with
          | .go _ => none
          | .ex _ s530 =>
            some ((((s530.1).get lot).getD ([])), 0)
          | .ret r534 => some r534
      | .ret r538 => some r538
theorem cTrace_ok {k0 : K} {v0 v1 v2 : Value} {l_ : (List Account)} {moves : (List Move)} {lot : Int} {r : (List (Int × Int)) × Int} (i0 : (IsV l_) v0 k0) (i1 : (IsV moves) v1 k0) (i2 : (IsV lot) v2 k0) (hr : cTrace l_ moves lot = some r) :
    Calls Try.prog 11 #[v0, v1, v2] k0.w (Ret k0 (IsTup2 (IsV r.1) (IsV r.2))) := by
  unfold cTrace at hr
  refine Ret.ofC ?_
  refine enterK Try.func11 rfl Try.ntmps11 (show 3 ≤ 90 by decide) fun a k hk0 hs hd ha => ?_
  obtain ⟨e0, e1, e2, _⟩ := ha
  replace i0 : (IsV l_) (a.get 0) k := by rw [e0, hk0]; exact i0
  replace i1 : (IsV moves) (a.get 1) k := by rw [e1, hk0]; exact i1
  replace i2 : (IsV lot) (a.get 2) k := by rw [e2, hk0]; exact i2
  have hQ : Gb.LetsOut (bodyPost Try.prog Try.f11 (RetC noF k0 (IsTup2 (IsV r.1) (IsV r.2)))) := letsOutC
  have hg : Chg noF k0 k := by rw [hk0]; exact Chg.refl _ k0
  refine wp_seq ?_
  refine cut (fun a' k' => Chg noF k0 k' ∧ a'.tmps.size = 90 ∧ a'.defers = [] ∧ (IsV l_) (a'.get 0) k' ∧ (IsV moves) (a'.get 1) k' ∧ (IsV lot) (a'.get 2) k' ∧ True) ?_ hQ ?_
  · intro Q549 hQQ549 hp550
    refine regionS (a0 := a) (k0 := k) (n := 90) (m := 2) (⟨some IsE0, []⟩ :: ⟨some (IsV (α := Int) 0), []⟩ :: []) hs (by kernel_rfl) ⟨⟨inferInstance, fun b q hk hn => ok_assign rfl isE0_nil, rfl⟩, ⟨inferInstance, fun b q hk hn => ok_assign rfl (isV_int.2 rfl), rfl⟩, trivial⟩ hQQ549 fun b q p => ?_
    have hgq := hg.then p.grow
    have hsb := p.size.trans hs
    have hdb := p.defers.trans hd
    have j0 := keep p 0 rfl i0
    have j1 := keep p 1 rfl i1
    have j2 := keep p 2 rfl i2
    exact tail_done (k := q) (hp550 _ _ ⟨hgq, hsb, hdb, j0, j1, j2, trivial⟩)
  · rintro a k ⟨hg, hs, hd, i0, i1, i2, _⟩
    refine wp_seq ?_
    refine wp_seq ?_
    obtain ⟨x444_2, hx444_2, hr⟩ := bind_some hr
    refine cut (fun a' k' => Chg noF k0 k' ∧ a'.tmps.size = 90 ∧ a'.defers = [] ∧ (IsV l_) (a'.get 0) k' ∧ (IsV moves) (a'.get 1) k' ∧ (IsV lot) (a'.get 2) k' ∧ (IsV x444_2.2.2) (a'.get 10) k' ∧ True) ?_ hQ ?_
    · intro Q547 hQQ547 hp548
      refine regionS (a0 := a) (k0 := k) (n := 90) (m := 10) (⟨some (IsV l_), [(0, none)]⟩ :: ⟨some (IsV moves), [(1, none)]⟩ :: ⟨some (IsTup3 (IsV x444_2.1) (IsV x444_2.2.1) (IsV x444_2.2.2)), [(17, some 0), (18, some 1)]⟩ :: ⟨some (IsTup3 (IsV x444_2.1) (IsV x444_2.2.1) (IsV x444_2.2.2)), [(19, some 2)]⟩ :: ⟨some (IsV x444_2.1), [(16, some 3)]⟩ :: ⟨some (IsV x444_2.2.1), [(16, some 3)]⟩ :: ⟨some (IsV x444_2.2.2), [(16, some 3)]⟩ :: ⟨some (IsV x444_2.1), [(20, some 4)]⟩ :: ⟨some (IsV x444_2.2.1), [(21, some 5)]⟩ :: ⟨some (IsV x444_2.2.2), [(22, some 6)]⟩ :: []) hs (by kernel_rfl) ⟨⟨inferInstance, fun b q hk hn => ok_move rfl (up i0 hk hn.1), rfl⟩, ⟨inferInstance, fun b q hk hn => ok_move rfl (up i1 hk hn.1), rfl⟩, ⟨inferInstance, fun b q hk hn => ok_call rfl Try.call10 (cRun_ok hn.1 hn.2.1 hx444_2), rfl⟩, ⟨inferInstance, fun b q hk hn => ok_move rfl hn.1, rfl⟩, ⟨inferInstance, fun b q hk hn => ok_ext3_0 rfl hn.1, rfl⟩, ⟨inferInstance, fun b q hk hn => ok_ext3_1 rfl hn.1, rfl⟩, ⟨inferInstance, fun b q hk hn => ok_ext3_2 rfl hn.1, rfl⟩, ⟨inferInstance, fun b q hk hn => ok_assign rfl hn.1, rfl⟩, ⟨inferInstance, fun b q hk hn => ok_assign rfl hn.1, rfl⟩, ⟨inferInstance, fun b q hk hn => ok_assign rfl hn.1, rfl⟩, trivial⟩ hQQ547 fun b q p => ?_
      have hgq := hg.then p.grow
      have hsb := p.size.trans hs
      have hdb := p.defers.trans hd
      have j0 := keep p 0 rfl i0
      have j1 := keep p 1 rfl i1
      have j2 := keep p 2 rfl i2
      have j10 : (IsV x444_2.2.2) (b.get 10) q := out p 9 10 _ rfl rfl rfl
      exact tail_done (k := q) (hp548 _ _ ⟨hgq, hsb, hdb, j0, j1, j2, j10, trivial⟩)
    · rintro a k ⟨hg, hs, hd, i0, i1, i2, i10, _⟩
      refine wp_seq ?_
      refine cut (fun a' k' => Chg noF k0 k' ∧ a'.tmps.size = 90 ∧ a'.defers = [] ∧ (IsV l_) (a'.get 0) k' ∧ (IsV moves) (a'.get 1) k' ∧ (IsV lot) (a'.get 2) k' ∧ (IsV x444_2.2.2) (a'.get 10) k' ∧ (IsV (x444_2.2.2 != 0)) (a'.get 24) k' ∧ True) ?_ hQ ?_
      · intro Q545 hQQ545 hp546
        refine regionS (a0 := a) (k0 := k) (n := 90) (m := 2) (⟨some (IsV x444_2.2.2), [(10, none)]⟩ :: ⟨some (IsV (x444_2.2.2 != 0)), [(23, some 0)]⟩ :: []) hs (by kernel_rfl) ⟨⟨inferInstance, fun b q hk hn => ok_move rfl (up i10 hk hn.1), rfl⟩, ⟨inferInstance, fun b q hk hn => ok_neI rfl hn.1 (isV_int.2 rfl), rfl⟩, trivial⟩ hQQ545 fun b q p => ?_
        have hgq := hg.then p.grow
        have hsb := p.size.trans hs
        have hdb := p.defers.trans hd
        have j0 := keep p 0 rfl i0
        have j1 := keep p 1 rfl i1
        have j2 := keep p 2 rfl i2
        have j10 := keep p 10 rfl i10
        have j24 : (IsV (x444_2.2.2 != 0)) (b.get 24) q := out p 1 24 _ rfl rfl rfl
        exact tail_done (k := q) (hp546 _ _ ⟨hgq, hsb, hdb, j0, j1, j2, j10, j24, trivial⟩)
      · rintro a k ⟨hg, hs, hd, i0, i1, i2, i10, i24, _⟩
        refine wp_cond_split (isBool i24) (fun hc544 => ?_) (fun hc544 => ?_)
        · rw [if_pos hc544] at hr
          refine wp_seq ?_
          refine cut (fun a' k' => Chg noF k0 k' ∧ a'.tmps.size = 90 ∧ a'.defers = [] ∧ (IsV ([] : List (Int × Int))) (a'.get 6) k' ∧ (IsV x444_2.2.2) (a'.get 7) k' ∧ True) ?_ hQ ?_
          · intro Q447 hQQ447 hp448
            refine regionS (a0 := a) (k0 := k) (n := 90) (m := 3) (⟨some (IsV x444_2.2.2), [(10, none)]⟩ :: ⟨some IsE0, []⟩ :: ⟨some (IsV x444_2.2.2), [(25, some 0)]⟩ :: []) hs (by kernel_rfl) ⟨⟨inferInstance, fun b q hk hn => ok_move rfl (up i10 hk hn.1), rfl⟩, ⟨inferInstance, fun b q hk hn => ok_assign rfl isE0_nil, rfl⟩, ⟨inferInstance, fun b q hk hn => ok_assign rfl hn.1, rfl⟩, trivial⟩ hQQ447 fun b q p => ?_
            have hgq := hg.then p.grow
            have hsb := p.size.trans hs
            have hdb := p.defers.trans hd
            have j6 : IsE0 (b.get 6) q := out p 1 6 _ rfl rfl rfl
            have j7 : (IsV x444_2.2.2) (b.get 7) q := out p 2 7 _ rfl rfl rfl
            replace j6 : IsV ([] : List (Int × Int)) (b.get 6) q := j6.isV
            exact tail_done (k := q) (hp448 _ _ ⟨hgq, hsb, hdb, j6, j7, trivial⟩)
          · rintro a k ⟨hg, hs, hd, i6, i7, _⟩
            refine wp_ret ?_
            obtain rfl := Option.some.inj hr
            exact retC2 rfl hd hg i6 i7
        · rw [if_neg (by rw [hc544]; decide)] at hr
          refine wp_skip ?_
          refine wp_seq ?_
          refine cut (fun a' k' => ∃ F11, Chg noF k0 k' ∧ a'.tmps.size = 90 ∧ a'.defers = [] ∧ (IsV l_) (a'.get 0) k' ∧ (IsV moves) (a'.get 1) k' ∧ (IsV lot) (a'.get 2) k' ∧ (SlR (KeyV.kv (κ := Int)) 37 ((⟨[]⟩ : (GMap Int (List (Int × Int))))).l) F11 (a'.get 11) k' ∧ Lo k0 F11 ∧ True) ?_ hQ ?_
          · intro Q542 hQQ542 hp543
            refine regionS (a0 := a) (k0 := k) (n := 90) (m := 2) (⟨some (IsNewMap (KeyV.kv (κ := Int)) k.w.heap.size), []⟩ :: ⟨some (IsNewMap (KeyV.kv (κ := Int)) k.w.heap.size), [(26, some 0)]⟩ :: []) hs (by kernel_rfl) ⟨⟨inferInstance, fun b q hk hn => ok_makeMap hk.size rfl, rfl⟩, ⟨inferInstance, fun b q hk hn => ok_assign rfl hn.1, rfl⟩, trivial⟩ hQQ542 fun b q p => ?_
            have hgq := hg.then p.grow
            have hsb := p.size.trans hs
            have hdb := p.defers.trans hd
            have j0 := keep p 0 rfl i0
            have j1 := keep p 1 rfl i1
            have j2 := keep p 2 rfl i2
            obtain ⟨F11, j11, x11⟩ : ∃ F, (SlR (KeyV.kv (κ := Int)) 37 ((⟨[]⟩ : (GMap Int (List (Int × Int))))).l) F (b.get 11) q ∧ Lo k F := SlR.new (out p 1 11 _ rfl rfl rfl)
            have y11 : Lo k0 F11 := x11.chg hg
            exact tail_done (k := q) (hp543 _ _ ⟨F11, hgq, hsb, hdb, j0, j1, j2, j11, y11, trivial⟩)
          · rintro a k ⟨F11, hg, hs, hd, i0, i1, i2, i11, n11, _⟩
            refine wp_seq ?_
            refine wp_seq ?_
            refine cut (fun a' k' => ∃ F11, Chg noF k0 k' ∧ a'.tmps.size = 90 ∧ a'.defers = [] ∧ (IsV moves) (a'.get 1) k' ∧ (IsV lot) (a'.get 2) k' ∧ (SlR (KeyV.kv (κ := Int)) 37 ((⟨[]⟩ : (GMap Int (List (Int × Int))))).l) F11 (a'.get 11) k' ∧ Lo k0 F11 ∧ (IsV l_) (a'.get 27) k' ∧ (IsV (α := Int) (l_.length : Int)) (a'.get 28) k' ∧ (IsV (α := Int) 0) (a'.get 29) k' ∧ True) ?_ hQ ?_
            · intro Q540 hQQ540 hp541
              refine regionS (a0 := a) (k0 := k) (n := 90) (m := 3) (⟨some (IsV l_), [(0, none)]⟩ :: ⟨some (IsV (α := Int) (l_.length : Int)), [(27, some 0)]⟩ :: ⟨some (IsV (α := Int) 0), []⟩ :: []) hs (by kernel_rfl) ⟨⟨inferInstance, fun b q hk hn => ok_move rfl (up i0 hk hn.1), rfl⟩, ⟨inferInstance, fun b q hk hn => ok_len rfl rfl Try.underlying22 (IsV.rd hn.1), rfl⟩, ⟨inferInstance, fun b q hk hn => ok_move rfl (isV_int.2 rfl), rfl⟩, trivial⟩ hQQ540 fun b q p => ?_
              have hgq := hg.then p.grow
              have hsb := p.size.trans hs
              have hdb := p.defers.trans hd
              have j1 := keep p 1 rfl i1
              have j2 := keep p 2 rfl i2
              have j11 : (SlR (KeyV.kv (κ := Int)) 37 ((⟨[]⟩ : (GMap Int (List (Int × Int))))).l) F11 (b.get 11) q := keep p 11 rfl i11
              have y11 := n11
              have j27 : (IsV l_) (b.get 27) q := out p 0 27 _ rfl rfl rfl
              have j28 : (IsV (α := Int) (l_.length : Int)) (b.get 28) q := out p 1 28 _ rfl rfl rfl
              have j29 : (IsV (α := Int) 0) (b.get 29) q := out p 2 29 _ rfl rfl rfl
              exact tail_done (k := q) (hp541 _ _ ⟨F11, hgq, hsb, hdb, j1, j2, j11, y11, j27, j28, j29, trivial⟩)
            · rintro a k ⟨F11, hg, hs, hd, i1, i2, i11, n11, i27, i28, i29, _⟩
              refine wp_block ?_
              obtain ⟨f468, hf468, hr⟩ := bind_some hr
              refine cutF f468 (fun s' a' k' => ∃ F11, Chg noF k0 k' ∧ a'.tmps.size = 90 ∧ a'.defers = [] ∧ (IsV moves) (a'.get 1) k' ∧ (IsV lot) (a'.get 2) k' ∧ (SlR (KeyV.kv (κ := Int)) 37 (s'.1).l) F11 (a'.get 11) k' ∧ Lo k0 F11 ∧ (IsV l_) (a'.get 27) k' ∧ (IsV (α := Int) (l_.length : Int)) (a'.get 28) k' ∧ (IsV s'.2) (a'.get 29) k' ∧ True) (fun i' s' a' k' => (i' = 0 ∧ ∃ F11, Chg noF k0 k' ∧ a'.tmps.size = 90 ∧ a'.defers = [] ∧ (IsV moves) (a'.get 1) k' ∧ (IsV lot) (a'.get 2) k' ∧ (SlR (KeyV.kv (κ := Int)) 37 (s'.1).l) F11 (a'.get 11) k' ∧ Lo k0 F11 ∧ True)) (fun r' a' k' => bodyPost Try.prog Try.f11 (RetC noF k0 (IsTup2 (IsV r'.1) (IsV r'.2))) .ret a' k'.w) ?_ hQ ?_ ?_ ?_
              · intro Q539 hQQ539 hgo hex hret
                refine sim_loop ?_ _ _ _ _ _ hf468 ⟨F11, hg, hs, hd, i1, i2, i11, n11, i27, i28, i29, trivial⟩ Q539 hQQ539 hgo hex hret
                clear hr hf468 hgo hex hret hQQ539 hQ F11 hd hg hs i1 i11 i2 i27 i28 i29 n11
                intro s451 fl_ a k hr hS Q hQ hgo452 hex453 hret454
                obtain ⟨F11, hg, hs, hd, i1, i2, i11, n11, i27, i28, i29, _⟩ := hS
                unfold cTrace_L0 at hr
                refine wp_seq ?_
                refine cut (fun a' k' => ∃ F11, Chg noF k0 k' ∧ a'.tmps.size = 90 ∧ a'.defers = [] ∧ (IsV moves) (a'.get 1) k' ∧ (IsV lot) (a'.get 2) k' ∧ (SlR (KeyV.kv (κ := Int)) 37 (s451.1).l) F11 (a'.get 11) k' ∧ Lo k0 F11 ∧ (IsV l_) (a'.get 27) k' ∧ (IsV (α := Int) (l_.length : Int)) (a'.get 28) k' ∧ (IsV s451.2) (a'.get 29) k' ∧ (IsV (decide (s451.2 < (l_.length : Int)))) (a'.get 30) k' ∧ True) ?_ hQ ?_
                · intro Q466 hQQ466 hp467
                  refine regionS (a0 := a) (k0 := k) (n := 90) (m := 1) (⟨some (IsV (decide (s451.2 < (l_.length : Int)))), [(29, none), (28, none)]⟩ :: []) hs (by kernel_rfl) ⟨⟨inferInstance, fun b q hk hn => ok_lss rfl (up i29 hk hn.1) (up i28 hk hn.2.1), rfl⟩, trivial⟩ hQQ466 fun b q p => ?_
                  have hgq := hg.then p.grow
                  have hsb := p.size.trans hs
                  have hdb := p.defers.trans hd
                  have j1 := keep p 1 rfl i1
                  have j2 := keep p 2 rfl i2
                  have j11 : (SlR (KeyV.kv (κ := Int)) 37 (s451.1).l) F11 (b.get 11) q := keep p 11 rfl i11
                  have y11 := n11
                  have j27 := keep p 27 rfl i27
                  have j28 := keep p 28 rfl i28
                  have j29 := keep p 29 rfl i29
                  have j30 : (IsV (decide (s451.2 < (l_.length : Int)))) (b.get 30) q := out p 0 30 _ rfl rfl rfl
                  exact tail_done (k := q) (hp467 _ _ ⟨F11, hgq, hsb, hdb, j1, j2, j11, y11, j27, j28, j29, j30, trivial⟩)
                · rintro a k ⟨F11, hg, hs, hd, i1, i2, i11, n11, i27, i28, i29, i30, _⟩
                  refine wp_seq ?_
                  refine wp_cond_split (isBool i30) (fun hc465 => ?_) (fun hc465 => ?_)
                  · rw [if_pos hc465] at hr
                    refine wp_skip ?_
                    refine wp_seq ?_
                    refine wp_block ?_
                    refine wp_seq ?_
                    obtain ⟨x456_0, hx456_0, hr⟩ := bind_some hr
                    refine cut (fun a' k' => ∃ F11, Chg noF k0 k' ∧ a'.tmps.size = 90 ∧ a'.defers = [] ∧ (IsV moves) (a'.get 1) k' ∧ (IsV lot) (a'.get 2) k' ∧ (SlR (KeyV.kv (κ := Int)) 37 (s451.1).l) F11 (a'.get 11) k' ∧ Lo k0 F11 ∧ (IsRef x456_0) (a'.get 13) k' ∧ (IsV l_) (a'.get 27) k' ∧ (IsV (α := Int) (l_.length : Int)) (a'.get 28) k' ∧ (IsV s451.2) (a'.get 29) k' ∧ True) ?_ hQ ?_
                    · intro Q463 hQQ463 hp464
                      refine regionS (a0 := a) (k0 := k) (n := 90) (m := 3) (⟨some (IsPtr x456_0), [(27, none), (29, none)]⟩ :: ⟨some (IsV x456_0), [(31, some 0)]⟩ :: ⟨some (IsBox k.w.heap.size (⟨0, 0, false⟩ : Account)), []⟩ :: []) hs (by kernel_rfl) ⟨⟨inferInstance, fun b q hk hn => ok_indexAddr rfl Try.underlying22 ty35 (IsV.rd (up i27 hk hn.1)) (up i29 hk hn.2.1) hx456_0, rfl⟩, ⟨inferInstance, fun b q hk hn => ok_load rfl ty35 hn.1, rfl⟩, ⟨inferInstance, fun b q hk hn => ok_alloc _ hk.size rfl z35, rfl⟩, trivial⟩ hQQ463 fun b q p => ?_
                      have hgq := hg.then p.grow
                      have hsb := p.size.trans hs
                      have hdb := p.defers.trans hd
                      have j1 := keep p 1 rfl i1
                      have j2 := keep p 2 rfl i2
                      have j11 : (SlR (KeyV.kv (κ := Int)) 37 (s451.1).l) F11 (b.get 11) q := keep p 11 rfl i11
                      have y11 := n11
                      obtain ⟨b13, j13, x13, z13⟩ : (IsBox k.w.heap.size (⟨0, 0, false⟩ : Account)) (b.get 13) q := out p 2 13 _ rfl rfl rfl
                      replace x13 : Lo k (Eq b13) := Lo.eq x13
                      have y13 : Lo k0 (Eq b13) := x13.chg hg
                      have j27 := keep p 27 rfl i27
                      have j28 := keep p 28 rfl i28
                      have j29 := keep p 29 rfl i29
                      have j32 : (IsV x456_0) (b.get 32) q := out p 1 32 _ rfl rfl rfl
                      have w11_13 : Apart F11 (Eq b13) := Apart.new (Rsc.lt i11) x13
                      have hns := z13.nshF
                      refine tail_storeB (i := 3) rfl rfl rfl rfl szf35 (Upd.self (α := Account)) j13 z13 j32 fun q2 hch hz => ?_
                      replace hgq := hgq.step hch y13.wr
                      have hle := hch.le hns
                      replace j1 := Pers.pers hle j1
                      replace j2 := Pers.pers hle j2
                      replace j11 := Rsc.keep j11 hch w11_13 hns
                      replace j27 := Pers.pers hle j27
                      replace j28 := Pers.pers hle j28
                      replace j29 := Pers.pers hle j29
                      replace j32 := Pers.pers hle j32
                      replace z13 := hz
                      clear hns hle hch
                      obtain ⟨q, hqq⟩ : ∃ q, q = q2 := ⟨q2, rfl⟩
                      subst hqq
                      obtain ⟨q2, hsh, jn⟩ := z13.give
                      replace j1 := Pers.pers hsh.le j1
                      replace j2 := Pers.pers hsh.le j2
                      replace j11 := Rsc.handed j11 hsh w11_13
                      replace j27 := Pers.pers hsh.le j27
                      replace j28 := Pers.pers hsh.le j28
                      replace j29 := Pers.pers hsh.le j29
                      rw [← j13] at jn
                      replace j13 := jn
                      replace hgq := hgq.hand hsh y13.wr
                      rw [← hsh.w]
                      clear hsh
                      obtain ⟨q, hqq⟩ : ∃ q, q = q2 := ⟨q2, rfl⟩
                      subst hqq
                      exact tail_done (k := q) (hp464 _ _ ⟨F11, hgq, hsb, hdb, j1, j2, j11, y11, j13, j27, j28, j29, trivial⟩)
                    · rintro a k ⟨F11, hg, hs, hd, i1, i2, i11, n11, i13, i27, i28, i29, _⟩
                      obtain ⟨x457_7, hx457_7, hr⟩ := bind_some hr
                      refine cut (fun a' k' => ∃ F11, Chg noF k0 k' ∧ a'.tmps.size = 90 ∧ a'.defers = [] ∧ (IsV moves) (a'.get 1) k' ∧ (IsV lot) (a'.get 2) k' ∧ (SlR (KeyV.kv (κ := Int)) 37 (x457_7).l) F11 (a'.get 11) k' ∧ Lo k0 F11 ∧ (IsV l_) (a'.get 27) k' ∧ (IsV (α := Int) (l_.length : Int)) (a'.get 28) k' ∧ (IsV s451.2) (a'.get 29) k' ∧ True) ?_ hQ ?_
                      · intro Q461 hQQ461 hp462
                        refine regionS (a0 := a) (k0 := k) (n := 90) (m := 7) (⟨some (Is (a.get 11)), [(11, none)]⟩ :: ⟨some (IsPtr x456_0.Lot), [(13, none)]⟩ :: ⟨some (IsV x456_0.Lot), [(34, some 1)]⟩ :: ⟨some (IsPtr x456_0.Lot), [(13, none)]⟩ :: ⟨some (IsV x456_0.Lot), [(36, some 3)]⟩ :: ⟨some (IsPtr x456_0.Units), [(13, none)]⟩ :: ⟨some (IsV x456_0.Units), [(38, some 5)]⟩ :: []) hs (by kernel_rfl) ⟨⟨inferInstance, fun b q hk hn => ok_move rfl hn.1, rfl⟩, ⟨inferInstance, fun b q hk hn => ok_fieldAddr rfl fo35_0 (at_Account_0 _) ((up i13 hk hn.1)).ptr, rfl⟩, ⟨inferInstance, fun b q hk hn => ok_load rfl ty3 hn.1, rfl⟩, ⟨inferInstance, fun b q hk hn => ok_fieldAddr rfl fo35_0 (at_Account_0 _) ((up i13 hk hn.1)).ptr, rfl⟩, ⟨inferInstance, fun b q hk hn => ok_load rfl ty3 hn.1, rfl⟩, ⟨inferInstance, fun b q hk hn => ok_fieldAddr rfl fo35_1 (at_Account_1 _) ((up i13 hk hn.1)).ptr, rfl⟩, ⟨inferInstance, fun b q hk hn => ok_load rfl ty3 hn.1, rfl⟩, trivial⟩ hQQ461 fun b q p => ?_
                        have hgq := hg.then p.grow
                        have hsb := p.size.trans hs
                        have hdb := p.defers.trans hd
                        have j1 := keep p 1 rfl i1
                        have j2 := keep p 2 rfl i2
                        have j11 : (SlR (KeyV.kv (κ := Int)) 37 (s451.1).l) F11 (b.get 11) q := keep p 11 rfl i11
                        have y11 := n11
                        have j27 := keep p 27 rfl i27
                        have j28 := keep p 28 rfl i28
                        have j29 := keep p 29 rfl i29
                        have j33 : b.get 33 = b.get 11 := (show b.get 33 = a.get 11 from out p 0 33 _ rfl rfl rfl).trans (p.old 11 rfl).symm
                        have j35 : (IsV x456_0.Lot) (b.get 35) q := out p 2 35 _ rfl rfl rfl
                        have j37 : (IsV x456_0.Lot) (b.get 37) q := out p 4 37 _ rfl rfl rfl
                        have j39 : (IsV x456_0.Units) (b.get 39) q := out p 6 39 _ rfl rfl rfl
                        have hns := Rsc.nsh j11
                        refine tail_call (F := F11) (i := 7) (d := 40) rfl rfl rfl rfl (by rw [hsb]; decide) Try.call26 hQQ461 (cPut_ok (show (SlR (KeyV.kv (κ := Int)) 37 (s451.1).l) F11 (b.get 33) q by rw [j33]; exact j11) j35 j37 j39 hx457_7) fun b2 q2 hsz hdf hoth hch hres => ?_
                        have hle := hch.le hns
                        obtain ⟨G11, hown, hob⟩ := hres
                        rw [show b.eval (.tmp 33) = b.get 11 from j33] at hown
                        have yn : Lo k0 G11 := fun c hc => (hob c hc).elim (y11 c) (fun h => Nat.le_trans hgq.size h)
                        replace j1 := Pers.pers hle j1
                        replace j2 := Pers.pers hle j2
                        replace j27 := Pers.pers hle j27
                        replace j28 := Pers.pers hle j28
                        replace j29 := Pers.pers hle j29
                        replace j35 := Pers.pers hle j35
                        replace j37 := Pers.pers hle j37
                        replace j39 := Pers.pers hle j39
                        replace hgq := hgq.step hch y11.wr
                        rw [← hoth 1 (by decide)] at j1
                        rw [← hoth 2 (by decide)] at j2
                        rw [← hoth 27 (by decide)] at j27
                        rw [← hoth 28 (by decide)] at j28
                        rw [← hoth 29 (by decide)] at j29
                        rw [← hoth 35 (by decide)] at j35
                        rw [← hoth 37 (by decide)] at j37
                        rw [← hoth 39 (by decide)] at j39
                        rw [← hoth 11 (by decide)] at hown
                        replace j11 := hown
                        replace y11 := yn
                        clear hown hob yn hle hch hns
                        obtain ⟨F11, hFF⟩ : ∃ F, F = G11 := ⟨_, rfl⟩
                        subst hFF
                        replace hsb := hsz.trans hsb
                        replace hdb := hdf.trans hdb
                        clear hsz hdf hoth
                        obtain ⟨b, hbb⟩ : ∃ b, b = b2 := ⟨b2, rfl⟩
                        subst hbb
                        obtain ⟨q, hqq⟩ : ∃ q, q = q2 := ⟨q2, rfl⟩
                        subst hqq
                        exact tail_done (k := q) (hp462 _ _ ⟨F11, hgq, hsb, hdb, j1, j2, j11, y11, j27, j28, j29, trivial⟩)
                      · rintro a k ⟨F11, hg, hs, hd, i1, i2, i11, n11, i27, i28, i29, _⟩
                        obtain ⟨x458_0, hx458_0, hr⟩ := bind_some hr
                        refine cut (fun a' k' => ∃ F11, Chg noF k0 k' ∧ a'.tmps.size = 90 ∧ a'.defers = [] ∧ (IsV moves) (a'.get 1) k' ∧ (IsV lot) (a'.get 2) k' ∧ (SlR (KeyV.kv (κ := Int)) 37 (x457_7).l) F11 (a'.get 11) k' ∧ Lo k0 F11 ∧ (IsV l_) (a'.get 27) k' ∧ (IsV (α := Int) (l_.length : Int)) (a'.get 28) k' ∧ (IsV x458_0) (a'.get 29) k' ∧ True) ?_ hQ ?_
                        · intro Q459 hQQ459 hp460
                          refine regionS (a0 := a) (k0 := k) (n := 90) (m := 2) (⟨some (IsV x458_0), [(29, none)]⟩ :: ⟨some (IsV x458_0), [(41, some 0)]⟩ :: []) hs (by kernel_rfl) ⟨⟨inferInstance, fun b q hk hn => ok_add rfl (up i29 hk hn.1) (isV_int.2 rfl) hx458_0, rfl⟩, ⟨inferInstance, fun b q hk hn => ok_move rfl hn.1, rfl⟩, trivial⟩ hQQ459 fun b q p => ?_
                          have hgq := hg.then p.grow
                          have hsb := p.size.trans hs
                          have hdb := p.defers.trans hd
                          have j1 := keep p 1 rfl i1
                          have j2 := keep p 2 rfl i2
                          have j11 : (SlR (KeyV.kv (κ := Int)) 37 (x457_7).l) F11 (b.get 11) q := keep p 11 rfl i11
                          have y11 := n11
                          have j27 := keep p 27 rfl i27
                          have j28 := keep p 28 rfl i28
                          have j29 : (IsV x458_0) (b.get 29) q := out p 1 29 _ rfl rfl rfl
                          exact tail_done (k := q) (hp460 _ _ ⟨F11, hgq, hsb, hdb, j1, j2, j11, y11, j27, j28, j29, trivial⟩)
                        · rintro a k ⟨F11, hg, hs, hd, i1, i2, i11, n11, i27, i28, i29, _⟩
                          exact hgo452 _ _ _ (Option.some.inj hr).symm ⟨F11, hg, hs, hd, i1, i2, i11, n11, i27, i28, i29, trivial⟩
                  · rw [if_neg (by rw [hc465]; decide)] at hr
                    refine wp_exit ?_
                    exact hex453 _ _ _ _ (Option.some.inj hr).symm ⟨rfl, F11, hg, hs, hd, i1, i2, i11, n11, trivial⟩
              · rintro _ _ _ rfl _
                simp at hr
              · clear hf468
                rintro _ s469 a k rfl ⟨rfl, F11, hg, hs, hd, i1, i2, i11, n11, _⟩
                dsimp only at hr
                refine wp_seq ?_
                refine wp_seq ?_
                refine cut (fun a' k' => ∃ F11, Chg noF k0 k' ∧ a'.tmps.size = 90 ∧ a'.defers = [] ∧ (IsV lot) (a'.get 2) k' ∧ (SlR (KeyV.kv (κ := Int)) 37 (s469.1).l) F11 (a'.get 11) k' ∧ Lo k0 F11 ∧ (IsV moves) (a'.get 42) k' ∧ (IsV (α := Int) (moves.length : Int)) (a'.get 43) k' ∧ (IsV (α := Int) 0) (a'.get 44) k' ∧ True) ?_ hQ ?_
                · intro Q536 hQQ536 hp537
                  refine regionS (a0 := a) (k0 := k) (n := 90) (m := 3) (⟨some (IsV moves), [(1, none)]⟩ :: ⟨some (IsV (α := Int) (moves.length : Int)), [(42, some 0)]⟩ :: ⟨some (IsV (α := Int) 0), []⟩ :: []) hs (by kernel_rfl) ⟨⟨inferInstance, fun b q hk hn => ok_move rfl (up i1 hk hn.1), rfl⟩, ⟨inferInstance, fun b q hk hn => ok_len rfl rfl Try.underlying23 (IsV.rd hn.1), rfl⟩, ⟨inferInstance, fun b q hk hn => ok_move rfl (isV_int.2 rfl), rfl⟩, trivial⟩ hQQ536 fun b q p => ?_
                  have hgq := hg.then p.grow
                  have hsb := p.size.trans hs
                  have hdb := p.defers.trans hd
                  have j2 := keep p 2 rfl i2
                  have j11 : (SlR (KeyV.kv (κ := Int)) 37 (s469.1).l) F11 (b.get 11) q := keep p 11 rfl i11
                  have y11 := n11
                  have j42 : (IsV moves) (b.get 42) q := out p 0 42 _ rfl rfl rfl
                  have j43 : (IsV (α := Int) (moves.length : Int)) (b.get 43) q := out p 1 43 _ rfl rfl rfl
                  have j44 : (IsV (α := Int) 0) (b.get 44) q := out p 2 44 _ rfl rfl rfl
                  exact tail_done (k := q) (hp537 _ _ ⟨F11, hgq, hsb, hdb, j2, j11, y11, j42, j43, j44, trivial⟩)
                · rintro a k ⟨F11, hg, hs, hd, i2, i11, n11, i42, i43, i44, _⟩
                  refine wp_block ?_
                  obtain ⟨f529, hf529, hr⟩ := bind_some hr
                  refine cutF f529 (fun s' a' k' => ∃ F11, Chg noF k0 k' ∧ a'.tmps.size = 90 ∧ a'.defers = [] ∧ (IsV lot) (a'.get 2) k' ∧ (SlR (KeyV.kv (κ := Int)) 37 (s'.1).l) F11 (a'.get 11) k' ∧ Lo k0 F11 ∧ (IsV moves) (a'.get 42) k' ∧ (IsV (α := Int) (moves.length : Int)) (a'.get 43) k' ∧ (IsV s'.2) (a'.get 44) k' ∧ True) (fun i' s' a' k' => (i' = 2 ∧ Chg noF k0 k' ∧ a'.tmps.size = 90 ∧ a'.defers = [] ∧ (IsV lot) (a'.get 2) k' ∧ (IsV s'.1) (a'.get 11) k' ∧ True)) (fun r' a' k' => bodyPost Try.prog Try.f11 (RetC noF k0 (IsTup2 (IsV r'.1) (IsV r'.2))) .ret a' k'.w) ?_ hQ ?_ ?_ ?_
                  · intro Q535 hQQ535 hgo hex hret
                    refine sim_loop ?_ _ _ _ _ _ hf529 ⟨F11, hg, hs, hd, i2, i11, n11, i42, i43, i44, trivial⟩ Q535 hQQ535 hgo hex hret
                    clear hr hf529 hgo hex hret hQQ535 hQ F11 hd hg hs i11 i2 i42 i43 i44 n11
                    intro s471 fl_ a k hr hS Q hQ hgo472 hex473 hret474
                    obtain ⟨F11, hg, hs, hd, i2, i11, n11, i42, i43, i44, _⟩ := hS
                    unfold cTrace_L1 at hr
                    refine wp_seq ?_
                    refine cut (fun a' k' => ∃ F11, Chg noF k0 k' ∧ a'.tmps.size = 90 ∧ a'.defers = [] ∧ (IsV lot) (a'.get 2) k' ∧ (SlR (KeyV.kv (κ := Int)) 37 (s471.1).l) F11 (a'.get 11) k' ∧ Lo k0 F11 ∧ (IsV moves) (a'.get 42) k' ∧ (IsV (α := Int) (moves.length : Int)) (a'.get 43) k' ∧ (IsV s471.2) (a'.get 44) k' ∧ (IsV (decide (s471.2 < (moves.length : Int)))) (a'.get 45) k' ∧ True) ?_ hQ ?_
                    · intro Q527 hQQ527 hp528
                      refine regionS (a0 := a) (k0 := k) (n := 90) (m := 1) (⟨some (IsV (decide (s471.2 < (moves.length : Int)))), [(44, none), (43, none)]⟩ :: []) hs (by kernel_rfl) ⟨⟨inferInstance, fun b q hk hn => ok_lss rfl (up i44 hk hn.1) (up i43 hk hn.2.1), rfl⟩, trivial⟩ hQQ527 fun b q p => ?_
                      have hgq := hg.then p.grow
                      have hsb := p.size.trans hs
                      have hdb := p.defers.trans hd
                      have j2 := keep p 2 rfl i2
                      have j11 : (SlR (KeyV.kv (κ := Int)) 37 (s471.1).l) F11 (b.get 11) q := keep p 11 rfl i11
                      have y11 := n11
                      have j42 := keep p 42 rfl i42
                      have j43 := keep p 43 rfl i43
                      have j44 := keep p 44 rfl i44
                      have j45 : (IsV (decide (s471.2 < (moves.length : Int)))) (b.get 45) q := out p 0 45 _ rfl rfl rfl
                      exact tail_done (k := q) (hp528 _ _ ⟨F11, hgq, hsb, hdb, j2, j11, y11, j42, j43, j44, j45, trivial⟩)
                    · rintro a k ⟨F11, hg, hs, hd, i2, i11, n11, i42, i43, i44, i45, _⟩
                      refine wp_seq ?_
                      refine wp_cond_split (isBool i45) (fun hc526 => ?_) (fun hc526 => ?_)
                      · rw [if_pos hc526] at hr
                        refine wp_skip ?_
                        refine wp_seq ?_
                        refine wp_block ?_
                        refine wp_seq ?_
                        obtain ⟨x476_0, hx476_0, hr⟩ := bind_some hr
                        refine cut (fun a' k' => ∃ F11, Chg noF k0 k' ∧ a'.tmps.size = 90 ∧ a'.defers = [] ∧ (IsV lot) (a'.get 2) k' ∧ (SlR (KeyV.kv (κ := Int)) 37 (s471.1).l) F11 (a'.get 11) k' ∧ Lo k0 F11 ∧ (IsRef x476_0) (a'.get 15) k' ∧ (IsV moves) (a'.get 42) k' ∧ (IsV (α := Int) (moves.length : Int)) (a'.get 43) k' ∧ (IsV s471.2) (a'.get 44) k' ∧ True) ?_ hQ ?_
                        · intro Q523 hQQ523 hp524
                          refine regionS (a0 := a) (k0 := k) (n := 90) (m := 3) (⟨some (IsPtr x476_0), [(42, none), (44, none)]⟩ :: ⟨some (IsV x476_0), [(46, some 0)]⟩ :: ⟨some (IsBox k.w.heap.size (⟨0, 0, 0, 0⟩ : Move)), []⟩ :: []) hs (by kernel_rfl) ⟨⟨inferInstance, fun b q hk hn => ok_indexAddr rfl Try.underlying23 ty33 (IsV.rd (up i42 hk hn.1)) (up i44 hk hn.2.1) hx476_0, rfl⟩, ⟨inferInstance, fun b q hk hn => ok_load rfl ty33 hn.1, rfl⟩, ⟨inferInstance, fun b q hk hn => ok_alloc _ hk.size rfl z33, rfl⟩, trivial⟩ hQQ523 fun b q p => ?_
                          have hgq := hg.then p.grow
                          have hsb := p.size.trans hs
                          have hdb := p.defers.trans hd
                          have j2 := keep p 2 rfl i2
                          have j11 : (SlR (KeyV.kv (κ := Int)) 37 (s471.1).l) F11 (b.get 11) q := keep p 11 rfl i11
                          have y11 := n11
                          obtain ⟨b15, j15, x15, z15⟩ : (IsBox k.w.heap.size (⟨0, 0, 0, 0⟩ : Move)) (b.get 15) q := out p 2 15 _ rfl rfl rfl
                          replace x15 : Lo k (Eq b15) := Lo.eq x15
                          have y15 : Lo k0 (Eq b15) := x15.chg hg
                          have j42 := keep p 42 rfl i42
                          have j43 := keep p 43 rfl i43
                          have j44 := keep p 44 rfl i44
                          have j47 : (IsV x476_0) (b.get 47) q := out p 1 47 _ rfl rfl rfl
                          have w11_15 : Apart F11 (Eq b15) := Apart.new (Rsc.lt i11) x15
                          have hns := z15.nshF
                          refine tail_storeB (i := 3) rfl rfl rfl rfl szf33 (Upd.self (α := Move)) j15 z15 j47 fun q2 hch hz => ?_
                          replace hgq := hgq.step hch y15.wr
                          have hle := hch.le hns
                          replace j2 := Pers.pers hle j2
                          replace j11 := Rsc.keep j11 hch w11_15 hns
                          replace j42 := Pers.pers hle j42
                          replace j43 := Pers.pers hle j43
                          replace j44 := Pers.pers hle j44
                          replace j47 := Pers.pers hle j47
                          replace z15 := hz
                          clear hns hle hch
                          obtain ⟨q, hqq⟩ : ∃ q, q = q2 := ⟨q2, rfl⟩
                          subst hqq
                          obtain ⟨q2, hsh, jn⟩ := z15.give
                          replace j2 := Pers.pers hsh.le j2
                          replace j11 := Rsc.handed j11 hsh w11_15
                          replace j42 := Pers.pers hsh.le j42
                          replace j43 := Pers.pers hsh.le j43
                          replace j44 := Pers.pers hsh.le j44
                          rw [← j15] at jn
                          replace j15 := jn
                          replace hgq := hgq.hand hsh y15.wr
                          rw [← hsh.w]
                          clear hsh
                          obtain ⟨q, hqq⟩ : ∃ q, q = q2 := ⟨q2, rfl⟩
                          subst hqq
                          exact tail_done (k := q) (hp524 _ _ ⟨F11, hgq, hsb, hdb, j2, j11, y11, j15, j42, j43, j44, trivial⟩)
                        · rintro a k ⟨F11, hg, hs, hd, i2, i11, n11, i15, i42, i43, i44, _⟩
                          refine wp_seq ?_
                          refine cut (fun a' k' => ∃ F11, Chg noF k0 k' ∧ a'.tmps.size = 90 ∧ a'.defers = [] ∧ (IsV lot) (a'.get 2) k' ∧ (SlR (KeyV.kv (κ := Int)) 37 (s471.1).l) F11 (a'.get 11) k' ∧ Lo k0 F11 ∧ (IsRef x476_0) (a'.get 15) k' ∧ (IsV moves) (a'.get 42) k' ∧ (IsV (α := Int) (moves.length : Int)) (a'.get 43) k' ∧ (IsV s471.2) (a'.get 44) k' ∧ (IsV x476_0.Kind) (a'.get 49) k' ∧ True) ?_ hQ ?_
                          · intro Q521 hQQ521 hp522
                            refine regionS (a0 := a) (k0 := k) (n := 90) (m := 2) (⟨some (IsPtr x476_0.Kind), [(15, none)]⟩ :: ⟨some (IsV x476_0.Kind), [(48, some 0)]⟩ :: []) hs (by kernel_rfl) ⟨⟨inferInstance, fun b q hk hn => ok_fieldAddr rfl fo33_0 (at_Move_0 _) ((up i15 hk hn.1)).ptr, rfl⟩, ⟨inferInstance, fun b q hk hn => ok_load rfl ty3 hn.1, rfl⟩, trivial⟩ hQQ521 fun b q p => ?_
                            have hgq := hg.then p.grow
                            have hsb := p.size.trans hs
                            have hdb := p.defers.trans hd
                            have j2 := keep p 2 rfl i2
                            have j11 : (SlR (KeyV.kv (κ := Int)) 37 (s471.1).l) F11 (b.get 11) q := keep p 11 rfl i11
                            have y11 := n11
                            have j15 := keep p 15 rfl i15
                            have j42 := keep p 42 rfl i42
                            have j43 := keep p 43 rfl i43
                            have j44 := keep p 44 rfl i44
                            have j49 : (IsV x476_0.Kind) (b.get 49) q := out p 1 49 _ rfl rfl rfl
                            exact tail_done (k := q) (hp522 _ _ ⟨F11, hgq, hsb, hdb, j2, j11, y11, j15, j42, j43, j44, j49, trivial⟩)
                          · rintro a k ⟨F11, hg, hs, hd, i2, i11, n11, i15, i42, i43, i44, i49, _⟩
                            refine wp_block ?_
                            refine wp_seq ?_
                            refine cut (fun a' k' => ∃ F11, Chg noF k0 k' ∧ a'.tmps.size = 90 ∧ a'.defers = [] ∧ (IsV lot) (a'.get 2) k' ∧ (SlR (KeyV.kv (κ := Int)) 37 (s471.1).l) F11 (a'.get 11) k' ∧ Lo k0 F11 ∧ (IsRef x476_0) (a'.get 15) k' ∧ (IsV moves) (a'.get 42) k' ∧ (IsV (α := Int) (moves.length : Int)) (a'.get 43) k' ∧ (IsV s471.2) (a'.get 44) k' ∧ (IsV x476_0.Kind) (a'.get 49) k' ∧ (IsV (x476_0.Kind == 0)) (a'.get 50) k' ∧ True) ?_ hQ ?_
                            · intro Q519 hQQ519 hp520
                              refine regionS (a0 := a) (k0 := k) (n := 90) (m := 2) (⟨some (IsV (x476_0.Kind == 0)), [(49, none)]⟩ :: ⟨some (IsV (x476_0.Kind == 0)), [(51, some 0)]⟩ :: []) hs (by kernel_rfl) ⟨⟨inferInstance, fun b q hk hn => ok_eqI rfl (up i49 hk hn.1) (isV_int.2 rfl), rfl⟩, ⟨inferInstance, fun b q hk hn => ok_assign rfl hn.1, rfl⟩, trivial⟩ hQQ519 fun b q p => ?_
                              have hgq := hg.then p.grow
                              have hsb := p.size.trans hs
                              have hdb := p.defers.trans hd
                              have j2 := keep p 2 rfl i2
                              have j11 : (SlR (KeyV.kv (κ := Int)) 37 (s471.1).l) F11 (b.get 11) q := keep p 11 rfl i11
                              have y11 := n11
                              have j15 := keep p 15 rfl i15
                              have j42 := keep p 42 rfl i42
                              have j43 := keep p 43 rfl i43
                              have j44 := keep p 44 rfl i44
                              have j49 := keep p 49 rfl i49
                              have j50 : (IsV (x476_0.Kind == 0)) (b.get 50) q := out p 1 50 _ rfl rfl rfl
                              exact tail_done (k := q) (hp520 _ _ ⟨F11, hgq, hsb, hdb, j2, j11, y11, j15, j42, j43, j44, j49, j50, trivial⟩)
                            · rintro a k ⟨F11, hg, hs, hd, i2, i11, n11, i15, i42, i43, i44, i49, i50, _⟩
                              obtain ⟨s479, hs479, hr⟩ := bind_some hr
                              refine cut (fun a' k' => ∃ F11, Chg noF k0 k' ∧ a'.tmps.size = 90 ∧ a'.defers = [] ∧ (IsV lot) (a'.get 2) k' ∧ (SlR (KeyV.kv (κ := Int)) 37 (s479).l) F11 (a'.get 11) k' ∧ Lo k0 F11 ∧ (IsV moves) (a'.get 42) k' ∧ (IsV (α := Int) (moves.length : Int)) (a'.get 43) k' ∧ (IsV s471.2) (a'.get 44) k' ∧ True) ?_ hQ ?_
                              · intro Q518 hQQ518 hp480
                                replace hr := hs479
                                clear hQ
                                have hQ := hQQ518
                                refine wp_cond_split (isBool i50) (fun hc514 => ?_) (fun hc514 => ?_)
                                · rw [if_pos hc514] at hr
                                  obtain ⟨x481_7, hx481_7, hr⟩ := bind_some hr
                                  refine cut (fun a' k' => ∃ F11, Chg noF k0 k' ∧ a'.tmps.size = 90 ∧ a'.defers = [] ∧ (IsV lot) (a'.get 2) k' ∧ (SlR (KeyV.kv (κ := Int)) 37 (x481_7).l) F11 (a'.get 11) k' ∧ Lo k0 F11 ∧ (IsV moves) (a'.get 42) k' ∧ (IsV (α := Int) (moves.length : Int)) (a'.get 43) k' ∧ (IsV s471.2) (a'.get 44) k' ∧ True) ?_ hQ ?_
                                  · intro Q482 hQQ482 hp483
                                    refine regionS (a0 := a) (k0 := k) (n := 90) (m := 7) (⟨some (Is (a.get 11)), [(11, none)]⟩ :: ⟨some (IsPtr x476_0.To), [(15, none)]⟩ :: ⟨some (IsV x476_0.To), [(53, some 1)]⟩ :: ⟨some (IsPtr x476_0.To), [(15, none)]⟩ :: ⟨some (IsV x476_0.To), [(55, some 3)]⟩ :: ⟨some (IsPtr x476_0.N), [(15, none)]⟩ :: ⟨some (IsV x476_0.N), [(57, some 5)]⟩ :: []) hs (by kernel_rfl) ⟨⟨inferInstance, fun b q hk hn => ok_move rfl hn.1, rfl⟩, ⟨inferInstance, fun b q hk hn => ok_fieldAddr rfl fo33_2 (at_Move_2 _) ((up i15 hk hn.1)).ptr, rfl⟩, ⟨inferInstance, fun b q hk hn => ok_load rfl ty3 hn.1, rfl⟩, ⟨inferInstance, fun b q hk hn => ok_fieldAddr rfl fo33_2 (at_Move_2 _) ((up i15 hk hn.1)).ptr, rfl⟩, ⟨inferInstance, fun b q hk hn => ok_load rfl ty3 hn.1, rfl⟩, ⟨inferInstance, fun b q hk hn => ok_fieldAddr rfl fo33_3 (at_Move_3 _) ((up i15 hk hn.1)).ptr, rfl⟩, ⟨inferInstance, fun b q hk hn => ok_load rfl ty3 hn.1, rfl⟩, trivial⟩ hQQ482 fun b q p => ?_
                                    have hgq := hg.then p.grow
                                    have hsb := p.size.trans hs
                                    have hdb := p.defers.trans hd
                                    have j2 := keep p 2 rfl i2
                                    have j11 : (SlR (KeyV.kv (κ := Int)) 37 (s471.1).l) F11 (b.get 11) q := keep p 11 rfl i11
                                    have y11 := n11
                                    have j42 := keep p 42 rfl i42
                                    have j43 := keep p 43 rfl i43
                                    have j44 := keep p 44 rfl i44
                                    have j52 : b.get 52 = b.get 11 := (show b.get 52 = a.get 11 from out p 0 52 _ rfl rfl rfl).trans (p.old 11 rfl).symm
                                    have j54 : (IsV x476_0.To) (b.get 54) q := out p 2 54 _ rfl rfl rfl
                                    have j56 : (IsV x476_0.To) (b.get 56) q := out p 4 56 _ rfl rfl rfl
                                    have j58 : (IsV x476_0.N) (b.get 58) q := out p 6 58 _ rfl rfl rfl
                                    have hns := Rsc.nsh j11
                                    refine tail_call (F := F11) (i := 7) (d := 59) rfl rfl rfl rfl (by rw [hsb]; decide) Try.call26 hQQ482 (cPut_ok (show (SlR (KeyV.kv (κ := Int)) 37 (s471.1).l) F11 (b.get 52) q by rw [j52]; exact j11) j54 j56 j58 hx481_7) fun b2 q2 hsz hdf hoth hch hres => ?_
                                    have hle := hch.le hns
                                    obtain ⟨G11, hown, hob⟩ := hres
                                    rw [show b.eval (.tmp 52) = b.get 11 from j52] at hown
                                    have yn : Lo k0 G11 := fun c hc => (hob c hc).elim (y11 c) (fun h => Nat.le_trans hgq.size h)
                                    replace j2 := Pers.pers hle j2
                                    replace j42 := Pers.pers hle j42
                                    replace j43 := Pers.pers hle j43
                                    replace j44 := Pers.pers hle j44
                                    replace j54 := Pers.pers hle j54
                                    replace j56 := Pers.pers hle j56
                                    replace j58 := Pers.pers hle j58
                                    replace hgq := hgq.step hch y11.wr
                                    rw [← hoth 2 (by decide)] at j2
                                    rw [← hoth 42 (by decide)] at j42
                                    rw [← hoth 43 (by decide)] at j43
                                    rw [← hoth 44 (by decide)] at j44
                                    rw [← hoth 54 (by decide)] at j54
                                    rw [← hoth 56 (by decide)] at j56
                                    rw [← hoth 58 (by decide)] at j58
                                    rw [← hoth 11 (by decide)] at hown
                                    replace j11 := hown
                                    replace y11 := yn
                                    clear hown hob yn hle hch hns
                                    obtain ⟨F11, hFF⟩ : ∃ F, F = G11 := ⟨_, rfl⟩
                                    subst hFF
                                    replace hsb := hsz.trans hsb
                                    replace hdb := hdf.trans hdb
                                    clear hsz hdf hoth
                                    obtain ⟨b, hbb⟩ : ∃ b, b = b2 := ⟨b2, rfl⟩
                                    subst hbb
                                    obtain ⟨q, hqq⟩ : ∃ q, q = q2 := ⟨q2, rfl⟩
                                    subst hqq
                                    exact tail_done (k := q) (hp483 _ _ ⟨F11, hgq, hsb, hdb, j2, j11, y11, j42, j43, j44, trivial⟩)
                                  · rintro a k ⟨F11, hg, hs, hd, i2, i11, n11, i42, i43, i44, _⟩
                                    obtain rfl := Option.some.inj hr
                                    exact hp480 _ _ ⟨F11, hg, hs, hd, i2, i11, n11, i42, i43, i44, trivial⟩
                                · rw [if_neg (by rw [hc514]; decide)] at hr
                                  refine wp_seq ?_
                                  refine cut (fun a' k' => ∃ F11, Chg noF k0 k' ∧ a'.tmps.size = 90 ∧ a'.defers = [] ∧ (IsV lot) (a'.get 2) k' ∧ (SlR (KeyV.kv (κ := Int)) 37 (s471.1).l) F11 (a'.get 11) k' ∧ Lo k0 F11 ∧ (IsRef x476_0) (a'.get 15) k' ∧ (IsV moves) (a'.get 42) k' ∧ (IsV (α := Int) (moves.length : Int)) (a'.get 43) k' ∧ (IsV s471.2) (a'.get 44) k' ∧ (IsV x476_0.Kind) (a'.get 49) k' ∧ (IsV (x476_0.Kind == 1)) (a'.get 60) k' ∧ True) ?_ hQ ?_
                                  · intro Q512 hQQ512 hp513
                                    refine regionS (a0 := a) (k0 := k) (n := 90) (m := 2) (⟨some (IsV (x476_0.Kind == 1)), [(49, none)]⟩ :: ⟨some (IsV (x476_0.Kind == 1)), [(61, some 0)]⟩ :: []) hs (by kernel_rfl) ⟨⟨inferInstance, fun b q hk hn => ok_eqI rfl (up i49 hk hn.1) (isV_int.2 rfl), rfl⟩, ⟨inferInstance, fun b q hk hn => ok_assign rfl hn.1, rfl⟩, trivial⟩ hQQ512 fun b q p => ?_
                                    have hgq := hg.then p.grow
                                    have hsb := p.size.trans hs
                                    have hdb := p.defers.trans hd
                                    have j2 := keep p 2 rfl i2
                                    have j11 : (SlR (KeyV.kv (κ := Int)) 37 (s471.1).l) F11 (b.get 11) q := keep p 11 rfl i11
                                    have y11 := n11
                                    have j15 := keep p 15 rfl i15
                                    have j42 := keep p 42 rfl i42
                                    have j43 := keep p 43 rfl i43
                                    have j44 := keep p 44 rfl i44
                                    have j49 := keep p 49 rfl i49
                                    have j60 : (IsV (x476_0.Kind == 1)) (b.get 60) q := out p 1 60 _ rfl rfl rfl
                                    exact tail_done (k := q) (hp513 _ _ ⟨F11, hgq, hsb, hdb, j2, j11, y11, j15, j42, j43, j44, j49, j60, trivial⟩)
                                  · rintro a k ⟨F11, hg, hs, hd, i2, i11, n11, i15, i42, i43, i44, i49, i60, _⟩
                                    obtain ⟨s485, hs485, hr⟩ := bind_some hr
                                    refine cut (fun a' k' => ∃ F11, Chg noF k0 k' ∧ a'.tmps.size = 90 ∧ a'.defers = [] ∧ (IsV lot) (a'.get 2) k' ∧ (SlR (KeyV.kv (κ := Int)) 37 (s485).l) F11 (a'.get 11) k' ∧ Lo k0 F11 ∧ (IsV moves) (a'.get 42) k' ∧ (IsV (α := Int) (moves.length : Int)) (a'.get 43) k' ∧ (IsV s471.2) (a'.get 44) k' ∧ True) ?_ hQ ?_
                                    · intro Q511 hQQ511 hp486
                                      replace hr := hs485
                                      clear hQ
                                      have hQ := hQQ511
                                      refine wp_cond_split (isBool i60) (fun hc510 => ?_) (fun hc510 => ?_)
                                      · rw [if_pos hc510] at hr
                                        obtain ⟨x487_7, hx487_7, hr⟩ := bind_some hr
                                        refine cut (fun a' k' => ∃ F11, Chg noF k0 k' ∧ a'.tmps.size = 90 ∧ a'.defers = [] ∧ (IsV lot) (a'.get 2) k' ∧ (SlR (KeyV.kv (κ := Int)) 37 (x487_7).l) F11 (a'.get 11) k' ∧ Lo k0 F11 ∧ (IsV moves) (a'.get 42) k' ∧ (IsV (α := Int) (moves.length : Int)) (a'.get 43) k' ∧ (IsV s471.2) (a'.get 44) k' ∧ True) ?_ hQ ?_
                                        · intro Q488 hQQ488 hp489
                                          refine regionS (a0 := a) (k0 := k) (n := 90) (m := 7) (⟨some (Is (a.get 11)), [(11, none)]⟩ :: ⟨some (IsPtr x476_0.From), [(15, none)]⟩ :: ⟨some (IsV x476_0.From), [(63, some 1)]⟩ :: ⟨some (IsPtr x476_0.To), [(15, none)]⟩ :: ⟨some (IsV x476_0.To), [(65, some 3)]⟩ :: ⟨some (IsPtr x476_0.N), [(15, none)]⟩ :: ⟨some (IsV x476_0.N), [(67, some 5)]⟩ :: []) hs (by kernel_rfl) ⟨⟨inferInstance, fun b q hk hn => ok_move rfl hn.1, rfl⟩, ⟨inferInstance, fun b q hk hn => ok_fieldAddr rfl fo33_1 (at_Move_1 _) ((up i15 hk hn.1)).ptr, rfl⟩, ⟨inferInstance, fun b q hk hn => ok_load rfl ty3 hn.1, rfl⟩, ⟨inferInstance, fun b q hk hn => ok_fieldAddr rfl fo33_2 (at_Move_2 _) ((up i15 hk hn.1)).ptr, rfl⟩, ⟨inferInstance, fun b q hk hn => ok_load rfl ty3 hn.1, rfl⟩, ⟨inferInstance, fun b q hk hn => ok_fieldAddr rfl fo33_3 (at_Move_3 _) ((up i15 hk hn.1)).ptr, rfl⟩, ⟨inferInstance, fun b q hk hn => ok_load rfl ty3 hn.1, rfl⟩, trivial⟩ hQQ488 fun b q p => ?_
                                          have hgq := hg.then p.grow
                                          have hsb := p.size.trans hs
                                          have hdb := p.defers.trans hd
                                          have j2 := keep p 2 rfl i2
                                          have j11 : (SlR (KeyV.kv (κ := Int)) 37 (s471.1).l) F11 (b.get 11) q := keep p 11 rfl i11
                                          have y11 := n11
                                          have j42 := keep p 42 rfl i42
                                          have j43 := keep p 43 rfl i43
                                          have j44 := keep p 44 rfl i44
                                          have j62 : b.get 62 = b.get 11 := (show b.get 62 = a.get 11 from out p 0 62 _ rfl rfl rfl).trans (p.old 11 rfl).symm
                                          have j64 : (IsV x476_0.From) (b.get 64) q := out p 2 64 _ rfl rfl rfl
                                          have j66 : (IsV x476_0.To) (b.get 66) q := out p 4 66 _ rfl rfl rfl
                                          have j68 : (IsV x476_0.N) (b.get 68) q := out p 6 68 _ rfl rfl rfl
                                          have hns := Rsc.nsh j11
                                          refine tail_call (F := F11) (i := 7) (d := 69) rfl rfl rfl rfl (by rw [hsb]; decide) Try.call27 hQQ488 (cTake_ok (show (SlR (KeyV.kv (κ := Int)) 37 (s471.1).l) F11 (b.get 62) q by rw [j62]; exact j11) j64 j66 j68 hx487_7) fun b2 q2 hsz hdf hoth hch hres => ?_
                                          have hle := hch.le hns
                                          obtain ⟨G11, hown, hob⟩ := hres
                                          rw [show b.eval (.tmp 62) = b.get 11 from j62] at hown
                                          have yn : Lo k0 G11 := fun c hc => (hob c hc).elim (y11 c) (fun h => Nat.le_trans hgq.size h)
                                          replace j2 := Pers.pers hle j2
                                          replace j42 := Pers.pers hle j42
                                          replace j43 := Pers.pers hle j43
                                          replace j44 := Pers.pers hle j44
                                          replace j64 := Pers.pers hle j64
                                          replace j66 := Pers.pers hle j66
                                          replace j68 := Pers.pers hle j68
                                          replace hgq := hgq.step hch y11.wr
                                          rw [← hoth 2 (by decide)] at j2
                                          rw [← hoth 42 (by decide)] at j42
                                          rw [← hoth 43 (by decide)] at j43
                                          rw [← hoth 44 (by decide)] at j44
                                          rw [← hoth 64 (by decide)] at j64
                                          rw [← hoth 66 (by decide)] at j66
                                          rw [← hoth 68 (by decide)] at j68
                                          rw [← hoth 11 (by decide)] at hown
                                          replace j11 := hown
                                          replace y11 := yn
                                          clear hown hob yn hle hch hns
                                          obtain ⟨F11, hFF⟩ : ∃ F, F = G11 := ⟨_, rfl⟩
                                          subst hFF
                                          replace hsb := hsz.trans hsb
                                          replace hdb := hdf.trans hdb
                                          clear hsz hdf hoth
                                          obtain ⟨b, hbb⟩ : ∃ b, b = b2 := ⟨b2, rfl⟩
                                          subst hbb
                                          obtain ⟨q, hqq⟩ : ∃ q, q = q2 := ⟨q2, rfl⟩
                                          subst hqq
                                          exact tail_done (k := q) (hp489 _ _ ⟨F11, hgq, hsb, hdb, j2, j11, y11, j42, j43, j44, trivial⟩)
                                        · rintro a k ⟨F11, hg, hs, hd, i2, i11, n11, i42, i43, i44, _⟩
                                          obtain rfl := Option.some.inj hr
                                          exact hp486 _ _ ⟨F11, hg, hs, hd, i2, i11, n11, i42, i43, i44, trivial⟩
                                      · rw [if_neg (by rw [hc510]; decide)] at hr
                                        refine wp_seq ?_
                                        refine cut (fun a' k' => ∃ F11, Chg noF k0 k' ∧ a'.tmps.size = 90 ∧ a'.defers = [] ∧ (IsV lot) (a'.get 2) k' ∧ (SlR (KeyV.kv (κ := Int)) 37 (s471.1).l) F11 (a'.get 11) k' ∧ Lo k0 F11 ∧ (IsRef x476_0) (a'.get 15) k' ∧ (IsV moves) (a'.get 42) k' ∧ (IsV (α := Int) (moves.length : Int)) (a'.get 43) k' ∧ (IsV s471.2) (a'.get 44) k' ∧ (IsV x476_0.Kind) (a'.get 49) k' ∧ (IsV (x476_0.Kind == 2)) (a'.get 70) k' ∧ True) ?_ hQ ?_
                                        · intro Q508 hQQ508 hp509
                                          refine regionS (a0 := a) (k0 := k) (n := 90) (m := 2) (⟨some (IsV (x476_0.Kind == 2)), [(49, none)]⟩ :: ⟨some (IsV (x476_0.Kind == 2)), [(71, some 0)]⟩ :: []) hs (by kernel_rfl) ⟨⟨inferInstance, fun b q hk hn => ok_eqI rfl (up i49 hk hn.1) (isV_int.2 rfl), rfl⟩, ⟨inferInstance, fun b q hk hn => ok_assign rfl hn.1, rfl⟩, trivial⟩ hQQ508 fun b q p => ?_
                                          have hgq := hg.then p.grow
                                          have hsb := p.size.trans hs
                                          have hdb := p.defers.trans hd
                                          have j2 := keep p 2 rfl i2
                                          have j11 : (SlR (KeyV.kv (κ := Int)) 37 (s471.1).l) F11 (b.get 11) q := keep p 11 rfl i11
                                          have y11 := n11
                                          have j15 := keep p 15 rfl i15
                                          have j42 := keep p 42 rfl i42
                                          have j43 := keep p 43 rfl i43
                                          have j44 := keep p 44 rfl i44
                                          have j49 := keep p 49 rfl i49
                                          have j70 : (IsV (x476_0.Kind == 2)) (b.get 70) q := out p 1 70 _ rfl rfl rfl
                                          exact tail_done (k := q) (hp509 _ _ ⟨F11, hgq, hsb, hdb, j2, j11, y11, j15, j42, j43, j44, j49, j70, trivial⟩)
                                        · rintro a k ⟨F11, hg, hs, hd, i2, i11, n11, i15, i42, i43, i44, i49, i70, _⟩
                                          obtain ⟨s491, hs491, hr⟩ := bind_some hr
                                          refine cut (fun a' k' => ∃ F11, Chg noF k0 k' ∧ a'.tmps.size = 90 ∧ a'.defers = [] ∧ (IsV lot) (a'.get 2) k' ∧ (SlR (KeyV.kv (κ := Int)) 37 (s491).l) F11 (a'.get 11) k' ∧ Lo k0 F11 ∧ (IsV moves) (a'.get 42) k' ∧ (IsV (α := Int) (moves.length : Int)) (a'.get 43) k' ∧ (IsV s471.2) (a'.get 44) k' ∧ True) ?_ hQ ?_
                                          · intro Q507 hQQ507 hp492
                                            replace hr := hs491
                                            clear hQ
                                            have hQ := hQQ507
                                            refine wp_cond_split (isBool i70) (fun hc506 => ?_) (fun hc506 => ?_)
                                            · rw [if_pos hc506] at hr
                                              obtain ⟨x493_5, hx493_5, hr⟩ := bind_some hr
                                              refine cut (fun a' k' => ∃ F11, Chg noF k0 k' ∧ a'.tmps.size = 90 ∧ a'.defers = [] ∧ (IsV lot) (a'.get 2) k' ∧ (SlR (KeyV.kv (κ := Int)) 37 (x493_5).l) F11 (a'.get 11) k' ∧ Lo k0 F11 ∧ (IsV moves) (a'.get 42) k' ∧ (IsV (α := Int) (moves.length : Int)) (a'.get 43) k' ∧ (IsV s471.2) (a'.get 44) k' ∧ True) ?_ hQ ?_
                                              · intro Q494 hQQ494 hp495
                                                refine regionS (a0 := a) (k0 := k) (n := 90) (m := 5) (⟨some (Is (a.get 11)), [(11, none)]⟩ :: ⟨some (IsPtr x476_0.From), [(15, none)]⟩ :: ⟨some (IsV x476_0.From), [(73, some 1)]⟩ :: ⟨some (IsPtr x476_0.N), [(15, none)]⟩ :: ⟨some (IsV x476_0.N), [(75, some 3)]⟩ :: []) hs (by kernel_rfl) ⟨⟨inferInstance, fun b q hk hn => ok_move rfl hn.1, rfl⟩, ⟨inferInstance, fun b q hk hn => ok_fieldAddr rfl fo33_1 (at_Move_1 _) ((up i15 hk hn.1)).ptr, rfl⟩, ⟨inferInstance, fun b q hk hn => ok_load rfl ty3 hn.1, rfl⟩, ⟨inferInstance, fun b q hk hn => ok_fieldAddr rfl fo33_3 (at_Move_3 _) ((up i15 hk hn.1)).ptr, rfl⟩, ⟨inferInstance, fun b q hk hn => ok_load rfl ty3 hn.1, rfl⟩, trivial⟩ hQQ494 fun b q p => ?_
                                                have hgq := hg.then p.grow
                                                have hsb := p.size.trans hs
                                                have hdb := p.defers.trans hd
                                                have j2 := keep p 2 rfl i2
                                                have j11 : (SlR (KeyV.kv (κ := Int)) 37 (s471.1).l) F11 (b.get 11) q := keep p 11 rfl i11
                                                have y11 := n11
                                                have j42 := keep p 42 rfl i42
                                                have j43 := keep p 43 rfl i43
                                                have j44 := keep p 44 rfl i44
                                                have j72 : b.get 72 = b.get 11 := (show b.get 72 = a.get 11 from out p 0 72 _ rfl rfl rfl).trans (p.old 11 rfl).symm
                                                have j74 : (IsV x476_0.From) (b.get 74) q := out p 2 74 _ rfl rfl rfl
                                                have j76 : (IsV x476_0.N) (b.get 76) q := out p 4 76 _ rfl rfl rfl
                                                have hns := Rsc.nsh j11
                                                refine tail_call (F := F11) (i := 5) (d := 77) rfl rfl rfl rfl (by rw [hsb]; decide) Try.call27 hQQ494 (cTake_ok (show (SlR (KeyV.kv (κ := Int)) 37 (s471.1).l) F11 (b.get 72) q by rw [j72]; exact j11) j74 (isV_int.2 rfl) j76 hx493_5) fun b2 q2 hsz hdf hoth hch hres => ?_
                                                have hle := hch.le hns
                                                obtain ⟨G11, hown, hob⟩ := hres
                                                rw [show b.eval (.tmp 72) = b.get 11 from j72] at hown
                                                have yn : Lo k0 G11 := fun c hc => (hob c hc).elim (y11 c) (fun h => Nat.le_trans hgq.size h)
                                                replace j2 := Pers.pers hle j2
                                                replace j42 := Pers.pers hle j42
                                                replace j43 := Pers.pers hle j43
                                                replace j44 := Pers.pers hle j44
                                                replace j74 := Pers.pers hle j74
                                                replace j76 := Pers.pers hle j76
                                                replace hgq := hgq.step hch y11.wr
                                                rw [← hoth 2 (by decide)] at j2
                                                rw [← hoth 42 (by decide)] at j42
                                                rw [← hoth 43 (by decide)] at j43
                                                rw [← hoth 44 (by decide)] at j44
                                                rw [← hoth 74 (by decide)] at j74
                                                rw [← hoth 76 (by decide)] at j76
                                                rw [← hoth 11 (by decide)] at hown
                                                replace j11 := hown
                                                replace y11 := yn
                                                clear hown hob yn hle hch hns
                                                obtain ⟨F11, hFF⟩ : ∃ F, F = G11 := ⟨_, rfl⟩
                                                subst hFF
                                                replace hsb := hsz.trans hsb
                                                replace hdb := hdf.trans hdb
                                                clear hsz hdf hoth
                                                obtain ⟨b, hbb⟩ : ∃ b, b = b2 := ⟨b2, rfl⟩
                                                subst hbb
                                                obtain ⟨q, hqq⟩ : ∃ q, q = q2 := ⟨q2, rfl⟩
                                                subst hqq
                                                exact tail_done (k := q) (hp495 _ _ ⟨F11, hgq, hsb, hdb, j2, j11, y11, j42, j43, j44, trivial⟩)
                                              · rintro a k ⟨F11, hg, hs, hd, i2, i11, n11, i42, i43, i44, _⟩
                                                obtain rfl := Option.some.inj hr
                                                exact hp492 _ _ ⟨F11, hg, hs, hd, i2, i11, n11, i42, i43, i44, trivial⟩
                                            · rw [if_neg (by rw [hc506]; decide)] at hr
                                              refine wp_seq ?_
                                              refine cut (fun a' k' => ∃ F11, Chg noF k0 k' ∧ a'.tmps.size = 90 ∧ a'.defers = [] ∧ (IsV lot) (a'.get 2) k' ∧ (SlR (KeyV.kv (κ := Int)) 37 (s471.1).l) F11 (a'.get 11) k' ∧ Lo k0 F11 ∧ (IsRef x476_0) (a'.get 15) k' ∧ (IsV moves) (a'.get 42) k' ∧ (IsV (α := Int) (moves.length : Int)) (a'.get 43) k' ∧ (IsV s471.2) (a'.get 44) k' ∧ (IsV (x476_0.Kind == 3)) (a'.get 78) k' ∧ True) ?_ hQ ?_
                                              · intro Q504 hQQ504 hp505
                                                refine regionS (a0 := a) (k0 := k) (n := 90) (m := 2) (⟨some (IsV (x476_0.Kind == 3)), [(49, none)]⟩ :: ⟨some (IsV (x476_0.Kind == 3)), [(79, some 0)]⟩ :: []) hs (by kernel_rfl) ⟨⟨inferInstance, fun b q hk hn => ok_eqI rfl (up i49 hk hn.1) (isV_int.2 rfl), rfl⟩, ⟨inferInstance, fun b q hk hn => ok_assign rfl hn.1, rfl⟩, trivial⟩ hQQ504 fun b q p => ?_
                                                have hgq := hg.then p.grow
                                                have hsb := p.size.trans hs
                                                have hdb := p.defers.trans hd
                                                have j2 := keep p 2 rfl i2
                                                have j11 : (SlR (KeyV.kv (κ := Int)) 37 (s471.1).l) F11 (b.get 11) q := keep p 11 rfl i11
                                                have y11 := n11
                                                have j15 := keep p 15 rfl i15
                                                have j42 := keep p 42 rfl i42
                                                have j43 := keep p 43 rfl i43
                                                have j44 := keep p 44 rfl i44
                                                have j78 : (IsV (x476_0.Kind == 3)) (b.get 78) q := out p 1 78 _ rfl rfl rfl
                                                exact tail_done (k := q) (hp505 _ _ ⟨F11, hgq, hsb, hdb, j2, j11, y11, j15, j42, j43, j44, j78, trivial⟩)
                                              · rintro a k ⟨F11, hg, hs, hd, i2, i11, n11, i15, i42, i43, i44, i78, _⟩
                                                obtain ⟨s497, hs497, hr⟩ := bind_some hr
                                                refine cut (fun a' k' => ∃ F11, Chg noF k0 k' ∧ a'.tmps.size = 90 ∧ a'.defers = [] ∧ (IsV lot) (a'.get 2) k' ∧ (SlR (KeyV.kv (κ := Int)) 37 (s497).l) F11 (a'.get 11) k' ∧ Lo k0 F11 ∧ (IsV moves) (a'.get 42) k' ∧ (IsV (α := Int) (moves.length : Int)) (a'.get 43) k' ∧ (IsV s471.2) (a'.get 44) k' ∧ True) ?_ hQ ?_
                                                · intro Q503 hQQ503 hp498
                                                  replace hr := hs497
                                                  clear hQ
                                                  have hQ := hQQ503
                                                  refine wp_cond_split (isBool i78) (fun hc502 => ?_) (fun hc502 => ?_)
                                                  · rw [if_pos hc502] at hr
                                                    obtain ⟨x499_5, hx499_5, hr⟩ := bind_some hr
                                                    refine cut (fun a' k' => ∃ F11, Chg noF k0 k' ∧ a'.tmps.size = 90 ∧ a'.defers = [] ∧ (IsV lot) (a'.get 2) k' ∧ (SlR (KeyV.kv (κ := Int)) 37 (x499_5).l) F11 (a'.get 11) k' ∧ Lo k0 F11 ∧ (IsV moves) (a'.get 42) k' ∧ (IsV (α := Int) (moves.length : Int)) (a'.get 43) k' ∧ (IsV s471.2) (a'.get 44) k' ∧ True) ?_ hQ ?_
                                                    · intro Q500 hQQ500 hp501
                                                      refine regionS (a0 := a) (k0 := k) (n := 90) (m := 5) (⟨some (Is (a.get 11)), [(11, none)]⟩ :: ⟨some (IsPtr x476_0.From), [(15, none)]⟩ :: ⟨some (IsV x476_0.From), [(81, some 1)]⟩ :: ⟨some (IsPtr x476_0.N), [(15, none)]⟩ :: ⟨some (IsV x476_0.N), [(83, some 3)]⟩ :: []) hs (by kernel_rfl) ⟨⟨inferInstance, fun b q hk hn => ok_move rfl hn.1, rfl⟩, ⟨inferInstance, fun b q hk hn => ok_fieldAddr rfl fo33_1 (at_Move_1 _) ((up i15 hk hn.1)).ptr, rfl⟩, ⟨inferInstance, fun b q hk hn => ok_load rfl ty3 hn.1, rfl⟩, ⟨inferInstance, fun b q hk hn => ok_fieldAddr rfl fo33_3 (at_Move_3 _) ((up i15 hk hn.1)).ptr, rfl⟩, ⟨inferInstance, fun b q hk hn => ok_load rfl ty3 hn.1, rfl⟩, trivial⟩ hQQ500 fun b q p => ?_
                                                      have hgq := hg.then p.grow
                                                      have hsb := p.size.trans hs
                                                      have hdb := p.defers.trans hd
                                                      have j2 := keep p 2 rfl i2
                                                      have j11 : (SlR (KeyV.kv (κ := Int)) 37 (s471.1).l) F11 (b.get 11) q := keep p 11 rfl i11
                                                      have y11 := n11
                                                      have j42 := keep p 42 rfl i42
                                                      have j43 := keep p 43 rfl i43
                                                      have j44 := keep p 44 rfl i44
                                                      have j80 : b.get 80 = b.get 11 := (show b.get 80 = a.get 11 from out p 0 80 _ rfl rfl rfl).trans (p.old 11 rfl).symm
                                                      have j82 : (IsV x476_0.From) (b.get 82) q := out p 2 82 _ rfl rfl rfl
                                                      have j84 : (IsV x476_0.N) (b.get 84) q := out p 4 84 _ rfl rfl rfl
                                                      have hns := Rsc.nsh j11
                                                      refine tail_call (F := F11) (i := 5) (d := 85) rfl rfl rfl rfl (by rw [hsb]; decide) Try.call27 hQQ500 (cTake_ok (show (SlR (KeyV.kv (κ := Int)) 37 (s471.1).l) F11 (b.get 80) q by rw [j80]; exact j11) j82 (isV_int.2 rfl) j84 hx499_5) fun b2 q2 hsz hdf hoth hch hres => ?_
                                                      have hle := hch.le hns
                                                      obtain ⟨G11, hown, hob⟩ := hres
                                                      rw [show b.eval (.tmp 80) = b.get 11 from j80] at hown
                                                      have yn : Lo k0 G11 := fun c hc => (hob c hc).elim (y11 c) (fun h => Nat.le_trans hgq.size h)
                                                      replace j2 := Pers.pers hle j2
                                                      replace j42 := Pers.pers hle j42
                                                      replace j43 := Pers.pers hle j43
                                                      replace j44 := Pers.pers hle j44
                                                      replace j82 := Pers.pers hle j82
                                                      replace j84 := Pers.pers hle j84
                                                      replace hgq := hgq.step hch y11.wr
                                                      rw [← hoth 2 (by decide)] at j2
                                                      rw [← hoth 42 (by decide)] at j42
                                                      rw [← hoth 43 (by decide)] at j43
                                                      rw [← hoth 44 (by decide)] at j44
                                                      rw [← hoth 82 (by decide)] at j82
                                                      rw [← hoth 84 (by decide)] at j84
                                                      rw [← hoth 11 (by decide)] at hown
                                                      replace j11 := hown
                                                      replace y11 := yn
                                                      clear hown hob yn hle hch hns
                                                      obtain ⟨F11, hFF⟩ : ∃ F, F = G11 := ⟨_, rfl⟩
                                                      subst hFF
                                                      replace hsb := hsz.trans hsb
                                                      replace hdb := hdf.trans hdb
                                                      clear hsz hdf hoth
                                                      obtain ⟨b, hbb⟩ : ∃ b, b = b2 := ⟨b2, rfl⟩
                                                      subst hbb
                                                      obtain ⟨q, hqq⟩ : ∃ q, q = q2 := ⟨q2, rfl⟩
                                                      subst hqq
                                                      exact tail_done (k := q) (hp501 _ _ ⟨F11, hgq, hsb, hdb, j2, j11, y11, j42, j43, j44, trivial⟩)
                                                    · rintro a k ⟨F11, hg, hs, hd, i2, i11, n11, i42, i43, i44, _⟩
                                                      obtain rfl := Option.some.inj hr
                                                      exact hp498 _ _ ⟨F11, hg, hs, hd, i2, i11, n11, i42, i43, i44, trivial⟩
                                                  · rw [if_neg (by rw [hc502]; decide)] at hr
                                                    refine wp_skip ?_
                                                    obtain rfl := Option.some.inj hr
                                                    exact hp498 _ _ ⟨F11, hg, hs, hd, i2, i11, n11, i42, i43, i44, trivial⟩
                                                · clear hs497
                                                  rintro a k ⟨F11, hg, hs, hd, i2, i11, n11, i42, i43, i44, _⟩
                                                  obtain rfl := Option.some.inj hr
                                                  exact hp492 _ _ ⟨F11, hg, hs, hd, i2, i11, n11, i42, i43, i44, trivial⟩
                                          · clear hs491
                                            rintro a k ⟨F11, hg, hs, hd, i2, i11, n11, i42, i43, i44, _⟩
                                            obtain rfl := Option.some.inj hr
                                            exact hp486 _ _ ⟨F11, hg, hs, hd, i2, i11, n11, i42, i43, i44, trivial⟩
                                    · clear hs485
                                      rintro a k ⟨F11, hg, hs, hd, i2, i11, n11, i42, i43, i44, _⟩
                                      obtain rfl := Option.some.inj hr
                                      exact hp480 _ _ ⟨F11, hg, hs, hd, i2, i11, n11, i42, i43, i44, trivial⟩
                              · clear hs479
                                rintro a k ⟨F11, hg, hs, hd, i2, i11, n11, i42, i43, i44, _⟩
                                obtain ⟨x515_0, hx515_0, hr⟩ := bind_some hr
                                refine cut (fun a' k' => ∃ F11, Chg noF k0 k' ∧ a'.tmps.size = 90 ∧ a'.defers = [] ∧ (IsV lot) (a'.get 2) k' ∧ (SlR (KeyV.kv (κ := Int)) 37 (s479).l) F11 (a'.get 11) k' ∧ Lo k0 F11 ∧ (IsV moves) (a'.get 42) k' ∧ (IsV (α := Int) (moves.length : Int)) (a'.get 43) k' ∧ (IsV x515_0) (a'.get 44) k' ∧ True) ?_ hQ ?_
                                · intro Q516 hQQ516 hp517
                                  refine regionS (a0 := a) (k0 := k) (n := 90) (m := 2) (⟨some (IsV x515_0), [(44, none)]⟩ :: ⟨some (IsV x515_0), [(86, some 0)]⟩ :: []) hs (by kernel_rfl) ⟨⟨inferInstance, fun b q hk hn => ok_add rfl (up i44 hk hn.1) (isV_int.2 rfl) hx515_0, rfl⟩, ⟨inferInstance, fun b q hk hn => ok_move rfl hn.1, rfl⟩, trivial⟩ hQQ516 fun b q p => ?_
                                  have hgq := hg.then p.grow
                                  have hsb := p.size.trans hs
                                  have hdb := p.defers.trans hd
                                  have j2 := keep p 2 rfl i2
                                  have j11 : (SlR (KeyV.kv (κ := Int)) 37 (s479).l) F11 (b.get 11) q := keep p 11 rfl i11
                                  have y11 := n11
                                  have j42 := keep p 42 rfl i42
                                  have j43 := keep p 43 rfl i43
                                  have j44 : (IsV x515_0) (b.get 44) q := out p 1 44 _ rfl rfl rfl
                                  exact tail_done (k := q) (hp517 _ _ ⟨F11, hgq, hsb, hdb, j2, j11, y11, j42, j43, j44, trivial⟩)
                                · rintro a k ⟨F11, hg, hs, hd, i2, i11, n11, i42, i43, i44, _⟩
                                  exact hgo472 _ _ _ (Option.some.inj hr).symm ⟨F11, hg, hs, hd, i2, i11, n11, i42, i43, i44, trivial⟩
                      · rw [if_neg (by rw [hc526]; decide)] at hr
                        refine wp_exit ?_
                        obtain ⟨kk, sh525, ii11⟩ := SlR.give i11
                        replace i2 := Pers.pers sh525.le i2
                        replace i11 := ii11
                        replace hg := hg.hand sh525 n11.wr
                        rw [← sh525.w]
                        clear sh525
                        obtain ⟨k, hkk⟩ : ∃ k, k = kk := ⟨kk, rfl⟩
                        subst hkk
                        exact hex473 _ _ _ _ (Option.some.inj hr).symm ⟨rfl, hg, hs, hd, i2, i11, trivial⟩
                  · rintro _ _ _ rfl _
                    simp at hr
                  · clear hf529
                    rintro _ s530 a k rfl ⟨rfl, hg, hs, hd, i2, i11, _⟩
                    dsimp only at hr
                    refine wp_seq ?_
                    refine cut (fun a' k' => Chg noF k0 k' ∧ a'.tmps.size = 90 ∧ a'.defers = [] ∧ (IsV (((s530.1).get lot).getD ([]))) (a'.get 6) k' ∧ (IsV (α := Int) 0) (a'.get 7) k' ∧ True) ?_ hQ ?_
                    · intro Q532 hQQ532 hp533
                      refine regionS (a0 := a) (k0 := k) (n := 90) (m := 5) (⟨some (IsV s530.1), [(11, none)]⟩ :: ⟨some (IsV lot), [(2, none)]⟩ :: ⟨some (IsV (((s530.1).get lot).getD ([]))), [(87, some 0), (88, some 1)]⟩ :: ⟨some (IsV (((s530.1).get lot).getD ([]))), [(89, some 2)]⟩ :: ⟨some (IsV (α := Int) 0), []⟩ :: []) hs (by kernel_rfl) ⟨⟨inferInstance, fun b q hk hn => ok_move rfl (up i11 hk hn.1), rfl⟩, ⟨inferInstance, fun b q hk hn => ok_move rfl (up i2 hk hn.1), rfl⟩, ⟨inferInstance, fun b q hk hn => ok_lookupV rfl key3 Try.underlying49 z29 hn.1 (isV_int.1 hn.2.1), rfl⟩, ⟨inferInstance, fun b q hk hn => ok_assign rfl hn.1, rfl⟩, ⟨inferInstance, fun b q hk hn => ok_assign rfl (isV_int.2 rfl), rfl⟩, trivial⟩ hQQ532 fun b q p => ?_
                      have hgq := hg.then p.grow
                      have hsb := p.size.trans hs
                      have hdb := p.defers.trans hd
                      have j6 : (IsV (((s530.1).get lot).getD ([]))) (b.get 6) q := out p 3 6 _ rfl rfl rfl
                      have j7 : (IsV (α := Int) 0) (b.get 7) q := out p 4 7 _ rfl rfl rfl
                      exact tail_done (k := q) (hp533 _ _ ⟨hgq, hsb, hdb, j6, j7, trivial⟩)
                    · rintro a k ⟨hg, hs, hd, i6, i7, _⟩
                      refine wp_ret ?_
                      obtain rfl := Option.some.inj hr
                      exact retC2 rfl hd hg i6 i7
                  · rintro r534 a k rfl hR
                    dsimp only at hr
                    obtain rfl := Option.some.inj hr
                    exact hR
              · rintro r538 a k rfl hR
                dsimp only at hr
                obtain rfl := Option.some.inj hr
                exact hR
def small  : Option (Bool) :=
  (cDo ([(⟨1, 10, false⟩ : Account), (⟨2, 3, true⟩ : Account)]) (⟨1, 1, 2, 4⟩ : Move)).bind fun x555_2 =>
  (cRun ([(⟨1, 10, false⟩ : Account), (⟨2, 3, true⟩ : Account)]) ([(⟨1, 1, 2, 4⟩ : Move), (⟨2, 2, 0, 5⟩ : Move)])).bind fun x556_4 =>
  (cTrace ([(⟨1, 10, false⟩ : Account), (⟨2, 3, true⟩ : Account)]) ([(⟨1, 1, 2, 4⟩ : Move)]) 2).bind fun x557_3 =>
  (cTrace ([(⟨1, 10, false⟩ : Account), (⟨2, 3, true⟩ : Account)]) ([(⟨1, 1, 2, 4⟩ : Move), (⟨2, 2, 0, 5⟩ : Move)]) 0).bind fun x558_4 =>
  (cDo ([(⟨1, 10, false⟩ : Account), (⟨2, 3, true⟩ : Account)]) (⟨1, 2, 1, 1⟩ : Move)).bind fun x559_2 =>
  (cDo ([(⟨1, 10, false⟩ : Account), (⟨2, 3, true⟩ : Account)]) (⟨1, 1, 2, 11⟩ : Move)).bind fun x560_2 =>
  (if (((((((x555_2.2 == 0) && (x556_4.2.2 == 0)) && (x557_3.2 == 0)) && (x558_4.2 == 0)) && (x559_2.2 == 24)) && (x560_2.2 == 23)) && (x556_4.2.1 == 2)) then
    (cUnits x555_2.1 1).bind fun x562_3 =>
    some (x562_3 == 6)
  else
    some false).bind fun x562_5 =>
  (if x562_5 then
    (cUnits x555_2.1 2).bind fun x562_8 =>
    some (x562_8 == 7)
  else
    some false).bind fun x562_10 =>
  (if x562_10 then
    (cUnits x556_4.1 2).bind fun x562_13 =>
    some (x562_13 == 2)
  else
    some false).bind fun x562_15 =>
  (if x562_15 then
    (rSameTrace x557_3.1 ([((2, 3) : (Int × Int)), ((1, 4) : (Int × Int))])).bind fun x562_21 =>
    some x562_21
  else
    some false).bind fun x562_22 =>
  (if x562_22 then
    (rSameTrace x558_4.1 ([((2, 3) : (Int × Int)), ((1, 2) : (Int × Int))])).bind fun x562_28 =>
    some x562_28
  else
    some false).bind fun x562_29 =>
  some x562_29
theorem small_ok {k0 : K} {r : Bool} (hr : small = some r) :
    Calls Try.prog 8 #[] k0.w (Ret k0 (IsV r)) := by
  unfold small at hr
  refine Ret.ofC ?_
  refine enterK Try.func8 rfl Try.ntmps8 (show 0 ≤ 121 by decide) fun a k hk0 hs hd ha => ?_
  have hQ : Gb.LetsOut (bodyPost Try.prog Try.f8 (RetC noF k0 (IsV r))) := letsOutC
  have hg : Chg noF k0 k := by rw [hk0]; exact Chg.refl _ k0
  refine wp_seq ?_
  refine cut (fun a' k' => Chg noF k0 k' ∧ a'.tmps.size = 121 ∧ a'.defers = [] ∧ True) ?_ hQ ?_
  · intro Q693 hQQ693 hp694
    refine regionS (a0 := a) (k0 := k) (n := 121) (m := 1) (⟨some (IsV false), []⟩ :: []) hs (by kernel_rfl) ⟨⟨inferInstance, fun b q hk hn => ok_assign rfl (isV_bool.2 rfl), rfl⟩, trivial⟩ hQQ693 fun b q p => ?_
    have hgq := hg.then p.grow
    have hsb := p.size.trans hs
    have hdb := p.defers.trans hd
    exact tail_done (k := q) (hp694 _ _ ⟨hgq, hsb, hdb, trivial⟩)
  · rintro a k ⟨hg, hs, hd, _⟩
    refine wp_seq ?_
    refine cut (fun a' k' => Chg noF k0 k' ∧ a'.tmps.size = 121 ∧ a'.defers = [] ∧ (IsV ([(⟨1, 10, false⟩ : Account), (⟨2, 3, true⟩ : Account)])) (a'.get 1) k' ∧ True) ?_ hQ ?_
    · intro Q691 hQQ691 hp692
      refine regionS (a0 := a) (k0 := k) (n := 121) (m := 4) (⟨some (IsV (⟨1, 10, false⟩ : Account)), []⟩ :: ⟨some (IsV (⟨2, 3, true⟩ : Account)), []⟩ :: ⟨some (IsV ([(⟨1, 10, false⟩ : Account), (⟨2, 3, true⟩ : Account)])), [(18, some 0), (19, some 1)]⟩ :: ⟨some (IsV ([(⟨1, 10, false⟩ : Account), (⟨2, 3, true⟩ : Account)])), [(20, some 2)]⟩ :: []) hs (by kernel_rfl) ⟨⟨inferInstance, fun b q hk hn => ok_build rfl (bld35_0_1 (isV_int.2 rfl) (isV_int.2 rfl)), rfl⟩, ⟨inferInstance, fun b q hk hn => ok_build rfl (bld35_0_1_2 (isV_int.2 rfl) (isV_int.2 rfl) (isV_bool.2 rfl)), rfl⟩, ⟨inferInstance, fun b q hk hn => ok_buildSlice rfl Try.underlying22 eo35 rfl (by decide) (by decide) ⟨rfl, hn.1, rfl, hn.2.1, trivial⟩, rfl⟩, ⟨inferInstance, fun b q hk hn => ok_assign rfl hn.1, rfl⟩, trivial⟩ hQQ691 fun b q p => ?_
      have hgq := hg.then p.grow
      have hsb := p.size.trans hs
      have hdb := p.defers.trans hd
      have j1 : (IsV ([(⟨1, 10, false⟩ : Account), (⟨2, 3, true⟩ : Account)])) (b.get 1) q := out p 3 1 _ rfl rfl rfl
      exact tail_done (k := q) (hp692 _ _ ⟨hgq, hsb, hdb, j1, trivial⟩)
    · rintro a k ⟨hg, hs, hd, i1, _⟩
      refine wp_seq ?_
      refine cut (fun a' k' => Chg noF k0 k' ∧ a'.tmps.size = 121 ∧ a'.defers = [] ∧ (IsV ([(⟨1, 10, false⟩ : Account), (⟨2, 3, true⟩ : Account)])) (a'.get 1) k' ∧ (IsRef (⟨1, 1, 2, 4⟩ : Move)) (a'.get 2) k' ∧ True) ?_ hQ ?_
      · intro Q689 hQQ689 hp690
        refine regionS (a0 := a) (k0 := k) (n := 121) (m := 2) (⟨some (IsV (⟨1, 1, 2, 4⟩ : Move)), []⟩ :: ⟨some (IsBox k.w.heap.size (⟨0, 0, 0, 0⟩ : Move)), []⟩ :: []) hs (by kernel_rfl) ⟨⟨inferInstance, fun b q hk hn => ok_build rfl (bld33_0_1_2_3 (isV_int.2 rfl) (isV_int.2 rfl) (isV_int.2 rfl) (isV_int.2 rfl)), rfl⟩, ⟨inferInstance, fun b q hk hn => ok_alloc _ hk.size rfl z33, rfl⟩, trivial⟩ hQQ689 fun b q p => ?_
        have hgq := hg.then p.grow
        have hsb := p.size.trans hs
        have hdb := p.defers.trans hd
        have j1 := keep p 1 rfl i1
        obtain ⟨b2, j2, x2, z2⟩ : (IsBox k.w.heap.size (⟨0, 0, 0, 0⟩ : Move)) (b.get 2) q := out p 1 2 _ rfl rfl rfl
        replace x2 : Lo k (Eq b2) := Lo.eq x2
        have y2 : Lo k0 (Eq b2) := x2.chg hg
        have j21 : (IsV (⟨1, 1, 2, 4⟩ : Move)) (b.get 21) q := out p 0 21 _ rfl rfl rfl
        have hns := z2.nshF
        refine tail_storeB (i := 2) rfl rfl rfl rfl szf33 (Upd.self (α := Move)) j2 z2 j21 fun q2 hch hz => ?_
        replace hgq := hgq.step hch y2.wr
        have hle := hch.le hns
        replace j1 := Pers.pers hle j1
        replace j21 := Pers.pers hle j21
        replace z2 := hz
        clear hns hle hch
        obtain ⟨q, hqq⟩ : ∃ q, q = q2 := ⟨q2, rfl⟩
        subst hqq
        obtain ⟨q2, hsh, jn⟩ := z2.give
        replace j1 := Pers.pers hsh.le j1
        rw [← j2] at jn
        replace j2 := jn
        replace hgq := hgq.hand hsh y2.wr
        rw [← hsh.w]
        clear hsh
        obtain ⟨q, hqq⟩ : ∃ q, q = q2 := ⟨q2, rfl⟩
        subst hqq
        exact tail_done (k := q) (hp690 _ _ ⟨hgq, hsb, hdb, j1, j2, trivial⟩)
      · rintro a k ⟨hg, hs, hd, i1, i2, _⟩
        refine wp_seq ?_
        refine cut (fun a' k' => Chg noF k0 k' ∧ a'.tmps.size = 121 ∧ a'.defers = [] ∧ (IsV ([(⟨1, 10, false⟩ : Account), (⟨2, 3, true⟩ : Account)])) (a'.get 1) k' ∧ (IsRef (⟨1, 1, 2, 4⟩ : Move)) (a'.get 2) k' ∧ (IsRef (⟨2, 2, 0, 5⟩ : Move)) (a'.get 3) k' ∧ True) ?_ hQ ?_
        · intro Q687 hQQ687 hp688
          refine regionS (a0 := a) (k0 := k) (n := 121) (m := 2) (⟨some (IsV (⟨2, 2, 0, 5⟩ : Move)), []⟩ :: ⟨some (IsBox k.w.heap.size (⟨0, 0, 0, 0⟩ : Move)), []⟩ :: []) hs (by kernel_rfl) ⟨⟨inferInstance, fun b q hk hn => ok_build rfl (bld33_0_1_3 (isV_int.2 rfl) (isV_int.2 rfl) (isV_int.2 rfl)), rfl⟩, ⟨inferInstance, fun b q hk hn => ok_alloc _ hk.size rfl z33, rfl⟩, trivial⟩ hQQ687 fun b q p => ?_
          have hgq := hg.then p.grow
          have hsb := p.size.trans hs
          have hdb := p.defers.trans hd
          have j1 := keep p 1 rfl i1
          have j2 := keep p 2 rfl i2
          obtain ⟨b3, j3, x3, z3⟩ : (IsBox k.w.heap.size (⟨0, 0, 0, 0⟩ : Move)) (b.get 3) q := out p 1 3 _ rfl rfl rfl
          replace x3 : Lo k (Eq b3) := Lo.eq x3
          have y3 : Lo k0 (Eq b3) := x3.chg hg
          have j22 : (IsV (⟨2, 2, 0, 5⟩ : Move)) (b.get 22) q := out p 0 22 _ rfl rfl rfl
          have hns := z3.nshF
          refine tail_storeB (i := 2) rfl rfl rfl rfl szf33 (Upd.self (α := Move)) j3 z3 j22 fun q2 hch hz => ?_
          replace hgq := hgq.step hch y3.wr
          have hle := hch.le hns
          replace j1 := Pers.pers hle j1
          replace j2 := Pers.pers hle j2
          replace j22 := Pers.pers hle j22
          replace z3 := hz
          clear hns hle hch
          obtain ⟨q, hqq⟩ : ∃ q, q = q2 := ⟨q2, rfl⟩
          subst hqq
          obtain ⟨q2, hsh, jn⟩ := z3.give
          replace j1 := Pers.pers hsh.le j1
          replace j2 := Pers.pers hsh.le j2
          rw [← j3] at jn
          replace j3 := jn
          replace hgq := hgq.hand hsh y3.wr
          rw [← hsh.w]
          clear hsh
          obtain ⟨q, hqq⟩ : ∃ q, q = q2 := ⟨q2, rfl⟩
          subst hqq
          exact tail_done (k := q) (hp688 _ _ ⟨hgq, hsb, hdb, j1, j2, j3, trivial⟩)
        · rintro a k ⟨hg, hs, hd, i1, i2, i3, _⟩
          refine wp_seq ?_
          obtain ⟨x555_2, hx555_2, hr⟩ := bind_some hr
          refine cut (fun a' k' => Chg noF k0 k' ∧ a'.tmps.size = 121 ∧ a'.defers = [] ∧ (IsV ([(⟨1, 10, false⟩ : Account), (⟨2, 3, true⟩ : Account)])) (a'.get 1) k' ∧ (IsRef (⟨1, 1, 2, 4⟩ : Move)) (a'.get 2) k' ∧ (IsRef (⟨2, 2, 0, 5⟩ : Move)) (a'.get 3) k' ∧ (IsV x555_2.1) (a'.get 4) k' ∧ (IsV x555_2.2) (a'.get 5) k' ∧ True) ?_ hQ ?_
          · intro Q685 hQQ685 hp686
            refine regionS (a0 := a) (k0 := k) (n := 121) (m := 8) (⟨some (IsV ([(⟨1, 10, false⟩ : Account), (⟨2, 3, true⟩ : Account)])), [(1, none)]⟩ :: ⟨some (IsV (⟨1, 1, 2, 4⟩ : Move)), [(2, none)]⟩ :: ⟨some (IsTup2 (IsV x555_2.1) (IsV x555_2.2)), [(24, some 0), (25, some 1)]⟩ :: ⟨some (IsTup2 (IsV x555_2.1) (IsV x555_2.2)), [(26, some 2)]⟩ :: ⟨some (IsV x555_2.1), [(23, some 3)]⟩ :: ⟨some (IsV x555_2.2), [(23, some 3)]⟩ :: ⟨some (IsV x555_2.1), [(27, some 4)]⟩ :: ⟨some (IsV x555_2.2), [(28, some 5)]⟩ :: []) hs (by kernel_rfl) ⟨⟨inferInstance, fun b q hk hn => ok_move rfl (up i1 hk hn.1), rfl⟩, ⟨inferInstance, fun b q hk hn => ok_load rfl ty33 ((up i2 hk hn.1)).ptr, rfl⟩, ⟨inferInstance, fun b q hk hn => ok_call rfl Try.call13 (cDo_ok hn.1 hn.2.1 hx555_2), rfl⟩, ⟨inferInstance, fun b q hk hn => ok_move rfl hn.1, rfl⟩, ⟨inferInstance, fun b q hk hn => ok_ext2_0 rfl hn.1, rfl⟩, ⟨inferInstance, fun b q hk hn => ok_ext2_1 rfl hn.1, rfl⟩, ⟨inferInstance, fun b q hk hn => ok_assign rfl hn.1, rfl⟩, ⟨inferInstance, fun b q hk hn => ok_assign rfl hn.1, rfl⟩, trivial⟩ hQQ685 fun b q p => ?_
            have hgq := hg.then p.grow
            have hsb := p.size.trans hs
            have hdb := p.defers.trans hd
            have j1 := keep p 1 rfl i1
            have j2 := keep p 2 rfl i2
            have j3 := keep p 3 rfl i3
            have j4 : (IsV x555_2.1) (b.get 4) q := out p 6 4 _ rfl rfl rfl
            have j5 : (IsV x555_2.2) (b.get 5) q := out p 7 5 _ rfl rfl rfl
            exact tail_done (k := q) (hp686 _ _ ⟨hgq, hsb, hdb, j1, j2, j3, j4, j5, trivial⟩)
          · rintro a k ⟨hg, hs, hd, i1, i2, i3, i4, i5, _⟩
            refine wp_seq ?_
            obtain ⟨x556_4, hx556_4, hr⟩ := bind_some hr
            refine cut (fun a' k' => Chg noF k0 k' ∧ a'.tmps.size = 121 ∧ a'.defers = [] ∧ (IsV ([(⟨1, 10, false⟩ : Account), (⟨2, 3, true⟩ : Account)])) (a'.get 1) k' ∧ (IsRef (⟨1, 1, 2, 4⟩ : Move)) (a'.get 2) k' ∧ (IsRef (⟨2, 2, 0, 5⟩ : Move)) (a'.get 3) k' ∧ (IsV x555_2.1) (a'.get 4) k' ∧ (IsV x555_2.2) (a'.get 5) k' ∧ (IsV x556_4.1) (a'.get 6) k' ∧ (IsV x556_4.2.1) (a'.get 7) k' ∧ (IsV x556_4.2.2) (a'.get 8) k' ∧ True) ?_ hQ ?_
            · intro Q683 hQQ683 hp684
              refine regionS (a0 := a) (k0 := k) (n := 121) (m := 12) (⟨some (IsV ([(⟨1, 10, false⟩ : Account), (⟨2, 3, true⟩ : Account)])), [(1, none)]⟩ :: ⟨some (IsV (⟨1, 1, 2, 4⟩ : Move)), [(2, none)]⟩ :: ⟨some (IsV (⟨2, 2, 0, 5⟩ : Move)), [(3, none)]⟩ :: ⟨some (IsV ([(⟨1, 1, 2, 4⟩ : Move), (⟨2, 2, 0, 5⟩ : Move)])), [(31, some 1), (32, some 2)]⟩ :: ⟨some (IsTup3 (IsV x556_4.1) (IsV x556_4.2.1) (IsV x556_4.2.2)), [(30, some 0), (33, some 3)]⟩ :: ⟨some (IsTup3 (IsV x556_4.1) (IsV x556_4.2.1) (IsV x556_4.2.2)), [(34, some 4)]⟩ :: ⟨some (IsV x556_4.1), [(29, some 5)]⟩ :: ⟨some (IsV x556_4.2.1), [(29, some 5)]⟩ :: ⟨some (IsV x556_4.2.2), [(29, some 5)]⟩ :: ⟨some (IsV x556_4.1), [(35, some 6)]⟩ :: ⟨some (IsV x556_4.2.1), [(36, some 7)]⟩ :: ⟨some (IsV x556_4.2.2), [(37, some 8)]⟩ :: []) hs (by kernel_rfl) ⟨⟨inferInstance, fun b q hk hn => ok_move rfl (up i1 hk hn.1), rfl⟩, ⟨inferInstance, fun b q hk hn => ok_load rfl ty33 ((up i2 hk hn.1)).ptr, rfl⟩, ⟨inferInstance, fun b q hk hn => ok_load rfl ty33 ((up i3 hk hn.1)).ptr, rfl⟩, ⟨inferInstance, fun b q hk hn => ok_buildSlice rfl Try.underlying23 eo33 rfl (by decide) (by decide) ⟨rfl, hn.1, rfl, hn.2.1, trivial⟩, rfl⟩, ⟨inferInstance, fun b q hk hn => ok_call rfl Try.call10 (cRun_ok hn.1 hn.2.1 hx556_4), rfl⟩, ⟨inferInstance, fun b q hk hn => ok_move rfl hn.1, rfl⟩, ⟨inferInstance, fun b q hk hn => ok_ext3_0 rfl hn.1, rfl⟩, ⟨inferInstance, fun b q hk hn => ok_ext3_1 rfl hn.1, rfl⟩, ⟨inferInstance, fun b q hk hn => ok_ext3_2 rfl hn.1, rfl⟩, ⟨inferInstance, fun b q hk hn => ok_assign rfl hn.1, rfl⟩, ⟨inferInstance, fun b q hk hn => ok_assign rfl hn.1, rfl⟩, ⟨inferInstance, fun b q hk hn => ok_assign rfl hn.1, rfl⟩, trivial⟩ hQQ683 fun b q p => ?_
              have hgq := hg.then p.grow
              have hsb := p.size.trans hs
              have hdb := p.defers.trans hd
              have j1 := keep p 1 rfl i1
              have j2 := keep p 2 rfl i2
              have j3 := keep p 3 rfl i3
              have j4 := keep p 4 rfl i4
              have j5 := keep p 5 rfl i5
              have j6 : (IsV x556_4.1) (b.get 6) q := out p 9 6 _ rfl rfl rfl
              have j7 : (IsV x556_4.2.1) (b.get 7) q := out p 10 7 _ rfl rfl rfl
              have j8 : (IsV x556_4.2.2) (b.get 8) q := out p 11 8 _ rfl rfl rfl
              exact tail_done (k := q) (hp684 _ _ ⟨hgq, hsb, hdb, j1, j2, j3, j4, j5, j6, j7, j8, trivial⟩)
            · rintro a k ⟨hg, hs, hd, i1, i2, i3, i4, i5, i6, i7, i8, _⟩
              refine wp_seq ?_
              obtain ⟨x557_3, hx557_3, hr⟩ := bind_some hr
              refine cut (fun a' k' => Chg noF k0 k' ∧ a'.tmps.size = 121 ∧ a'.defers = [] ∧ (IsV ([(⟨1, 10, false⟩ : Account), (⟨2, 3, true⟩ : Account)])) (a'.get 1) k' ∧ (IsRef (⟨1, 1, 2, 4⟩ : Move)) (a'.get 2) k' ∧ (IsRef (⟨2, 2, 0, 5⟩ : Move)) (a'.get 3) k' ∧ (IsV x555_2.1) (a'.get 4) k' ∧ (IsV x555_2.2) (a'.get 5) k' ∧ (IsV x556_4.1) (a'.get 6) k' ∧ (IsV x556_4.2.1) (a'.get 7) k' ∧ (IsV x556_4.2.2) (a'.get 8) k' ∧ (IsV x557_3.1) (a'.get 9) k' ∧ (IsV x557_3.2) (a'.get 10) k' ∧ True) ?_ hQ ?_
              · intro Q681 hQQ681 hp682
                refine regionS (a0 := a) (k0 := k) (n := 121) (m := 9) (⟨some (IsV ([(⟨1, 10, false⟩ : Account), (⟨2, 3, true⟩ : Account)])), [(1, none)]⟩ :: ⟨some (IsV (⟨1, 1, 2, 4⟩ : Move)), [(2, none)]⟩ :: ⟨some (IsV ([(⟨1, 1, 2, 4⟩ : Move)])), [(40, some 1)]⟩ :: ⟨some (IsTup2 (IsV x557_3.1) (IsV x557_3.2)), [(39, some 0), (41, some 2)]⟩ :: ⟨some (IsTup2 (IsV x557_3.1) (IsV x557_3.2)), [(42, some 3)]⟩ :: ⟨some (IsV x557_3.1), [(38, some 4)]⟩ :: ⟨some (IsV x557_3.2), [(38, some 4)]⟩ :: ⟨some (IsV x557_3.1), [(43, some 5)]⟩ :: ⟨some (IsV x557_3.2), [(44, some 6)]⟩ :: []) hs (by kernel_rfl) ⟨⟨inferInstance, fun b q hk hn => ok_move rfl (up i1 hk hn.1), rfl⟩, ⟨inferInstance, fun b q hk hn => ok_load rfl ty33 ((up i2 hk hn.1)).ptr, rfl⟩, ⟨inferInstance, fun b q hk hn => ok_buildSlice rfl Try.underlying23 eo33 rfl (by decide) (by decide) ⟨rfl, hn.1, trivial⟩, rfl⟩, ⟨inferInstance, fun b q hk hn => ok_call rfl Try.call11 (cTrace_ok hn.1 hn.2.1 (isV_int.2 rfl) hx557_3), rfl⟩, ⟨inferInstance, fun b q hk hn => ok_move rfl hn.1, rfl⟩, ⟨inferInstance, fun b q hk hn => ok_ext2_0 rfl hn.1, rfl⟩, ⟨inferInstance, fun b q hk hn => ok_ext2_1 rfl hn.1, rfl⟩, ⟨inferInstance, fun b q hk hn => ok_assign rfl hn.1, rfl⟩, ⟨inferInstance, fun b q hk hn => ok_assign rfl hn.1, rfl⟩, trivial⟩ hQQ681 fun b q p => ?_
                have hgq := hg.then p.grow
                have hsb := p.size.trans hs
                have hdb := p.defers.trans hd
                have j1 := keep p 1 rfl i1
                have j2 := keep p 2 rfl i2
                have j3 := keep p 3 rfl i3
                have j4 := keep p 4 rfl i4
                have j5 := keep p 5 rfl i5
                have j6 := keep p 6 rfl i6
                have j7 := keep p 7 rfl i7
                have j8 := keep p 8 rfl i8
                have j9 : (IsV x557_3.1) (b.get 9) q := out p 7 9 _ rfl rfl rfl
                have j10 : (IsV x557_3.2) (b.get 10) q := out p 8 10 _ rfl rfl rfl
                exact tail_done (k := q) (hp682 _ _ ⟨hgq, hsb, hdb, j1, j2, j3, j4, j5, j6, j7, j8, j9, j10, trivial⟩)
              · rintro a k ⟨hg, hs, hd, i1, i2, i3, i4, i5, i6, i7, i8, i9, i10, _⟩
                refine wp_seq ?_
                obtain ⟨x558_4, hx558_4, hr⟩ := bind_some hr
                refine cut (fun a' k' => Chg noF k0 k' ∧ a'.tmps.size = 121 ∧ a'.defers = [] ∧ (IsV ([(⟨1, 10, false⟩ : Account), (⟨2, 3, true⟩ : Account)])) (a'.get 1) k' ∧ (IsV x555_2.1) (a'.get 4) k' ∧ (IsV x555_2.2) (a'.get 5) k' ∧ (IsV x556_4.1) (a'.get 6) k' ∧ (IsV x556_4.2.1) (a'.get 7) k' ∧ (IsV x556_4.2.2) (a'.get 8) k' ∧ (IsV x557_3.1) (a'.get 9) k' ∧ (IsV x557_3.2) (a'.get 10) k' ∧ (IsV x558_4.1) (a'.get 11) k' ∧ (IsV x558_4.2) (a'.get 12) k' ∧ True) ?_ hQ ?_
                · intro Q679 hQQ679 hp680
                  refine regionS (a0 := a) (k0 := k) (n := 121) (m := 10) (⟨some (IsV ([(⟨1, 10, false⟩ : Account), (⟨2, 3, true⟩ : Account)])), [(1, none)]⟩ :: ⟨some (IsV (⟨1, 1, 2, 4⟩ : Move)), [(2, none)]⟩ :: ⟨some (IsV (⟨2, 2, 0, 5⟩ : Move)), [(3, none)]⟩ :: ⟨some (IsV ([(⟨1, 1, 2, 4⟩ : Move), (⟨2, 2, 0, 5⟩ : Move)])), [(47, some 1), (48, some 2)]⟩ :: ⟨some (IsTup2 (IsV x558_4.1) (IsV x558_4.2)), [(46, some 0), (49, some 3)]⟩ :: ⟨some (IsTup2 (IsV x558_4.1) (IsV x558_4.2)), [(50, some 4)]⟩ :: ⟨some (IsV x558_4.1), [(45, some 5)]⟩ :: ⟨some (IsV x558_4.2), [(45, some 5)]⟩ :: ⟨some (IsV x558_4.1), [(51, some 6)]⟩ :: ⟨some (IsV x558_4.2), [(52, some 7)]⟩ :: []) hs (by kernel_rfl) ⟨⟨inferInstance, fun b q hk hn => ok_move rfl (up i1 hk hn.1), rfl⟩, ⟨inferInstance, fun b q hk hn => ok_load rfl ty33 ((up i2 hk hn.1)).ptr, rfl⟩, ⟨inferInstance, fun b q hk hn => ok_load rfl ty33 ((up i3 hk hn.1)).ptr, rfl⟩, ⟨inferInstance, fun b q hk hn => ok_buildSlice rfl Try.underlying23 eo33 rfl (by decide) (by decide) ⟨rfl, hn.1, rfl, hn.2.1, trivial⟩, rfl⟩, ⟨inferInstance, fun b q hk hn => ok_call rfl Try.call11 (cTrace_ok hn.1 hn.2.1 (isV_int.2 rfl) hx558_4), rfl⟩, ⟨inferInstance, fun b q hk hn => ok_move rfl hn.1, rfl⟩, ⟨inferInstance, fun b q hk hn => ok_ext2_0 rfl hn.1, rfl⟩, ⟨inferInstance, fun b q hk hn => ok_ext2_1 rfl hn.1, rfl⟩, ⟨inferInstance, fun b q hk hn => ok_assign rfl hn.1, rfl⟩, ⟨inferInstance, fun b q hk hn => ok_assign rfl hn.1, rfl⟩, trivial⟩ hQQ679 fun b q p => ?_
                  have hgq := hg.then p.grow
                  have hsb := p.size.trans hs
                  have hdb := p.defers.trans hd
                  have j1 := keep p 1 rfl i1
                  have j4 := keep p 4 rfl i4
                  have j5 := keep p 5 rfl i5
                  have j6 := keep p 6 rfl i6
                  have j7 := keep p 7 rfl i7
                  have j8 := keep p 8 rfl i8
                  have j9 := keep p 9 rfl i9
                  have j10 := keep p 10 rfl i10
                  have j11 : (IsV x558_4.1) (b.get 11) q := out p 8 11 _ rfl rfl rfl
                  have j12 : (IsV x558_4.2) (b.get 12) q := out p 9 12 _ rfl rfl rfl
                  exact tail_done (k := q) (hp680 _ _ ⟨hgq, hsb, hdb, j1, j4, j5, j6, j7, j8, j9, j10, j11, j12, trivial⟩)
                · rintro a k ⟨hg, hs, hd, i1, i4, i5, i6, i7, i8, i9, i10, i11, i12, _⟩
                  refine wp_seq ?_
                  obtain ⟨x559_2, hx559_2, hr⟩ := bind_some hr
                  refine cut (fun a' k' => Chg noF k0 k' ∧ a'.tmps.size = 121 ∧ a'.defers = [] ∧ (IsV ([(⟨1, 10, false⟩ : Account), (⟨2, 3, true⟩ : Account)])) (a'.get 1) k' ∧ (IsV x555_2.1) (a'.get 4) k' ∧ (IsV x555_2.2) (a'.get 5) k' ∧ (IsV x556_4.1) (a'.get 6) k' ∧ (IsV x556_4.2.1) (a'.get 7) k' ∧ (IsV x556_4.2.2) (a'.get 8) k' ∧ (IsV x557_3.1) (a'.get 9) k' ∧ (IsV x557_3.2) (a'.get 10) k' ∧ (IsV x558_4.1) (a'.get 11) k' ∧ (IsV x558_4.2) (a'.get 12) k' ∧ (IsV x559_2.2) (a'.get 14) k' ∧ True) ?_ hQ ?_
                  · intro Q677 hQQ677 hp678
                    refine regionS (a0 := a) (k0 := k) (n := 121) (m := 8) (⟨some (IsV ([(⟨1, 10, false⟩ : Account), (⟨2, 3, true⟩ : Account)])), [(1, none)]⟩ :: ⟨some (IsV (⟨1, 2, 1, 1⟩ : Move)), []⟩ :: ⟨some (IsTup2 (IsV x559_2.1) (IsV x559_2.2)), [(54, some 0), (55, some 1)]⟩ :: ⟨some (IsTup2 (IsV x559_2.1) (IsV x559_2.2)), [(56, some 2)]⟩ :: ⟨some (IsV x559_2.1), [(53, some 3)]⟩ :: ⟨some (IsV x559_2.2), [(53, some 3)]⟩ :: ⟨some (IsV x559_2.1), [(57, some 4)]⟩ :: ⟨some (IsV x559_2.2), [(58, some 5)]⟩ :: []) hs (by kernel_rfl) ⟨⟨inferInstance, fun b q hk hn => ok_move rfl (up i1 hk hn.1), rfl⟩, ⟨inferInstance, fun b q hk hn => ok_build rfl (bld33_0_1_2_3 (isV_int.2 rfl) (isV_int.2 rfl) (isV_int.2 rfl) (isV_int.2 rfl)), rfl⟩, ⟨inferInstance, fun b q hk hn => ok_call rfl Try.call13 (cDo_ok hn.1 hn.2.1 hx559_2), rfl⟩, ⟨inferInstance, fun b q hk hn => ok_move rfl hn.1, rfl⟩, ⟨inferInstance, fun b q hk hn => ok_ext2_0 rfl hn.1, rfl⟩, ⟨inferInstance, fun b q hk hn => ok_ext2_1 rfl hn.1, rfl⟩, ⟨inferInstance, fun b q hk hn => ok_assign rfl hn.1, rfl⟩, ⟨inferInstance, fun b q hk hn => ok_assign rfl hn.1, rfl⟩, trivial⟩ hQQ677 fun b q p => ?_
                    have hgq := hg.then p.grow
                    have hsb := p.size.trans hs
                    have hdb := p.defers.trans hd
                    have j1 := keep p 1 rfl i1
                    have j4 := keep p 4 rfl i4
                    have j5 := keep p 5 rfl i5
                    have j6 := keep p 6 rfl i6
                    have j7 := keep p 7 rfl i7
                    have j8 := keep p 8 rfl i8
                    have j9 := keep p 9 rfl i9
                    have j10 := keep p 10 rfl i10
                    have j11 := keep p 11 rfl i11
                    have j12 := keep p 12 rfl i12
                    have j14 : (IsV x559_2.2) (b.get 14) q := out p 7 14 _ rfl rfl rfl
                    exact tail_done (k := q) (hp678 _ _ ⟨hgq, hsb, hdb, j1, j4, j5, j6, j7, j8, j9, j10, j11, j12, j14, trivial⟩)
                  · rintro a k ⟨hg, hs, hd, i1, i4, i5, i6, i7, i8, i9, i10, i11, i12, i14, _⟩
                    refine wp_seq ?_
                    obtain ⟨x560_2, hx560_2, hr⟩ := bind_some hr
                    refine cut (fun a' k' => Chg noF k0 k' ∧ a'.tmps.size = 121 ∧ a'.defers = [] ∧ (IsV x555_2.1) (a'.get 4) k' ∧ (IsV x555_2.2) (a'.get 5) k' ∧ (IsV x556_4.1) (a'.get 6) k' ∧ (IsV x556_4.2.1) (a'.get 7) k' ∧ (IsV x556_4.2.2) (a'.get 8) k' ∧ (IsV x557_3.1) (a'.get 9) k' ∧ (IsV x557_3.2) (a'.get 10) k' ∧ (IsV x558_4.1) (a'.get 11) k' ∧ (IsV x558_4.2) (a'.get 12) k' ∧ (IsV x559_2.2) (a'.get 14) k' ∧ (IsV x560_2.2) (a'.get 16) k' ∧ True) ?_ hQ ?_
                    · intro Q675 hQQ675 hp676
                      refine regionS (a0 := a) (k0 := k) (n := 121) (m := 8) (⟨some (IsV ([(⟨1, 10, false⟩ : Account), (⟨2, 3, true⟩ : Account)])), [(1, none)]⟩ :: ⟨some (IsV (⟨1, 1, 2, 11⟩ : Move)), []⟩ :: ⟨some (IsTup2 (IsV x560_2.1) (IsV x560_2.2)), [(60, some 0), (61, some 1)]⟩ :: ⟨some (IsTup2 (IsV x560_2.1) (IsV x560_2.2)), [(62, some 2)]⟩ :: ⟨some (IsV x560_2.1), [(59, some 3)]⟩ :: ⟨some (IsV x560_2.2), [(59, some 3)]⟩ :: ⟨some (IsV x560_2.1), [(63, some 4)]⟩ :: ⟨some (IsV x560_2.2), [(64, some 5)]⟩ :: []) hs (by kernel_rfl) ⟨⟨inferInstance, fun b q hk hn => ok_move rfl (up i1 hk hn.1), rfl⟩, ⟨inferInstance, fun b q hk hn => ok_build rfl (bld33_0_1_2_3 (isV_int.2 rfl) (isV_int.2 rfl) (isV_int.2 rfl) (isV_int.2 rfl)), rfl⟩, ⟨inferInstance, fun b q hk hn => ok_call rfl Try.call13 (cDo_ok hn.1 hn.2.1 hx560_2), rfl⟩, ⟨inferInstance, fun b q hk hn => ok_move rfl hn.1, rfl⟩, ⟨inferInstance, fun b q hk hn => ok_ext2_0 rfl hn.1, rfl⟩, ⟨inferInstance, fun b q hk hn => ok_ext2_1 rfl hn.1, rfl⟩, ⟨inferInstance, fun b q hk hn => ok_assign rfl hn.1, rfl⟩, ⟨inferInstance, fun b q hk hn => ok_assign rfl hn.1, rfl⟩, trivial⟩ hQQ675 fun b q p => ?_
                      have hgq := hg.then p.grow
                      have hsb := p.size.trans hs
                      have hdb := p.defers.trans hd
                      have j4 := keep p 4 rfl i4
                      have j5 := keep p 5 rfl i5
                      have j6 := keep p 6 rfl i6
                      have j7 := keep p 7 rfl i7
                      have j8 := keep p 8 rfl i8
                      have j9 := keep p 9 rfl i9
                      have j10 := keep p 10 rfl i10
                      have j11 := keep p 11 rfl i11
                      have j12 := keep p 12 rfl i12
                      have j14 := keep p 14 rfl i14
                      have j16 : (IsV x560_2.2) (b.get 16) q := out p 7 16 _ rfl rfl rfl
                      exact tail_done (k := q) (hp676 _ _ ⟨hgq, hsb, hdb, j4, j5, j6, j7, j8, j9, j10, j11, j12, j14, j16, trivial⟩)
                    · rintro a k ⟨hg, hs, hd, i4, i5, i6, i7, i8, i9, i10, i11, i12, i14, i16, _⟩
                      refine wp_seq ?_
                      refine cut (fun a' k' => Chg noF k0 k' ∧ a'.tmps.size = 121 ∧ a'.defers = [] ∧ (IsV x555_2.1) (a'.get 4) k' ∧ (IsV x556_4.1) (a'.get 6) k' ∧ (IsV x557_3.1) (a'.get 9) k' ∧ (IsV x558_4.1) (a'.get 11) k' ∧ (IsV (((((((x555_2.2 == 0) && (x556_4.2.2 == 0)) && (x557_3.2 == 0)) && (x558_4.2 == 0)) && (x559_2.2 == 24)) && (x560_2.2 == 23)) && (x556_4.2.1 == 2))) (a'.get 17) k' ∧ True) ?_ hQ ?_
                      · intro Q610 hQQ610 hp611
                        rcases Bool.eq_false_or_eq_true (x555_2.2 == 0) with hm612 | hm612
                        · rcases Bool.eq_false_or_eq_true ((x555_2.2 == 0) && (x556_4.2.2 == 0)) with hm614 | hm614
                          · rcases Bool.eq_false_or_eq_true (((x555_2.2 == 0) && (x556_4.2.2 == 0)) && (x557_3.2 == 0)) with hm616 | hm616
                            · rcases Bool.eq_false_or_eq_true ((((x555_2.2 == 0) && (x556_4.2.2 == 0)) && (x557_3.2 == 0)) && (x558_4.2 == 0)) with hm618 | hm618
                              · rcases Bool.eq_false_or_eq_true (((((x555_2.2 == 0) && (x556_4.2.2 == 0)) && (x557_3.2 == 0)) && (x558_4.2 == 0)) && (x559_2.2 == 24)) with hm620 | hm620
                                · rcases Bool.eq_false_or_eq_true ((((((x555_2.2 == 0) && (x556_4.2.2 == 0)) && (x557_3.2 == 0)) && (x558_4.2 == 0)) && (x559_2.2 == 24)) && (x560_2.2 == 23)) with hm622 | hm622
                                  · refine regionS (a0 := a) (k0 := k) (n := 121) (m := 27) (⟨some (IsV x555_2.2), [(5, none)]⟩ :: ⟨some (IsV (x555_2.2 == 0)), [(65, some 0)]⟩ :: ⟨some (IsV (x555_2.2 == 0)), [(66, some 1)]⟩ :: ⟨some (IsV x556_4.2.2), [(8, none)]⟩ :: ⟨some (IsV (x556_4.2.2 == 0)), [(68, some 3)]⟩ :: ⟨some (IsV ((x555_2.2 == 0) && (x556_4.2.2 == 0))), [(67, some 2), (69, some 4)]⟩ :: ⟨some (IsV ((x555_2.2 == 0) && (x556_4.2.2 == 0))), [(70, some 5)]⟩ :: ⟨some (IsV x557_3.2), [(10, none)]⟩ :: ⟨some (IsV (x557_3.2 == 0)), [(72, some 7)]⟩ :: ⟨some (IsV (((x555_2.2 == 0) && (x556_4.2.2 == 0)) && (x557_3.2 == 0))), [(71, some 6), (73, some 8)]⟩ :: ⟨some (IsV (((x555_2.2 == 0) && (x556_4.2.2 == 0)) && (x557_3.2 == 0))), [(74, some 9)]⟩ :: ⟨some (IsV x558_4.2), [(12, none)]⟩ :: ⟨some (IsV (x558_4.2 == 0)), [(76, some 11)]⟩ :: ⟨some (IsV ((((x555_2.2 == 0) && (x556_4.2.2 == 0)) && (x557_3.2 == 0)) && (x558_4.2 == 0))), [(75, some 10), (77, some 12)]⟩ :: ⟨some (IsV ((((x555_2.2 == 0) && (x556_4.2.2 == 0)) && (x557_3.2 == 0)) && (x558_4.2 == 0))), [(78, some 13)]⟩ :: ⟨some (IsV x559_2.2), [(14, none)]⟩ :: ⟨some (IsV (x559_2.2 == 24)), [(80, some 15)]⟩ :: ⟨some (IsV (((((x555_2.2 == 0) && (x556_4.2.2 == 0)) && (x557_3.2 == 0)) && (x558_4.2 == 0)) && (x559_2.2 == 24))), [(79, some 14), (81, some 16)]⟩ :: ⟨some (IsV (((((x555_2.2 == 0) && (x556_4.2.2 == 0)) && (x557_3.2 == 0)) && (x558_4.2 == 0)) && (x559_2.2 == 24))), [(82, some 17)]⟩ :: ⟨some (IsV x560_2.2), [(16, none)]⟩ :: ⟨some (IsV (x560_2.2 == 23)), [(84, some 19)]⟩ :: ⟨some (IsV ((((((x555_2.2 == 0) && (x556_4.2.2 == 0)) && (x557_3.2 == 0)) && (x558_4.2 == 0)) && (x559_2.2 == 24)) && (x560_2.2 == 23))), [(83, some 18), (85, some 20)]⟩ :: ⟨some (IsV ((((((x555_2.2 == 0) && (x556_4.2.2 == 0)) && (x557_3.2 == 0)) && (x558_4.2 == 0)) && (x559_2.2 == 24)) && (x560_2.2 == 23))), [(86, some 21)]⟩ :: ⟨some (IsV x556_4.2.1), [(7, none)]⟩ :: ⟨some (IsV (x556_4.2.1 == 2)), [(88, some 23)]⟩ :: ⟨some (IsV (((((((x555_2.2 == 0) && (x556_4.2.2 == 0)) && (x557_3.2 == 0)) && (x558_4.2 == 0)) && (x559_2.2 == 24)) && (x560_2.2 == 23)) && (x556_4.2.1 == 2))), [(87, some 22), (89, some 24)]⟩ :: ⟨some (IsV (((((((x555_2.2 == 0) && (x556_4.2.2 == 0)) && (x557_3.2 == 0)) && (x558_4.2 == 0)) && (x559_2.2 == 24)) && (x560_2.2 == 23)) && (x556_4.2.1 == 2))), [(90, some 25)]⟩ :: []) hs (by kernel_rfl) ⟨⟨inferInstance, fun b q hk hn => ok_move rfl (up i5 hk hn.1), rfl⟩, ⟨inferInstance, fun b q hk hn => ok_eqI rfl hn.1 (isV_int.2 rfl), rfl⟩, ⟨inferInstance, fun b q hk hn => ok_move rfl hn.1, rfl⟩, ⟨inferInstance, fun b q hk hn => ok_move rfl (up i8 hk hn.1), guardT hm612⟩, ⟨inferInstance, fun b q hk hn => ok_eqI rfl hn.1 (isV_int.2 rfl), guardT hm612⟩, ⟨inferInstance, fun b q hk hn => ok_cast (and_t hm612) (ok_pick_t rfl hn.1 hm612 hn.2.1), rfl⟩, ⟨inferInstance, fun b q hk hn => ok_move rfl hn.1, rfl⟩, ⟨inferInstance, fun b q hk hn => ok_move rfl (up i10 hk hn.1), guardT hm614⟩, ⟨inferInstance, fun b q hk hn => ok_eqI rfl hn.1 (isV_int.2 rfl), guardT hm614⟩, ⟨inferInstance, fun b q hk hn => ok_cast (and_t hm614) (ok_pick_t rfl hn.1 hm614 hn.2.1), rfl⟩, ⟨inferInstance, fun b q hk hn => ok_move rfl hn.1, rfl⟩, ⟨inferInstance, fun b q hk hn => ok_move rfl (up i12 hk hn.1), guardT hm616⟩, ⟨inferInstance, fun b q hk hn => ok_eqI rfl hn.1 (isV_int.2 rfl), guardT hm616⟩, ⟨inferInstance, fun b q hk hn => ok_cast (and_t hm616) (ok_pick_t rfl hn.1 hm616 hn.2.1), rfl⟩, ⟨inferInstance, fun b q hk hn => ok_move rfl hn.1, rfl⟩, ⟨inferInstance, fun b q hk hn => ok_move rfl (up i14 hk hn.1), guardT hm618⟩, ⟨inferInstance, fun b q hk hn => ok_eqI rfl hn.1 (isV_int.2 rfl), guardT hm618⟩, ⟨inferInstance, fun b q hk hn => ok_cast (and_t hm618) (ok_pick_t rfl hn.1 hm618 hn.2.1), rfl⟩, ⟨inferInstance, fun b q hk hn => ok_move rfl hn.1, rfl⟩, ⟨inferInstance, fun b q hk hn => ok_move rfl (up i16 hk hn.1), guardT hm620⟩, ⟨inferInstance, fun b q hk hn => ok_eqI rfl hn.1 (isV_int.2 rfl), guardT hm620⟩, ⟨inferInstance, fun b q hk hn => ok_cast (and_t hm620) (ok_pick_t rfl hn.1 hm620 hn.2.1), rfl⟩, ⟨inferInstance, fun b q hk hn => ok_move rfl hn.1, rfl⟩, ⟨inferInstance, fun b q hk hn => ok_move rfl (up i7 hk hn.1), guardT hm622⟩, ⟨inferInstance, fun b q hk hn => ok_eqI rfl hn.1 (isV_int.2 rfl), guardT hm622⟩, ⟨inferInstance, fun b q hk hn => ok_cast (and_t hm622) (ok_pick_t rfl hn.1 hm622 hn.2.1), rfl⟩, ⟨inferInstance, fun b q hk hn => ok_assign rfl hn.1, rfl⟩, trivial⟩ hQQ610 fun b q p => ?_
                                    have hgq := hg.then p.grow
                                    have hsb := p.size.trans hs
                                    have hdb := p.defers.trans hd
                                    have j4 := keep p 4 rfl i4
                                    have j6 := keep p 6 rfl i6
                                    have j9 := keep p 9 rfl i9
                                    have j11 := keep p 11 rfl i11
                                    have j17 : (IsV (((((((x555_2.2 == 0) && (x556_4.2.2 == 0)) && (x557_3.2 == 0)) && (x558_4.2 == 0)) && (x559_2.2 == 24)) && (x560_2.2 == 23)) && (x556_4.2.1 == 2))) (b.get 17) q := out p 26 17 _ rfl rfl rfl
                                    exact tail_done (k := q) (hp611 _ _ ⟨hgq, hsb, hdb, j4, j6, j9, j11, j17, trivial⟩)
                                  · have hk624 : (((((((x555_2.2 == 0) && (x556_4.2.2 == 0)) && (x557_3.2 == 0)) && (x558_4.2 == 0)) && (x559_2.2 == 24)) && (x560_2.2 == 23)) && (x556_4.2.1 == 2)) = false := (and_f hm622).symm
                                    refine regionS (a0 := a) (k0 := k) (n := 121) (m := 27) (⟨some (IsV x555_2.2), [(5, none)]⟩ :: ⟨some (IsV (x555_2.2 == 0)), [(65, some 0)]⟩ :: ⟨some (IsV (x555_2.2 == 0)), [(66, some 1)]⟩ :: ⟨some (IsV x556_4.2.2), [(8, none)]⟩ :: ⟨some (IsV (x556_4.2.2 == 0)), [(68, some 3)]⟩ :: ⟨some (IsV ((x555_2.2 == 0) && (x556_4.2.2 == 0))), [(67, some 2), (69, some 4)]⟩ :: ⟨some (IsV ((x555_2.2 == 0) && (x556_4.2.2 == 0))), [(70, some 5)]⟩ :: ⟨some (IsV x557_3.2), [(10, none)]⟩ :: ⟨some (IsV (x557_3.2 == 0)), [(72, some 7)]⟩ :: ⟨some (IsV (((x555_2.2 == 0) && (x556_4.2.2 == 0)) && (x557_3.2 == 0))), [(71, some 6), (73, some 8)]⟩ :: ⟨some (IsV (((x555_2.2 == 0) && (x556_4.2.2 == 0)) && (x557_3.2 == 0))), [(74, some 9)]⟩ :: ⟨some (IsV x558_4.2), [(12, none)]⟩ :: ⟨some (IsV (x558_4.2 == 0)), [(76, some 11)]⟩ :: ⟨some (IsV ((((x555_2.2 == 0) && (x556_4.2.2 == 0)) && (x557_3.2 == 0)) && (x558_4.2 == 0))), [(75, some 10), (77, some 12)]⟩ :: ⟨some (IsV ((((x555_2.2 == 0) && (x556_4.2.2 == 0)) && (x557_3.2 == 0)) && (x558_4.2 == 0))), [(78, some 13)]⟩ :: ⟨some (IsV x559_2.2), [(14, none)]⟩ :: ⟨some (IsV (x559_2.2 == 24)), [(80, some 15)]⟩ :: ⟨some (IsV (((((x555_2.2 == 0) && (x556_4.2.2 == 0)) && (x557_3.2 == 0)) && (x558_4.2 == 0)) && (x559_2.2 == 24))), [(79, some 14), (81, some 16)]⟩ :: ⟨some (IsV (((((x555_2.2 == 0) && (x556_4.2.2 == 0)) && (x557_3.2 == 0)) && (x558_4.2 == 0)) && (x559_2.2 == 24))), [(82, some 17)]⟩ :: ⟨some (IsV x560_2.2), [(16, none)]⟩ :: ⟨some (IsV (x560_2.2 == 23)), [(84, some 19)]⟩ :: ⟨some (IsV ((((((x555_2.2 == 0) && (x556_4.2.2 == 0)) && (x557_3.2 == 0)) && (x558_4.2 == 0)) && (x559_2.2 == 24)) && (x560_2.2 == 23))), [(83, some 18), (85, some 20)]⟩ :: ⟨some (IsV ((((((x555_2.2 == 0) && (x556_4.2.2 == 0)) && (x557_3.2 == 0)) && (x558_4.2 == 0)) && (x559_2.2 == 24)) && (x560_2.2 == 23))), [(86, some 21)]⟩ :: ⟨none, []⟩ :: ⟨none, []⟩ :: ⟨some (IsV (((((((x555_2.2 == 0) && (x556_4.2.2 == 0)) && (x557_3.2 == 0)) && (x558_4.2 == 0)) && (x559_2.2 == 24)) && (x560_2.2 == 23)) && (x556_4.2.1 == 2))), [(87, some 22), (89, some 24)]⟩ :: ⟨some (IsV (((((((x555_2.2 == 0) && (x556_4.2.2 == 0)) && (x557_3.2 == 0)) && (x558_4.2 == 0)) && (x559_2.2 == 24)) && (x560_2.2 == 23)) && (x556_4.2.1 == 2))), [(90, some 25)]⟩ :: []) hs (by kernel_rfl) ⟨⟨inferInstance, fun b q hk hn => ok_move rfl (up i5 hk hn.1), rfl⟩, ⟨inferInstance, fun b q hk hn => ok_eqI rfl hn.1 (isV_int.2 rfl), rfl⟩, ⟨inferInstance, fun b q hk hn => ok_move rfl hn.1, rfl⟩, ⟨inferInstance, fun b q hk hn => ok_move rfl (up i8 hk hn.1), guardT hm612⟩, ⟨inferInstance, fun b q hk hn => ok_eqI rfl hn.1 (isV_int.2 rfl), guardT hm612⟩, ⟨inferInstance, fun b q hk hn => ok_cast (and_t hm612) (ok_pick_t rfl hn.1 hm612 hn.2.1), rfl⟩, ⟨inferInstance, fun b q hk hn => ok_move rfl hn.1, rfl⟩, ⟨inferInstance, fun b q hk hn => ok_move rfl (up i10 hk hn.1), guardT hm614⟩, ⟨inferInstance, fun b q hk hn => ok_eqI rfl hn.1 (isV_int.2 rfl), guardT hm614⟩, ⟨inferInstance, fun b q hk hn => ok_cast (and_t hm614) (ok_pick_t rfl hn.1 hm614 hn.2.1), rfl⟩, ⟨inferInstance, fun b q hk hn => ok_move rfl hn.1, rfl⟩, ⟨inferInstance, fun b q hk hn => ok_move rfl (up i12 hk hn.1), guardT hm616⟩, ⟨inferInstance, fun b q hk hn => ok_eqI rfl hn.1 (isV_int.2 rfl), guardT hm616⟩, ⟨inferInstance, fun b q hk hn => ok_cast (and_t hm616) (ok_pick_t rfl hn.1 hm616 hn.2.1), rfl⟩, ⟨inferInstance, fun b q hk hn => ok_move rfl hn.1, rfl⟩, ⟨inferInstance, fun b q hk hn => ok_move rfl (up i14 hk hn.1), guardT hm618⟩, ⟨inferInstance, fun b q hk hn => ok_eqI rfl hn.1 (isV_int.2 rfl), guardT hm618⟩, ⟨inferInstance, fun b q hk hn => ok_cast (and_t hm618) (ok_pick_t rfl hn.1 hm618 hn.2.1), rfl⟩, ⟨inferInstance, fun b q hk hn => ok_move rfl hn.1, rfl⟩, ⟨inferInstance, fun b q hk hn => ok_move rfl (up i16 hk hn.1), guardT hm620⟩, ⟨inferInstance, fun b q hk hn => ok_eqI rfl hn.1 (isV_int.2 rfl), guardT hm620⟩, ⟨inferInstance, fun b q hk hn => ok_cast (and_t hm620) (ok_pick_t rfl hn.1 hm620 hn.2.1), rfl⟩, ⟨inferInstance, fun b q hk hn => ok_move rfl hn.1, rfl⟩, guardF hm622, guardF hm622, ⟨inferInstance, fun b q hk hn => ok_cast (and_f hm622) (ok_pick_f rfl hn.1 hm622 (isV_bool.2 rfl)), rfl⟩, ⟨inferInstance, fun b q hk hn => ok_assign rfl hn.1, rfl⟩, trivial⟩ hQQ610 fun b q p => ?_
                                    have hgq := hg.then p.grow
                                    have hsb := p.size.trans hs
                                    have hdb := p.defers.trans hd
                                    have j4 := keep p 4 rfl i4
                                    have j6 := keep p 6 rfl i6
                                    have j9 := keep p 9 rfl i9
                                    have j11 := keep p 11 rfl i11
                                    have j17 : (IsV (((((((x555_2.2 == 0) && (x556_4.2.2 == 0)) && (x557_3.2 == 0)) && (x558_4.2 == 0)) && (x559_2.2 == 24)) && (x560_2.2 == 23)) && (x556_4.2.1 == 2))) (b.get 17) q := out p 26 17 _ rfl rfl rfl
                                    exact tail_done (k := q) (hp611 _ _ ⟨hgq, hsb, hdb, j4, j6, j9, j11, j17, trivial⟩)
                                · have hk625 : ((((((x555_2.2 == 0) && (x556_4.2.2 == 0)) && (x557_3.2 == 0)) && (x558_4.2 == 0)) && (x559_2.2 == 24)) && (x560_2.2 == 23)) = false := (and_f hm620).symm
                                  have hm626 := hk625
                                  have hk628 : (((((((x555_2.2 == 0) && (x556_4.2.2 == 0)) && (x557_3.2 == 0)) && (x558_4.2 == 0)) && (x559_2.2 == 24)) && (x560_2.2 == 23)) && (x556_4.2.1 == 2)) = false := (and_f hm626).symm
                                  refine regionS (a0 := a) (k0 := k) (n := 121) (m := 27) (⟨some (IsV x555_2.2), [(5, none)]⟩ :: ⟨some (IsV (x555_2.2 == 0)), [(65, some 0)]⟩ :: ⟨some (IsV (x555_2.2 == 0)), [(66, some 1)]⟩ :: ⟨some (IsV x556_4.2.2), [(8, none)]⟩ :: ⟨some (IsV (x556_4.2.2 == 0)), [(68, some 3)]⟩ :: ⟨some (IsV ((x555_2.2 == 0) && (x556_4.2.2 == 0))), [(67, some 2), (69, some 4)]⟩ :: ⟨some (IsV ((x555_2.2 == 0) && (x556_4.2.2 == 0))), [(70, some 5)]⟩ :: ⟨some (IsV x557_3.2), [(10, none)]⟩ :: ⟨some (IsV (x557_3.2 == 0)), [(72, some 7)]⟩ :: ⟨some (IsV (((x555_2.2 == 0) && (x556_4.2.2 == 0)) && (x557_3.2 == 0))), [(71, some 6), (73, some 8)]⟩ :: ⟨some (IsV (((x555_2.2 == 0) && (x556_4.2.2 == 0)) && (x557_3.2 == 0))), [(74, some 9)]⟩ :: ⟨some (IsV x558_4.2), [(12, none)]⟩ :: ⟨some (IsV (x558_4.2 == 0)), [(76, some 11)]⟩ :: ⟨some (IsV ((((x555_2.2 == 0) && (x556_4.2.2 == 0)) && (x557_3.2 == 0)) && (x558_4.2 == 0))), [(75, some 10), (77, some 12)]⟩ :: ⟨some (IsV ((((x555_2.2 == 0) && (x556_4.2.2 == 0)) && (x557_3.2 == 0)) && (x558_4.2 == 0))), [(78, some 13)]⟩ :: ⟨some (IsV x559_2.2), [(14, none)]⟩ :: ⟨some (IsV (x559_2.2 == 24)), [(80, some 15)]⟩ :: ⟨some (IsV (((((x555_2.2 == 0) && (x556_4.2.2 == 0)) && (x557_3.2 == 0)) && (x558_4.2 == 0)) && (x559_2.2 == 24))), [(79, some 14), (81, some 16)]⟩ :: ⟨some (IsV (((((x555_2.2 == 0) && (x556_4.2.2 == 0)) && (x557_3.2 == 0)) && (x558_4.2 == 0)) && (x559_2.2 == 24))), [(82, some 17)]⟩ :: ⟨none, []⟩ :: ⟨none, []⟩ :: ⟨some (IsV ((((((x555_2.2 == 0) && (x556_4.2.2 == 0)) && (x557_3.2 == 0)) && (x558_4.2 == 0)) && (x559_2.2 == 24)) && (x560_2.2 == 23))), [(83, some 18), (85, some 20)]⟩ :: ⟨some (IsV ((((((x555_2.2 == 0) && (x556_4.2.2 == 0)) && (x557_3.2 == 0)) && (x558_4.2 == 0)) && (x559_2.2 == 24)) && (x560_2.2 == 23))), [(86, some 21)]⟩ :: ⟨none, []⟩ :: ⟨none, []⟩ :: ⟨some (IsV (((((((x555_2.2 == 0) && (x556_4.2.2 == 0)) && (x557_3.2 == 0)) && (x558_4.2 == 0)) && (x559_2.2 == 24)) && (x560_2.2 == 23)) && (x556_4.2.1 == 2))), [(87, some 22), (89, some 24)]⟩ :: ⟨some (IsV (((((((x555_2.2 == 0) && (x556_4.2.2 == 0)) && (x557_3.2 == 0)) && (x558_4.2 == 0)) && (x559_2.2 == 24)) && (x560_2.2 == 23)) && (x556_4.2.1 == 2))), [(90, some 25)]⟩ :: []) hs (by kernel_rfl) ⟨⟨inferInstance, fun b q hk hn => ok_move rfl (up i5 hk hn.1), rfl⟩, ⟨inferInstance, fun b q hk hn => ok_eqI rfl hn.1 (isV_int.2 rfl), rfl⟩, ⟨inferInstance, fun b q hk hn => ok_move rfl hn.1, rfl⟩, ⟨inferInstance, fun b q hk hn => ok_move rfl (up i8 hk hn.1), guardT hm612⟩, ⟨inferInstance, fun b q hk hn => ok_eqI rfl hn.1 (isV_int.2 rfl), guardT hm612⟩, ⟨inferInstance, fun b q hk hn => ok_cast (and_t hm612) (ok_pick_t rfl hn.1 hm612 hn.2.1), rfl⟩, ⟨inferInstance, fun b q hk hn => ok_move rfl hn.1, rfl⟩, ⟨inferInstance, fun b q hk hn => ok_move rfl (up i10 hk hn.1), guardT hm614⟩, ⟨inferInstance, fun b q hk hn => ok_eqI rfl hn.1 (isV_int.2 rfl), guardT hm614⟩, ⟨inferInstance, fun b q hk hn => ok_cast (and_t hm614) (ok_pick_t rfl hn.1 hm614 hn.2.1), rfl⟩, ⟨inferInstance, fun b q hk hn => ok_move rfl hn.1, rfl⟩, ⟨inferInstance, fun b q hk hn => ok_move rfl (up i12 hk hn.1), guardT hm616⟩, ⟨inferInstance, fun b q hk hn => ok_eqI rfl hn.1 (isV_int.2 rfl), guardT hm616⟩, ⟨inferInstance, fun b q hk hn => ok_cast (and_t hm616) (ok_pick_t rfl hn.1 hm616 hn.2.1), rfl⟩, ⟨inferInstance, fun b q hk hn => ok_move rfl hn.1, rfl⟩, ⟨inferInstance, fun b q hk hn => ok_move rfl (up i14 hk hn.1), guardT hm618⟩, ⟨inferInstance, fun b q hk hn => ok_eqI rfl hn.1 (isV_int.2 rfl), guardT hm618⟩, ⟨inferInstance, fun b q hk hn => ok_cast (and_t hm618) (ok_pick_t rfl hn.1 hm618 hn.2.1), rfl⟩, ⟨inferInstance, fun b q hk hn => ok_move rfl hn.1, rfl⟩, guardF hm620, guardF hm620, ⟨inferInstance, fun b q hk hn => ok_cast (and_f hm620) (ok_pick_f rfl hn.1 hm620 (isV_bool.2 rfl)), rfl⟩, ⟨inferInstance, fun b q hk hn => ok_move rfl hn.1, rfl⟩, guardF hm626, guardF hm626, ⟨inferInstance, fun b q hk hn => ok_cast (and_f hm626) (ok_pick_f rfl hn.1 hm626 (isV_bool.2 rfl)), rfl⟩, ⟨inferInstance, fun b q hk hn => ok_assign rfl hn.1, rfl⟩, trivial⟩ hQQ610 fun b q p => ?_
                                  have hgq := hg.then p.grow
                                  have hsb := p.size.trans hs
                                  have hdb := p.defers.trans hd
                                  have j4 := keep p 4 rfl i4
                                  have j6 := keep p 6 rfl i6
                                  have j9 := keep p 9 rfl i9
                                  have j11 := keep p 11 rfl i11
                                  have j17 : (IsV (((((((x555_2.2 == 0) && (x556_4.2.2 == 0)) && (x557_3.2 == 0)) && (x558_4.2 == 0)) && (x559_2.2 == 24)) && (x560_2.2 == 23)) && (x556_4.2.1 == 2))) (b.get 17) q := out p 26 17 _ rfl rfl rfl
                                  exact tail_done (k := q) (hp611 _ _ ⟨hgq, hsb, hdb, j4, j6, j9, j11, j17, trivial⟩)
                              · have hk629 : (((((x555_2.2 == 0) && (x556_4.2.2 == 0)) && (x557_3.2 == 0)) && (x558_4.2 == 0)) && (x559_2.2 == 24)) = false := (and_f hm618).symm
                                have hm630 := hk629
                                have hk632 : ((((((x555_2.2 == 0) && (x556_4.2.2 == 0)) && (x557_3.2 == 0)) && (x558_4.2 == 0)) && (x559_2.2 == 24)) && (x560_2.2 == 23)) = false := (and_f hm630).symm
                                have hm633 := hk632
                                have hk635 : (((((((x555_2.2 == 0) && (x556_4.2.2 == 0)) && (x557_3.2 == 0)) && (x558_4.2 == 0)) && (x559_2.2 == 24)) && (x560_2.2 == 23)) && (x556_4.2.1 == 2)) = false := (and_f hm633).symm
                                refine regionS (a0 := a) (k0 := k) (n := 121) (m := 27) (⟨some (IsV x555_2.2), [(5, none)]⟩ :: ⟨some (IsV (x555_2.2 == 0)), [(65, some 0)]⟩ :: ⟨some (IsV (x555_2.2 == 0)), [(66, some 1)]⟩ :: ⟨some (IsV x556_4.2.2), [(8, none)]⟩ :: ⟨some (IsV (x556_4.2.2 == 0)), [(68, some 3)]⟩ :: ⟨some (IsV ((x555_2.2 == 0) && (x556_4.2.2 == 0))), [(67, some 2), (69, some 4)]⟩ :: ⟨some (IsV ((x555_2.2 == 0) && (x556_4.2.2 == 0))), [(70, some 5)]⟩ :: ⟨some (IsV x557_3.2), [(10, none)]⟩ :: ⟨some (IsV (x557_3.2 == 0)), [(72, some 7)]⟩ :: ⟨some (IsV (((x555_2.2 == 0) && (x556_4.2.2 == 0)) && (x557_3.2 == 0))), [(71, some 6), (73, some 8)]⟩ :: ⟨some (IsV (((x555_2.2 == 0) && (x556_4.2.2 == 0)) && (x557_3.2 == 0))), [(74, some 9)]⟩ :: ⟨some (IsV x558_4.2), [(12, none)]⟩ :: ⟨some (IsV (x558_4.2 == 0)), [(76, some 11)]⟩ :: ⟨some (IsV ((((x555_2.2 == 0) && (x556_4.2.2 == 0)) && (x557_3.2 == 0)) && (x558_4.2 == 0))), [(75, some 10), (77, some 12)]⟩ :: ⟨some (IsV ((((x555_2.2 == 0) && (x556_4.2.2 == 0)) && (x557_3.2 == 0)) && (x558_4.2 == 0))), [(78, some 13)]⟩ :: ⟨none, []⟩ :: ⟨none, []⟩ :: ⟨some (IsV (((((x555_2.2 == 0) && (x556_4.2.2 == 0)) && (x557_3.2 == 0)) && (x558_4.2 == 0)) && (x559_2.2 == 24))), [(79, some 14), (81, some 16)]⟩ :: ⟨some (IsV (((((x555_2.2 == 0) && (x556_4.2.2 == 0)) && (x557_3.2 == 0)) && (x558_4.2 == 0)) && (x559_2.2 == 24))), [(82, some 17)]⟩ :: ⟨none, []⟩ :: ⟨none, []⟩ :: ⟨some (IsV ((((((x555_2.2 == 0) && (x556_4.2.2 == 0)) && (x557_3.2 == 0)) && (x558_4.2 == 0)) && (x559_2.2 == 24)) && (x560_2.2 == 23))), [(83, some 18), (85, some 20)]⟩ :: ⟨some (IsV ((((((x555_2.2 == 0) && (x556_4.2.2 == 0)) && (x557_3.2 == 0)) && (x558_4.2 == 0)) && (x559_2.2 == 24)) && (x560_2.2 == 23))), [(86, some 21)]⟩ :: ⟨none, []⟩ :: ⟨none, []⟩ :: ⟨some (IsV (((((((x555_2.2 == 0) && (x556_4.2.2 == 0)) && (x557_3.2 == 0)) && (x558_4.2 == 0)) && (x559_2.2 == 24)) && (x560_2.2 == 23)) && (x556_4.2.1 == 2))), [(87, some 22), (89, some 24)]⟩ :: ⟨some (IsV (((((((x555_2.2 == 0) && (x556_4.2.2 == 0)) && (x557_3.2 == 0)) && (x558_4.2 == 0)) && (x559_2.2 == 24)) && (x560_2.2 == 23)) && (x556_4.2.1 == 2))), [(90, some 25)]⟩ :: []) hs (by kernel_rfl) ⟨⟨inferInstance, fun b q hk hn => ok_move rfl (up i5 hk hn.1), rfl⟩, ⟨inferInstance, fun b q hk hn => ok_eqI rfl hn.1 (isV_int.2 rfl), rfl⟩, ⟨inferInstance, fun b q hk hn => ok_move rfl hn.1, rfl⟩, ⟨inferInstance, fun b q hk hn => ok_move rfl (up i8 hk hn.1), guardT hm612⟩, ⟨inferInstance, fun b q hk hn => ok_eqI rfl hn.1 (isV_int.2 rfl), guardT hm612⟩, ⟨inferInstance, fun b q hk hn => ok_cast (and_t hm612) (ok_pick_t rfl hn.1 hm612 hn.2.1), rfl⟩, ⟨inferInstance, fun b q hk hn => ok_move rfl hn.1, rfl⟩, ⟨inferInstance, fun b q hk hn => ok_move rfl (up i10 hk hn.1), guardT hm614⟩, ⟨inferInstance, fun b q hk hn => ok_eqI rfl hn.1 (isV_int.2 rfl), guardT hm614⟩, ⟨inferInstance, fun b q hk hn => ok_cast (and_t hm614) (ok_pick_t rfl hn.1 hm614 hn.2.1), rfl⟩, ⟨inferInstance, fun b q hk hn => ok_move rfl hn.1, rfl⟩, ⟨inferInstance, fun b q hk hn => ok_move rfl (up i12 hk hn.1), guardT hm616⟩, ⟨inferInstance, fun b q hk hn => ok_eqI rfl hn.1 (isV_int.2 rfl), guardT hm616⟩, ⟨inferInstance, fun b q hk hn => ok_cast (and_t hm616) (ok_pick_t rfl hn.1 hm616 hn.2.1), rfl⟩, ⟨inferInstance, fun b q hk hn => ok_move rfl hn.1, rfl⟩, guardF hm618, guardF hm618, ⟨inferInstance, fun b q hk hn => ok_cast (and_f hm618) (ok_pick_f rfl hn.1 hm618 (isV_bool.2 rfl)), rfl⟩, ⟨inferInstance, fun b q hk hn => ok_move rfl hn.1, rfl⟩, guardF hm630, guardF hm630, ⟨inferInstance, fun b q hk hn => ok_cast (and_f hm630) (ok_pick_f rfl hn.1 hm630 (isV_bool.2 rfl)), rfl⟩, ⟨inferInstance, fun b q hk hn => ok_move rfl hn.1, rfl⟩, guardF hm633, guardF hm633, ⟨inferInstance, fun b q hk hn => ok_cast (and_f hm633) (ok_pick_f rfl hn.1 hm633 (isV_bool.2 rfl)), rfl⟩, ⟨inferInstance, fun b q hk hn => ok_assign rfl hn.1, rfl⟩, trivial⟩ hQQ610 fun b q p => ?_
                                have hgq := hg.then p.grow
                                have hsb := p.size.trans hs
                                have hdb := p.defers.trans hd
                                have j4 := keep p 4 rfl i4
                                have j6 := keep p 6 rfl i6
                                have j9 := keep p 9 rfl i9
                                have j11 := keep p 11 rfl i11
                                have j17 : (IsV (((((((x555_2.2 == 0) && (x556_4.2.2 == 0)) && (x557_3.2 == 0)) && (x558_4.2 == 0)) && (x559_2.2 == 24)) && (x560_2.2 == 23)) && (x556_4.2.1 == 2))) (b.get 17) q := out p 26 17 _ rfl rfl rfl
                                exact tail_done (k := q) (hp611 _ _ ⟨hgq, hsb, hdb, j4, j6, j9, j11, j17, trivial⟩)
                            · have hk636 : ((((x555_2.2 == 0) && (x556_4.2.2 == 0)) && (x557_3.2 == 0)) && (x558_4.2 == 0)) = false := (and_f hm616).symm
                              have hm637 := hk636
                              have hk639 : (((((x555_2.2 == 0) && (x556_4.2.2 == 0)) && (x557_3.2 == 0)) && (x558_4.2 == 0)) && (x559_2.2 == 24)) = false := (and_f hm637).symm
                              have hm640 := hk639
                              have hk642 : ((((((x555_2.2 == 0) && (x556_4.2.2 == 0)) && (x557_3.2 == 0)) && (x558_4.2 == 0)) && (x559_2.2 == 24)) && (x560_2.2 == 23)) = false := (and_f hm640).symm
                              have hm643 := hk642
                              have hk645 : (((((((x555_2.2 == 0) && (x556_4.2.2 == 0)) && (x557_3.2 == 0)) && (x558_4.2 == 0)) && (x559_2.2 == 24)) && (x560_2.2 == 23)) && (x556_4.2.1 == 2)) = false := (and_f hm643).symm
                              refine regionS (a0 := a) (k0 := k) (n := 121) (m := 27) (⟨some (IsV x555_2.2), [(5, none)]⟩ :: ⟨some (IsV (x555_2.2 == 0)), [(65, some 0)]⟩ :: ⟨some (IsV (x555_2.2 == 0)), [(66, some 1)]⟩ :: ⟨some (IsV x556_4.2.2), [(8, none)]⟩ :: ⟨some (IsV (x556_4.2.2 == 0)), [(68, some 3)]⟩ :: ⟨some (IsV ((x555_2.2 == 0) && (x556_4.2.2 == 0))), [(67, some 2), (69, some 4)]⟩ :: ⟨some (IsV ((x555_2.2 == 0) && (x556_4.2.2 == 0))), [(70, some 5)]⟩ :: ⟨some (IsV x557_3.2), [(10, none)]⟩ :: ⟨some (IsV (x557_3.2 == 0)), [(72, some 7)]⟩ :: ⟨some (IsV (((x555_2.2 == 0) && (x556_4.2.2 == 0)) && (x557_3.2 == 0))), [(71, some 6), (73, some 8)]⟩ :: ⟨some (IsV (((x555_2.2 == 0) && (x556_4.2.2 == 0)) && (x557_3.2 == 0))), [(74, some 9)]⟩ :: ⟨none, []⟩ :: ⟨none, []⟩ :: ⟨some (IsV ((((x555_2.2 == 0) && (x556_4.2.2 == 0)) && (x557_3.2 == 0)) && (x558_4.2 == 0))), [(75, some 10), (77, some 12)]⟩ :: ⟨some (IsV ((((x555_2.2 == 0) && (x556_4.2.2 == 0)) && (x557_3.2 == 0)) && (x558_4.2 == 0))), [(78, some 13)]⟩ :: ⟨none, []⟩ :: ⟨none, []⟩ :: ⟨some (IsV (((((x555_2.2 == 0) && (x556_4.2.2 == 0)) && (x557_3.2 == 0)) && (x558_4.2 == 0)) && (x559_2.2 == 24))), [(79, some 14), (81, some 16)]⟩ :: ⟨some (IsV (((((x555_2.2 == 0) && (x556_4.2.2 == 0)) && (x557_3.2 == 0)) && (x558_4.2 == 0)) && (x559_2.2 == 24))), [(82, some 17)]⟩ :: ⟨none, []⟩ :: ⟨none, []⟩ :: ⟨some (IsV ((((((x555_2.2 == 0) && (x556_4.2.2 == 0)) && (x557_3.2 == 0)) && (x558_4.2 == 0)) && (x559_2.2 == 24)) && (x560_2.2 == 23))), [(83, some 18), (85, some 20)]⟩ :: ⟨some (IsV ((((((x555_2.2 == 0) && (x556_4.2.2 == 0)) && (x557_3.2 == 0)) && (x558_4.2 == 0)) && (x559_2.2 == 24)) && (x560_2.2 == 23))), [(86, some 21)]⟩ :: ⟨none, []⟩ :: ⟨none, []⟩ :: ⟨some (IsV (((((((x555_2.2 == 0) && (x556_4.2.2 == 0)) && (x557_3.2 == 0)) && (x558_4.2 == 0)) && (x559_2.2 == 24)) && (x560_2.2 == 23)) && (x556_4.2.1 == 2))), [(87, some 22), (89, some 24)]⟩ :: ⟨some (IsV (((((((x555_2.2 == 0) && (x556_4.2.2 == 0)) && (x557_3.2 == 0)) && (x558_4.2 == 0)) && (x559_2.2 == 24)) && (x560_2.2 == 23)) && (x556_4.2.1 == 2))), [(90, some 25)]⟩ :: []) hs (by kernel_rfl) ⟨⟨inferInstance, fun b q hk hn => ok_move rfl (up i5 hk hn.1), rfl⟩, ⟨inferInstance, fun b q hk hn => ok_eqI rfl hn.1 (isV_int.2 rfl), rfl⟩, ⟨inferInstance, fun b q hk hn => ok_move rfl hn.1, rfl⟩, ⟨inferInstance, fun b q hk hn => ok_move rfl (up i8 hk hn.1), guardT hm612⟩, ⟨inferInstance, fun b q hk hn => ok_eqI rfl hn.1 (isV_int.2 rfl), guardT hm612⟩, ⟨inferInstance, fun b q hk hn => ok_cast (and_t hm612) (ok_pick_t rfl hn.1 hm612 hn.2.1), rfl⟩, ⟨inferInstance, fun b q hk hn => ok_move rfl hn.1, rfl⟩, ⟨inferInstance, fun b q hk hn => ok_move rfl (up i10 hk hn.1), guardT hm614⟩, ⟨inferInstance, fun b q hk hn => ok_eqI rfl hn.1 (isV_int.2 rfl), guardT hm614⟩, ⟨inferInstance, fun b q hk hn => ok_cast (and_t hm614) (ok_pick_t rfl hn.1 hm614 hn.2.1), rfl⟩, ⟨inferInstance, fun b q hk hn => ok_move rfl hn.1, rfl⟩, guardF hm616, guardF hm616, ⟨inferInstance, fun b q hk hn => ok_cast (and_f hm616) (ok_pick_f rfl hn.1 hm616 (isV_bool.2 rfl)), rfl⟩, ⟨inferInstance, fun b q hk hn => ok_move rfl hn.1, rfl⟩, guardF hm637, guardF hm637, ⟨inferInstance, fun b q hk hn => ok_cast (and_f hm637) (ok_pick_f rfl hn.1 hm637 (isV_bool.2 rfl)), rfl⟩, ⟨inferInstance, fun b q hk hn => ok_move rfl hn.1, rfl⟩, guardF hm640, guardF hm640, ⟨inferInstance, fun b q hk hn => ok_cast (and_f hm640) (ok_pick_f rfl hn.1 hm640 (isV_bool.2 rfl)), rfl⟩, ⟨inferInstance, fun b q hk hn => ok_move rfl hn.1, rfl⟩, guardF hm643, guardF hm643, ⟨inferInstance, fun b q hk hn => ok_cast (and_f hm643) (ok_pick_f rfl hn.1 hm643 (isV_bool.2 rfl)), rfl⟩, ⟨inferInstance, fun b q hk hn => ok_assign rfl hn.1, rfl⟩, trivial⟩ hQQ610 fun b q p => ?_
                              have hgq := hg.then p.grow
                              have hsb := p.size.trans hs
                              have hdb := p.defers.trans hd
                              have j4 := keep p 4 rfl i4
                              have j6 := keep p 6 rfl i6
                              have j9 := keep p 9 rfl i9
                              have j11 := keep p 11 rfl i11
                              have j17 : (IsV (((((((x555_2.2 == 0) && (x556_4.2.2 == 0)) && (x557_3.2 == 0)) && (x558_4.2 == 0)) && (x559_2.2 == 24)) && (x560_2.2 == 23)) && (x556_4.2.1 == 2))) (b.get 17) q := out p 26 17 _ rfl rfl rfl
                              exact tail_done (k := q) (hp611 _ _ ⟨hgq, hsb, hdb, j4, j6, j9, j11, j17, trivial⟩)
                          · have hk646 : (((x555_2.2 == 0) && (x556_4.2.2 == 0)) && (x557_3.2 == 0)) = false := (and_f hm614).symm
                            have hm647 := hk646
                            have hk649 : ((((x555_2.2 == 0) && (x556_4.2.2 == 0)) && (x557_3.2 == 0)) && (x558_4.2 == 0)) = false := (and_f hm647).symm
                            have hm650 := hk649
                            have hk652 : (((((x555_2.2 == 0) && (x556_4.2.2 == 0)) && (x557_3.2 == 0)) && (x558_4.2 == 0)) && (x559_2.2 == 24)) = false := (and_f hm650).symm
                            have hm653 := hk652
                            have hk655 : ((((((x555_2.2 == 0) && (x556_4.2.2 == 0)) && (x557_3.2 == 0)) && (x558_4.2 == 0)) && (x559_2.2 == 24)) && (x560_2.2 == 23)) = false := (and_f hm653).symm
                            have hm656 := hk655
                            have hk658 : (((((((x555_2.2 == 0) && (x556_4.2.2 == 0)) && (x557_3.2 == 0)) && (x558_4.2 == 0)) && (x559_2.2 == 24)) && (x560_2.2 == 23)) && (x556_4.2.1 == 2)) = false := (and_f hm656).symm
                            refine regionS (a0 := a) (k0 := k) (n := 121) (m := 27) (⟨some (IsV x555_2.2), [(5, none)]⟩ :: ⟨some (IsV (x555_2.2 == 0)), [(65, some 0)]⟩ :: ⟨some (IsV (x555_2.2 == 0)), [(66, some 1)]⟩ :: ⟨some (IsV x556_4.2.2), [(8, none)]⟩ :: ⟨some (IsV (x556_4.2.2 == 0)), [(68, some 3)]⟩ :: ⟨some (IsV ((x555_2.2 == 0) && (x556_4.2.2 == 0))), [(67, some 2), (69, some 4)]⟩ :: ⟨some (IsV ((x555_2.2 == 0) && (x556_4.2.2 == 0))), [(70, some 5)]⟩ :: ⟨none, []⟩ :: ⟨none, []⟩ :: ⟨some (IsV (((x555_2.2 == 0) && (x556_4.2.2 == 0)) && (x557_3.2 == 0))), [(71, some 6), (73, some 8)]⟩ :: ⟨some (IsV (((x555_2.2 == 0) && (x556_4.2.2 == 0)) && (x557_3.2 == 0))), [(74, some 9)]⟩ :: ⟨none, []⟩ :: ⟨none, []⟩ :: ⟨some (IsV ((((x555_2.2 == 0) && (x556_4.2.2 == 0)) && (x557_3.2 == 0)) && (x558_4.2 == 0))), [(75, some 10), (77, some 12)]⟩ :: ⟨some (IsV ((((x555_2.2 == 0) && (x556_4.2.2 == 0)) && (x557_3.2 == 0)) && (x558_4.2 == 0))), [(78, some 13)]⟩ :: ⟨none, []⟩ :: ⟨none, []⟩ :: ⟨some (IsV (((((x555_2.2 == 0) && (x556_4.2.2 == 0)) && (x557_3.2 == 0)) && (x558_4.2 == 0)) && (x559_2.2 == 24))), [(79, some 14), (81, some 16)]⟩ :: ⟨some (IsV (((((x555_2.2 == 0) && (x556_4.2.2 == 0)) && (x557_3.2 == 0)) && (x558_4.2 == 0)) && (x559_2.2 == 24))), [(82, some 17)]⟩ :: ⟨none, []⟩ :: ⟨none, []⟩ :: ⟨some (IsV ((((((x555_2.2 == 0) && (x556_4.2.2 == 0)) && (x557_3.2 == 0)) && (x558_4.2 == 0)) && (x559_2.2 == 24)) && (x560_2.2 == 23))), [(83, some 18), (85, some 20)]⟩ :: ⟨some (IsV ((((((x555_2.2 == 0) && (x556_4.2.2 == 0)) && (x557_3.2 == 0)) && (x558_4.2 == 0)) && (x559_2.2 == 24)) && (x560_2.2 == 23))), [(86, some 21)]⟩ :: ⟨none, []⟩ :: ⟨none, []⟩ :: ⟨some (IsV (((((((x555_2.2 == 0) && (x556_4.2.2 == 0)) && (x557_3.2 == 0)) && (x558_4.2 == 0)) && (x559_2.2 == 24)) && (x560_2.2 == 23)) && (x556_4.2.1 == 2))), [(87, some 22), (89, some 24)]⟩ :: ⟨some (IsV (((((((x555_2.2 == 0) && (x556_4.2.2 == 0)) && (x557_3.2 == 0)) && (x558_4.2 == 0)) && (x559_2.2 == 24)) && (x560_2.2 == 23)) && (x556_4.2.1 == 2))), [(90, some 25)]⟩ :: []) hs (by kernel_rfl) ⟨⟨inferInstance, fun b q hk hn => ok_move rfl (up i5 hk hn.1), rfl⟩, ⟨inferInstance, fun b q hk hn => ok_eqI rfl hn.1 (isV_int.2 rfl), rfl⟩, ⟨inferInstance, fun b q hk hn => ok_move rfl hn.1, rfl⟩, ⟨inferInstance, fun b q hk hn => ok_move rfl (up i8 hk hn.1), guardT hm612⟩, ⟨inferInstance, fun b q hk hn => ok_eqI rfl hn.1 (isV_int.2 rfl), guardT hm612⟩, ⟨inferInstance, fun b q hk hn => ok_cast (and_t hm612) (ok_pick_t rfl hn.1 hm612 hn.2.1), rfl⟩, ⟨inferInstance, fun b q hk hn => ok_move rfl hn.1, rfl⟩, guardF hm614, guardF hm614, ⟨inferInstance, fun b q hk hn => ok_cast (and_f hm614) (ok_pick_f rfl hn.1 hm614 (isV_bool.2 rfl)), rfl⟩, ⟨inferInstance, fun b q hk hn => ok_move rfl hn.1, rfl⟩, guardF hm647, guardF hm647, ⟨inferInstance, fun b q hk hn => ok_cast (and_f hm647) (ok_pick_f rfl hn.1 hm647 (isV_bool.2 rfl)), rfl⟩, ⟨inferInstance, fun b q hk hn => ok_move rfl hn.1, rfl⟩, guardF hm650, guardF hm650, ⟨inferInstance, fun b q hk hn => ok_cast (and_f hm650) (ok_pick_f rfl hn.1 hm650 (isV_bool.2 rfl)), rfl⟩, ⟨inferInstance, fun b q hk hn => ok_move rfl hn.1, rfl⟩, guardF hm653, guardF hm653, ⟨inferInstance, fun b q hk hn => ok_cast (and_f hm653) (ok_pick_f rfl hn.1 hm653 (isV_bool.2 rfl)), rfl⟩, ⟨inferInstance, fun b q hk hn => ok_move rfl hn.1, rfl⟩, guardF hm656, guardF hm656, ⟨inferInstance, fun b q hk hn => ok_cast (and_f hm656) (ok_pick_f rfl hn.1 hm656 (isV_bool.2 rfl)), rfl⟩, ⟨inferInstance, fun b q hk hn => ok_assign rfl hn.1, rfl⟩, trivial⟩ hQQ610 fun b q p => ?_
                            have hgq := hg.then p.grow
                            have hsb := p.size.trans hs
                            have hdb := p.defers.trans hd
                            have j4 := keep p 4 rfl i4
                            have j6 := keep p 6 rfl i6
                            have j9 := keep p 9 rfl i9
                            have j11 := keep p 11 rfl i11
                            have j17 : (IsV (((((((x555_2.2 == 0) && (x556_4.2.2 == 0)) && (x557_3.2 == 0)) && (x558_4.2 == 0)) && (x559_2.2 == 24)) && (x560_2.2 == 23)) && (x556_4.2.1 == 2))) (b.get 17) q := out p 26 17 _ rfl rfl rfl
                            exact tail_done (k := q) (hp611 _ _ ⟨hgq, hsb, hdb, j4, j6, j9, j11, j17, trivial⟩)
                        · have hk659 : ((x555_2.2 == 0) && (x556_4.2.2 == 0)) = false := (and_f hm612).symm
                          have hm660 := hk659
                          have hk662 : (((x555_2.2 == 0) && (x556_4.2.2 == 0)) && (x557_3.2 == 0)) = false := (and_f hm660).symm
                          have hm663 := hk662
                          have hk665 : ((((x555_2.2 == 0) && (x556_4.2.2 == 0)) && (x557_3.2 == 0)) && (x558_4.2 == 0)) = false := (and_f hm663).symm
                          have hm666 := hk665
                          have hk668 : (((((x555_2.2 == 0) && (x556_4.2.2 == 0)) && (x557_3.2 == 0)) && (x558_4.2 == 0)) && (x559_2.2 == 24)) = false := (and_f hm666).symm
                          have hm669 := hk668
                          have hk671 : ((((((x555_2.2 == 0) && (x556_4.2.2 == 0)) && (x557_3.2 == 0)) && (x558_4.2 == 0)) && (x559_2.2 == 24)) && (x560_2.2 == 23)) = false := (and_f hm669).symm
                          have hm672 := hk671
                          have hk674 : (((((((x555_2.2 == 0) && (x556_4.2.2 == 0)) && (x557_3.2 == 0)) && (x558_4.2 == 0)) && (x559_2.2 == 24)) && (x560_2.2 == 23)) && (x556_4.2.1 == 2)) = false := (and_f hm672).symm
                          refine regionS (a0 := a) (k0 := k) (n := 121) (m := 27) (⟨some (IsV x555_2.2), [(5, none)]⟩ :: ⟨some (IsV (x555_2.2 == 0)), [(65, some 0)]⟩ :: ⟨some (IsV (x555_2.2 == 0)), [(66, some 1)]⟩ :: ⟨none, []⟩ :: ⟨none, []⟩ :: ⟨some (IsV ((x555_2.2 == 0) && (x556_4.2.2 == 0))), [(67, some 2), (69, some 4)]⟩ :: ⟨some (IsV ((x555_2.2 == 0) && (x556_4.2.2 == 0))), [(70, some 5)]⟩ :: ⟨none, []⟩ :: ⟨none, []⟩ :: ⟨some (IsV (((x555_2.2 == 0) && (x556_4.2.2 == 0)) && (x557_3.2 == 0))), [(71, some 6), (73, some 8)]⟩ :: ⟨some (IsV (((x555_2.2 == 0) && (x556_4.2.2 == 0)) && (x557_3.2 == 0))), [(74, some 9)]⟩ :: ⟨none, []⟩ :: ⟨none, []⟩ :: ⟨some (IsV ((((x555_2.2 == 0) && (x556_4.2.2 == 0)) && (x557_3.2 == 0)) && (x558_4.2 == 0))), [(75, some 10), (77, some 12)]⟩ :: ⟨some (IsV ((((x555_2.2 == 0) && (x556_4.2.2 == 0)) && (x557_3.2 == 0)) && (x558_4.2 == 0))), [(78, some 13)]⟩ :: ⟨none, []⟩ :: ⟨none, []⟩ :: ⟨some (IsV (((((x555_2.2 == 0) && (x556_4.2.2 == 0)) && (x557_3.2 == 0)) && (x558_4.2 == 0)) && (x559_2.2 == 24))), [(79, some 14), (81, some 16)]⟩ :: ⟨some (IsV (((((x555_2.2 == 0) && (x556_4.2.2 == 0)) && (x557_3.2 == 0)) && (x558_4.2 == 0)) && (x559_2.2 == 24))), [(82, some 17)]⟩ :: ⟨none, []⟩ :: ⟨none, []⟩ :: ⟨some (IsV ((((((x555_2.2 == 0) && (x556_4.2.2 == 0)) && (x557_3.2 == 0)) && (x558_4.2 == 0)) && (x559_2.2 == 24)) && (x560_2.2 == 23))), [(83, some 18), (85, some 20)]⟩ :: ⟨some (IsV ((((((x555_2.2 == 0) && (x556_4.2.2 == 0)) && (x557_3.2 == 0)) && (x558_4.2 == 0)) && (x559_2.2 == 24)) && (x560_2.2 == 23))), [(86, some 21)]⟩ :: ⟨none, []⟩ :: ⟨none, []⟩ :: ⟨some (IsV (((((((x555_2.2 == 0) && (x556_4.2.2 == 0)) && (x557_3.2 == 0)) && (x558_4.2 == 0)) && (x559_2.2 == 24)) && (x560_2.2 == 23)) && (x556_4.2.1 == 2))), [(87, some 22), (89, some 24)]⟩ :: ⟨some (IsV (((((((x555_2.2 == 0) && (x556_4.2.2 == 0)) && (x557_3.2 == 0)) && (x558_4.2 == 0)) && (x559_2.2 == 24)) && (x560_2.2 == 23)) && (x556_4.2.1 == 2))), [(90, some 25)]⟩ :: []) hs (by kernel_rfl) ⟨⟨inferInstance, fun b q hk hn => ok_move rfl (up i5 hk hn.1), rfl⟩, ⟨inferInstance, fun b q hk hn => ok_eqI rfl hn.1 (isV_int.2 rfl), rfl⟩, ⟨inferInstance, fun b q hk hn => ok_move rfl hn.1, rfl⟩, guardF hm612, guardF hm612, ⟨inferInstance, fun b q hk hn => ok_cast (and_f hm612) (ok_pick_f rfl hn.1 hm612 (isV_bool.2 rfl)), rfl⟩, ⟨inferInstance, fun b q hk hn => ok_move rfl hn.1, rfl⟩, guardF hm660, guardF hm660, ⟨inferInstance, fun b q hk hn => ok_cast (and_f hm660) (ok_pick_f rfl hn.1 hm660 (isV_bool.2 rfl)), rfl⟩, ⟨inferInstance, fun b q hk hn => ok_move rfl hn.1, rfl⟩, guardF hm663, guardF hm663, ⟨inferInstance, fun b q hk hn => ok_cast (and_f hm663) (ok_pick_f rfl hn.1 hm663 (isV_bool.2 rfl)), rfl⟩, ⟨inferInstance, fun b q hk hn => ok_move rfl hn.1, rfl⟩, guardF hm666, guardF hm666, ⟨inferInstance, fun b q hk hn => ok_cast (and_f hm666) (ok_pick_f rfl hn.1 hm666 (isV_bool.2 rfl)), rfl⟩, ⟨inferInstance, fun b q hk hn => ok_move rfl hn.1, rfl⟩, guardF hm669, guardF hm669, ⟨inferInstance, fun b q hk hn => ok_cast (and_f hm669) (ok_pick_f rfl hn.1 hm669 (isV_bool.2 rfl)), rfl⟩, ⟨inferInstance, fun b q hk hn => ok_move rfl hn.1, rfl⟩, guardF hm672, guardF hm672, ⟨inferInstance, fun b q hk hn => ok_cast (and_f hm672) (ok_pick_f rfl hn.1 hm672 (isV_bool.2 rfl)), rfl⟩, ⟨inferInstance, fun b q hk hn => ok_assign rfl hn.1, rfl⟩, trivial⟩ hQQ610 fun b q p => ?_
                          have hgq := hg.then p.grow
                          have hsb := p.size.trans hs
                          have hdb := p.defers.trans hd
                          have j4 := keep p 4 rfl i4
                          have j6 := keep p 6 rfl i6
                          have j9 := keep p 9 rfl i9
                          have j11 := keep p 11 rfl i11
                          have j17 : (IsV (((((((x555_2.2 == 0) && (x556_4.2.2 == 0)) && (x557_3.2 == 0)) && (x558_4.2 == 0)) && (x559_2.2 == 24)) && (x560_2.2 == 23)) && (x556_4.2.1 == 2))) (b.get 17) q := out p 26 17 _ rfl rfl rfl
                          exact tail_done (k := q) (hp611 _ _ ⟨hgq, hsb, hdb, j4, j6, j9, j11, j17, trivial⟩)
                      · rintro a k ⟨hg, hs, hd, i4, i6, i9, i11, i17, _⟩
                        refine wp_seq ?_
                        obtain ⟨x562_5, hx562_5, hr⟩ := bind_some hr
                        obtain ⟨x562_10, hx562_10, hr⟩ := bind_some hr
                        obtain ⟨x562_15, hx562_15, hr⟩ := bind_some hr
                        obtain ⟨x562_22, hx562_22, hr⟩ := bind_some hr
                        obtain ⟨x562_29, hx562_29, hr⟩ := bind_some hr
                        refine cut (fun a' k' => Chg noF k0 k' ∧ a'.tmps.size = 121 ∧ a'.defers = [] ∧ (IsV x562_29) (a'.get 0) k' ∧ True) ?_ hQ ?_
                        · intro Q563 hQQ563 hp564
                          rcases Bool.eq_false_or_eq_true (((((((x555_2.2 == 0) && (x556_4.2.2 == 0)) && (x557_3.2 == 0)) && (x558_4.2 == 0)) && (x559_2.2 == 24)) && (x560_2.2 == 23)) && (x556_4.2.1 == 2)) with hm565 | hm565
                          · have ht566 := hx562_5
                            rw [if_pos hm565] at ht566
                            obtain ⟨x562_3, hx562_3, ht566⟩ := bind_some ht566
                            rcases Bool.eq_false_or_eq_true x562_5 with hm567 | hm567
                            · have ht568 := hx562_10
                              rw [if_pos hm567] at ht568
                              obtain ⟨x562_8, hx562_8, ht568⟩ := bind_some ht568
                              rcases Bool.eq_false_or_eq_true x562_10 with hm569 | hm569
                              · have ht570 := hx562_15
                                rw [if_pos hm569] at ht570
                                obtain ⟨x562_13, hx562_13, ht570⟩ := bind_some ht570
                                rcases Bool.eq_false_or_eq_true x562_15 with hm571 | hm571
                                · have ht572 := hx562_22
                                  rw [if_pos hm571] at ht572
                                  obtain ⟨x562_21, hx562_21, ht572⟩ := bind_some ht572
                                  rcases Bool.eq_false_or_eq_true x562_22 with hm573 | hm573
                                  · have ht574 := hx562_29
                                    rw [if_pos hm573] at ht574
                                    obtain ⟨x562_28, hx562_28, ht574⟩ := bind_some ht574
                                    refine regionS (a0 := a) (k0 := k) (n := 121) (m := 31) (⟨some (IsV (((((((x555_2.2 == 0) && (x556_4.2.2 == 0)) && (x557_3.2 == 0)) && (x558_4.2 == 0)) && (x559_2.2 == 24)) && (x560_2.2 == 23)) && (x556_4.2.1 == 2))), [(17, none)]⟩ :: ⟨some (IsV (((((((x555_2.2 == 0) && (x556_4.2.2 == 0)) && (x557_3.2 == 0)) && (x558_4.2 == 0)) && (x559_2.2 == 24)) && (x560_2.2 == 23)) && (x556_4.2.1 == 2))), [(91, some 0)]⟩ :: ⟨some (IsV x555_2.1), [(4, none)]⟩ :: ⟨some (IsV x562_3), [(93, some 2)]⟩ :: ⟨some (IsV (x562_3 == 6)), [(94, some 3)]⟩ :: ⟨some (IsV x562_5), [(92, some 1), (95, some 4)]⟩ :: ⟨some (IsV x562_5), [(96, some 5)]⟩ :: ⟨some (IsV x555_2.1), [(4, none)]⟩ :: ⟨some (IsV x562_8), [(98, some 7)]⟩ :: ⟨some (IsV (x562_8 == 7)), [(99, some 8)]⟩ :: ⟨some (IsV x562_10), [(97, some 6), (100, some 9)]⟩ :: ⟨some (IsV x562_10), [(101, some 10)]⟩ :: ⟨some (IsV x556_4.1), [(6, none)]⟩ :: ⟨some (IsV x562_13), [(103, some 12)]⟩ :: ⟨some (IsV (x562_13 == 2)), [(104, some 13)]⟩ :: ⟨some (IsV x562_15), [(102, some 11), (105, some 14)]⟩ :: ⟨some (IsV x562_15), [(106, some 15)]⟩ :: ⟨some (IsV x557_3.1), [(9, none)]⟩ :: ⟨some (IsV ((2, 3) : (Int × Int))), []⟩ :: ⟨some (IsV ((1, 4) : (Int × Int))), []⟩ :: ⟨some (IsV ([((2, 3) : (Int × Int)), ((1, 4) : (Int × Int))])), [(109, some 18), (110, some 19)]⟩ :: ⟨some (IsV x562_21), [(108, some 17), (111, some 20)]⟩ :: ⟨some (IsV x562_22), [(107, some 16), (112, some 21)]⟩ :: ⟨some (IsV x562_22), [(113, some 22)]⟩ :: ⟨some (IsV x558_4.1), [(11, none)]⟩ :: ⟨some (IsV ((2, 3) : (Int × Int))), []⟩ :: ⟨some (IsV ((1, 2) : (Int × Int))), []⟩ :: ⟨some (IsV ([((2, 3) : (Int × Int)), ((1, 2) : (Int × Int))])), [(116, some 25), (117, some 26)]⟩ :: ⟨some (IsV x562_28), [(115, some 24), (118, some 27)]⟩ :: ⟨some (IsV x562_29), [(114, some 23), (119, some 28)]⟩ :: ⟨some (IsV x562_29), [(120, some 29)]⟩ :: []) hs (by kernel_rfl) ⟨⟨inferInstance, fun b q hk hn => ok_move rfl (up i17 hk hn.1), rfl⟩, ⟨inferInstance, fun b q hk hn => ok_move rfl hn.1, rfl⟩, ⟨inferInstance, fun b q hk hn => ok_move rfl (up i4 hk hn.1), guardT hm565⟩, ⟨inferInstance, fun b q hk hn => ok_call rfl Try.call19 (cUnits_ok hn.1 (isV_int.2 rfl) hx562_3), guardT hm565⟩, ⟨inferInstance, fun b q hk hn => ok_eqI rfl hn.1 (isV_int.2 rfl), guardT hm565⟩, ⟨inferInstance, fun b q hk hn => ok_cast (Option.some.inj ht566) (ok_pick_t rfl hn.1 hm565 hn.2.1), rfl⟩, ⟨inferInstance, fun b q hk hn => ok_move rfl hn.1, rfl⟩, ⟨inferInstance, fun b q hk hn => ok_move rfl (up i4 hk hn.1), guardT hm567⟩, ⟨inferInstance, fun b q hk hn => ok_call rfl Try.call19 (cUnits_ok hn.1 (isV_int.2 rfl) hx562_8), guardT hm567⟩, ⟨inferInstance, fun b q hk hn => ok_eqI rfl hn.1 (isV_int.2 rfl), guardT hm567⟩, ⟨inferInstance, fun b q hk hn => ok_cast (Option.some.inj ht568) (ok_pick_t rfl hn.1 hm567 hn.2.1), rfl⟩, ⟨inferInstance, fun b q hk hn => ok_move rfl hn.1, rfl⟩, ⟨inferInstance, fun b q hk hn => ok_move rfl (up i6 hk hn.1), guardT hm569⟩, ⟨inferInstance, fun b q hk hn => ok_call rfl Try.call19 (cUnits_ok hn.1 (isV_int.2 rfl) hx562_13), guardT hm569⟩, ⟨inferInstance, fun b q hk hn => ok_eqI rfl hn.1 (isV_int.2 rfl), guardT hm569⟩, ⟨inferInstance, fun b q hk hn => ok_cast (Option.some.inj ht570) (ok_pick_t rfl hn.1 hm569 hn.2.1), rfl⟩, ⟨inferInstance, fun b q hk hn => ok_move rfl hn.1, rfl⟩, ⟨inferInstance, fun b q hk hn => ok_move rfl (up i9 hk hn.1), guardT hm571⟩, ⟨inferInstance, fun b q hk hn => ok_build rfl (bld37_0_1 (isV_int.2 rfl) (isV_int.2 rfl)), guardT hm571⟩, ⟨inferInstance, fun b q hk hn => ok_build rfl (bld37_0_1 (isV_int.2 rfl) (isV_int.2 rfl)), guardT hm571⟩, ⟨inferInstance, fun b q hk hn => ok_buildSlice rfl Try.underlying29 eo37 rfl (by decide) (by decide) ⟨rfl, hn.1, rfl, hn.2.1, trivial⟩, guardT hm571⟩, ⟨inferInstance, fun b q hk hn => ok_call rfl Try.call15 (rSameTrace_ok hn.1 hn.2.1 hx562_21), guardT hm571⟩, ⟨inferInstance, fun b q hk hn => ok_cast (Option.some.inj ht572) (ok_pick_t rfl hn.1 hm571 hn.2.1), rfl⟩, ⟨inferInstance, fun b q hk hn => ok_move rfl hn.1, rfl⟩, ⟨inferInstance, fun b q hk hn => ok_move rfl (up i11 hk hn.1), guardT hm573⟩, ⟨inferInstance, fun b q hk hn => ok_build rfl (bld37_0_1 (isV_int.2 rfl) (isV_int.2 rfl)), guardT hm573⟩, ⟨inferInstance, fun b q hk hn => ok_build rfl (bld37_0_1 (isV_int.2 rfl) (isV_int.2 rfl)), guardT hm573⟩, ⟨inferInstance, fun b q hk hn => ok_buildSlice rfl Try.underlying29 eo37 rfl (by decide) (by decide) ⟨rfl, hn.1, rfl, hn.2.1, trivial⟩, guardT hm573⟩, ⟨inferInstance, fun b q hk hn => ok_call rfl Try.call15 (rSameTrace_ok hn.1 hn.2.1 hx562_28), guardT hm573⟩, ⟨inferInstance, fun b q hk hn => ok_cast (Option.some.inj ht574) (ok_pick_t rfl hn.1 hm573 hn.2.1), rfl⟩, ⟨inferInstance, fun b q hk hn => ok_assign rfl hn.1, rfl⟩, trivial⟩ hQQ563 fun b q p => ?_
                                    have hgq := hg.then p.grow
                                    have hsb := p.size.trans hs
                                    have hdb := p.defers.trans hd
                                    have j0 : (IsV x562_29) (b.get 0) q := out p 30 0 _ rfl rfl rfl
                                    exact tail_done (k := q) (hp564 _ _ ⟨hgq, hsb, hdb, j0, trivial⟩)
                                  · have ht574 := hx562_29
                                    rw [if_neg (by rw [hm573]; decide)] at ht574
                                    have hk575 : x562_29 = false := (Option.some.inj ht574).symm
                                    refine regionS (a0 := a) (k0 := k) (n := 121) (m := 31) (⟨some (IsV (((((((x555_2.2 == 0) && (x556_4.2.2 == 0)) && (x557_3.2 == 0)) && (x558_4.2 == 0)) && (x559_2.2 == 24)) && (x560_2.2 == 23)) && (x556_4.2.1 == 2))), [(17, none)]⟩ :: ⟨some (IsV (((((((x555_2.2 == 0) && (x556_4.2.2 == 0)) && (x557_3.2 == 0)) && (x558_4.2 == 0)) && (x559_2.2 == 24)) && (x560_2.2 == 23)) && (x556_4.2.1 == 2))), [(91, some 0)]⟩ :: ⟨some (IsV x555_2.1), [(4, none)]⟩ :: ⟨some (IsV x562_3), [(93, some 2)]⟩ :: ⟨some (IsV (x562_3 == 6)), [(94, some 3)]⟩ :: ⟨some (IsV x562_5), [(92, some 1), (95, some 4)]⟩ :: ⟨some (IsV x562_5), [(96, some 5)]⟩ :: ⟨some (IsV x555_2.1), [(4, none)]⟩ :: ⟨some (IsV x562_8), [(98, some 7)]⟩ :: ⟨some (IsV (x562_8 == 7)), [(99, some 8)]⟩ :: ⟨some (IsV x562_10), [(97, some 6), (100, some 9)]⟩ :: ⟨some (IsV x562_10), [(101, some 10)]⟩ :: ⟨some (IsV x556_4.1), [(6, none)]⟩ :: ⟨some (IsV x562_13), [(103, some 12)]⟩ :: ⟨some (IsV (x562_13 == 2)), [(104, some 13)]⟩ :: ⟨some (IsV x562_15), [(102, some 11), (105, some 14)]⟩ :: ⟨some (IsV x562_15), [(106, some 15)]⟩ :: ⟨some (IsV x557_3.1), [(9, none)]⟩ :: ⟨some (IsV ((2, 3) : (Int × Int))), []⟩ :: ⟨some (IsV ((1, 4) : (Int × Int))), []⟩ :: ⟨some (IsV ([((2, 3) : (Int × Int)), ((1, 4) : (Int × Int))])), [(109, some 18), (110, some 19)]⟩ :: ⟨some (IsV x562_21), [(108, some 17), (111, some 20)]⟩ :: ⟨some (IsV x562_22), [(107, some 16), (112, some 21)]⟩ :: ⟨some (IsV x562_22), [(113, some 22)]⟩ :: ⟨none, []⟩ :: ⟨none, []⟩ :: ⟨none, []⟩ :: ⟨none, []⟩ :: ⟨none, []⟩ :: ⟨some (IsV x562_29), [(114, some 23), (119, some 28)]⟩ :: ⟨some (IsV x562_29), [(120, some 29)]⟩ :: []) hs (by kernel_rfl) ⟨⟨inferInstance, fun b q hk hn => ok_move rfl (up i17 hk hn.1), rfl⟩, ⟨inferInstance, fun b q hk hn => ok_move rfl hn.1, rfl⟩, ⟨inferInstance, fun b q hk hn => ok_move rfl (up i4 hk hn.1), guardT hm565⟩, ⟨inferInstance, fun b q hk hn => ok_call rfl Try.call19 (cUnits_ok hn.1 (isV_int.2 rfl) hx562_3), guardT hm565⟩, ⟨inferInstance, fun b q hk hn => ok_eqI rfl hn.1 (isV_int.2 rfl), guardT hm565⟩, ⟨inferInstance, fun b q hk hn => ok_cast (Option.some.inj ht566) (ok_pick_t rfl hn.1 hm565 hn.2.1), rfl⟩, ⟨inferInstance, fun b q hk hn => ok_move rfl hn.1, rfl⟩, ⟨inferInstance, fun b q hk hn => ok_move rfl (up i4 hk hn.1), guardT hm567⟩, ⟨inferInstance, fun b q hk hn => ok_call rfl Try.call19 (cUnits_ok hn.1 (isV_int.2 rfl) hx562_8), guardT hm567⟩, ⟨inferInstance, fun b q hk hn => ok_eqI rfl hn.1 (isV_int.2 rfl), guardT hm567⟩, ⟨inferInstance, fun b q hk hn => ok_cast (Option.some.inj ht568) (ok_pick_t rfl hn.1 hm567 hn.2.1), rfl⟩, ⟨inferInstance, fun b q hk hn => ok_move rfl hn.1, rfl⟩, ⟨inferInstance, fun b q hk hn => ok_move rfl (up i6 hk hn.1), guardT hm569⟩, ⟨inferInstance, fun b q hk hn => ok_call rfl Try.call19 (cUnits_ok hn.1 (isV_int.2 rfl) hx562_13), guardT hm569⟩, ⟨inferInstance, fun b q hk hn => ok_eqI rfl hn.1 (isV_int.2 rfl), guardT hm569⟩, ⟨inferInstance, fun b q hk hn => ok_cast (Option.some.inj ht570) (ok_pick_t rfl hn.1 hm569 hn.2.1), rfl⟩, ⟨inferInstance, fun b q hk hn => ok_move rfl hn.1, rfl⟩, ⟨inferInstance, fun b q hk hn => ok_move rfl (up i9 hk hn.1), guardT hm571⟩, ⟨inferInstance, fun b q hk hn => ok_build rfl (bld37_0_1 (isV_int.2 rfl) (isV_int.2 rfl)), guardT hm571⟩, ⟨inferInstance, fun b q hk hn => ok_build rfl (bld37_0_1 (isV_int.2 rfl) (isV_int.2 rfl)), guardT hm571⟩, ⟨inferInstance, fun b q hk hn => ok_buildSlice rfl Try.underlying29 eo37 rfl (by decide) (by decide) ⟨rfl, hn.1, rfl, hn.2.1, trivial⟩, guardT hm571⟩, ⟨inferInstance, fun b q hk hn => ok_call rfl Try.call15 (rSameTrace_ok hn.1 hn.2.1 hx562_21), guardT hm571⟩, ⟨inferInstance, fun b q hk hn => ok_cast (Option.some.inj ht572) (ok_pick_t rfl hn.1 hm571 hn.2.1), rfl⟩, ⟨inferInstance, fun b q hk hn => ok_move rfl hn.1, rfl⟩, guardF hm573, guardF hm573, guardF hm573, guardF hm573, guardF hm573, ⟨inferInstance, fun b q hk hn => ok_cast (Option.some.inj ht574) (ok_pick_f rfl hn.1 hm573 (isV_bool.2 rfl)), rfl⟩, ⟨inferInstance, fun b q hk hn => ok_assign rfl hn.1, rfl⟩, trivial⟩ hQQ563 fun b q p => ?_
                                    have hgq := hg.then p.grow
                                    have hsb := p.size.trans hs
                                    have hdb := p.defers.trans hd
                                    have j0 : (IsV x562_29) (b.get 0) q := out p 30 0 _ rfl rfl rfl
                                    exact tail_done (k := q) (hp564 _ _ ⟨hgq, hsb, hdb, j0, trivial⟩)
                                · have ht572 := hx562_22
                                  rw [if_neg (by rw [hm571]; decide)] at ht572
                                  have hk576 : x562_22 = false := (Option.some.inj ht572).symm
                                  have hm577 := hk576
                                  have ht578 := hx562_29
                                  rw [if_neg (by rw [hm577]; decide)] at ht578
                                  have hk579 : x562_29 = false := (Option.some.inj ht578).symm
                                  refine regionS (a0 := a) (k0 := k) (n := 121) (m := 31) (⟨some (IsV (((((((x555_2.2 == 0) && (x556_4.2.2 == 0)) && (x557_3.2 == 0)) && (x558_4.2 == 0)) && (x559_2.2 == 24)) && (x560_2.2 == 23)) && (x556_4.2.1 == 2))), [(17, none)]⟩ :: ⟨some (IsV (((((((x555_2.2 == 0) && (x556_4.2.2 == 0)) && (x557_3.2 == 0)) && (x558_4.2 == 0)) && (x559_2.2 == 24)) && (x560_2.2 == 23)) && (x556_4.2.1 == 2))), [(91, some 0)]⟩ :: ⟨some (IsV x555_2.1), [(4, none)]⟩ :: ⟨some (IsV x562_3), [(93, some 2)]⟩ :: ⟨some (IsV (x562_3 == 6)), [(94, some 3)]⟩ :: ⟨some (IsV x562_5), [(92, some 1), (95, some 4)]⟩ :: ⟨some (IsV x562_5), [(96, some 5)]⟩ :: ⟨some (IsV x555_2.1), [(4, none)]⟩ :: ⟨some (IsV x562_8), [(98, some 7)]⟩ :: ⟨some (IsV (x562_8 == 7)), [(99, some 8)]⟩ :: ⟨some (IsV x562_10), [(97, some 6), (100, some 9)]⟩ :: ⟨some (IsV x562_10), [(101, some 10)]⟩ :: ⟨some (IsV x556_4.1), [(6, none)]⟩ :: ⟨some (IsV x562_13), [(103, some 12)]⟩ :: ⟨some (IsV (x562_13 == 2)), [(104, some 13)]⟩ :: ⟨some (IsV x562_15), [(102, some 11), (105, some 14)]⟩ :: ⟨some (IsV x562_15), [(106, some 15)]⟩ :: ⟨none, []⟩ :: ⟨none, []⟩ :: ⟨none, []⟩ :: ⟨none, []⟩ :: ⟨none, []⟩ :: ⟨some (IsV x562_22), [(107, some 16), (112, some 21)]⟩ :: ⟨some (IsV x562_22), [(113, some 22)]⟩ :: ⟨none, []⟩ :: ⟨none, []⟩ :: ⟨none, []⟩ :: ⟨none, []⟩ :: ⟨none, []⟩ :: ⟨some (IsV x562_29), [(114, some 23), (119, some 28)]⟩ :: ⟨some (IsV x562_29), [(120, some 29)]⟩ :: []) hs (by kernel_rfl) ⟨⟨inferInstance, fun b q hk hn => ok_move rfl (up i17 hk hn.1), rfl⟩, ⟨inferInstance, fun b q hk hn => ok_move rfl hn.1, rfl⟩, ⟨inferInstance, fun b q hk hn => ok_move rfl (up i4 hk hn.1), guardT hm565⟩, ⟨inferInstance, fun b q hk hn => ok_call rfl Try.call19 (cUnits_ok hn.1 (isV_int.2 rfl) hx562_3), guardT hm565⟩, ⟨inferInstance, fun b q hk hn => ok_eqI rfl hn.1 (isV_int.2 rfl), guardT hm565⟩, ⟨inferInstance, fun b q hk hn => ok_cast (Option.some.inj ht566) (ok_pick_t rfl hn.1 hm565 hn.2.1), rfl⟩, ⟨inferInstance, fun b q hk hn => ok_move rfl hn.1, rfl⟩, ⟨inferInstance, fun b q hk hn => ok_move rfl (up i4 hk hn.1), guardT hm567⟩, ⟨inferInstance, fun b q hk hn => ok_call rfl Try.call19 (cUnits_ok hn.1 (isV_int.2 rfl) hx562_8), guardT hm567⟩, ⟨inferInstance, fun b q hk hn => ok_eqI rfl hn.1 (isV_int.2 rfl), guardT hm567⟩, ⟨inferInstance, fun b q hk hn => ok_cast (Option.some.inj ht568) (ok_pick_t rfl hn.1 hm567 hn.2.1), rfl⟩, ⟨inferInstance, fun b q hk hn => ok_move rfl hn.1, rfl⟩, ⟨inferInstance, fun b q hk hn => ok_move rfl (up i6 hk hn.1), guardT hm569⟩, ⟨inferInstance, fun b q hk hn => ok_call rfl Try.call19 (cUnits_ok hn.1 (isV_int.2 rfl) hx562_13), guardT hm569⟩, ⟨inferInstance, fun b q hk hn => ok_eqI rfl hn.1 (isV_int.2 rfl), guardT hm569⟩, ⟨inferInstance, fun b q hk hn => ok_cast (Option.some.inj ht570) (ok_pick_t rfl hn.1 hm569 hn.2.1), rfl⟩, ⟨inferInstance, fun b q hk hn => ok_move rfl hn.1, rfl⟩, guardF hm571, guardF hm571, guardF hm571, guardF hm571, guardF hm571, ⟨inferInstance, fun b q hk hn => ok_cast (Option.some.inj ht572) (ok_pick_f rfl hn.1 hm571 (isV_bool.2 rfl)), rfl⟩, ⟨inferInstance, fun b q hk hn => ok_move rfl hn.1, rfl⟩, guardF hm577, guardF hm577, guardF hm577, guardF hm577, guardF hm577, ⟨inferInstance, fun b q hk hn => ok_cast (Option.some.inj ht578) (ok_pick_f rfl hn.1 hm577 (isV_bool.2 rfl)), rfl⟩, ⟨inferInstance, fun b q hk hn => ok_assign rfl hn.1, rfl⟩, trivial⟩ hQQ563 fun b q p => ?_
                                  have hgq := hg.then p.grow
                                  have hsb := p.size.trans hs
                                  have hdb := p.defers.trans hd
                                  have j0 : (IsV x562_29) (b.get 0) q := out p 30 0 _ rfl rfl rfl
                                  exact tail_done (k := q) (hp564 _ _ ⟨hgq, hsb, hdb, j0, trivial⟩)
                              · have ht570 := hx562_15
                                rw [if_neg (by rw [hm569]; decide)] at ht570
                                have hk580 : x562_15 = false := (Option.some.inj ht570).symm
                                have hm581 := hk580
                                have ht582 := hx562_22
                                rw [if_neg (by rw [hm581]; decide)] at ht582
                                have hk583 : x562_22 = false := (Option.some.inj ht582).symm
                                have hm584 := hk583
                                have ht585 := hx562_29
                                rw [if_neg (by rw [hm584]; decide)] at ht585
                                have hk586 : x562_29 = false := (Option.some.inj ht585).symm
                                refine regionS (a0 := a) (k0 := k) (n := 121) (m := 31) (⟨some (IsV (((((((x555_2.2 == 0) && (x556_4.2.2 == 0)) && (x557_3.2 == 0)) && (x558_4.2 == 0)) && (x559_2.2 == 24)) && (x560_2.2 == 23)) && (x556_4.2.1 == 2))), [(17, none)]⟩ :: ⟨some (IsV (((((((x555_2.2 == 0) && (x556_4.2.2 == 0)) && (x557_3.2 == 0)) && (x558_4.2 == 0)) && (x559_2.2 == 24)) && (x560_2.2 == 23)) && (x556_4.2.1 == 2))), [(91, some 0)]⟩ :: ⟨some (IsV x555_2.1), [(4, none)]⟩ :: ⟨some (IsV x562_3), [(93, some 2)]⟩ :: ⟨some (IsV (x562_3 == 6)), [(94, some 3)]⟩ :: ⟨some (IsV x562_5), [(92, some 1), (95, some 4)]⟩ :: ⟨some (IsV x562_5), [(96, some 5)]⟩ :: ⟨some (IsV x555_2.1), [(4, none)]⟩ :: ⟨some (IsV x562_8), [(98, some 7)]⟩ :: ⟨some (IsV (x562_8 == 7)), [(99, some 8)]⟩ :: ⟨some (IsV x562_10), [(97, some 6), (100, some 9)]⟩ :: ⟨some (IsV x562_10), [(101, some 10)]⟩ :: ⟨none, []⟩ :: ⟨none, []⟩ :: ⟨none, []⟩ :: ⟨some (IsV x562_15), [(102, some 11), (105, some 14)]⟩ :: ⟨some (IsV x562_15), [(106, some 15)]⟩ :: ⟨none, []⟩ :: ⟨none, []⟩ :: ⟨none, []⟩ :: ⟨none, []⟩ :: ⟨none, []⟩ :: ⟨some (IsV x562_22), [(107, some 16), (112, some 21)]⟩ :: ⟨some (IsV x562_22), [(113, some 22)]⟩ :: ⟨none, []⟩ :: ⟨none, []⟩ :: ⟨none, []⟩ :: ⟨none, []⟩ :: ⟨none, []⟩ :: ⟨some (IsV x562_29), [(114, some 23), (119, some 28)]⟩ :: ⟨some (IsV x562_29), [(120, some 29)]⟩ :: []) hs (by kernel_rfl) ⟨⟨inferInstance, fun b q hk hn => ok_move rfl (up i17 hk hn.1), rfl⟩, ⟨inferInstance, fun b q hk hn => ok_move rfl hn.1, rfl⟩, ⟨inferInstance, fun b q hk hn => ok_move rfl (up i4 hk hn.1), guardT hm565⟩, ⟨inferInstance, fun b q hk hn => ok_call rfl Try.call19 (cUnits_ok hn.1 (isV_int.2 rfl) hx562_3), guardT hm565⟩, ⟨inferInstance, fun b q hk hn => ok_eqI rfl hn.1 (isV_int.2 rfl), guardT hm565⟩, ⟨inferInstance, fun b q hk hn => ok_cast (Option.some.inj ht566) (ok_pick_t rfl hn.1 hm565 hn.2.1), rfl⟩, ⟨inferInstance, fun b q hk hn => ok_move rfl hn.1, rfl⟩, ⟨inferInstance, fun b q hk hn => ok_move rfl (up i4 hk hn.1), guardT hm567⟩, ⟨inferInstance, fun b q hk hn => ok_call rfl Try.call19 (cUnits_ok hn.1 (isV_int.2 rfl) hx562_8), guardT hm567⟩, ⟨inferInstance, fun b q hk hn => ok_eqI rfl hn.1 (isV_int.2 rfl), guardT hm567⟩, ⟨inferInstance, fun b q hk hn => ok_cast (Option.some.inj ht568) (ok_pick_t rfl hn.1 hm567 hn.2.1), rfl⟩, ⟨inferInstance, fun b q hk hn => ok_move rfl hn.1, rfl⟩, guardF hm569, guardF hm569, guardF hm569, ⟨inferInstance, fun b q hk hn => ok_cast (Option.some.inj ht570) (ok_pick_f rfl hn.1 hm569 (isV_bool.2 rfl)), rfl⟩, ⟨inferInstance, fun b q hk hn => ok_move rfl hn.1, rfl⟩, guardF hm581, guardF hm581, guardF hm581, guardF hm581, guardF hm581, ⟨inferInstance, fun b q hk hn => ok_cast (Option.some.inj ht582) (ok_pick_f rfl hn.1 hm581 (isV_bool.2 rfl)), rfl⟩, ⟨inferInstance, fun b q hk hn => ok_move rfl hn.1, rfl⟩, guardF hm584, guardF hm584, guardF hm584, guardF hm584, guardF hm584, ⟨inferInstance, fun b q hk hn => ok_cast (Option.some.inj ht585) (ok_pick_f rfl hn.1 hm584 (isV_bool.2 rfl)), rfl⟩, ⟨inferInstance, fun b q hk hn => ok_assign rfl hn.1, rfl⟩, trivial⟩ hQQ563 fun b q p => ?_
                                have hgq := hg.then p.grow
                                have hsb := p.size.trans hs
                                have hdb := p.defers.trans hd
                                have j0 : (IsV x562_29) (b.get 0) q := out p 30 0 _ rfl rfl rfl
                                exact tail_done (k := q) (hp564 _ _ ⟨hgq, hsb, hdb, j0, trivial⟩)
                            · have ht568 := hx562_10
                              rw [if_neg (by rw [hm567]; decide)] at ht568
                              have hk587 : x562_10 = false := (Option.some.inj ht568).symm
                              have hm588 := hk587
                              have ht589 := hx562_15
                              rw [if_neg (by rw [hm588]; decide)] at ht589
                              have hk590 : x562_15 = false := (Option.some.inj ht589).symm
                              have hm591 := hk590
                              have ht592 := hx562_22
                              rw [if_neg (by rw [hm591]; decide)] at ht592
                              have hk593 : x562_22 = false := (Option.some.inj ht592).symm
                              have hm594 := hk593
                              have ht595 := hx562_29
                              rw [if_neg (by rw [hm594]; decide)] at ht595
                              have hk596 : x562_29 = false := (Option.some.inj ht595).symm
                              refine regionS (a0 := a) (k0 := k) (n := 121) (m := 31) (⟨some (IsV (((((((x555_2.2 == 0) && (x556_4.2.2 == 0)) && (x557_3.2 == 0)) && (x558_4.2 == 0)) && (x559_2.2 == 24)) && (x560_2.2 == 23)) && (x556_4.2.1 == 2))), [(17, none)]⟩ :: ⟨some (IsV (((((((x555_2.2 == 0) && (x556_4.2.2 == 0)) && (x557_3.2 == 0)) && (x558_4.2 == 0)) && (x559_2.2 == 24)) && (x560_2.2 == 23)) && (x556_4.2.1 == 2))), [(91, some 0)]⟩ :: ⟨some (IsV x555_2.1), [(4, none)]⟩ :: ⟨some (IsV x562_3), [(93, some 2)]⟩ :: ⟨some (IsV (x562_3 == 6)), [(94, some 3)]⟩ :: ⟨some (IsV x562_5), [(92, some 1), (95, some 4)]⟩ :: ⟨some (IsV x562_5), [(96, some 5)]⟩ :: ⟨none, []⟩ :: ⟨none, []⟩ :: ⟨none, []⟩ :: ⟨some (IsV x562_10), [(97, some 6), (100, some 9)]⟩ :: ⟨some (IsV x562_10), [(101, some 10)]⟩ :: ⟨none, []⟩ :: ⟨none, []⟩ :: ⟨none, []⟩ :: ⟨some (IsV x562_15), [(102, some 11), (105, some 14)]⟩ :: ⟨some (IsV x562_15), [(106, some 15)]⟩ :: ⟨none, []⟩ :: ⟨none, []⟩ :: ⟨none, []⟩ :: ⟨none, []⟩ :: ⟨none, []⟩ :: ⟨some (IsV x562_22), [(107, some 16), (112, some 21)]⟩ :: ⟨some (IsV x562_22), [(113, some 22)]⟩ :: ⟨none, []⟩ :: ⟨none, []⟩ :: ⟨none, []⟩ :: ⟨none, []⟩ :: ⟨none, []⟩ :: ⟨some (IsV x562_29), [(114, some 23), (119, some 28)]⟩ :: ⟨some (IsV x562_29), [(120, some 29)]⟩ :: []) hs (by kernel_rfl) ⟨⟨inferInstance, fun b q hk hn => ok_move rfl (up i17 hk hn.1), rfl⟩, ⟨inferInstance, fun b q hk hn => ok_move rfl hn.1, rfl⟩, ⟨inferInstance, fun b q hk hn => ok_move rfl (up i4 hk hn.1), guardT hm565⟩, ⟨inferInstance, fun b q hk hn => ok_call rfl Try.call19 (cUnits_ok hn.1 (isV_int.2 rfl) hx562_3), guardT hm565⟩, ⟨inferInstance, fun b q hk hn => ok_eqI rfl hn.1 (isV_int.2 rfl), guardT hm565⟩, ⟨inferInstance, fun b q hk hn => ok_cast (Option.some.inj ht566) (ok_pick_t rfl hn.1 hm565 hn.2.1), rfl⟩, ⟨inferInstance, fun b q hk hn => ok_move rfl hn.1, rfl⟩, guardF hm567, guardF hm567, guardF hm567, ⟨inferInstance, fun b q hk hn => ok_cast (Option.some.inj ht568) (ok_pick_f rfl hn.1 hm567 (isV_bool.2 rfl)), rfl⟩, ⟨inferInstance, fun b q hk hn => ok_move rfl hn.1, rfl⟩, guardF hm588, guardF hm588, guardF hm588, ⟨inferInstance, fun b q hk hn => ok_cast (Option.some.inj ht589) (ok_pick_f rfl hn.1 hm588 (isV_bool.2 rfl)), rfl⟩, ⟨inferInstance, fun b q hk hn => ok_move rfl hn.1, rfl⟩, guardF hm591, guardF hm591, guardF hm591, guardF hm591, guardF hm591, ⟨inferInstance, fun b q hk hn => ok_cast (Option.some.inj ht592) (ok_pick_f rfl hn.1 hm591 (isV_bool.2 rfl)), rfl⟩, ⟨inferInstance, fun b q hk hn => ok_move rfl hn.1, rfl⟩, guardF hm594, guardF hm594, guardF hm594, guardF hm594, guardF hm594, ⟨inferInstance, fun b q hk hn => ok_cast (Option.some.inj ht595) (ok_pick_f rfl hn.1 hm594 (isV_bool.2 rfl)), rfl⟩, ⟨inferInstance, fun b q hk hn => ok_assign rfl hn.1, rfl⟩, trivial⟩ hQQ563 fun b q p => ?_
                              have hgq := hg.then p.grow
                              have hsb := p.size.trans hs
                              have hdb := p.defers.trans hd
                              have j0 : (IsV x562_29) (b.get 0) q := out p 30 0 _ rfl rfl rfl
                              exact tail_done (k := q) (hp564 _ _ ⟨hgq, hsb, hdb, j0, trivial⟩)
                          · have ht566 := hx562_5
                            rw [if_neg (by rw [hm565]; decide)] at ht566
                            have hk597 : x562_5 = false := (Option.some.inj ht566).symm
                            have hm598 := hk597
                            have ht599 := hx562_10
                            rw [if_neg (by rw [hm598]; decide)] at ht599
                            have hk600 : x562_10 = false := (Option.some.inj ht599).symm
                            have hm601 := hk600
                            have ht602 := hx562_15
                            rw [if_neg (by rw [hm601]; decide)] at ht602
                            have hk603 : x562_15 = false := (Option.some.inj ht602).symm
                            have hm604 := hk603
                            have ht605 := hx562_22
                            rw [if_neg (by rw [hm604]; decide)] at ht605
                            have hk606 : x562_22 = false := (Option.some.inj ht605).symm
                            have hm607 := hk606
                            have ht608 := hx562_29
                            rw [if_neg (by rw [hm607]; decide)] at ht608
                            have hk609 : x562_29 = false := (Option.some.inj ht608).symm
                            refine regionS (a0 := a) (k0 := k) (n := 121) (m := 31) (⟨some (IsV (((((((x555_2.2 == 0) && (x556_4.2.2 == 0)) && (x557_3.2 == 0)) && (x558_4.2 == 0)) && (x559_2.2 == 24)) && (x560_2.2 == 23)) && (x556_4.2.1 == 2))), [(17, none)]⟩ :: ⟨some (IsV (((((((x555_2.2 == 0) && (x556_4.2.2 == 0)) && (x557_3.2 == 0)) && (x558_4.2 == 0)) && (x559_2.2 == 24)) && (x560_2.2 == 23)) && (x556_4.2.1 == 2))), [(91, some 0)]⟩ :: ⟨none, []⟩ :: ⟨none, []⟩ :: ⟨none, []⟩ :: ⟨some (IsV x562_5), [(92, some 1), (95, some 4)]⟩ :: ⟨some (IsV x562_5), [(96, some 5)]⟩ :: ⟨none, []⟩ :: ⟨none, []⟩ :: ⟨none, []⟩ :: ⟨some (IsV x562_10), [(97, some 6), (100, some 9)]⟩ :: ⟨some (IsV x562_10), [(101, some 10)]⟩ :: ⟨none, []⟩ :: ⟨none, []⟩ :: ⟨none, []⟩ :: ⟨some (IsV x562_15), [(102, some 11), (105, some 14)]⟩ :: ⟨some (IsV x562_15), [(106, some 15)]⟩ :: ⟨none, []⟩ :: ⟨none, []⟩ :: ⟨none, []⟩ :: ⟨none, []⟩ :: ⟨none, []⟩ :: ⟨some (IsV x562_22), [(107, some 16), (112, some 21)]⟩ :: ⟨some (IsV x562_22), [(113, some 22)]⟩ :: ⟨none, []⟩ :: ⟨none, []⟩ :: ⟨none, []⟩ :: ⟨none, []⟩ :: ⟨none, []⟩ :: ⟨some (IsV x562_29), [(114, some 23), (119, some 28)]⟩ :: ⟨some (IsV x562_29), [(120, some 29)]⟩ :: []) hs (by kernel_rfl) ⟨⟨inferInstance, fun b q hk hn => ok_move rfl (up i17 hk hn.1), rfl⟩, ⟨inferInstance, fun b q hk hn => ok_move rfl hn.1, rfl⟩, guardF hm565, guardF hm565, guardF hm565, ⟨inferInstance, fun b q hk hn => ok_cast (Option.some.inj ht566) (ok_pick_f rfl hn.1 hm565 (isV_bool.2 rfl)), rfl⟩, ⟨inferInstance, fun b q hk hn => ok_move rfl hn.1, rfl⟩, guardF hm598, guardF hm598, guardF hm598, ⟨inferInstance, fun b q hk hn => ok_cast (Option.some.inj ht599) (ok_pick_f rfl hn.1 hm598 (isV_bool.2 rfl)), rfl⟩, ⟨inferInstance, fun b q hk hn => ok_move rfl hn.1, rfl⟩, guardF hm601, guardF hm601, guardF hm601, ⟨inferInstance, fun b q hk hn => ok_cast (Option.some.inj ht602) (ok_pick_f rfl hn.1 hm601 (isV_bool.2 rfl)), rfl⟩, ⟨inferInstance, fun b q hk hn => ok_move rfl hn.1, rfl⟩, guardF hm604, guardF hm604, guardF hm604, guardF hm604, guardF hm604, ⟨inferInstance, fun b q hk hn => ok_cast (Option.some.inj ht605) (ok_pick_f rfl hn.1 hm604 (isV_bool.2 rfl)), rfl⟩, ⟨inferInstance, fun b q hk hn => ok_move rfl hn.1, rfl⟩, guardF hm607, guardF hm607, guardF hm607, guardF hm607, guardF hm607, ⟨inferInstance, fun b q hk hn => ok_cast (Option.some.inj ht608) (ok_pick_f rfl hn.1 hm607 (isV_bool.2 rfl)), rfl⟩, ⟨inferInstance, fun b q hk hn => ok_assign rfl hn.1, rfl⟩, trivial⟩ hQQ563 fun b q p => ?_
                            have hgq := hg.then p.grow
                            have hsb := p.size.trans hs
                            have hdb := p.defers.trans hd
                            have j0 : (IsV x562_29) (b.get 0) q := out p 30 0 _ rfl rfl rfl
                            exact tail_done (k := q) (hp564 _ _ ⟨hgq, hsb, hdb, j0, trivial⟩)
                        · rintro a k ⟨hg, hs, hd, i0, _⟩
                          refine wp_ret ?_
                          obtain rfl := Option.some.inj hr
                          exact retC1 rfl hd hg i0
end Go.Proofs.Ytbanncpkgbiklaa
