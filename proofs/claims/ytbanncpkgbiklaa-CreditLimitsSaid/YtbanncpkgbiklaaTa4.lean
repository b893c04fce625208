/- What the functions of credit compute, part 4 -/
import Derived.Test.YtbanncpkgbiklaaTa3
namespace Go.Proofs.Ytbanncpkgbiklaa
open Go.Gb
def lawLimits_L1 (x713_5 : (List Account) × Int) (s716 : Int) : Option (Flow (Int) (Bool)) :=
  if (decide (s716 < (x713_5.1.length : Int))) then
    (getI x713_5.1 s716).bind fun x721_2 =>
    (if (decide (x721_2.Units < 0)) then
      some true
    else
      (getI x713_5.1 s716).bind fun x721_9 =>
      some (decide (1073741824 < x721_9.Units))).bind fun x721_13 =>
    if x721_13 then
      some (.ret false)
    else
      (addI s716 1).bind fun x725_1 =>
      some (.go x725_1)
  else
    some (.ex 2 s716)
def lawLimits_L3 (s703 : (List Account) × Int) (x713_5 : (List Account) × Int) (s740 : Int) (s747 : Bool × Int) : Option (Flow (Bool × Int) (Bool)) :=
  if (decide (s747.2 < (x713_5.1.length : Int))) then
    (if s747.1 then
      some true
    else
      (getI x713_5.1 s747.2).bind fun x752_4 =>
      (getI s703.1 s740).bind fun x752_9 =>
      (if (x752_4.Lot == x752_9.Lot) then
        (getI x713_5.1 s747.2).bind fun x752_16 =>
        (getI s703.1 s740).bind fun x752_21 =>
        some (x752_16.Receives == x752_21.Receives)
      else
        some false).bind fun x752_25 =>
      (if x752_25 then
        (getI s703.1 s740).bind fun x752_29 =>
        (if x752_29.Receives then
          some true
        else
          (getI x713_5.1 s747.2).bind fun x752_35 =>
          (getI s703.1 s740).bind fun x752_40 =>
          some (decide (x752_35.Units ≤ x752_40.Units))).bind fun x752_44 =>
        some x752_44
      else
        some false).bind fun x752_45 =>
      some x752_45).bind fun x752_46 =>
    (addI s747.2 1).bind fun x753_1 =>
    some (.go (x752_46, x753_1))
  else
    some (.ex 6 (s747.1, s747.2))
def lawLimits_L2 (m_ : (List Move)) (s703 : (List Account) × Int) (x713_5 : (List Account) × Int) (s740 : Int) : Option (Flow (Int) (Bool)) :=
  if (decide (s740 < (s703.1.length : Int))) then
    (iterL (lawLimits_L3 s703 x713_5 s740) (m_.length + s703.1.length + x713_5.1.length + 1) (false, 0)).bind fun f776 => match f776 with
      | .go _ => none
      | .ex _ s777 =>
        if (!s777.1) then
          some (.ret false)
        else
          (addI s740 1).bind fun x782_1 =>
          some (.go x782_1)
      | .ret r788 => some (.ret r788)
  else
    some (.ex 4 s740)
def lawLimits_L0 (m_ : (List Move)) (s703 : (List Account) × Int) : Option (Flow ((List Account) × Int) (Bool)) :=
  if (decide (s703.2 < (m_.length : Int))) then
    ((getI m_ s703.2).bind fun x713_3 =>
    (cDo s703.1 x713_3).bind fun x713_5 =>
    if (x713_5.2 != 0) then
      some (.go s703.1)
    else
      (iterL (lawLimits_L1 x713_5) (m_.length + s703.1.length + x713_5.1.length + 1) 0).bind fun f737 => match f737 with
        | .go _ => none
        | .ex _ _ =>
          (iterL (lawLimits_L2 m_ s703 x713_5) (m_.length + s703.1.length + x713_5.1.length + 1) 0).bind fun f797 => match f797 with
            | .go _ => none
            | .ex _ _ =>
              some (.go x713_5.1)
            | .ret r802 => some (.ret r802)
        | .ret r806 => some (.ret r806) : Option (Flow ((List Account)) (Bool))).bind fun f815 => match f815 with
      | .go s816 =>
        (addI s703.2 1).bind fun x817_1 =>
        some (.go (s816, x817_1))
      | .ex _ _ => none
      | .ret r820 => some (.ret r820)
  else
    some (.ex 0 (s703.1, s703.2))
def lawLimits (l_ : (List Account)) (m_ : (List Move)) : Option (Bool) :=
  (small).bind fun x696_0 =>
  (few l_ m_).bind fun x697_2 =>
  if (!x697_2) then
    some x696_0
  else
    (iterL (lawLimits_L0 m_) (m_.length + l_.length + 1) (l_, 0)).bind fun f825 => match f825 with
      | .go _ => none
      | .ex _ _ =>
        some x696_0
      | .ret r830 => some r830
theorem lawLimits_ok {k0 : K} {v0 v1 : Value} {l_ : (List Account)} {m_ : (List Move)} {r : Bool} (i0 : (IsV l_) v0 k0) (i1 : (IsV m_) v1 k0) (hr : lawLimits l_ m_ = some r) :
    Calls Try.prog 4 #[v0, v1] k0.w (Ret k0 (IsV r)) := by
  unfold lawLimits at hr
  refine Ret.ofC ?_
  refine enterK Try.func4 rfl Try.ntmps4 (show 2 ≤ 121 by decide) fun a k hk0 hs hd ha => ?_
  obtain ⟨e0, e1, _⟩ := ha
  replace i0 : (IsV l_) (a.get 0) k := by rw [e0, hk0]; exact i0
  replace i1 : (IsV m_) (a.get 1) k := by rw [e1, hk0]; exact i1
  have hQ : Gb.LetsOut (bodyPost Try.prog Try.f4 (RetC noF k0 (IsV r))) := letsOutC
  have hg : Chg noF k0 k := by rw [hk0]; exact Chg.refl _ k0
  refine wp_seq ?_
  refine cut (fun a' k' => Chg noF k0 k' ∧ a'.tmps.size = 121 ∧ a'.defers = [] ∧ (IsV l_) (a'.get 0) k' ∧ (IsV m_) (a'.get 1) k' ∧ True) ?_ hQ ?_
  · intro Q841 hQQ841 hp842
    refine regionS (a0 := a) (k0 := k) (n := 121) (m := 1) (⟨some (IsV false), []⟩ :: []) hs (by kernel_rfl) ⟨⟨inferInstance, fun b q hk hn => ok_assign rfl (isV_bool.2 rfl), rfl⟩, trivial⟩ hQQ841 fun b q p => ?_
    have hgq := hg.then p.grow
    have hsb := p.size.trans hs
    have hdb := p.defers.trans hd
    have j0 := keep p 0 rfl i0
    have j1 := keep p 1 rfl i1
    exact tail_done (k := q) (hp842 _ _ ⟨hgq, hsb, hdb, j0, j1, trivial⟩)
  · rintro a k ⟨hg, hs, hd, i0, i1, _⟩
    refine wp_seq ?_
    obtain ⟨x696_0, hx696_0, hr⟩ := bind_some hr
    refine cut (fun a' k' => Chg noF k0 k' ∧ a'.tmps.size = 121 ∧ a'.defers = [] ∧ (IsV l_) (a'.get 0) k' ∧ (IsV m_) (a'.get 1) k' ∧ (IsV x696_0) (a'.get 5) k' ∧ True) ?_ hQ ?_
    · intro Q839 hQQ839 hp840
      refine regionS (a0 := a) (k0 := k) (n := 121) (m := 2) (⟨some (IsV x696_0), []⟩ :: ⟨some (IsV x696_0), [(14, some 0)]⟩ :: []) hs (by kernel_rfl) ⟨⟨inferInstance, fun b q hk hn => ok_call rfl Try.call8 (small_ok hx696_0), rfl⟩, ⟨inferInstance, fun b q hk hn => ok_assign rfl hn.1, rfl⟩, trivial⟩ hQQ839 fun b q p => ?_
      have hgq := hg.then p.grow
      have hsb := p.size.trans hs
      have hdb := p.defers.trans hd
      have j0 := keep p 0 rfl i0
      have j1 := keep p 1 rfl i1
      have j5 : (IsV x696_0) (b.get 5) q := out p 1 5 _ rfl rfl rfl
      exact tail_done (k := q) (hp840 _ _ ⟨hgq, hsb, hdb, j0, j1, j5, trivial⟩)
    · rintro a k ⟨hg, hs, hd, i0, i1, i5, _⟩
      refine wp_seq ?_
      refine wp_seq ?_
      obtain ⟨x697_2, hx697_2, hr⟩ := bind_some hr
      refine cut (fun a' k' => Chg noF k0 k' ∧ a'.tmps.size = 121 ∧ a'.defers = [] ∧ (IsV l_) (a'.get 0) k' ∧ (IsV m_) (a'.get 1) k' ∧ (IsV x696_0) (a'.get 5) k' ∧ (IsV (!x697_2)) (a'.get 18) k' ∧ True) ?_ hQ ?_
      · intro Q837 hQQ837 hp838
        refine regionS (a0 := a) (k0 := k) (n := 121) (m := 4) (⟨some (IsV l_), [(0, none)]⟩ :: ⟨some (IsV m_), [(1, none)]⟩ :: ⟨some (IsV x697_2), [(15, some 0), (16, some 1)]⟩ :: ⟨some (IsV (!x697_2)), [(17, some 2)]⟩ :: []) hs (by kernel_rfl) ⟨⟨inferInstance, fun b q hk hn => ok_move rfl (up i0 hk hn.1), rfl⟩, ⟨inferInstance, fun b q hk hn => ok_move rfl (up i1 hk hn.1), rfl⟩, ⟨inferInstance, fun b q hk hn => ok_call rfl Try.call9 (few_ok hn.1 hn.2.1 hx697_2), rfl⟩, ⟨inferInstance, fun b q hk hn => ok_not rfl hn.1, rfl⟩, trivial⟩ hQQ837 fun b q p => ?_
        have hgq := hg.then p.grow
        have hsb := p.size.trans hs
        have hdb := p.defers.trans hd
        have j0 := keep p 0 rfl i0
        have j1 := keep p 1 rfl i1
        have j5 := keep p 5 rfl i5
        have j18 : (IsV (!x697_2)) (b.get 18) q := out p 3 18 _ rfl rfl rfl
        exact tail_done (k := q) (hp838 _ _ ⟨hgq, hsb, hdb, j0, j1, j5, j18, trivial⟩)
      · rintro a k ⟨hg, hs, hd, i0, i1, i5, i18, _⟩
        refine wp_cond_split (isBool i18) (fun hc836 => ?_) (fun hc836 => ?_)
        · rw [if_pos hc836] at hr
          refine wp_seq ?_
          refine cut (fun a' k' => Chg noF k0 k' ∧ a'.tmps.size = 121 ∧ a'.defers = [] ∧ (IsV x696_0) (a'.get 4) k' ∧ True) ?_ hQ ?_
          · intro Q699 hQQ699 hp700
            refine regionS (a0 := a) (k0 := k) (n := 121) (m := 2) (⟨some (IsV x696_0), [(5, none)]⟩ :: ⟨some (IsV x696_0), [(19, some 0)]⟩ :: []) hs (by kernel_rfl) ⟨⟨inferInstance, fun b q hk hn => ok_move rfl (up i5 hk hn.1), rfl⟩, ⟨inferInstance, fun b q hk hn => ok_assign rfl hn.1, rfl⟩, trivial⟩ hQQ699 fun b q p => ?_
            have hgq := hg.then p.grow
            have hsb := p.size.trans hs
            have hdb := p.defers.trans hd
            have j4 : (IsV x696_0) (b.get 4) q := out p 1 4 _ rfl rfl rfl
            exact tail_done (k := q) (hp700 _ _ ⟨hgq, hsb, hdb, j4, trivial⟩)
          · rintro a k ⟨hg, hs, hd, i4, _⟩
            refine wp_ret ?_
            obtain rfl := Option.some.inj hr
            exact retC1 rfl hd hg i4
        · rw [if_neg (by rw [hc836]; decide)] at hr
          refine wp_skip ?_
          refine wp_seq ?_
          refine cut (fun a' k' => Chg noF k0 k' ∧ a'.tmps.size = 121 ∧ a'.defers = [] ∧ (IsV m_) (a'.get 1) k' ∧ (IsV x696_0) (a'.get 5) k' ∧ (IsV l_) (a'.get 6) k' ∧ True) ?_ hQ ?_
          · intro Q834 hQQ834 hp835
            refine regionS (a0 := a) (k0 := k) (n := 121) (m := 2) (⟨some (IsV l_), [(0, none)]⟩ :: ⟨some (IsV l_), [(20, some 0)]⟩ :: []) hs (by kernel_rfl) ⟨⟨inferInstance, fun b q hk hn => ok_move rfl (up i0 hk hn.1), rfl⟩, ⟨inferInstance, fun b q hk hn => ok_assign rfl hn.1, rfl⟩, trivial⟩ hQQ834 fun b q p => ?_
            have hgq := hg.then p.grow
            have hsb := p.size.trans hs
            have hdb := p.defers.trans hd
            have j1 := keep p 1 rfl i1
            have j5 := keep p 5 rfl i5
            have j6 : (IsV l_) (b.get 6) q := out p 1 6 _ rfl rfl rfl
            exact tail_done (k := q) (hp835 _ _ ⟨hgq, hsb, hdb, j1, j5, j6, trivial⟩)
          · rintro a k ⟨hg, hs, hd, i1, i5, i6, _⟩
            refine wp_seq ?_
            refine wp_seq ?_
            refine cut (fun a' k' => Chg noF k0 k' ∧ a'.tmps.size = 121 ∧ a'.defers = [] ∧ (IsV m_) (a'.get 1) k' ∧ (IsV x696_0) (a'.get 5) k' ∧ (IsV l_) (a'.get 6) k' ∧ (IsV (α := Int) 0) (a'.get 7) k' ∧ True) ?_ hQ ?_
            · intro Q832 hQQ832 hp833
              refine regionS (a0 := a) (k0 := k) (n := 121) (m := 1) (⟨some (IsV (α := Int) 0), []⟩ :: []) hs (by kernel_rfl) ⟨⟨inferInstance, fun b q hk hn => ok_assign rfl (isV_int.2 rfl), rfl⟩, trivial⟩ hQQ832 fun b q p => ?_
              have hgq := hg.then p.grow
              have hsb := p.size.trans hs
              have hdb := p.defers.trans hd
              have j1 := keep p 1 rfl i1
              have j5 := keep p 5 rfl i5
              have j6 := keep p 6 rfl i6
              have j7 : (IsV (α := Int) 0) (b.get 7) q := out p 0 7 _ rfl rfl rfl
              exact tail_done (k := q) (hp833 _ _ ⟨hgq, hsb, hdb, j1, j5, j6, j7, trivial⟩)
            · rintro a k ⟨hg, hs, hd, i1, i5, i6, i7, _⟩
              refine wp_block ?_
              obtain ⟨f825, hf825, hr⟩ := bind_some hr
              refine cutF f825 (fun s' a' k' => Chg noF k0 k' ∧ a'.tmps.size = 121 ∧ a'.defers = [] ∧ (IsV m_) (a'.get 1) k' ∧ (IsV x696_0) (a'.get 5) k' ∧ (IsV s'.1) (a'.get 6) k' ∧ (IsV s'.2) (a'.get 7) k' ∧ True) (fun i' s' a' k' => (i' = 0 ∧ Chg noF k0 k' ∧ a'.tmps.size = 121 ∧ a'.defers = [] ∧ (IsV x696_0) (a'.get 5) k' ∧ True)) (fun r' a' k' => bodyPost Try.prog Try.f4 (RetC noF k0 (IsV r')) .ret a' k'.w) ?_ hQ ?_ ?_ ?_
              · intro Q831 hQQ831 hgo hex hret
                refine sim_loop ?_ _ _ _ _ _ hf825 ⟨hg, hs, hd, i1, i5, i6, i7, trivial⟩ Q831 hQQ831 hgo hex hret
                clear hr hf825 hgo hex hret hQQ831 hQ hd hg hs i1 i5 i6 i7
                intro s703 fl_ a k hr hS Q hQ hgo704 hex705 hret706
                obtain ⟨hg, hs, hd, i1, i5, i6, i7, _⟩ := hS
                unfold lawLimits_L0 at hr
                refine wp_seq ?_
                refine wp_seq ?_
                refine cut (fun a' k' => Chg noF k0 k' ∧ a'.tmps.size = 121 ∧ a'.defers = [] ∧ (IsV m_) (a'.get 1) k' ∧ (IsV x696_0) (a'.get 5) k' ∧ (IsV s703.1) (a'.get 6) k' ∧ (IsV s703.2) (a'.get 7) k' ∧ (IsV (decide (s703.2 < (m_.length : Int)))) (a'.get 24) k' ∧ True) ?_ hQ ?_
                · intro Q823 hQQ823 hp824
                  refine regionS (a0 := a) (k0 := k) (n := 121) (m := 4) (⟨some (IsV s703.2), [(7, none)]⟩ :: ⟨some (IsV m_), [(1, none)]⟩ :: ⟨some (IsV (α := Int) (m_.length : Int)), [(22, some 1)]⟩ :: ⟨some (IsV (decide (s703.2 < (m_.length : Int)))), [(21, some 0), (23, some 2)]⟩ :: []) hs (by kernel_rfl) ⟨⟨inferInstance, fun b q hk hn => ok_move rfl (up i7 hk hn.1), rfl⟩, ⟨inferInstance, fun b q hk hn => ok_move rfl (up i1 hk hn.1), rfl⟩, ⟨inferInstance, fun b q hk hn => ok_len rfl rfl Try.underlying23 (IsV.rd hn.1), rfl⟩, ⟨inferInstance, fun b q hk hn => ok_lss rfl hn.1 hn.2.1, rfl⟩, trivial⟩ hQQ823 fun b q p => ?_
                  have hgq := hg.then p.grow
                  have hsb := p.size.trans hs
                  have hdb := p.defers.trans hd
                  have j1 := keep p 1 rfl i1
                  have j5 := keep p 5 rfl i5
                  have j6 := keep p 6 rfl i6
                  have j7 := keep p 7 rfl i7
                  have j24 : (IsV (decide (s703.2 < (m_.length : Int)))) (b.get 24) q := out p 3 24 _ rfl rfl rfl
                  exact tail_done (k := q) (hp824 _ _ ⟨hgq, hsb, hdb, j1, j5, j6, j7, j24, trivial⟩)
                · rintro a k ⟨hg, hs, hd, i1, i5, i6, i7, i24, _⟩
                  refine wp_cond_split (isBool i24) (fun hc822 => ?_) (fun hc822 => ?_)
                  · rw [if_pos hc822] at hr
                    refine wp_skip ?_
                    refine wp_seq ?_
                    obtain ⟨f815, hf815, hr⟩ := bind_some hr
                    refine cutF f815 (fun s' a' k' => Chg noF k0 k' ∧ a'.tmps.size = 121 ∧ a'.defers = [] ∧ (IsV m_) (a'.get 1) k' ∧ (IsV x696_0) (a'.get 5) k' ∧ (IsV s') (a'.get 6) k' ∧ (IsV s703.2) (a'.get 7) k' ∧ True) (fun i' s' a' k' => False) (fun r' a' k' => bodyPost Try.prog Try.f4 (RetC noF k0 (IsV r')) .ret a' k'.w) ?_ hQ ?_ ?_ ?_
                    · intro Q821 hQQ821 hgo710 hex711 hret712
                      replace hr := hf815
                      clear hQ
                      have hQ := hQQ821
                      refine wp_block ?_
                      refine wp_seq ?_
                      obtain ⟨x713_3, hx713_3, hr⟩ := bind_some hr
                      obtain ⟨x713_5, hx713_5, hr⟩ := bind_some hr
                      refine cut (fun a' k' => Chg noF k0 k' ∧ a'.tmps.size = 121 ∧ a'.defers = [] ∧ (IsV m_) (a'.get 1) k' ∧ (IsV x696_0) (a'.get 5) k' ∧ (IsV s703.1) (a'.get 6) k' ∧ (IsV s703.2) (a'.get 7) k' ∧ (IsV x713_5.1) (a'.get 8) k' ∧ (IsV x713_5.2) (a'.get 9) k' ∧ True) ?_ hQ ?_
                      · intro Q813 hQQ813 hp814
                        refine regionS (a0 := a) (k0 := k) (n := 121) (m := 11) (⟨some (IsV s703.1), [(6, none)]⟩ :: ⟨some (IsV m_), [(1, none)]⟩ :: ⟨some (IsV s703.2), [(7, none)]⟩ :: ⟨some (IsPtr x713_3), [(29, some 1), (30, some 2)]⟩ :: ⟨some (IsV x713_3), [(31, some 3)]⟩ :: ⟨some (IsTup2 (IsV x713_5.1) (IsV x713_5.2)), [(28, some 0), (32, some 4)]⟩ :: ⟨some (IsTup2 (IsV x713_5.1) (IsV x713_5.2)), [(33, some 5)]⟩ :: ⟨some (IsV x713_5.1), [(27, some 6)]⟩ :: ⟨some (IsV x713_5.2), [(27, some 6)]⟩ :: ⟨some (IsV x713_5.1), [(34, some 7)]⟩ :: ⟨some (IsV x713_5.2), [(35, some 8)]⟩ :: []) hs (by kernel_rfl) ⟨⟨inferInstance, fun b q hk hn => ok_move rfl (up i6 hk hn.1), rfl⟩, ⟨inferInstance, fun b q hk hn => ok_move rfl (up i1 hk hn.1), rfl⟩, ⟨inferInstance, fun b q hk hn => ok_move rfl (up i7 hk hn.1), rfl⟩, ⟨inferInstance, fun b q hk hn => ok_indexAddr rfl Try.underlying23 ty33 (IsV.rd hn.1) hn.2.1 hx713_3, rfl⟩, ⟨inferInstance, fun b q hk hn => ok_load rfl ty33 hn.1, rfl⟩, ⟨inferInstance, fun b q hk hn => ok_call rfl Try.call13 (cDo_ok hn.1 hn.2.1 hx713_5), rfl⟩, ⟨inferInstance, fun b q hk hn => ok_move rfl hn.1, rfl⟩, ⟨inferInstance, fun b q hk hn => ok_ext2_0 rfl hn.1, rfl⟩, ⟨inferInstance, fun b q hk hn => ok_ext2_1 rfl hn.1, rfl⟩, ⟨inferInstance, fun b q hk hn => ok_assign rfl hn.1, rfl⟩, ⟨inferInstance, fun b q hk hn => ok_assign rfl hn.1, rfl⟩, trivial⟩ hQQ813 fun b q p => ?_
                        have hgq := hg.then p.grow
                        have hsb := p.size.trans hs
                        have hdb := p.defers.trans hd
                        have j1 := keep p 1 rfl i1
                        have j5 := keep p 5 rfl i5
                        have j6 := keep p 6 rfl i6
                        have j7 := keep p 7 rfl i7
                        have j8 : (IsV x713_5.1) (b.get 8) q := out p 9 8 _ rfl rfl rfl
                        have j9 : (IsV x713_5.2) (b.get 9) q := out p 10 9 _ rfl rfl rfl
                        exact tail_done (k := q) (hp814 _ _ ⟨hgq, hsb, hdb, j1, j5, j6, j7, j8, j9, trivial⟩)
                      · rintro a k ⟨hg, hs, hd, i1, i5, i6, i7, i8, i9, _⟩
                        refine wp_seq ?_
                        refine wp_seq ?_
                        refine cut (fun a' k' => Chg noF k0 k' ∧ a'.tmps.size = 121 ∧ a'.defers = [] ∧ (IsV m_) (a'.get 1) k' ∧ (IsV x696_0) (a'.get 5) k' ∧ (IsV s703.1) (a'.get 6) k' ∧ (IsV s703.2) (a'.get 7) k' ∧ (IsV x713_5.1) (a'.get 8) k' ∧ (IsV (x713_5.2 != 0)) (a'.get 37) k' ∧ True) ?_ hQ ?_
                        · intro Q811 hQQ811 hp812
                          refine regionS (a0 := a) (k0 := k) (n := 121) (m := 2) (⟨some (IsV x713_5.2), [(9, none)]⟩ :: ⟨some (IsV (x713_5.2 != 0)), [(36, some 0)]⟩ :: []) hs (by kernel_rfl) ⟨⟨inferInstance, fun b q hk hn => ok_move rfl (up i9 hk hn.1), rfl⟩, ⟨inferInstance, fun b q hk hn => ok_neI rfl hn.1 (isV_int.2 rfl), rfl⟩, trivial⟩ hQQ811 fun b q p => ?_
                          have hgq := hg.then p.grow
                          have hsb := p.size.trans hs
                          have hdb := p.defers.trans hd
                          have j1 := keep p 1 rfl i1
                          have j5 := keep p 5 rfl i5
                          have j6 := keep p 6 rfl i6
                          have j7 := keep p 7 rfl i7
                          have j8 := keep p 8 rfl i8
                          have j37 : (IsV (x713_5.2 != 0)) (b.get 37) q := out p 1 37 _ rfl rfl rfl
                          exact tail_done (k := q) (hp812 _ _ ⟨hgq, hsb, hdb, j1, j5, j6, j7, j8, j37, trivial⟩)
                        · rintro a k ⟨hg, hs, hd, i1, i5, i6, i7, i8, i37, _⟩
                          refine wp_cond_split (isBool i37) (fun hc810 => ?_) (fun hc810 => ?_)
                          · rw [if_pos hc810] at hr
                            refine wp_exit ?_
                            exact hgo710 _ _ _ (Option.some.inj hr).symm ⟨hg, hs, hd, i1, i5, i6, i7, trivial⟩
                          · rw [if_neg (by rw [hc810]; decide)] at hr
                            refine wp_skip ?_
                            refine wp_seq ?_
                            refine wp_seq ?_
                            refine cut (fun a' k' => Chg noF k0 k' ∧ a'.tmps.size = 121 ∧ a'.defers = [] ∧ (IsV m_) (a'.get 1) k' ∧ (IsV x696_0) (a'.get 5) k' ∧ (IsV s703.1) (a'.get 6) k' ∧ (IsV s703.2) (a'.get 7) k' ∧ (IsV x713_5.1) (a'.get 8) k' ∧ (IsV (α := Int) 0) (a'.get 10) k' ∧ True) ?_ hQ ?_
                            · intro Q808 hQQ808 hp809
                              refine regionS (a0 := a) (k0 := k) (n := 121) (m := 1) (⟨some (IsV (α := Int) 0), []⟩ :: []) hs (by kernel_rfl) ⟨⟨inferInstance, fun b q hk hn => ok_assign rfl (isV_int.2 rfl), rfl⟩, trivial⟩ hQQ808 fun b q p => ?_
                              have hgq := hg.then p.grow
                              have hsb := p.size.trans hs
                              have hdb := p.defers.trans hd
                              have j1 := keep p 1 rfl i1
                              have j5 := keep p 5 rfl i5
                              have j6 := keep p 6 rfl i6
                              have j7 := keep p 7 rfl i7
                              have j8 := keep p 8 rfl i8
                              have j10 : (IsV (α := Int) 0) (b.get 10) q := out p 0 10 _ rfl rfl rfl
                              exact tail_done (k := q) (hp809 _ _ ⟨hgq, hsb, hdb, j1, j5, j6, j7, j8, j10, trivial⟩)
                            · rintro a k ⟨hg, hs, hd, i1, i5, i6, i7, i8, i10, _⟩
                              refine wp_block ?_
                              obtain ⟨f737, hf737, hr⟩ := bind_some hr
                              refine cutF f737 (fun s' a' k' => Chg noF k0 k' ∧ a'.tmps.size = 121 ∧ a'.defers = [] ∧ (IsV m_) (a'.get 1) k' ∧ (IsV x696_0) (a'.get 5) k' ∧ (IsV s703.1) (a'.get 6) k' ∧ (IsV s703.2) (a'.get 7) k' ∧ (IsV x713_5.1) (a'.get 8) k' ∧ (IsV s') (a'.get 10) k' ∧ True) (fun i' s' a' k' => (i' = 2 ∧ Chg noF k0 k' ∧ a'.tmps.size = 121 ∧ a'.defers = [] ∧ (IsV m_) (a'.get 1) k' ∧ (IsV x696_0) (a'.get 5) k' ∧ (IsV s703.1) (a'.get 6) k' ∧ (IsV s703.2) (a'.get 7) k' ∧ (IsV x713_5.1) (a'.get 8) k' ∧ True)) (fun r' a' k' => bodyPost Try.prog Try.f4 (RetC noF k0 (IsV r')) .ret a' k'.w) ?_ hQ ?_ ?_ ?_
                              · intro Q807 hQQ807 hgo hex hret
                                refine sim_loop ?_ _ _ _ _ _ hf737 ⟨hg, hs, hd, i1, i5, i6, i7, i8, i10, trivial⟩ Q807 hQQ807 hgo hex hret
                                clear hr hf737 hgo hex hret hQQ807 hQ hd hg hs i1 i10 i5 i6 i7 i8
                                intro s716 fl_ a k hr hS Q hQ hgo717 hex718 hret719
                                obtain ⟨hg, hs, hd, i1, i5, i6, i7, i8, i10, _⟩ := hS
                                unfold lawLimits_L1 at hr
                                refine wp_seq ?_
                                refine wp_seq ?_
                                refine cut (fun a' k' => Chg noF k0 k' ∧ a'.tmps.size = 121 ∧ a'.defers = [] ∧ (IsV m_) (a'.get 1) k' ∧ (IsV x696_0) (a'.get 5) k' ∧ (IsV s703.1) (a'.get 6) k' ∧ (IsV s703.2) (a'.get 7) k' ∧ (IsV x713_5.1) (a'.get 8) k' ∧ (IsV s716) (a'.get 10) k' ∧ (IsV (decide (s716 < (x713_5.1.length : Int)))) (a'.get 41) k' ∧ True) ?_ hQ ?_
                                · intro Q735 hQQ735 hp736
                                  refine regionS (a0 := a) (k0 := k) (n := 121) (m := 4) (⟨some (IsV s716), [(10, none)]⟩ :: ⟨some (IsV x713_5.1), [(8, none)]⟩ :: ⟨some (IsV (α := Int) (x713_5.1.length : Int)), [(39, some 1)]⟩ :: ⟨some (IsV (decide (s716 < (x713_5.1.length : Int)))), [(38, some 0), (40, some 2)]⟩ :: []) hs (by kernel_rfl) ⟨⟨inferInstance, fun b q hk hn => ok_move rfl (up i10 hk hn.1), rfl⟩, ⟨inferInstance, fun b q hk hn => ok_move rfl (up i8 hk hn.1), rfl⟩, ⟨inferInstance, fun b q hk hn => ok_len rfl rfl Try.underlying22 (IsV.rd hn.1), rfl⟩, ⟨inferInstance, fun b q hk hn => ok_lss rfl hn.1 hn.2.1, rfl⟩, trivial⟩ hQQ735 fun b q p => ?_
                                  have hgq := hg.then p.grow
                                  have hsb := p.size.trans hs
                                  have hdb := p.defers.trans hd
                                  have j1 := keep p 1 rfl i1
                                  have j5 := keep p 5 rfl i5
                                  have j6 := keep p 6 rfl i6
                                  have j7 := keep p 7 rfl i7
                                  have j8 := keep p 8 rfl i8
                                  have j10 := keep p 10 rfl i10
                                  have j41 : (IsV (decide (s716 < (x713_5.1.length : Int)))) (b.get 41) q := out p 3 41 _ rfl rfl rfl
                                  exact tail_done (k := q) (hp736 _ _ ⟨hgq, hsb, hdb, j1, j5, j6, j7, j8, j10, j41, trivial⟩)
                                · rintro a k ⟨hg, hs, hd, i1, i5, i6, i7, i8, i10, i41, _⟩
                                  refine wp_cond_split (isBool i41) (fun hc734 => ?_) (fun hc734 => ?_)
                                  · rw [if_pos hc734] at hr
                                    refine wp_skip ?_
                                    refine wp_seq ?_
                                    refine wp_block ?_
                                    refine wp_seq ?_
                                    obtain ⟨x721_2, hx721_2, hr⟩ := bind_some hr
                                    obtain ⟨x721_13, hx721_13, hr⟩ := bind_some hr
                                    refine cut (fun a' k' => Chg noF k0 k' ∧ a'.tmps.size = 121 ∧ a'.defers = [] ∧ (IsV m_) (a'.get 1) k' ∧ (IsV x696_0) (a'.get 5) k' ∧ (IsV s703.1) (a'.get 6) k' ∧ (IsV s703.2) (a'.get 7) k' ∧ (IsV x713_5.1) (a'.get 8) k' ∧ (IsV s716) (a'.get 10) k' ∧ (IsV x721_13) (a'.get 57) k' ∧ True) ?_ hQ ?_
                                    · intro Q729 hQQ729 hp730
                                      rcases Bool.eq_false_or_eq_true (decide (x721_2.Units < 0)) with hm731 | hm731
                                      · have ht732 := hx721_13
                                        rw [if_pos hm731] at ht732
                                        have hk733 : x721_13 = true := (Option.some.inj ht732).symm
                                        refine regionS (a0 := a) (k0 := k) (n := 121) (m := 14) (⟨some (IsV x713_5.1), [(8, none)]⟩ :: ⟨some (IsV s716), [(10, none)]⟩ :: ⟨some (IsPtr x721_2), [(44, some 0), (45, some 1)]⟩ :: ⟨some (IsPtr x721_2.Units), [(46, some 2)]⟩ :: ⟨some (IsV x721_2.Units), [(47, some 3)]⟩ :: ⟨some (IsV (decide (x721_2.Units < 0))), [(48, some 4)]⟩ :: ⟨some (IsV (decide (x721_2.Units < 0))), [(49, some 5)]⟩ :: ⟨none, []⟩ :: ⟨none, []⟩ :: ⟨none, []⟩ :: ⟨none, []⟩ :: ⟨none, []⟩ :: ⟨none, []⟩ :: ⟨some (IsV x721_13), [(50, some 6), (56, some 12)]⟩ :: []) hs (by kernel_rfl) ⟨⟨inferInstance, fun b q hk hn => ok_move rfl (up i8 hk hn.1), rfl⟩, ⟨inferInstance, fun b q hk hn => ok_move rfl (up i10 hk hn.1), rfl⟩, ⟨inferInstance, fun b q hk hn => ok_indexAddr rfl Try.underlying22 ty35 (IsV.rd hn.1) hn.2.1 hx721_2, rfl⟩, ⟨inferInstance, fun b q hk hn => ok_fieldAddr rfl fo35_1 (at_Account_1 _) hn.1, rfl⟩, ⟨inferInstance, fun b q hk hn => ok_load rfl ty3 hn.1, rfl⟩, ⟨inferInstance, fun b q hk hn => ok_lss rfl hn.1 (isV_int.2 rfl), rfl⟩, ⟨inferInstance, fun b q hk hn => ok_move rfl hn.1, rfl⟩, guardT hm731, guardT hm731, guardT hm731, guardT hm731, guardT hm731, guardT hm731, ⟨inferInstance, fun b q hk hn => ok_cast (Option.some.inj ht732) (ok_pick_t rfl hn.1 hm731 (isV_bool.2 rfl)), rfl⟩, trivial⟩ hQQ729 fun b q p => ?_
                                        have hgq := hg.then p.grow
                                        have hsb := p.size.trans hs
                                        have hdb := p.defers.trans hd
                                        have j1 := keep p 1 rfl i1
                                        have j5 := keep p 5 rfl i5
                                        have j6 := keep p 6 rfl i6
                                        have j7 := keep p 7 rfl i7
                                        have j8 := keep p 8 rfl i8
                                        have j10 := keep p 10 rfl i10
                                        have j57 : (IsV x721_13) (b.get 57) q := out p 13 57 _ rfl rfl rfl
                                        exact tail_done (k := q) (hp730 _ _ ⟨hgq, hsb, hdb, j1, j5, j6, j7, j8, j10, j57, trivial⟩)
                                      · have ht732 := hx721_13
                                        rw [if_neg (by rw [hm731]; decide)] at ht732
                                        obtain ⟨x721_9, hx721_9, ht732⟩ := bind_some ht732
                                        refine regionS (a0 := a) (k0 := k) (n := 121) (m := 14) (⟨some (IsV x713_5.1), [(8, none)]⟩ :: ⟨some (IsV s716), [(10, none)]⟩ :: ⟨some (IsPtr x721_2), [(44, some 0), (45, some 1)]⟩ :: ⟨some (IsPtr x721_2.Units), [(46, some 2)]⟩ :: ⟨some (IsV x721_2.Units), [(47, some 3)]⟩ :: ⟨some (IsV (decide (x721_2.Units < 0))), [(48, some 4)]⟩ :: ⟨some (IsV (decide (x721_2.Units < 0))), [(49, some 5)]⟩ :: ⟨some (IsV x713_5.1), [(8, none)]⟩ :: ⟨some (IsV s716), [(10, none)]⟩ :: ⟨some (IsPtr x721_9), [(51, some 7), (52, some 8)]⟩ :: ⟨some (IsPtr x721_9.Units), [(53, some 9)]⟩ :: ⟨some (IsV x721_9.Units), [(54, some 10)]⟩ :: ⟨some (IsV (decide (1073741824 < x721_9.Units))), [(55, some 11)]⟩ :: ⟨some (IsV x721_13), [(50, some 6), (56, some 12)]⟩ :: []) hs (by kernel_rfl) ⟨⟨inferInstance, fun b q hk hn => ok_move rfl (up i8 hk hn.1), rfl⟩, ⟨inferInstance, fun b q hk hn => ok_move rfl (up i10 hk hn.1), rfl⟩, ⟨inferInstance, fun b q hk hn => ok_indexAddr rfl Try.underlying22 ty35 (IsV.rd hn.1) hn.2.1 hx721_2, rfl⟩, ⟨inferInstance, fun b q hk hn => ok_fieldAddr rfl fo35_1 (at_Account_1 _) hn.1, rfl⟩, ⟨inferInstance, fun b q hk hn => ok_load rfl ty3 hn.1, rfl⟩, ⟨inferInstance, fun b q hk hn => ok_lss rfl hn.1 (isV_int.2 rfl), rfl⟩, ⟨inferInstance, fun b q hk hn => ok_move rfl hn.1, rfl⟩, ⟨inferInstance, fun b q hk hn => ok_move rfl (up i8 hk hn.1), guardF hm731⟩, ⟨inferInstance, fun b q hk hn => ok_move rfl (up i10 hk hn.1), guardF hm731⟩, ⟨inferInstance, fun b q hk hn => ok_indexAddr rfl Try.underlying22 ty35 (IsV.rd hn.1) hn.2.1 hx721_9, guardF hm731⟩, ⟨inferInstance, fun b q hk hn => ok_fieldAddr rfl fo35_1 (at_Account_1 _) hn.1, guardF hm731⟩, ⟨inferInstance, fun b q hk hn => ok_load rfl ty3 hn.1, guardF hm731⟩, ⟨inferInstance, fun b q hk hn => ok_gtr rfl hn.1 (isV_int.2 rfl), guardF hm731⟩, ⟨inferInstance, fun b q hk hn => ok_cast (Option.some.inj ht732) (ok_pick_f rfl hn.1 hm731 hn.2.1), rfl⟩, trivial⟩ hQQ729 fun b q p => ?_
                                        have hgq := hg.then p.grow
                                        have hsb := p.size.trans hs
                                        have hdb := p.defers.trans hd
                                        have j1 := keep p 1 rfl i1
                                        have j5 := keep p 5 rfl i5
                                        have j6 := keep p 6 rfl i6
                                        have j7 := keep p 7 rfl i7
                                        have j8 := keep p 8 rfl i8
                                        have j10 := keep p 10 rfl i10
                                        have j57 : (IsV x721_13) (b.get 57) q := out p 13 57 _ rfl rfl rfl
                                        exact tail_done (k := q) (hp730 _ _ ⟨hgq, hsb, hdb, j1, j5, j6, j7, j8, j10, j57, trivial⟩)
                                    · rintro a k ⟨hg, hs, hd, i1, i5, i6, i7, i8, i10, i57, _⟩
                                      refine wp_cond_split (isBool i57) (fun hc728 => ?_) (fun hc728 => ?_)
                                      · rw [if_pos hc728] at hr
                                        refine wp_seq ?_
                                        refine cut (fun a' k' => Chg noF k0 k' ∧ a'.tmps.size = 121 ∧ a'.defers = [] ∧ (IsV false) (a'.get 4) k' ∧ True) ?_ hQ ?_
                                        · intro Q723 hQQ723 hp724
                                          refine regionS (a0 := a) (k0 := k) (n := 121) (m := 1) (⟨some (IsV false), []⟩ :: []) hs (by kernel_rfl) ⟨⟨inferInstance, fun b q hk hn => ok_assign rfl (isV_bool.2 rfl), rfl⟩, trivial⟩ hQQ723 fun b q p => ?_
                                          have hgq := hg.then p.grow
                                          have hsb := p.size.trans hs
                                          have hdb := p.defers.trans hd
                                          have j4 : (IsV false) (b.get 4) q := out p 0 4 _ rfl rfl rfl
                                          exact tail_done (k := q) (hp724 _ _ ⟨hgq, hsb, hdb, j4, trivial⟩)
                                        · rintro a k ⟨hg, hs, hd, i4, _⟩
                                          refine wp_ret ?_
                                          exact hret719 _ _ _ (Option.some.inj hr).symm (retC1 rfl hd hg i4)
                                      · rw [if_neg (by rw [hc728]; decide)] at hr
                                        refine wp_skip ?_
                                        obtain ⟨x725_1, hx725_1, hr⟩ := bind_some hr
                                        refine cut (fun a' k' => Chg noF k0 k' ∧ a'.tmps.size = 121 ∧ a'.defers = [] ∧ (IsV m_) (a'.get 1) k' ∧ (IsV x696_0) (a'.get 5) k' ∧ (IsV s703.1) (a'.get 6) k' ∧ (IsV s703.2) (a'.get 7) k' ∧ (IsV x713_5.1) (a'.get 8) k' ∧ (IsV x725_1) (a'.get 10) k' ∧ True) ?_ hQ ?_
                                        · intro Q726 hQQ726 hp727
                                          refine regionS (a0 := a) (k0 := k) (n := 121) (m := 3) (⟨some (IsV s716), [(10, none)]⟩ :: ⟨some (IsV x725_1), [(42, some 0)]⟩ :: ⟨some (IsV x725_1), [(43, some 1)]⟩ :: []) hs (by kernel_rfl) ⟨⟨inferInstance, fun b q hk hn => ok_move rfl (up i10 hk hn.1), rfl⟩, ⟨inferInstance, fun b q hk hn => ok_add rfl hn.1 (isV_int.2 rfl) hx725_1, rfl⟩, ⟨inferInstance, fun b q hk hn => ok_assign rfl hn.1, rfl⟩, trivial⟩ hQQ726 fun b q p => ?_
                                          have hgq := hg.then p.grow
                                          have hsb := p.size.trans hs
                                          have hdb := p.defers.trans hd
                                          have j1 := keep p 1 rfl i1
                                          have j5 := keep p 5 rfl i5
                                          have j6 := keep p 6 rfl i6
                                          have j7 := keep p 7 rfl i7
                                          have j8 := keep p 8 rfl i8
                                          have j10 : (IsV x725_1) (b.get 10) q := out p 2 10 _ rfl rfl rfl
                                          exact tail_done (k := q) (hp727 _ _ ⟨hgq, hsb, hdb, j1, j5, j6, j7, j8, j10, trivial⟩)
                                        · rintro a k ⟨hg, hs, hd, i1, i5, i6, i7, i8, i10, _⟩
                                          exact hgo717 _ _ _ (Option.some.inj hr).symm ⟨hg, hs, hd, i1, i5, i6, i7, i8, i10, trivial⟩
                                  · rw [if_neg (by rw [hc734]; decide)] at hr
                                    refine wp_exit ?_
                                    exact hex718 _ _ _ _ (Option.some.inj hr).symm ⟨rfl, hg, hs, hd, i1, i5, i6, i7, i8, trivial⟩
                              · rintro _ _ _ rfl _
                                simp at hr
                              · clear hf737
                                rintro _ s738 a k rfl ⟨rfl, hg, hs, hd, i1, i5, i6, i7, i8, _⟩
                                dsimp only at hr
                                refine wp_seq ?_
                                refine wp_seq ?_
                                refine cut (fun a' k' => Chg noF k0 k' ∧ a'.tmps.size = 121 ∧ a'.defers = [] ∧ (IsV m_) (a'.get 1) k' ∧ (IsV x696_0) (a'.get 5) k' ∧ (IsV s703.1) (a'.get 6) k' ∧ (IsV s703.2) (a'.get 7) k' ∧ (IsV x713_5.1) (a'.get 8) k' ∧ (IsV (α := Int) 0) (a'.get 11) k' ∧ True) ?_ hQ ?_
                                · intro Q804 hQQ804 hp805
                                  refine regionS (a0 := a) (k0 := k) (n := 121) (m := 1) (⟨some (IsV (α := Int) 0), []⟩ :: []) hs (by kernel_rfl) ⟨⟨inferInstance, fun b q hk hn => ok_assign rfl (isV_int.2 rfl), rfl⟩, trivial⟩ hQQ804 fun b q p => ?_
                                  have hgq := hg.then p.grow
                                  have hsb := p.size.trans hs
                                  have hdb := p.defers.trans hd
                                  have j1 := keep p 1 rfl i1
                                  have j5 := keep p 5 rfl i5
                                  have j6 := keep p 6 rfl i6
                                  have j7 := keep p 7 rfl i7
                                  have j8 := keep p 8 rfl i8
                                  have j11 : (IsV (α := Int) 0) (b.get 11) q := out p 0 11 _ rfl rfl rfl
                                  exact tail_done (k := q) (hp805 _ _ ⟨hgq, hsb, hdb, j1, j5, j6, j7, j8, j11, trivial⟩)
                                · rintro a k ⟨hg, hs, hd, i1, i5, i6, i7, i8, i11, _⟩
                                  refine wp_block ?_
                                  obtain ⟨f797, hf797, hr⟩ := bind_some hr
                                  refine cutF f797 (fun s' a' k' => Chg noF k0 k' ∧ a'.tmps.size = 121 ∧ a'.defers = [] ∧ (IsV m_) (a'.get 1) k' ∧ (IsV x696_0) (a'.get 5) k' ∧ (IsV s703.1) (a'.get 6) k' ∧ (IsV s703.2) (a'.get 7) k' ∧ (IsV x713_5.1) (a'.get 8) k' ∧ (IsV s') (a'.get 11) k' ∧ True) (fun i' s' a' k' => (i' = 4 ∧ Chg noF k0 k' ∧ a'.tmps.size = 121 ∧ a'.defers = [] ∧ (IsV m_) (a'.get 1) k' ∧ (IsV x696_0) (a'.get 5) k' ∧ (IsV s703.2) (a'.get 7) k' ∧ (IsV x713_5.1) (a'.get 8) k' ∧ True)) (fun r' a' k' => bodyPost Try.prog Try.f4 (RetC noF k0 (IsV r')) .ret a' k'.w) ?_ hQ ?_ ?_ ?_
                                  · intro Q803 hQQ803 hgo hex hret
                                    refine sim_loop ?_ _ _ _ _ _ hf797 ⟨hg, hs, hd, i1, i5, i6, i7, i8, i11, trivial⟩ Q803 hQQ803 hgo hex hret
                                    clear hr hf797 hgo hex hret hQQ803 hQ hd hg hs i1 i11 i5 i6 i7 i8
                                    intro s740 fl_ a k hr hS Q hQ hgo741 hex742 hret743
                                    obtain ⟨hg, hs, hd, i1, i5, i6, i7, i8, i11, _⟩ := hS
                                    unfold lawLimits_L2 at hr
                                    refine wp_seq ?_
                                    refine wp_seq ?_
                                    refine cut (fun a' k' => Chg noF k0 k' ∧ a'.tmps.size = 121 ∧ a'.defers = [] ∧ (IsV m_) (a'.get 1) k' ∧ (IsV x696_0) (a'.get 5) k' ∧ (IsV s703.1) (a'.get 6) k' ∧ (IsV s703.2) (a'.get 7) k' ∧ (IsV x713_5.1) (a'.get 8) k' ∧ (IsV s740) (a'.get 11) k' ∧ (IsV (decide (s740 < (s703.1.length : Int)))) (a'.get 61) k' ∧ True) ?_ hQ ?_
                                    · intro Q795 hQQ795 hp796
                                      refine regionS (a0 := a) (k0 := k) (n := 121) (m := 4) (⟨some (IsV s740), [(11, none)]⟩ :: ⟨some (IsV s703.1), [(6, none)]⟩ :: ⟨some (IsV (α := Int) (s703.1.length : Int)), [(59, some 1)]⟩ :: ⟨some (IsV (decide (s740 < (s703.1.length : Int)))), [(58, some 0), (60, some 2)]⟩ :: []) hs (by kernel_rfl) ⟨⟨inferInstance, fun b q hk hn => ok_move rfl (up i11 hk hn.1), rfl⟩, ⟨inferInstance, fun b q hk hn => ok_move rfl (up i6 hk hn.1), rfl⟩, ⟨inferInstance, fun b q hk hn => ok_len rfl rfl Try.underlying22 (IsV.rd hn.1), rfl⟩, ⟨inferInstance, fun b q hk hn => ok_lss rfl hn.1 hn.2.1, rfl⟩, trivial⟩ hQQ795 fun b q p => ?_
                                      have hgq := hg.then p.grow
                                      have hsb := p.size.trans hs
                                      have hdb := p.defers.trans hd
                                      have j1 := keep p 1 rfl i1
                                      have j5 := keep p 5 rfl i5
                                      have j6 := keep p 6 rfl i6
                                      have j7 := keep p 7 rfl i7
                                      have j8 := keep p 8 rfl i8
                                      have j11 := keep p 11 rfl i11
                                      have j61 : (IsV (decide (s740 < (s703.1.length : Int)))) (b.get 61) q := out p 3 61 _ rfl rfl rfl
                                      exact tail_done (k := q) (hp796 _ _ ⟨hgq, hsb, hdb, j1, j5, j6, j7, j8, j11, j61, trivial⟩)
                                    · rintro a k ⟨hg, hs, hd, i1, i5, i6, i7, i8, i11, i61, _⟩
                                      refine wp_cond_split (isBool i61) (fun hc794 => ?_) (fun hc794 => ?_)
                                      · rw [if_pos hc794] at hr
                                        refine wp_skip ?_
                                        refine wp_seq ?_
                                        refine wp_block ?_
                                        refine wp_seq ?_
                                        refine cut (fun a' k' => Chg noF k0 k' ∧ a'.tmps.size = 121 ∧ a'.defers = [] ∧ (IsV m_) (a'.get 1) k' ∧ (IsV x696_0) (a'.get 5) k' ∧ (IsV s703.1) (a'.get 6) k' ∧ (IsV s703.2) (a'.get 7) k' ∧ (IsV x713_5.1) (a'.get 8) k' ∧ (IsV s740) (a'.get 11) k' ∧ (IsV false) (a'.get 12) k' ∧ True) ?_ hQ ?_
                                        · intro Q792 hQQ792 hp793
                                          refine regionS (a0 := a) (k0 := k) (n := 121) (m := 1) (⟨some (IsV false), []⟩ :: []) hs (by kernel_rfl) ⟨⟨inferInstance, fun b q hk hn => ok_assign rfl (isV_bool.2 rfl), rfl⟩, trivial⟩ hQQ792 fun b q p => ?_
                                          have hgq := hg.then p.grow
                                          have hsb := p.size.trans hs
                                          have hdb := p.defers.trans hd
                                          have j1 := keep p 1 rfl i1
                                          have j5 := keep p 5 rfl i5
                                          have j6 := keep p 6 rfl i6
                                          have j7 := keep p 7 rfl i7
                                          have j8 := keep p 8 rfl i8
                                          have j11 := keep p 11 rfl i11
                                          have j12 : (IsV false) (b.get 12) q := out p 0 12 _ rfl rfl rfl
                                          exact tail_done (k := q) (hp793 _ _ ⟨hgq, hsb, hdb, j1, j5, j6, j7, j8, j11, j12, trivial⟩)
                                        · rintro a k ⟨hg, hs, hd, i1, i5, i6, i7, i8, i11, i12, _⟩
                                          refine wp_seq ?_
                                          refine wp_seq ?_
                                          refine cut (fun a' k' => Chg noF k0 k' ∧ a'.tmps.size = 121 ∧ a'.defers = [] ∧ (IsV m_) (a'.get 1) k' ∧ (IsV x696_0) (a'.get 5) k' ∧ (IsV s703.1) (a'.get 6) k' ∧ (IsV s703.2) (a'.get 7) k' ∧ (IsV x713_5.1) (a'.get 8) k' ∧ (IsV s740) (a'.get 11) k' ∧ (IsV false) (a'.get 12) k' ∧ (IsV (α := Int) 0) (a'.get 13) k' ∧ True) ?_ hQ ?_
                                          · intro Q790 hQQ790 hp791
                                            refine regionS (a0 := a) (k0 := k) (n := 121) (m := 1) (⟨some (IsV (α := Int) 0), []⟩ :: []) hs (by kernel_rfl) ⟨⟨inferInstance, fun b q hk hn => ok_assign rfl (isV_int.2 rfl), rfl⟩, trivial⟩ hQQ790 fun b q p => ?_
                                            have hgq := hg.then p.grow
                                            have hsb := p.size.trans hs
                                            have hdb := p.defers.trans hd
                                            have j1 := keep p 1 rfl i1
                                            have j5 := keep p 5 rfl i5
                                            have j6 := keep p 6 rfl i6
                                            have j7 := keep p 7 rfl i7
                                            have j8 := keep p 8 rfl i8
                                            have j11 := keep p 11 rfl i11
                                            have j12 := keep p 12 rfl i12
                                            have j13 : (IsV (α := Int) 0) (b.get 13) q := out p 0 13 _ rfl rfl rfl
                                            exact tail_done (k := q) (hp791 _ _ ⟨hgq, hsb, hdb, j1, j5, j6, j7, j8, j11, j12, j13, trivial⟩)
                                          · rintro a k ⟨hg, hs, hd, i1, i5, i6, i7, i8, i11, i12, i13, _⟩
                                            refine wp_block ?_
                                            obtain ⟨f776, hf776, hr⟩ := bind_some hr
                                            refine cutF f776 (fun s' a' k' => Chg noF k0 k' ∧ a'.tmps.size = 121 ∧ a'.defers = [] ∧ (IsV m_) (a'.get 1) k' ∧ (IsV x696_0) (a'.get 5) k' ∧ (IsV s703.1) (a'.get 6) k' ∧ (IsV s703.2) (a'.get 7) k' ∧ (IsV x713_5.1) (a'.get 8) k' ∧ (IsV s740) (a'.get 11) k' ∧ (IsV s'.1) (a'.get 12) k' ∧ (IsV s'.2) (a'.get 13) k' ∧ True) (fun i' s' a' k' => (i' = 6 ∧ Chg noF k0 k' ∧ a'.tmps.size = 121 ∧ a'.defers = [] ∧ (IsV m_) (a'.get 1) k' ∧ (IsV x696_0) (a'.get 5) k' ∧ (IsV s703.1) (a'.get 6) k' ∧ (IsV s703.2) (a'.get 7) k' ∧ (IsV x713_5.1) (a'.get 8) k' ∧ (IsV s740) (a'.get 11) k' ∧ (IsV s'.1) (a'.get 12) k' ∧ True)) (fun r' a' k' => bodyPost Try.prog Try.f4 (RetC noF k0 (IsV r')) .ret a' k'.w) ?_ hQ ?_ ?_ ?_
                                            · intro Q789 hQQ789 hgo hex hret
                                              refine sim_loop ?_ _ _ _ _ _ hf776 ⟨hg, hs, hd, i1, i5, i6, i7, i8, i11, i12, i13, trivial⟩ Q789 hQQ789 hgo hex hret
                                              clear hr hf776 hgo hex hret hQQ789 hQ hd hg hs i1 i11 i12 i13 i5 i6 i7 i8
                                              intro s747 fl_ a k hr hS Q hQ hgo748 hex749 hret750
                                              obtain ⟨hg, hs, hd, i1, i5, i6, i7, i8, i11, i12, i13, _⟩ := hS
                                              unfold lawLimits_L3 at hr
                                              refine wp_seq ?_
                                              refine wp_seq ?_
                                              refine cut (fun a' k' => Chg noF k0 k' ∧ a'.tmps.size = 121 ∧ a'.defers = [] ∧ (IsV m_) (a'.get 1) k' ∧ (IsV x696_0) (a'.get 5) k' ∧ (IsV s703.1) (a'.get 6) k' ∧ (IsV s703.2) (a'.get 7) k' ∧ (IsV x713_5.1) (a'.get 8) k' ∧ (IsV s740) (a'.get 11) k' ∧ (IsV s747.1) (a'.get 12) k' ∧ (IsV s747.2) (a'.get 13) k' ∧ (IsV (decide (s747.2 < (x713_5.1.length : Int)))) (a'.get 67) k' ∧ True) ?_ hQ ?_
                                              · intro Q774 hQQ774 hp775
                                                refine regionS (a0 := a) (k0 := k) (n := 121) (m := 4) (⟨some (IsV s747.2), [(13, none)]⟩ :: ⟨some (IsV x713_5.1), [(8, none)]⟩ :: ⟨some (IsV (α := Int) (x713_5.1.length : Int)), [(65, some 1)]⟩ :: ⟨some (IsV (decide (s747.2 < (x713_5.1.length : Int)))), [(64, some 0), (66, some 2)]⟩ :: []) hs (by kernel_rfl) ⟨⟨inferInstance, fun b q hk hn => ok_move rfl (up i13 hk hn.1), rfl⟩, ⟨inferInstance, fun b q hk hn => ok_move rfl (up i8 hk hn.1), rfl⟩, ⟨inferInstance, fun b q hk hn => ok_len rfl rfl Try.underlying22 (IsV.rd hn.1), rfl⟩, ⟨inferInstance, fun b q hk hn => ok_lss rfl hn.1 hn.2.1, rfl⟩, trivial⟩ hQQ774 fun b q p => ?_
                                                have hgq := hg.then p.grow
                                                have hsb := p.size.trans hs
                                                have hdb := p.defers.trans hd
                                                have j1 := keep p 1 rfl i1
                                                have j5 := keep p 5 rfl i5
                                                have j6 := keep p 6 rfl i6
                                                have j7 := keep p 7 rfl i7
                                                have j8 := keep p 8 rfl i8
                                                have j11 := keep p 11 rfl i11
                                                have j12 := keep p 12 rfl i12
                                                have j13 := keep p 13 rfl i13
                                                have j67 : (IsV (decide (s747.2 < (x713_5.1.length : Int)))) (b.get 67) q := out p 3 67 _ rfl rfl rfl
                                                exact tail_done (k := q) (hp775 _ _ ⟨hgq, hsb, hdb, j1, j5, j6, j7, j8, j11, j12, j13, j67, trivial⟩)
                                              · rintro a k ⟨hg, hs, hd, i1, i5, i6, i7, i8, i11, i12, i13, i67, _⟩
                                                refine wp_cond_split (isBool i67) (fun hc773 => ?_) (fun hc773 => ?_)
                                                · rw [if_pos hc773] at hr
                                                  refine wp_skip ?_
                                                  refine wp_seq ?_
                                                  refine wp_block ?_
                                                  obtain ⟨x752_46, hx752_46, hr⟩ := bind_some hr
                                                  refine cut (fun a' k' => Chg noF k0 k' ∧ a'.tmps.size = 121 ∧ a'.defers = [] ∧ (IsV m_) (a'.get 1) k' ∧ (IsV x696_0) (a'.get 5) k' ∧ (IsV s703.1) (a'.get 6) k' ∧ (IsV s703.2) (a'.get 7) k' ∧ (IsV x713_5.1) (a'.get 8) k' ∧ (IsV s740) (a'.get 11) k' ∧ (IsV x752_46) (a'.get 12) k' ∧ (IsV s747.2) (a'.get 13) k' ∧ True) ?_ hQ ?_
                                                  · intro Q756 hQQ756 hp757
                                                    rcases Bool.eq_false_or_eq_true s747.1 with hm758 | hm758
                                                    · have ht759 := hx752_46
                                                      rw [if_pos hm758] at ht759
                                                      have hk760 : x752_46 = true := (Option.some.inj ht759).symm
                                                      refine region (a0 := a) (k0 := k) (n := 121) (m := 48) (⟨some (IsV s747.1), [(12, none)]⟩ :: ⟨some (IsV s747.1), [(70, some 0)]⟩ :: ⟨none, []⟩ :: ⟨none, []⟩ :: ⟨none, []⟩ :: ⟨none, []⟩ :: ⟨none, []⟩ :: ⟨none, []⟩ :: ⟨none, []⟩ :: ⟨none, []⟩ :: ⟨none, []⟩ :: ⟨none, []⟩ :: ⟨none, []⟩ :: ⟨none, []⟩ :: ⟨none, []⟩ :: ⟨none, []⟩ :: ⟨none, []⟩ :: ⟨none, []⟩ :: ⟨none, []⟩ :: ⟨none, []⟩ :: ⟨none, []⟩ :: ⟨none, []⟩ :: ⟨none, []⟩ :: ⟨none, []⟩ :: ⟨none, []⟩ :: ⟨none, []⟩ :: ⟨none, []⟩ :: ⟨none, []⟩ :: ⟨none, []⟩ :: ⟨none, []⟩ :: ⟨none, []⟩ :: ⟨none, []⟩ :: ⟨none, []⟩ :: ⟨none, []⟩ :: ⟨none, []⟩ :: ⟨none, []⟩ :: ⟨none, []⟩ :: ⟨none, []⟩ :: ⟨none, []⟩ :: ⟨none, []⟩ :: ⟨none, []⟩ :: ⟨none, []⟩ :: ⟨none, []⟩ :: ⟨none, []⟩ :: ⟨none, []⟩ :: ⟨none, []⟩ :: ⟨some (IsV x752_46), [(71, some 1), (115, some 45)]⟩ :: ⟨some (IsV x752_46), [(116, some 46)]⟩ :: []) hmix hs (by kernel_rfl) ⟨⟨inferInstance, fun b q hk hn => ok_move rfl (up i12 hk hn.1), rfl⟩, ⟨inferInstance, fun b q hk hn => ok_move rfl hn.1, rfl⟩, guardT hm758, guardT hm758, guardT hm758, guardT hm758, guardT hm758, guardT hm758, guardT hm758, guardT hm758, guardT hm758, guardT hm758, guardT hm758, guardT hm758, rfl, rfl, rfl, rfl, rfl, rfl, rfl, rfl, rfl, rfl, rfl, guardT hm758, guardT hm758, rfl, rfl, rfl, rfl, rfl, rfl, rfl, rfl, rfl, rfl, rfl, rfl, rfl, rfl, rfl, rfl, rfl, rfl, guardT hm758, ⟨inferInstance, fun b q hk hn => ok_cast (Option.some.inj ht759) (ok_pick_t rfl hn.1 hm758 (isV_bool.2 rfl)), rfl⟩, ⟨inferInstance, fun b q hk hn => ok_assign rfl hn.1, rfl⟩, trivial⟩ hQQ756 fun b q p => ?_
                                                      have hgq := hg.then p.grow
                                                      have hsb := p.size.trans hs
                                                      have hdb := p.defers.trans hd
                                                      have j1 := keep p 1 rfl i1
                                                      have j5 := keep p 5 rfl i5
                                                      have j6 := keep p 6 rfl i6
                                                      have j7 := keep p 7 rfl i7
                                                      have j8 := keep p 8 rfl i8
                                                      have j11 := keep p 11 rfl i11
                                                      have j12 : (IsV x752_46) (b.get 12) q := out p 47 12 _ rfl rfl rfl
                                                      have j13 := keep p 13 rfl i13
                                                      exact tail_done (k := q) (hp757 _ _ ⟨hgq, hsb, hdb, j1, j5, j6, j7, j8, j11, j12, j13, trivial⟩)
                                                    · have ht759 := hx752_46
                                                      rw [if_neg (by rw [hm758]; decide)] at ht759
                                                      obtain ⟨x752_4, hx752_4, ht759⟩ := bind_some ht759
                                                      obtain ⟨x752_9, hx752_9, ht759⟩ := bind_some ht759
                                                      obtain ⟨x752_25, hx752_25, ht759⟩ := bind_some ht759
                                                      rcases Bool.eq_false_or_eq_true (x752_4.Lot == x752_9.Lot) with hm761 | hm761
                                                      · have ht762 := hx752_25
                                                        rw [if_pos hm761] at ht762
                                                        obtain ⟨x752_16, hx752_16, ht762⟩ := bind_some ht762
                                                        obtain ⟨x752_21, hx752_21, ht762⟩ := bind_some ht762
                                                        obtain ⟨x752_45, hx752_45, ht759⟩ := bind_some ht759
                                                        rcases Bool.eq_false_or_eq_true x752_25 with hm763 | hm763
                                                        · have ht764 := hx752_45
                                                          rw [if_pos hm763] at ht764
                                                          obtain ⟨x752_29, hx752_29, ht764⟩ := bind_some ht764
                                                          obtain ⟨x752_44, hx752_44, ht764⟩ := bind_some ht764
                                                          rcases Bool.eq_false_or_eq_true x752_29.Receives with hm765 | hm765
                                                          · have ht766 := hx752_44
                                                            rw [if_pos hm765] at ht766
                                                            have hk767 : x752_44 = true := (Option.some.inj ht766).symm
                                                            refine region (a0 := a) (k0 := k) (n := 121) (m := 48) (⟨some (IsV s747.1), [(12, none)]⟩ :: ⟨some (IsV s747.1), [(70, some 0)]⟩ :: ⟨some (IsV x713_5.1), [(8, none)]⟩ :: ⟨some (IsV s747.2), [(13, none)]⟩ :: ⟨some (IsPtr x752_4), [(72, some 2), (73, some 3)]⟩ :: ⟨some (IsPtr x752_4.Lot), [(74, some 4)]⟩ :: ⟨some (IsV x752_4.Lot), [(75, some 5)]⟩ :: ⟨some (IsV s703.1), [(6, none)]⟩ :: ⟨some (IsV s740), [(11, none)]⟩ :: ⟨some (IsPtr x752_9), [(77, some 7), (78, some 8)]⟩ :: ⟨some (IsPtr x752_9.Lot), [(79, some 9)]⟩ :: ⟨some (IsV x752_9.Lot), [(80, some 10)]⟩ :: ⟨some (IsV (x752_4.Lot == x752_9.Lot)), [(76, some 6), (81, some 11)]⟩ :: ⟨some (IsV (x752_4.Lot == x752_9.Lot)), [(82, some 12)]⟩ :: ⟨some (IsV x713_5.1), [(8, none)]⟩ :: ⟨some (IsV s747.2), [(13, none)]⟩ :: ⟨some (IsPtr x752_16), [(84, some 14), (85, some 15)]⟩ :: ⟨some (IsPtr x752_16.Receives), [(86, some 16)]⟩ :: ⟨some (IsV x752_16.Receives), [(87, some 17)]⟩ :: ⟨some (IsV s703.1), [(6, none)]⟩ :: ⟨some (IsV s740), [(11, none)]⟩ :: ⟨some (IsPtr x752_21), [(89, some 19), (90, some 20)]⟩ :: ⟨some (IsPtr x752_21.Receives), [(91, some 21)]⟩ :: ⟨some (IsV x752_21.Receives), [(92, some 22)]⟩ :: ⟨some (IsV (x752_16.Receives == x752_21.Receives)), [(88, some 18), (93, some 23)]⟩ :: ⟨some (IsV x752_25), [(83, some 13), (94, some 24)]⟩ :: ⟨some (IsV x752_25), [(95, some 25)]⟩ :: ⟨some (IsV s703.1), [(6, none)]⟩ :: ⟨some (IsV s740), [(11, none)]⟩ :: ⟨some (IsPtr x752_29), [(97, some 27), (98, some 28)]⟩ :: ⟨some (IsPtr x752_29.Receives), [(99, some 29)]⟩ :: ⟨some (IsV x752_29.Receives), [(100, some 30)]⟩ :: ⟨some (IsV x752_29.Receives), [(101, some 31)]⟩ :: ⟨none, []⟩ :: ⟨none, []⟩ :: ⟨none, []⟩ :: ⟨none, []⟩ :: ⟨none, []⟩ :: ⟨none, []⟩ :: ⟨none, []⟩ :: ⟨none, []⟩ :: ⟨none, []⟩ :: ⟨none, []⟩ :: ⟨none, []⟩ :: ⟨some (IsV x752_44), [(102, some 32), (113, some 43)]⟩ :: ⟨some (IsV x752_45), [(96, some 26), (114, some 44)]⟩ :: ⟨some (IsV x752_46), [(71, some 1), (115, some 45)]⟩ :: ⟨some (IsV x752_46), [(116, some 46)]⟩ :: []) hmix hs (by kernel_rfl) ⟨⟨inferInstance, fun b q hk hn => ok_move rfl (up i12 hk hn.1), rfl⟩, ⟨inferInstance, fun b q hk hn => ok_move rfl hn.1, rfl⟩, ⟨inferInstance, fun b q hk hn => ok_move rfl (up i8 hk hn.1), guardF hm758⟩, ⟨inferInstance, fun b q hk hn => ok_move rfl (up i13 hk hn.1), guardF hm758⟩, ⟨inferInstance, fun b q hk hn => ok_indexAddr rfl Try.underlying22 ty35 (IsV.rd hn.1) hn.2.1 hx752_4, guardF hm758⟩, ⟨inferInstance, fun b q hk hn => ok_fieldAddr rfl fo35_0 (at_Account_0 _) hn.1, guardF hm758⟩, ⟨inferInstance, fun b q hk hn => ok_load rfl ty3 hn.1, guardF hm758⟩, ⟨inferInstance, fun b q hk hn => ok_move rfl (up i6 hk hn.1), guardF hm758⟩, ⟨inferInstance, fun b q hk hn => ok_move rfl (up i11 hk hn.1), guardF hm758⟩, ⟨inferInstance, fun b q hk hn => ok_indexAddr rfl Try.underlying22 ty35 (IsV.rd hn.1) hn.2.1 hx752_9, guardF hm758⟩, ⟨inferInstance, fun b q hk hn => ok_fieldAddr rfl fo35_0 (at_Account_0 _) hn.1, guardF hm758⟩, ⟨inferInstance, fun b q hk hn => ok_load rfl ty3 hn.1, guardF hm758⟩, ⟨inferInstance, fun b q hk hn => ok_eqI rfl hn.1 hn.2.1, guardF hm758⟩, ⟨inferInstance, fun b q hk hn => ok_move rfl hn.1, guardF hm758⟩, ⟨inferInstance, fun b q hk hn => ok_move rfl (up i8 hk hn.1), guardT hm761⟩, ⟨inferInstance, fun b q hk hn => ok_move rfl (up i13 hk hn.1), guardT hm761⟩, ⟨inferInstance, fun b q hk hn => ok_indexAddr rfl Try.underlying22 ty35 (IsV.rd hn.1) hn.2.1 hx752_16, guardT hm761⟩, ⟨inferInstance, fun b q hk hn => ok_fieldAddr rfl fo35_2 (at_Account_2 _) hn.1, guardT hm761⟩, ⟨inferInstance, fun b q hk hn => ok_load rfl ty4 hn.1, guardT hm761⟩, ⟨inferInstance, fun b q hk hn => ok_move rfl (up i6 hk hn.1), guardT hm761⟩, ⟨inferInstance, fun b q hk hn => ok_move rfl (up i11 hk hn.1), guardT hm761⟩, ⟨inferInstance, fun b q hk hn => ok_indexAddr rfl Try.underlying22 ty35 (IsV.rd hn.1) hn.2.1 hx752_21, guardT hm761⟩, ⟨inferInstance, fun b q hk hn => ok_fieldAddr rfl fo35_2 (at_Account_2 _) hn.1, guardT hm761⟩, ⟨inferInstance, fun b q hk hn => ok_load rfl ty4 hn.1, guardT hm761⟩, ⟨inferInstance, fun b q hk hn => ok_eqB rfl Try.underlying4 hn.1 hn.2.1, guardT hm761⟩, ⟨inferInstance, fun b q hk hn => ok_cast (Option.some.inj ht762) (ok_pick_t rfl hn.1 hm761 hn.2.1), guardF hm758⟩, ⟨inferInstance, fun b q hk hn => ok_move rfl hn.1, guardF hm758⟩, ⟨inferInstance, fun b q hk hn => ok_move rfl (up i6 hk hn.1), guardT hm763⟩, ⟨inferInstance, fun b q hk hn => ok_move rfl (up i11 hk hn.1), guardT hm763⟩, ⟨inferInstance, fun b q hk hn => ok_indexAddr rfl Try.underlying22 ty35 (IsV.rd hn.1) hn.2.1 hx752_29, guardT hm763⟩, ⟨inferInstance, fun b q hk hn => ok_fieldAddr rfl fo35_2 (at_Account_2 _) hn.1, guardT hm763⟩, ⟨inferInstance, fun b q hk hn => ok_load rfl ty4 hn.1, guardT hm763⟩, ⟨inferInstance, fun b q hk hn => ok_move rfl hn.1, guardT hm763⟩, guardT hm765, guardT hm765, guardT hm765, guardT hm765, guardT hm765, guardT hm765, guardT hm765, guardT hm765, guardT hm765, guardT hm765, guardT hm765, ⟨inferInstance, fun b q hk hn => ok_cast (Option.some.inj ht766) (ok_pick_t rfl hn.1 hm765 (isV_bool.2 rfl)), guardT hm763⟩, ⟨inferInstance, fun b q hk hn => ok_cast (Option.some.inj ht764) (ok_pick_t rfl hn.1 hm763 hn.2.1), guardF hm758⟩, ⟨inferInstance, fun b q hk hn => ok_cast (Option.some.inj ht759) (ok_pick_f rfl hn.1 hm758 hn.2.1), rfl⟩, ⟨inferInstance, fun b q hk hn => ok_assign rfl hn.1, rfl⟩, trivial⟩ hQQ756 fun b q p => ?_
                                                            have hgq := hg.then p.grow
                                                            have hsb := p.size.trans hs
                                                            have hdb := p.defers.trans hd
                                                            have j1 := keep p 1 rfl i1
                                                            have j5 := keep p 5 rfl i5
                                                            have j6 := keep p 6 rfl i6
                                                            have j7 := keep p 7 rfl i7
                                                            have j8 := keep p 8 rfl i8
                                                            have j11 := keep p 11 rfl i11
                                                            have j12 : (IsV x752_46) (b.get 12) q := out p 47 12 _ rfl rfl rfl
                                                            have j13 := keep p 13 rfl i13
                                                            exact tail_done (k := q) (hp757 _ _ ⟨hgq, hsb, hdb, j1, j5, j6, j7, j8, j11, j12, j13, trivial⟩)
                                                          · have ht766 := hx752_44
                                                            rw [if_neg (by rw [hm765]; decide)] at ht766
                                                            obtain ⟨x752_35, hx752_35, ht766⟩ := bind_some ht766
                                                            obtain ⟨x752_40, hx752_40, ht766⟩ := bind_some ht766
                                                            refine region (a0 := a) (k0 := k) (n := 121) (m := 48) (⟨some (IsV s747.1), [(12, none)]⟩ :: ⟨some (IsV s747.1), [(70, some 0)]⟩ :: ⟨some (IsV x713_5.1), [(8, none)]⟩ :: ⟨some (IsV s747.2), [(13, none)]⟩ :: ⟨some (IsPtr x752_4), [(72, some 2), (73, some 3)]⟩ :: ⟨some (IsPtr x752_4.Lot), [(74, some 4)]⟩ :: ⟨some (IsV x752_4.Lot), [(75, some 5)]⟩ :: ⟨some (IsV s703.1), [(6, none)]⟩ :: ⟨some (IsV s740), [(11, none)]⟩ :: ⟨some (IsPtr x752_9), [(77, some 7), (78, some 8)]⟩ :: ⟨some (IsPtr x752_9.Lot), [(79, some 9)]⟩ :: ⟨some (IsV x752_9.Lot), [(80, some 10)]⟩ :: ⟨some (IsV (x752_4.Lot == x752_9.Lot)), [(76, some 6), (81, some 11)]⟩ :: ⟨some (IsV (x752_4.Lot == x752_9.Lot)), [(82, some 12)]⟩ :: ⟨some (IsV x713_5.1), [(8, none)]⟩ :: ⟨some (IsV s747.2), [(13, none)]⟩ :: ⟨some (IsPtr x752_16), [(84, some 14), (85, some 15)]⟩ :: ⟨some (IsPtr x752_16.Receives), [(86, some 16)]⟩ :: ⟨some (IsV x752_16.Receives), [(87, some 17)]⟩ :: ⟨some (IsV s703.1), [(6, none)]⟩ :: ⟨some (IsV s740), [(11, none)]⟩ :: ⟨some (IsPtr x752_21), [(89, some 19), (90, some 20)]⟩ :: ⟨some (IsPtr x752_21.Receives), [(91, some 21)]⟩ :: ⟨some (IsV x752_21.Receives), [(92, some 22)]⟩ :: ⟨some (IsV (x752_16.Receives == x752_21.Receives)), [(88, some 18), (93, some 23)]⟩ :: ⟨some (IsV x752_25), [(83, some 13), (94, some 24)]⟩ :: ⟨some (IsV x752_25), [(95, some 25)]⟩ :: ⟨some (IsV s703.1), [(6, none)]⟩ :: ⟨some (IsV s740), [(11, none)]⟩ :: ⟨some (IsPtr x752_29), [(97, some 27), (98, some 28)]⟩ :: ⟨some (IsPtr x752_29.Receives), [(99, some 29)]⟩ :: ⟨some (IsV x752_29.Receives), [(100, some 30)]⟩ :: ⟨some (IsV x752_29.Receives), [(101, some 31)]⟩ :: ⟨some (IsV x713_5.1), [(8, none)]⟩ :: ⟨some (IsV s747.2), [(13, none)]⟩ :: ⟨some (IsPtr x752_35), [(103, some 33), (104, some 34)]⟩ :: ⟨some (IsPtr x752_35.Units), [(105, some 35)]⟩ :: ⟨some (IsV x752_35.Units), [(106, some 36)]⟩ :: ⟨some (IsV s703.1), [(6, none)]⟩ :: ⟨some (IsV s740), [(11, none)]⟩ :: ⟨some (IsPtr x752_40), [(108, some 38), (109, some 39)]⟩ :: ⟨some (IsPtr x752_40.Units), [(110, some 40)]⟩ :: ⟨some (IsV x752_40.Units), [(111, some 41)]⟩ :: ⟨some (IsV (decide (x752_35.Units ≤ x752_40.Units))), [(107, some 37), (112, some 42)]⟩ :: ⟨some (IsV x752_44), [(102, some 32), (113, some 43)]⟩ :: ⟨some (IsV x752_45), [(96, some 26), (114, some 44)]⟩ :: ⟨some (IsV x752_46), [(71, some 1), (115, some 45)]⟩ :: ⟨some (IsV x752_46), [(116, some 46)]⟩ :: []) hmix hs (by kernel_rfl) ⟨⟨inferInstance, fun b q hk hn => ok_move rfl (up i12 hk hn.1), rfl⟩, ⟨inferInstance, fun b q hk hn => ok_move rfl hn.1, rfl⟩, ⟨inferInstance, fun b q hk hn => ok_move rfl (up i8 hk hn.1), guardF hm758⟩, ⟨inferInstance, fun b q hk hn => ok_move rfl (up i13 hk hn.1), guardF hm758⟩, ⟨inferInstance, fun b q hk hn => ok_indexAddr rfl Try.underlying22 ty35 (IsV.rd hn.1) hn.2.1 hx752_4, guardF hm758⟩, ⟨inferInstance, fun b q hk hn => ok_fieldAddr rfl fo35_0 (at_Account_0 _) hn.1, guardF hm758⟩, ⟨inferInstance, fun b q hk hn => ok_load rfl ty3 hn.1, guardF hm758⟩, ⟨inferInstance, fun b q hk hn => ok_move rfl (up i6 hk hn.1), guardF hm758⟩, ⟨inferInstance, fun b q hk hn => ok_move rfl (up i11 hk hn.1), guardF hm758⟩, ⟨inferInstance, fun b q hk hn => ok_indexAddr rfl Try.underlying22 ty35 (IsV.rd hn.1) hn.2.1 hx752_9, guardF hm758⟩, ⟨inferInstance, fun b q hk hn => ok_fieldAddr rfl fo35_0 (at_Account_0 _) hn.1, guardF hm758⟩, ⟨inferInstance, fun b q hk hn => ok_load rfl ty3 hn.1, guardF hm758⟩, ⟨inferInstance, fun b q hk hn => ok_eqI rfl hn.1 hn.2.1, guardF hm758⟩, ⟨inferInstance, fun b q hk hn => ok_move rfl hn.1, guardF hm758⟩, ⟨inferInstance, fun b q hk hn => ok_move rfl (up i8 hk hn.1), guardT hm761⟩, ⟨inferInstance, fun b q hk hn => ok_move rfl (up i13 hk hn.1), guardT hm761⟩, ⟨inferInstance, fun b q hk hn => ok_indexAddr rfl Try.underlying22 ty35 (IsV.rd hn.1) hn.2.1 hx752_16, guardT hm761⟩, ⟨inferInstance, fun b q hk hn => ok_fieldAddr rfl fo35_2 (at_Account_2 _) hn.1, guardT hm761⟩, ⟨inferInstance, fun b q hk hn => ok_load rfl ty4 hn.1, guardT hm761⟩, ⟨inferInstance, fun b q hk hn => ok_move rfl (up i6 hk hn.1), guardT hm761⟩, ⟨inferInstance, fun b q hk hn => ok_move rfl (up i11 hk hn.1), guardT hm761⟩, ⟨inferInstance, fun b q hk hn => ok_indexAddr rfl Try.underlying22 ty35 (IsV.rd hn.1) hn.2.1 hx752_21, guardT hm761⟩, ⟨inferInstance, fun b q hk hn => ok_fieldAddr rfl fo35_2 (at_Account_2 _) hn.1, guardT hm761⟩, ⟨inferInstance, fun b q hk hn => ok_load rfl ty4 hn.1, guardT hm761⟩, ⟨inferInstance, fun b q hk hn => ok_eqB rfl Try.underlying4 hn.1 hn.2.1, guardT hm761⟩, ⟨inferInstance, fun b q hk hn => ok_cast (Option.some.inj ht762) (ok_pick_t rfl hn.1 hm761 hn.2.1), guardF hm758⟩, ⟨inferInstance, fun b q hk hn => ok_move rfl hn.1, guardF hm758⟩, ⟨inferInstance, fun b q hk hn => ok_move rfl (up i6 hk hn.1), guardT hm763⟩, ⟨inferInstance, fun b q hk hn => ok_move rfl (up i11 hk hn.1), guardT hm763⟩, ⟨inferInstance, fun b q hk hn => ok_indexAddr rfl Try.underlying22 ty35 (IsV.rd hn.1) hn.2.1 hx752_29, guardT hm763⟩, ⟨inferInstance, fun b q hk hn => ok_fieldAddr rfl fo35_2 (at_Account_2 _) hn.1, guardT hm763⟩, ⟨inferInstance, fun b q hk hn => ok_load rfl ty4 hn.1, guardT hm763⟩, ⟨inferInstance, fun b q hk hn => ok_move rfl hn.1, guardT hm763⟩, ⟨inferInstance, fun b q hk hn => ok_move rfl (up i8 hk hn.1), guardF hm765⟩, ⟨inferInstance, fun b q hk hn => ok_move rfl (up i13 hk hn.1), guardF hm765⟩, ⟨inferInstance, fun b q hk hn => ok_indexAddr rfl Try.underlying22 ty35 (IsV.rd hn.1) hn.2.1 hx752_35, guardF hm765⟩, ⟨inferInstance, fun b q hk hn => ok_fieldAddr rfl fo35_1 (at_Account_1 _) hn.1, guardF hm765⟩, ⟨inferInstance, fun b q hk hn => ok_load rfl ty3 hn.1, guardF hm765⟩, ⟨inferInstance, fun b q hk hn => ok_move rfl (up i6 hk hn.1), guardF hm765⟩, ⟨inferInstance, fun b q hk hn => ok_move rfl (up i11 hk hn.1), guardF hm765⟩, ⟨inferInstance, fun b q hk hn => ok_indexAddr rfl Try.underlying22 ty35 (IsV.rd hn.1) hn.2.1 hx752_40, guardF hm765⟩, ⟨inferInstance, fun b q hk hn => ok_fieldAddr rfl fo35_1 (at_Account_1 _) hn.1, guardF hm765⟩, ⟨inferInstance, fun b q hk hn => ok_load rfl ty3 hn.1, guardF hm765⟩, ⟨inferInstance, fun b q hk hn => ok_leq rfl hn.1 hn.2.1, guardF hm765⟩, ⟨inferInstance, fun b q hk hn => ok_cast (Option.some.inj ht766) (ok_pick_f rfl hn.1 hm765 hn.2.1), guardT hm763⟩, ⟨inferInstance, fun b q hk hn => ok_cast (Option.some.inj ht764) (ok_pick_t rfl hn.1 hm763 hn.2.1), guardF hm758⟩, ⟨inferInstance, fun b q hk hn => ok_cast (Option.some.inj ht759) (ok_pick_f rfl hn.1 hm758 hn.2.1), rfl⟩, ⟨inferInstance, fun b q hk hn => ok_assign rfl hn.1, rfl⟩, trivial⟩ hQQ756 fun b q p => ?_
                                                            have hgq := hg.then p.grow
                                                            have hsb := p.size.trans hs
                                                            have hdb := p.defers.trans hd
                                                            have j1 := keep p 1 rfl i1
                                                            have j5 := keep p 5 rfl i5
                                                            have j6 := keep p 6 rfl i6
                                                            have j7 := keep p 7 rfl i7
                                                            have j8 := keep p 8 rfl i8
                                                            have j11 := keep p 11 rfl i11
                                                            have j12 : (IsV x752_46) (b.get 12) q := out p 47 12 _ rfl rfl rfl
                                                            have j13 := keep p 13 rfl i13
                                                            exact tail_done (k := q) (hp757 _ _ ⟨hgq, hsb, hdb, j1, j5, j6, j7, j8, j11, j12, j13, trivial⟩)
                                                        · have ht764 := hx752_45
                                                          rw [if_neg (by rw [hm763]; decide)] at ht764
                                                          have hk768 : x752_45 = false := (Option.some.inj ht764).symm
                                                          refine region (a0 := a) (k0 := k) (n := 121) (m := 48) (⟨some (IsV s747.1), [(12, none)]⟩ :: ⟨some (IsV s747.1), [(70, some 0)]⟩ :: ⟨some (IsV x713_5.1), [(8, none)]⟩ :: ⟨some (IsV s747.2), [(13, none)]⟩ :: ⟨some (IsPtr x752_4), [(72, some 2), (73, some 3)]⟩ :: ⟨some (IsPtr x752_4.Lot), [(74, some 4)]⟩ :: ⟨some (IsV x752_4.Lot), [(75, some 5)]⟩ :: ⟨some (IsV s703.1), [(6, none)]⟩ :: ⟨some (IsV s740), [(11, none)]⟩ :: ⟨some (IsPtr x752_9), [(77, some 7), (78, some 8)]⟩ :: ⟨some (IsPtr x752_9.Lot), [(79, some 9)]⟩ :: ⟨some (IsV x752_9.Lot), [(80, some 10)]⟩ :: ⟨some (IsV (x752_4.Lot == x752_9.Lot)), [(76, some 6), (81, some 11)]⟩ :: ⟨some (IsV (x752_4.Lot == x752_9.Lot)), [(82, some 12)]⟩ :: ⟨some (IsV x713_5.1), [(8, none)]⟩ :: ⟨some (IsV s747.2), [(13, none)]⟩ :: ⟨some (IsPtr x752_16), [(84, some 14), (85, some 15)]⟩ :: ⟨some (IsPtr x752_16.Receives), [(86, some 16)]⟩ :: ⟨some (IsV x752_16.Receives), [(87, some 17)]⟩ :: ⟨some (IsV s703.1), [(6, none)]⟩ :: ⟨some (IsV s740), [(11, none)]⟩ :: ⟨some (IsPtr x752_21), [(89, some 19), (90, some 20)]⟩ :: ⟨some (IsPtr x752_21.Receives), [(91, some 21)]⟩ :: ⟨some (IsV x752_21.Receives), [(92, some 22)]⟩ :: ⟨some (IsV (x752_16.Receives == x752_21.Receives)), [(88, some 18), (93, some 23)]⟩ :: ⟨some (IsV x752_25), [(83, some 13), (94, some 24)]⟩ :: ⟨some (IsV x752_25), [(95, some 25)]⟩ :: ⟨none, []⟩ :: ⟨none, []⟩ :: ⟨none, []⟩ :: ⟨none, []⟩ :: ⟨none, []⟩ :: ⟨none, []⟩ :: ⟨none, []⟩ :: ⟨none, []⟩ :: ⟨none, []⟩ :: ⟨none, []⟩ :: ⟨none, []⟩ :: ⟨none, []⟩ :: ⟨none, []⟩ :: ⟨none, []⟩ :: ⟨none, []⟩ :: ⟨none, []⟩ :: ⟨none, []⟩ :: ⟨none, []⟩ :: ⟨some (IsV x752_45), [(96, some 26), (114, some 44)]⟩ :: ⟨some (IsV x752_46), [(71, some 1), (115, some 45)]⟩ :: ⟨some (IsV x752_46), [(116, some 46)]⟩ :: []) hmix hs (by kernel_rfl) ⟨⟨inferInstance, fun b q hk hn => ok_move rfl (up i12 hk hn.1), rfl⟩, ⟨inferInstance, fun b q hk hn => ok_move rfl hn.1, rfl⟩, ⟨inferInstance, fun b q hk hn => ok_move rfl (up i8 hk hn.1), guardF hm758⟩, ⟨inferInstance, fun b q hk hn => ok_move rfl (up i13 hk hn.1), guardF hm758⟩, ⟨inferInstance, fun b q hk hn => ok_indexAddr rfl Try.underlying22 ty35 (IsV.rd hn.1) hn.2.1 hx752_4, guardF hm758⟩, ⟨inferInstance, fun b q hk hn => ok_fieldAddr rfl fo35_0 (at_Account_0 _) hn.1, guardF hm758⟩, ⟨inferInstance, fun b q hk hn => ok_load rfl ty3 hn.1, guardF hm758⟩, ⟨inferInstance, fun b q hk hn => ok_move rfl (up i6 hk hn.1), guardF hm758⟩, ⟨inferInstance, fun b q hk hn => ok_move rfl (up i11 hk hn.1), guardF hm758⟩, ⟨inferInstance, fun b q hk hn => ok_indexAddr rfl Try.underlying22 ty35 (IsV.rd hn.1) hn.2.1 hx752_9, guardF hm758⟩, ⟨inferInstance, fun b q hk hn => ok_fieldAddr rfl fo35_0 (at_Account_0 _) hn.1, guardF hm758⟩, ⟨inferInstance, fun b q hk hn => ok_load rfl ty3 hn.1, guardF hm758⟩, ⟨inferInstance, fun b q hk hn => ok_eqI rfl hn.1 hn.2.1, guardF hm758⟩, ⟨inferInstance, fun b q hk hn => ok_move rfl hn.1, guardF hm758⟩, ⟨inferInstance, fun b q hk hn => ok_move rfl (up i8 hk hn.1), guardT hm761⟩, ⟨inferInstance, fun b q hk hn => ok_move rfl (up i13 hk hn.1), guardT hm761⟩, ⟨inferInstance, fun b q hk hn => ok_indexAddr rfl Try.underlying22 ty35 (IsV.rd hn.1) hn.2.1 hx752_16, guardT hm761⟩, ⟨inferInstance, fun b q hk hn => ok_fieldAddr rfl fo35_2 (at_Account_2 _) hn.1, guardT hm761⟩, ⟨inferInstance, fun b q hk hn => ok_load rfl ty4 hn.1, guardT hm761⟩, ⟨inferInstance, fun b q hk hn => ok_move rfl (up i6 hk hn.1), guardT hm761⟩, ⟨inferInstance, fun b q hk hn => ok_move rfl (up i11 hk hn.1), guardT hm761⟩, ⟨inferInstance, fun b q hk hn => ok_indexAddr rfl Try.underlying22 ty35 (IsV.rd hn.1) hn.2.1 hx752_21, guardT hm761⟩, ⟨inferInstance, fun b q hk hn => ok_fieldAddr rfl fo35_2 (at_Account_2 _) hn.1, guardT hm761⟩, ⟨inferInstance, fun b q hk hn => ok_load rfl ty4 hn.1, guardT hm761⟩, ⟨inferInstance, fun b q hk hn => ok_eqB rfl Try.underlying4 hn.1 hn.2.1, guardT hm761⟩, ⟨inferInstance, fun b q hk hn => ok_cast (Option.some.inj ht762) (ok_pick_t rfl hn.1 hm761 hn.2.1), guardF hm758⟩, ⟨inferInstance, fun b q hk hn => ok_move rfl hn.1, guardF hm758⟩, guardF hm763, guardF hm763, guardF hm763, guardF hm763, guardF hm763, guardF hm763, rfl, rfl, rfl, rfl, rfl, rfl, rfl, rfl, rfl, rfl, rfl, guardF hm763, ⟨inferInstance, fun b q hk hn => ok_cast (Option.some.inj ht764) (ok_pick_f rfl hn.1 hm763 (isV_bool.2 rfl)), guardF hm758⟩, ⟨inferInstance, fun b q hk hn => ok_cast (Option.some.inj ht759) (ok_pick_f rfl hn.1 hm758 hn.2.1), rfl⟩, ⟨inferInstance, fun b q hk hn => ok_assign rfl hn.1, rfl⟩, trivial⟩ hQQ756 fun b q p => ?_
                                                          have hgq := hg.then p.grow
                                                          have hsb := p.size.trans hs
                                                          have hdb := p.defers.trans hd
                                                          have j1 := keep p 1 rfl i1
                                                          have j5 := keep p 5 rfl i5
                                                          have j6 := keep p 6 rfl i6
                                                          have j7 := keep p 7 rfl i7
                                                          have j8 := keep p 8 rfl i8
                                                          have j11 := keep p 11 rfl i11
                                                          have j12 : (IsV x752_46) (b.get 12) q := out p 47 12 _ rfl rfl rfl
                                                          have j13 := keep p 13 rfl i13
                                                          exact tail_done (k := q) (hp757 _ _ ⟨hgq, hsb, hdb, j1, j5, j6, j7, j8, j11, j12, j13, trivial⟩)
                                                      · have ht762 := hx752_25
                                                        rw [if_neg (by rw [hm761]; decide)] at ht762
                                                        have hk769 : x752_25 = false := (Option.some.inj ht762).symm
                                                        obtain ⟨x752_45, hx752_45, ht759⟩ := bind_some ht759
                                                        have hm770 := hk769
                                                        have ht771 := hx752_45
                                                        rw [if_neg (by rw [hm770]; decide)] at ht771
                                                        have hk772 : x752_45 = false := (Option.some.inj ht771).symm
                                                        refine region (a0 := a) (k0 := k) (n := 121) (m := 48) (⟨some (IsV s747.1), [(12, none)]⟩ :: ⟨some (IsV s747.1), [(70, some 0)]⟩ :: ⟨some (IsV x713_5.1), [(8, none)]⟩ :: ⟨some (IsV s747.2), [(13, none)]⟩ :: ⟨some (IsPtr x752_4), [(72, some 2), (73, some 3)]⟩ :: ⟨some (IsPtr x752_4.Lot), [(74, some 4)]⟩ :: ⟨some (IsV x752_4.Lot), [(75, some 5)]⟩ :: ⟨some (IsV s703.1), [(6, none)]⟩ :: ⟨some (IsV s740), [(11, none)]⟩ :: ⟨some (IsPtr x752_9), [(77, some 7), (78, some 8)]⟩ :: ⟨some (IsPtr x752_9.Lot), [(79, some 9)]⟩ :: ⟨some (IsV x752_9.Lot), [(80, some 10)]⟩ :: ⟨some (IsV (x752_4.Lot == x752_9.Lot)), [(76, some 6), (81, some 11)]⟩ :: ⟨some (IsV (x752_4.Lot == x752_9.Lot)), [(82, some 12)]⟩ :: ⟨none, []⟩ :: ⟨none, []⟩ :: ⟨none, []⟩ :: ⟨none, []⟩ :: ⟨none, []⟩ :: ⟨none, []⟩ :: ⟨none, []⟩ :: ⟨none, []⟩ :: ⟨none, []⟩ :: ⟨none, []⟩ :: ⟨none, []⟩ :: ⟨some (IsV x752_25), [(83, some 13), (94, some 24)]⟩ :: ⟨some (IsV x752_25), [(95, some 25)]⟩ :: ⟨none, []⟩ :: ⟨none, []⟩ :: ⟨none, []⟩ :: ⟨none, []⟩ :: ⟨none, []⟩ :: ⟨none, []⟩ :: ⟨none, []⟩ :: ⟨none, []⟩ :: ⟨none, []⟩ :: ⟨none, []⟩ :: ⟨none, []⟩ :: ⟨none, []⟩ :: ⟨none, []⟩ :: ⟨none, []⟩ :: ⟨none, []⟩ :: ⟨none, []⟩ :: ⟨none, []⟩ :: ⟨none, []⟩ :: ⟨some (IsV x752_45), [(96, some 26), (114, some 44)]⟩ :: ⟨some (IsV x752_46), [(71, some 1), (115, some 45)]⟩ :: ⟨some (IsV x752_46), [(116, some 46)]⟩ :: []) hmix hs (by kernel_rfl) ⟨⟨inferInstance, fun b q hk hn => ok_move rfl (up i12 hk hn.1), rfl⟩, ⟨inferInstance, fun b q hk hn => ok_move rfl hn.1, rfl⟩, ⟨inferInstance, fun b q hk hn => ok_move rfl (up i8 hk hn.1), guardF hm758⟩, ⟨inferInstance, fun b q hk hn => ok_move rfl (up i13 hk hn.1), guardF hm758⟩, ⟨inferInstance, fun b q hk hn => ok_indexAddr rfl Try.underlying22 ty35 (IsV.rd hn.1) hn.2.1 hx752_4, guardF hm758⟩, ⟨inferInstance, fun b q hk hn => ok_fieldAddr rfl fo35_0 (at_Account_0 _) hn.1, guardF hm758⟩, ⟨inferInstance, fun b q hk hn => ok_load rfl ty3 hn.1, guardF hm758⟩, ⟨inferInstance, fun b q hk hn => ok_move rfl (up i6 hk hn.1), guardF hm758⟩, ⟨inferInstance, fun b q hk hn => ok_move rfl (up i11 hk hn.1), guardF hm758⟩, ⟨inferInstance, fun b q hk hn => ok_indexAddr rfl Try.underlying22 ty35 (IsV.rd hn.1) hn.2.1 hx752_9, guardF hm758⟩, ⟨inferInstance, fun b q hk hn => ok_fieldAddr rfl fo35_0 (at_Account_0 _) hn.1, guardF hm758⟩, ⟨inferInstance, fun b q hk hn => ok_load rfl ty3 hn.1, guardF hm758⟩, ⟨inferInstance, fun b q hk hn => ok_eqI rfl hn.1 hn.2.1, guardF hm758⟩, ⟨inferInstance, fun b q hk hn => ok_move rfl hn.1, guardF hm758⟩, guardF hm761, guardF hm761, guardF hm761, guardF hm761, guardF hm761, guardF hm761, guardF hm761, guardF hm761, guardF hm761, guardF hm761, guardF hm761, ⟨inferInstance, fun b q hk hn => ok_cast (Option.some.inj ht762) (ok_pick_f rfl hn.1 hm761 (isV_bool.2 rfl)), guardF hm758⟩, ⟨inferInstance, fun b q hk hn => ok_move rfl hn.1, guardF hm758⟩, guardF hm770, guardF hm770, guardF hm770, guardF hm770, guardF hm770, guardF hm770, rfl, rfl, rfl, rfl, rfl, rfl, rfl, rfl, rfl, rfl, rfl, guardF hm770, ⟨inferInstance, fun b q hk hn => ok_cast (Option.some.inj ht771) (ok_pick_f rfl hn.1 hm770 (isV_bool.2 rfl)), guardF hm758⟩, ⟨inferInstance, fun b q hk hn => ok_cast (Option.some.inj ht759) (ok_pick_f rfl hn.1 hm758 hn.2.1), rfl⟩, ⟨inferInstance, fun b q hk hn => ok_assign rfl hn.1, rfl⟩, trivial⟩ hQQ756 fun b q p => ?_
                                                        have hgq := hg.then p.grow
                                                        have hsb := p.size.trans hs
                                                        have hdb := p.defers.trans hd
                                                        have j1 := keep p 1 rfl i1
                                                        have j5 := keep p 5 rfl i5
                                                        have j6 := keep p 6 rfl i6
                                                        have j7 := keep p 7 rfl i7
                                                        have j8 := keep p 8 rfl i8
                                                        have j11 := keep p 11 rfl i11
                                                        have j12 : (IsV x752_46) (b.get 12) q := out p 47 12 _ rfl rfl rfl
                                                        have j13 := keep p 13 rfl i13
                                                        exact tail_done (k := q) (hp757 _ _ ⟨hgq, hsb, hdb, j1, j5, j6, j7, j8, j11, j12, j13, trivial⟩)
                                                  · rintro a k ⟨hg, hs, hd, i1, i5, i6, i7, i8, i11, i12, i13, _⟩
                                                    obtain ⟨x753_1, hx753_1, hr⟩ := bind_some hr
                                                    refine cut (fun a' k' => Chg noF k0 k' ∧ a'.tmps.size = 121 ∧ a'.defers = [] ∧ (IsV m_) (a'.get 1) k' ∧ (IsV x696_0) (a'.get 5) k' ∧ (IsV s703.1) (a'.get 6) k' ∧ (IsV s703.2) (a'.get 7) k' ∧ (IsV x713_5.1) (a'.get 8) k' ∧ (IsV s740) (a'.get 11) k' ∧ (IsV x752_46) (a'.get 12) k' ∧ (IsV x753_1) (a'.get 13) k' ∧ True) ?_ hQ ?_
                                                    · intro Q754 hQQ754 hp755
                                                      refine regionS (a0 := a) (k0 := k) (n := 121) (m := 3) (⟨some (IsV s747.2), [(13, none)]⟩ :: ⟨some (IsV x753_1), [(68, some 0)]⟩ :: ⟨some (IsV x753_1), [(69, some 1)]⟩ :: []) hs (by kernel_rfl) ⟨⟨inferInstance, fun b q hk hn => ok_move rfl (up i13 hk hn.1), rfl⟩, ⟨inferInstance, fun b q hk hn => ok_add rfl hn.1 (isV_int.2 rfl) hx753_1, rfl⟩, ⟨inferInstance, fun b q hk hn => ok_assign rfl hn.1, rfl⟩, trivial⟩ hQQ754 fun b q p => ?_
                                                      have hgq := hg.then p.grow
                                                      have hsb := p.size.trans hs
                                                      have hdb := p.defers.trans hd
                                                      have j1 := keep p 1 rfl i1
                                                      have j5 := keep p 5 rfl i5
                                                      have j6 := keep p 6 rfl i6
                                                      have j7 := keep p 7 rfl i7
                                                      have j8 := keep p 8 rfl i8
                                                      have j11 := keep p 11 rfl i11
                                                      have j12 := keep p 12 rfl i12
                                                      have j13 : (IsV x753_1) (b.get 13) q := out p 2 13 _ rfl rfl rfl
                                                      exact tail_done (k := q) (hp755 _ _ ⟨hgq, hsb, hdb, j1, j5, j6, j7, j8, j11, j12, j13, trivial⟩)
                                                    · rintro a k ⟨hg, hs, hd, i1, i5, i6, i7, i8, i11, i12, i13, _⟩
                                                      exact hgo748 _ _ _ (Option.some.inj hr).symm ⟨hg, hs, hd, i1, i5, i6, i7, i8, i11, i12, i13, trivial⟩
                                                · rw [if_neg (by rw [hc773]; decide)] at hr
                                                  refine wp_exit ?_
                                                  exact hex749 _ _ _ _ (Option.some.inj hr).symm ⟨rfl, hg, hs, hd, i1, i5, i6, i7, i8, i11, i12, trivial⟩
                                            · rintro _ _ _ rfl _
                                              simp at hr
                                            · clear hf776
                                              rintro _ s777 a k rfl ⟨rfl, hg, hs, hd, i1, i5, i6, i7, i8, i11, i12, _⟩
                                              dsimp only at hr
                                              refine wp_seq ?_
                                              refine cut (fun a' k' => Chg noF k0 k' ∧ a'.tmps.size = 121 ∧ a'.defers = [] ∧ (IsV m_) (a'.get 1) k' ∧ (IsV x696_0) (a'.get 5) k' ∧ (IsV s703.1) (a'.get 6) k' ∧ (IsV s703.2) (a'.get 7) k' ∧ (IsV x713_5.1) (a'.get 8) k' ∧ (IsV s740) (a'.get 11) k' ∧ (IsV (!s777.1)) (a'.get 118) k' ∧ True) ?_ hQ ?_
                                              · intro Q786 hQQ786 hp787
                                                refine regionS (a0 := a) (k0 := k) (n := 121) (m := 2) (⟨some (IsV s777.1), [(12, none)]⟩ :: ⟨some (IsV (!s777.1)), [(117, some 0)]⟩ :: []) hs (by kernel_rfl) ⟨⟨inferInstance, fun b q hk hn => ok_move rfl (up i12 hk hn.1), rfl⟩, ⟨inferInstance, fun b q hk hn => ok_not rfl hn.1, rfl⟩, trivial⟩ hQQ786 fun b q p => ?_
                                                have hgq := hg.then p.grow
                                                have hsb := p.size.trans hs
                                                have hdb := p.defers.trans hd
                                                have j1 := keep p 1 rfl i1
                                                have j5 := keep p 5 rfl i5
                                                have j6 := keep p 6 rfl i6
                                                have j7 := keep p 7 rfl i7
                                                have j8 := keep p 8 rfl i8
                                                have j11 := keep p 11 rfl i11
                                                have j118 : (IsV (!s777.1)) (b.get 118) q := out p 1 118 _ rfl rfl rfl
                                                exact tail_done (k := q) (hp787 _ _ ⟨hgq, hsb, hdb, j1, j5, j6, j7, j8, j11, j118, trivial⟩)
                                              · rintro a k ⟨hg, hs, hd, i1, i5, i6, i7, i8, i11, i118, _⟩
                                                refine wp_cond_split (isBool i118) (fun hc785 => ?_) (fun hc785 => ?_)
                                                · rw [if_pos hc785] at hr
                                                  refine wp_seq ?_
                                                  refine cut (fun a' k' => Chg noF k0 k' ∧ a'.tmps.size = 121 ∧ a'.defers = [] ∧ (IsV false) (a'.get 4) k' ∧ True) ?_ hQ ?_
                                                  · intro Q780 hQQ780 hp781
                                                    refine regionS (a0 := a) (k0 := k) (n := 121) (m := 1) (⟨some (IsV false), []⟩ :: []) hs (by kernel_rfl) ⟨⟨inferInstance, fun b q hk hn => ok_assign rfl (isV_bool.2 rfl), rfl⟩, trivial⟩ hQQ780 fun b q p => ?_
                                                    have hgq := hg.then p.grow
                                                    have hsb := p.size.trans hs
                                                    have hdb := p.defers.trans hd
                                                    have j4 : (IsV false) (b.get 4) q := out p 0 4 _ rfl rfl rfl
                                                    exact tail_done (k := q) (hp781 _ _ ⟨hgq, hsb, hdb, j4, trivial⟩)
                                                  · rintro a k ⟨hg, hs, hd, i4, _⟩
                                                    refine wp_ret ?_
                                                    exact hret743 _ _ _ (Option.some.inj hr).symm (retC1 rfl hd hg i4)
                                                · rw [if_neg (by rw [hc785]; decide)] at hr
                                                  refine wp_skip ?_
                                                  obtain ⟨x782_1, hx782_1, hr⟩ := bind_some hr
                                                  refine cut (fun a' k' => Chg noF k0 k' ∧ a'.tmps.size = 121 ∧ a'.defers = [] ∧ (IsV m_) (a'.get 1) k' ∧ (IsV x696_0) (a'.get 5) k' ∧ (IsV s703.1) (a'.get 6) k' ∧ (IsV s703.2) (a'.get 7) k' ∧ (IsV x713_5.1) (a'.get 8) k' ∧ (IsV x782_1) (a'.get 11) k' ∧ True) ?_ hQ ?_
                                                  · intro Q783 hQQ783 hp784
                                                    refine regionS (a0 := a) (k0 := k) (n := 121) (m := 3) (⟨some (IsV s740), [(11, none)]⟩ :: ⟨some (IsV x782_1), [(62, some 0)]⟩ :: ⟨some (IsV x782_1), [(63, some 1)]⟩ :: []) hs (by kernel_rfl) ⟨⟨inferInstance, fun b q hk hn => ok_move rfl (up i11 hk hn.1), rfl⟩, ⟨inferInstance, fun b q hk hn => ok_add rfl hn.1 (isV_int.2 rfl) hx782_1, rfl⟩, ⟨inferInstance, fun b q hk hn => ok_assign rfl hn.1, rfl⟩, trivial⟩ hQQ783 fun b q p => ?_
                                                    have hgq := hg.then p.grow
                                                    have hsb := p.size.trans hs
                                                    have hdb := p.defers.trans hd
                                                    have j1 := keep p 1 rfl i1
                                                    have j5 := keep p 5 rfl i5
                                                    have j6 := keep p 6 rfl i6
                                                    have j7 := keep p 7 rfl i7
                                                    have j8 := keep p 8 rfl i8
                                                    have j11 : (IsV x782_1) (b.get 11) q := out p 2 11 _ rfl rfl rfl
                                                    exact tail_done (k := q) (hp784 _ _ ⟨hgq, hsb, hdb, j1, j5, j6, j7, j8, j11, trivial⟩)
                                                  · rintro a k ⟨hg, hs, hd, i1, i5, i6, i7, i8, i11, _⟩
                                                    exact hgo741 _ _ _ (Option.some.inj hr).symm ⟨hg, hs, hd, i1, i5, i6, i7, i8, i11, trivial⟩
                                            · rintro r788 a k rfl hR
                                              dsimp only at hr
                                              exact hret743 _ _ _ (Option.some.inj hr).symm hR
                                      · rw [if_neg (by rw [hc794]; decide)] at hr
                                        refine wp_exit ?_
                                        exact hex742 _ _ _ _ (Option.some.inj hr).symm ⟨rfl, hg, hs, hd, i1, i5, i7, i8, trivial⟩
                                  · rintro _ _ _ rfl _
                                    simp at hr
                                  · clear hf797
                                    rintro _ s798 a k rfl ⟨rfl, hg, hs, hd, i1, i5, i7, i8, _⟩
                                    dsimp only at hr
                                    refine cut (fun a' k' => Chg noF k0 k' ∧ a'.tmps.size = 121 ∧ a'.defers = [] ∧ (IsV m_) (a'.get 1) k' ∧ (IsV x696_0) (a'.get 5) k' ∧ (IsV x713_5.1) (a'.get 6) k' ∧ (IsV s703.2) (a'.get 7) k' ∧ True) ?_ hQ ?_
                                    · intro Q800 hQQ800 hp801
                                      refine regionS (a0 := a) (k0 := k) (n := 121) (m := 2) (⟨some (IsV x713_5.1), [(8, none)]⟩ :: ⟨some (IsV x713_5.1), [(119, some 0)]⟩ :: []) hs (by kernel_rfl) ⟨⟨inferInstance, fun b q hk hn => ok_move rfl (up i8 hk hn.1), rfl⟩, ⟨inferInstance, fun b q hk hn => ok_assign rfl hn.1, rfl⟩, trivial⟩ hQQ800 fun b q p => ?_
                                      have hgq := hg.then p.grow
                                      have hsb := p.size.trans hs
                                      have hdb := p.defers.trans hd
                                      have j1 := keep p 1 rfl i1
                                      have j5 := keep p 5 rfl i5
                                      have j6 : (IsV x713_5.1) (b.get 6) q := out p 1 6 _ rfl rfl rfl
                                      have j7 := keep p 7 rfl i7
                                      exact tail_done (k := q) (hp801 _ _ ⟨hgq, hsb, hdb, j1, j5, j6, j7, trivial⟩)
                                    · rintro a k ⟨hg, hs, hd, i1, i5, i6, i7, _⟩
                                      exact hgo710 _ _ _ (Option.some.inj hr).symm ⟨hg, hs, hd, i1, i5, i6, i7, trivial⟩
                                  · rintro r802 a k rfl hR
                                    dsimp only at hr
                                    exact hret712 _ _ _ (Option.some.inj hr).symm hR
                              · rintro r806 a k rfl hR
                                dsimp only at hr
                                exact hret712 _ _ _ (Option.some.inj hr).symm hR
                    · clear hf815
                      rintro s816 a k rfl ⟨hg, hs, hd, i1, i5, i6, i7, _⟩
                      dsimp only at hr
                      obtain ⟨x817_1, hx817_1, hr⟩ := bind_some hr
                      refine cut (fun a' k' => Chg noF k0 k' ∧ a'.tmps.size = 121 ∧ a'.defers = [] ∧ (IsV m_) (a'.get 1) k' ∧ (IsV x696_0) (a'.get 5) k' ∧ (IsV s816) (a'.get 6) k' ∧ (IsV x817_1) (a'.get 7) k' ∧ True) ?_ hQ ?_
                      · intro Q818 hQQ818 hp819
                        refine regionS (a0 := a) (k0 := k) (n := 121) (m := 3) (⟨some (IsV s703.2), [(7, none)]⟩ :: ⟨some (IsV x817_1), [(25, some 0)]⟩ :: ⟨some (IsV x817_1), [(26, some 1)]⟩ :: []) hs (by kernel_rfl) ⟨⟨inferInstance, fun b q hk hn => ok_move rfl (up i7 hk hn.1), rfl⟩, ⟨inferInstance, fun b q hk hn => ok_add rfl hn.1 (isV_int.2 rfl) hx817_1, rfl⟩, ⟨inferInstance, fun b q hk hn => ok_assign rfl hn.1, rfl⟩, trivial⟩ hQQ818 fun b q p => ?_
                        have hgq := hg.then p.grow
                        have hsb := p.size.trans hs
                        have hdb := p.defers.trans hd
                        have j1 := keep p 1 rfl i1
                        have j5 := keep p 5 rfl i5
                        have j6 := keep p 6 rfl i6
                        have j7 : (IsV x817_1) (b.get 7) q := out p 2 7 _ rfl rfl rfl
                        exact tail_done (k := q) (hp819 _ _ ⟨hgq, hsb, hdb, j1, j5, j6, j7, trivial⟩)
                      · rintro a k ⟨hg, hs, hd, i1, i5, i6, i7, _⟩
                        exact hgo704 _ _ _ (Option.some.inj hr).symm ⟨hg, hs, hd, i1, i5, i6, i7, trivial⟩
                    · rintro _ _ _ _ _ hX
                      exact hX.elim
                    · rintro r820 a k rfl hR
                      dsimp only at hr
                      exact hret706 _ _ _ (Option.some.inj hr).symm hR
                  · rw [if_neg (by rw [hc822]; decide)] at hr
                    refine wp_exit ?_
                    exact hex705 _ _ _ _ (Option.some.inj hr).symm ⟨rfl, hg, hs, hd, i5, trivial⟩
              · rintro _ _ _ rfl _
                simp at hr
              · clear hf825
                rintro _ s826 a k rfl ⟨rfl, hg, hs, hd, i5, _⟩
                dsimp only at hr
                refine wp_seq ?_
                refine cut (fun a' k' => Chg noF k0 k' ∧ a'.tmps.size = 121 ∧ a'.defers = [] ∧ (IsV x696_0) (a'.get 4) k' ∧ True) ?_ hQ ?_
                · intro Q828 hQQ828 hp829
                  refine regionS (a0 := a) (k0 := k) (n := 121) (m := 2) (⟨some (IsV x696_0), [(5, none)]⟩ :: ⟨some (IsV x696_0), [(120, some 0)]⟩ :: []) hs (by kernel_rfl) ⟨⟨inferInstance, fun b q hk hn => ok_move rfl (up i5 hk hn.1), rfl⟩, ⟨inferInstance, fun b q hk hn => ok_assign rfl hn.1, rfl⟩, trivial⟩ hQQ828 fun b q p => ?_
                  have hgq := hg.then p.grow
                  have hsb := p.size.trans hs
                  have hdb := p.defers.trans hd
                  have j4 : (IsV x696_0) (b.get 4) q := out p 1 4 _ rfl rfl rfl
                  exact tail_done (k := q) (hp829 _ _ ⟨hgq, hsb, hdb, j4, trivial⟩)
                · rintro a k ⟨hg, hs, hd, i4, _⟩
                  refine wp_ret ?_
                  obtain rfl := Option.some.inj hr
                  exact retC1 rfl hd hg i4
              · rintro r830 a k rfl hR
                dsimp only at hr
                obtain rfl := Option.some.inj hr
                exact hR
end Go.Proofs.Ytbanncpkgbiklaa
