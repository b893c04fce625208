/- What the functions of credit compute, part 4 -/
import Derived.Test.YtbanncpkgbiklaaT3
namespace Go.Proofs.Ytbanncpkgbiklaa
open Go.Gb
set_option linter.unusedVariables false
set_option linter.unusedSimpArgs false
def lawKeeps_L1 (m_ : (List Move)) (s1058 : (List Account) × Int) (x1063_5 : (List Account) × Int) (s1089 : Int) : Option (Flow (Int) (Bool)) :=
  if (decide (s1089 < (s1058.1.length : Int))) then
    (getI s1058.1 s1089).bind fun x1094_2 =>
    (getI m_ s1058.2).bind fun x1095_4 =>
    (if (x1094_2.Lot != x1095_4.From) then
      (getI m_ s1058.2).bind fun x1095_13 =>
      some (x1094_2.Lot != x1095_13.To)
    else
      some false).bind fun x1095_17 =>
    (if x1095_17 then
      (cUnits x1063_5.1 x1094_2.Lot).bind fun x1095_22 =>
      some (x1095_22 != x1094_2.Units)
    else
      some false).bind fun x1095_26 =>
    if x1095_26 then
      some (.ret false)
    else
      (addI s1089 1).bind fun x1099_1 =>
      some (.go x1099_1)
  else
    some (.ex 2 s1089)
def lawKeeps_L0 (l_ : (List Account)) (m_ : (List Move)) (x1051_0 : Bool) (s1058 : (List Account) × Int) : Option (Flow ((List Account) × Int) (Bool)) :=
  if (decide (s1058.2 < (m_.length : Int))) then
    (getI m_ s1058.2).bind fun x1063_3 =>
    (cDo s1058.1 x1063_3).bind fun x1063_5 =>
    (addI s1058.2 1).bind fun x1064_3 =>
    (sliceI m_ 0 x1064_3).bind fun x1064_4 =>
    (cRun l_ x1064_4).bind fun x1064_5 =>
    if (x1063_5.2 != 0) then
      (if (((x1051_0 && (x1063_5.2 == x1064_5.2.2)) && (x1064_5.2.1 == s1058.2)) && ((x1063_5.1.length : Int) == 0)) then
        (rSame x1064_5.1 s1058.1).bind fun x1066_19 =>
        some x1066_19
      else
        some false).bind fun x1066_20 =>
      some (.ret x1066_20)
    else
      (cTotal s1058.1).bind fun x1069_1 =>
      (getI m_ s1058.2).bind fun x1070_2 =>
      (if (x1070_2.Kind == 0) then
        (getI m_ s1058.2).bind fun x1073_3 =>
        (addI x1069_1 x1073_3.N).bind fun x1073_6 =>
        some x1073_6
      else
        some x1069_1).bind fun s1071 =>
      (getI m_ s1058.2).bind fun x1077_2 =>
      (if (x1077_2.Kind == 2) then
        some true
      else
        (getI m_ s1058.2).bind fun x1077_9 =>
        some (x1077_9.Kind == 3)).bind fun x1077_13 =>
      (if x1077_13 then
        (getI m_ s1058.2).bind fun x1080_3 =>
        (subI s1071 x1080_3.N).bind fun x1080_6 =>
        some x1080_6
      else
        some s1071).bind fun s1078 =>
      (cRight x1063_5.1).bind fun x1084_1 =>
      (if (!x1084_1) then
        some true
      else
        (cTotal x1063_5.1).bind fun x1084_5 =>
        some (x1084_5 != s1078)).bind fun x1084_8 =>
      (if (x1084_8 || (x1064_5.2.2 != 0)) then
        some true
      else
        (addI s1058.2 1).bind fun x1084_16 =>
        some (x1064_5.2.1 != x1084_16)).bind fun x1084_18 =>
      (if x1084_18 then
        some true
      else
        (rSame x1064_5.1 x1063_5.1).bind fun x1084_22 =>
        some (!x1084_22)).bind fun x1084_24 =>
      if x1084_24 then
        some (.ret false)
      else
        (iterL (lawKeeps_L1 m_ s1058 x1063_5) (l_.length + m_.length + s1058.1.length + x1063_5.1.length + 1) 0).bind fun f1110 => match f1110 with
          | .go _ => none
          | .ex _ _ =>
            (addI s1058.2 1).bind fun x1113_1 =>
            some (.go (x1063_5.1, x1113_1))
          | .ret r1118 => some (.ret r1118)
  else
    some (.ex 0 (s1058.1, s1058.2))
def lawKeeps (l_ : (List Account)) (m_ : (List Move)) : Option (Bool) :=
  (small).bind fun x1051_0 =>
  (few l_ m_).bind fun x1052_2 =>
  (if (!x1052_2) then
    some true
  else
    (cRight l_).bind fun x1052_6 =>
    some (!x1052_6)).bind fun x1052_8 =>
  if x1052_8 then
    some x1051_0
  else
    (iterL (lawKeeps_L0 l_ m_ x1051_0) (l_.length + m_.length + l_.length + 1) (l_, 0)).bind fun f1143 => match f1143 with
      | .go _ => none
      | .ex _ _ =>
        some x1051_0
      | .ret r1148 => some r1148
theorem lawKeeps_ok {k0 : K} {v0 v1 : Value} {l_ : (List Account)} {m_ : (List Move)} {r : Bool} (i0 : (IsV l_) v0 k0) (i1 : (IsV m_) v1 k0) (hr : lawKeeps l_ m_ = some r) :
    Calls Try.prog 7 #[v0, v1] k0.w (Ret k0 (IsV r)) := by
  unfold lawKeeps at hr
  refine Ret.ofC ?_
  refine enterK Try.func7 rfl Try.ntmps7 (show 2 ≤ 176 by decide) fun a k hk0 hs hd ha => ?_
  obtain ⟨e0, e1, _⟩ := ha
  replace i0 : (IsV l_) (a.get 0) k := by rw [e0, hk0]; exact i0
  replace i1 : (IsV m_) (a.get 1) k := by rw [e1, hk0]; exact i1
  have hQ : Gb.LetsOut (bodyPost Try.prog Try.f7 (RetC noF k0 (IsV r))) := letsOutC
  have hg : Chg noF k0 k := by rw [hk0]; exact Chg.refl _ k0
  refine wp_seq ?_
  refine cut (fun a' k' => Bs noF k0 176 a' k' ∧ (IsV l_) (a'.get 0) k' ∧ (IsV m_) (a'.get 1) k' ∧ True) ?_ hQ ?_
  · intro Q1159 hQQ1159 hp1160
    refine regionS (a0 := a) (k0 := k) (n := 176) (m := 1) (⟨some (IsV false), []⟩ :: []) hs (by kernel_rfl) ⟨ob1 rfl fun b q hk hn => ok_assign rfl (isV_bool.2 rfl), trivial⟩ hQQ1159 fun b q p => ?_
    exact tail_done (k := q) (hp1160 _ _ ⟨Bs.post ⟨hg, hs, hd⟩ p, keep p 0 rfl i0, keep p 1 rfl i1, trivial⟩)
  rintro a k ⟨⟨hg, hs, hd⟩, i0, i1, _⟩
  refine wp_seq ?_
  obtain ⟨x1051_0, hx1051_0, hr⟩ := bind_some hr
  refine cut (fun a' k' => Bs noF k0 176 a' k' ∧ (IsV l_) (a'.get 0) k' ∧ (IsV m_) (a'.get 1) k' ∧ (IsV x1051_0) (a'.get 5) k' ∧ True) ?_ hQ ?_
  · intro Q1157 hQQ1157 hp1158
    refine regionS (a0 := a) (k0 := k) (n := 176) (m := 2) (⟨some (IsV x1051_0), []⟩ :: ⟨some (IsV x1051_0), [(16, some 0)]⟩ :: []) hs (by kernel_rfl) ⟨ob1 rfl fun b q hk hn => ok_call rfl Try.call8 (small_ok hx1051_0), ob1 rfl fun b q hk hn => ok_assign rfl hn.1, trivial⟩ hQQ1157 fun b q p => ?_
    exact tail_done (k := q) (hp1158 _ _ ⟨Bs.post ⟨hg, hs, hd⟩ p, keep p 0 rfl i0, keep p 1 rfl i1, out p 1 5 _ rfl rfl rfl, trivial⟩)
  rintro a k ⟨⟨hg, hs, hd⟩, i0, i1, i5, _⟩
  refine wp_seq ?_
  refine wp_seq ?_
  obtain ⟨x1052_2, hx1052_2, hr⟩ := bind_some hr
  obtain ⟨x1052_8, hx1052_8, hr⟩ := bind_some hr
  obtain ⟨x1052_6, hx1052_6, hx1052_8⟩ := ite_bindF hx1052_8
  refine cut (fun a' k' => Bs noF k0 176 a' k' ∧ (IsV l_) (a'.get 0) k' ∧ (IsV m_) (a'.get 1) k' ∧ (IsV x1051_0) (a'.get 5) k' ∧ (IsV x1052_8) (a'.get 25) k' ∧ True) ?_ hQ ?_
  · intro Q1155 hQQ1155 hp1156
    refine regionS (a0 := a) (k0 := k) (n := 176) (m := 9) (⟨some (IsV l_), [(0, none)]⟩ :: ⟨some (IsV m_), [(1, none)]⟩ :: ⟨some (IsV x1052_2), [(17, some 0), (18, some 1)]⟩ :: ⟨some (IsV (!x1052_2)), [(19, some 2)]⟩ :: ⟨some (IsV (!x1052_2)), [(20, some 3)]⟩ :: ⟨some (Gd ((!x1052_2) = false) (IsV l_)), [(0, none)]⟩ :: ⟨some (Gd ((!x1052_2) = false) (IsV x1052_6)), [(22, some 5)]⟩ :: ⟨some (Gd ((!x1052_2) = false) (IsV (!x1052_6))), [(23, some 6)]⟩ :: ⟨some (IsV x1052_8), [(21, some 4), (24, some 7)]⟩ :: []) hs (by kernel_rfl) ⟨ob1 rfl fun b q hk hn => ok_move rfl (up i0 hk hn.1), ob1 rfl fun b q hk hn => ok_move rfl (up i1 hk hn.1), ob1 rfl fun b q hk hn => ok_call rfl Try.call9 (few_ok hn.1 hn.2.1 hx1052_2), ob1 rfl fun b q hk hn => ok_not rfl hn.1, ob1 rfl fun b q hk hn => ok_move rfl hn.1, gdF rfl rfl fun hp b q hk hn => ok_move rfl (up i0 hk hn.1), gdF rfl rfl fun hp b q hk hn => ok_call rfl Try.call17 (cRight_ok (Gd.get hn.1 hp) (hx1052_6 hp)), gdF rfl rfl fun hp b q hk hn => ok_not rfl (Gd.get hn.1 hp), ob1 rfl fun b q hk hn => ok_pickM rfl hn.1 hx1052_8 (fun _ => (isV_bool.2 rfl)) (fun hm => (Gd.get hn.2.1 hm)), trivial⟩ hQQ1155 fun b q p => ?_
    exact tail_done (k := q) (hp1156 _ _ ⟨Bs.post ⟨hg, hs, hd⟩ p, keep p 0 rfl i0, keep p 1 rfl i1, keep p 5 rfl i5, out p 8 25 _ rfl rfl rfl, trivial⟩)
  rintro a k ⟨⟨hg, hs, hd⟩, i0, i1, i5, i25, _⟩
  refine wp_cond_split (isBool i25) (fun hc1154 => ?_) (fun hc1154 => ?_)
  · rw [if_pos hc1154] at hr
    refine wp_seq ?_
    refine cut (fun a' k' => Bs noF k0 176 a' k' ∧ (IsV x1051_0) (a'.get 4) k' ∧ True) ?_ hQ ?_
    · intro Q1054 hQQ1054 hp1055
      refine regionS (a0 := a) (k0 := k) (n := 176) (m := 2) (⟨some (IsV x1051_0), [(5, none)]⟩ :: ⟨some (IsV x1051_0), [(26, some 0)]⟩ :: []) hs (by kernel_rfl) ⟨ob1 rfl fun b q hk hn => ok_move rfl (up i5 hk hn.1), ob1 rfl fun b q hk hn => ok_assign rfl hn.1, trivial⟩ hQQ1054 fun b q p => ?_
      exact tail_done (k := q) (hp1055 _ _ ⟨Bs.post ⟨hg, hs, hd⟩ p, out p 1 4 _ rfl rfl rfl, trivial⟩)
    rintro a k ⟨⟨hg, hs, hd⟩, i4, _⟩
    refine wp_ret ?_
    obtain rfl := Option.some.inj hr
    exact retC1 rfl hd hg i4
  rw [if_neg (by rw [hc1154]; decide)] at hr
  refine wp_skip ?_
  refine wp_seq ?_
  refine cut (fun a' k' => Bs noF k0 176 a' k' ∧ (IsV l_) (a'.get 0) k' ∧ (IsV m_) (a'.get 1) k' ∧ (IsV x1051_0) (a'.get 5) k' ∧ (IsV l_) (a'.get 6) k' ∧ True) ?_ hQ ?_
  · intro Q1152 hQQ1152 hp1153
    refine regionS (a0 := a) (k0 := k) (n := 176) (m := 2) (⟨some (IsV l_), [(0, none)]⟩ :: ⟨some (IsV l_), [(27, some 0)]⟩ :: []) hs (by kernel_rfl) ⟨ob1 rfl fun b q hk hn => ok_move rfl (up i0 hk hn.1), ob1 rfl fun b q hk hn => ok_assign rfl hn.1, trivial⟩ hQQ1152 fun b q p => ?_
    exact tail_done (k := q) (hp1153 _ _ ⟨Bs.post ⟨hg, hs, hd⟩ p, keep p 0 rfl i0, keep p 1 rfl i1, keep p 5 rfl i5, out p 1 6 _ rfl rfl rfl, trivial⟩)
  rintro a k ⟨⟨hg, hs, hd⟩, i0, i1, i5, i6, _⟩
  refine wp_seq ?_
  refine wp_seq ?_
  refine cut (fun a' k' => Bs noF k0 176 a' k' ∧ (IsV l_) (a'.get 0) k' ∧ (IsV m_) (a'.get 1) k' ∧ (IsV x1051_0) (a'.get 5) k' ∧ (IsV l_) (a'.get 6) k' ∧ (IsV (α := Int) 0) (a'.get 7) k' ∧ True) ?_ hQ ?_
  · intro Q1150 hQQ1150 hp1151
    refine regionS (a0 := a) (k0 := k) (n := 176) (m := 1) (⟨some (IsV (α := Int) 0), []⟩ :: []) hs (by kernel_rfl) ⟨ob1 rfl fun b q hk hn => ok_assign rfl (isV_int.2 rfl), trivial⟩ hQQ1150 fun b q p => ?_
    exact tail_done (k := q) (hp1151 _ _ ⟨Bs.post ⟨hg, hs, hd⟩ p, keep p 0 rfl i0, keep p 1 rfl i1, keep p 5 rfl i5, keep p 6 rfl i6, out p 0 7 _ rfl rfl rfl, trivial⟩)
  rintro a k ⟨⟨hg, hs, hd⟩, i0, i1, i5, i6, i7, _⟩
  refine wp_block ?_
  obtain ⟨f1143, hf1143, hr⟩ := bind_some hr
  refine cutFe f1143 (fun s' a' k' => Bs noF k0 176 a' k' ∧ (IsV l_) (a'.get 0) k' ∧ (IsV m_) (a'.get 1) k' ∧ (IsV x1051_0) (a'.get 5) k' ∧ (IsV s'.1) (a'.get 6) k' ∧ (IsV s'.2) (a'.get 7) k' ∧ True) (fun i' s' a' k' => (i' = 0 ∧ Bs noF k0 176 a' k' ∧ (IsV x1051_0) (a'.get 5) k' ∧ True)) (fun r' a' k' => bodyPost Try.prog Try.f7 (RetC noF k0 (IsV r')) .ret a' k'.w) ?_ hQ ?_ ?_ ?_
  · intro Q1149 hQQ1149 hgo hex hret
    refine sim_loop ?_ _ _ _ _ _ hf1143 ⟨⟨hg, hs, hd⟩, i0, i1, i5, i6, i7, trivial⟩ Q1149 hQQ1149 hgo hex hret
    clear hr hf1143 hgo hex hret hQQ1149 hQ hg hs hd i0 i1 i5 i6 i7
    intro s1058 fl_ a k hr hS Q hQ hgo1059 hex1060 hret1061
    obtain ⟨⟨hg, hs, hd⟩, i0, i1, i5, i6, i7, _⟩ := hS
    unfold lawKeeps_L0 at hr
    refine wp_seq ?_
    refine wp_seq ?_
    refine cut (fun a' k' => Bs noF k0 176 a' k' ∧ (IsV l_) (a'.get 0) k' ∧ (IsV m_) (a'.get 1) k' ∧ (IsV x1051_0) (a'.get 5) k' ∧ (IsV s1058.1) (a'.get 6) k' ∧ (IsV s1058.2) (a'.get 7) k' ∧ (IsV (decide (s1058.2 < (m_.length : Int)))) (a'.get 31) k' ∧ True) ?_ hQ ?_
    · intro Q1141 hQQ1141 hp1142
      refine regionS (a0 := a) (k0 := k) (n := 176) (m := 4) (⟨some (IsV s1058.2), [(7, none)]⟩ :: ⟨some (IsV m_), [(1, none)]⟩ :: ⟨some (IsV (α := Int) (m_.length : Int)), [(29, some 1)]⟩ :: ⟨some (IsV (decide (s1058.2 < (m_.length : Int)))), [(28, some 0), (30, some 2)]⟩ :: []) hs (by kernel_rfl) ⟨ob1 rfl fun b q hk hn => ok_move rfl (up i7 hk hn.1), ob1 rfl fun b q hk hn => ok_move rfl (up i1 hk hn.1), ob1 rfl fun b q hk hn => ok_len rfl rfl Try.underlying23 (IsV.rd hn.1), ob1 rfl fun b q hk hn => ok_lss rfl hn.1 hn.2.1, trivial⟩ hQQ1141 fun b q p => ?_
      exact tail_done (k := q) (hp1142 _ _ ⟨Bs.post ⟨hg, hs, hd⟩ p, keep p 0 rfl i0, keep p 1 rfl i1, keep p 5 rfl i5, keep p 6 rfl i6, keep p 7 rfl i7, out p 3 31 _ rfl rfl rfl, trivial⟩)
    rintro a k ⟨⟨hg, hs, hd⟩, i0, i1, i5, i6, i7, i31, _⟩
    refine wp_cond_split (isBool i31) (fun hc1140 => ?_) (fun hc1140 => ?_)
    · rw [if_pos hc1140] at hr
      refine wp_skip ?_
      refine wp_seq ?_
      refine wp_block ?_
      refine wp_seq ?_
      obtain ⟨x1063_3, hx1063_3, hr⟩ := bind_some hr
      obtain ⟨x1063_5, hx1063_5, hr⟩ := bind_some hr
      refine cut (fun a' k' => Bs noF k0 176 a' k' ∧ (IsV l_) (a'.get 0) k' ∧ (IsV m_) (a'.get 1) k' ∧ (IsV x1051_0) (a'.get 5) k' ∧ (IsV s1058.1) (a'.get 6) k' ∧ (IsV s1058.2) (a'.get 7) k' ∧ (IsV x1063_5.1) (a'.get 8) k' ∧ (IsV x1063_5.2) (a'.get 9) k' ∧ True) ?_ hQ ?_
      · intro Q1138 hQQ1138 hp1139
        refine regionS (a0 := a) (k0 := k) (n := 176) (m := 11) (⟨some (IsV s1058.1), [(6, none)]⟩ :: ⟨some (IsV m_), [(1, none)]⟩ :: ⟨some (IsV s1058.2), [(7, none)]⟩ :: ⟨some (IsPtr x1063_3), [(36, some 1), (37, some 2)]⟩ :: ⟨some (IsV x1063_3), [(38, some 3)]⟩ :: ⟨some (IsTup2 (IsV x1063_5.1) (IsV x1063_5.2)), [(35, some 0), (39, some 4)]⟩ :: ⟨some (IsTup2 (IsV x1063_5.1) (IsV x1063_5.2)), [(40, some 5)]⟩ :: ⟨some (IsV x1063_5.1), [(34, some 6)]⟩ :: ⟨some (IsV x1063_5.2), [(34, some 6)]⟩ :: ⟨some (IsV x1063_5.1), [(41, some 7)]⟩ :: ⟨some (IsV x1063_5.2), [(42, some 8)]⟩ :: []) hs (by kernel_rfl) ⟨ob1 rfl fun b q hk hn => ok_move rfl (up i6 hk hn.1), ob1 rfl fun b q hk hn => ok_move rfl (up i1 hk hn.1), ob1 rfl fun b q hk hn => ok_move rfl (up i7 hk hn.1), ob1 rfl fun b q hk hn => ok_indexAddr rfl Try.underlying23 ty33 (IsV.rd hn.1) hn.2.1 hx1063_3, ob1 rfl fun b q hk hn => ok_load rfl ty33 hn.1, ob1 rfl fun b q hk hn => ok_call rfl Try.call13 (cDo_ok hn.1 hn.2.1 hx1063_5), ob1 rfl fun b q hk hn => ok_move rfl hn.1, ob1 rfl fun b q hk hn => ok_ext2_0 rfl hn.1, ob1 rfl fun b q hk hn => ok_ext2_1 rfl hn.1, ob1 rfl fun b q hk hn => ok_assign rfl hn.1, ob1 rfl fun b q hk hn => ok_assign rfl hn.1, trivial⟩ hQQ1138 fun b q p => ?_
        exact tail_done (k := q) (hp1139 _ _ ⟨Bs.post ⟨hg, hs, hd⟩ p, keep p 0 rfl i0, keep p 1 rfl i1, keep p 5 rfl i5, keep p 6 rfl i6, keep p 7 rfl i7, out p 9 8 _ rfl rfl rfl, out p 10 9 _ rfl rfl rfl, trivial⟩)
      rintro a k ⟨⟨hg, hs, hd⟩, i0, i1, i5, i6, i7, i8, i9, _⟩
      refine wp_seq ?_
      obtain ⟨x1064_3, hx1064_3, hr⟩ := bind_some hr
      obtain ⟨x1064_4, hx1064_4, hr⟩ := bind_some hr
      obtain ⟨x1064_5, hx1064_5, hr⟩ := bind_some hr
      refine cut (fun a' k' => Bs noF k0 176 a' k' ∧ (IsV l_) (a'.get 0) k' ∧ (IsV m_) (a'.get 1) k' ∧ (IsV x1051_0) (a'.get 5) k' ∧ (IsV s1058.1) (a'.get 6) k' ∧ (IsV s1058.2) (a'.get 7) k' ∧ (IsV x1063_5.1) (a'.get 8) k' ∧ (IsV x1063_5.2) (a'.get 9) k' ∧ (IsV x1064_5.1) (a'.get 10) k' ∧ (IsV x1064_5.2.1) (a'.get 11) k' ∧ (IsV x1064_5.2.2) (a'.get 12) k' ∧ True) ?_ hQ ?_
      · intro Q1136 hQQ1136 hp1137
        refine regionS (a0 := a) (k0 := k) (n := 176) (m := 13) (⟨some (IsV l_), [(0, none)]⟩ :: ⟨some (IsV m_), [(1, none)]⟩ :: ⟨some (IsV s1058.2), [(7, none)]⟩ :: ⟨some (IsV x1064_3), [(46, some 2)]⟩ :: ⟨some (IsV x1064_4), [(45, some 1), (47, some 3)]⟩ :: ⟨some (IsTup3 (IsV x1064_5.1) (IsV x1064_5.2.1) (IsV x1064_5.2.2)), [(44, some 0), (48, some 4)]⟩ :: ⟨some (IsTup3 (IsV x1064_5.1) (IsV x1064_5.2.1) (IsV x1064_5.2.2)), [(49, some 5)]⟩ :: ⟨some (IsV x1064_5.1), [(43, some 6)]⟩ :: ⟨some (IsV x1064_5.2.1), [(43, some 6)]⟩ :: ⟨some (IsV x1064_5.2.2), [(43, some 6)]⟩ :: ⟨some (IsV x1064_5.1), [(50, some 7)]⟩ :: ⟨some (IsV x1064_5.2.1), [(51, some 8)]⟩ :: ⟨some (IsV x1064_5.2.2), [(52, some 9)]⟩ :: []) hs (by kernel_rfl) ⟨ob1 rfl fun b q hk hn => ok_move rfl (up i0 hk hn.1), ob1 rfl fun b q hk hn => ok_move rfl (up i1 hk hn.1), ob1 rfl fun b q hk hn => ok_move rfl (up i7 hk hn.1), ob1 rfl fun b q hk hn => ok_add rfl hn.1 (isV_int.2 rfl) hx1064_3, ob1 rfl fun b q hk hn => ok_slice_hi rfl Try.underlying23 szf33 hn.1 hn.2.1 hx1064_4, ob1 rfl fun b q hk hn => ok_call rfl Try.call10 (cRun_ok hn.1 hn.2.1 hx1064_5), ob1 rfl fun b q hk hn => ok_move rfl hn.1, ob1 rfl fun b q hk hn => ok_ext3_0 rfl hn.1, ob1 rfl fun b q hk hn => ok_ext3_1 rfl hn.1, ob1 rfl fun b q hk hn => ok_ext3_2 rfl hn.1, ob1 rfl fun b q hk hn => ok_assign rfl hn.1, ob1 rfl fun b q hk hn => ok_assign rfl hn.1, ob1 rfl fun b q hk hn => ok_assign rfl hn.1, trivial⟩ hQQ1136 fun b q p => ?_
        exact tail_done (k := q) (hp1137 _ _ ⟨Bs.post ⟨hg, hs, hd⟩ p, keep p 0 rfl i0, keep p 1 rfl i1, keep p 5 rfl i5, keep p 6 rfl i6, keep p 7 rfl i7, keep p 8 rfl i8, keep p 9 rfl i9, out p 10 10 _ rfl rfl rfl, out p 11 11 _ rfl rfl rfl, out p 12 12 _ rfl rfl rfl, trivial⟩)
      rintro a k ⟨⟨hg, hs, hd⟩, i0, i1, i5, i6, i7, i8, i9, i10, i11, i12, _⟩
      refine wp_seq ?_
      refine wp_seq ?_
      refine cut (fun a' k' => Bs noF k0 176 a' k' ∧ (IsV l_) (a'.get 0) k' ∧ (IsV m_) (a'.get 1) k' ∧ (IsV x1051_0) (a'.get 5) k' ∧ (IsV s1058.1) (a'.get 6) k' ∧ (IsV s1058.2) (a'.get 7) k' ∧ (IsV x1063_5.1) (a'.get 8) k' ∧ (IsV x1063_5.2) (a'.get 9) k' ∧ (IsV x1064_5.1) (a'.get 10) k' ∧ (IsV x1064_5.2.1) (a'.get 11) k' ∧ (IsV x1064_5.2.2) (a'.get 12) k' ∧ (IsV (x1063_5.2 != 0)) (a'.get 54) k' ∧ True) ?_ hQ ?_
      · intro Q1134 hQQ1134 hp1135
        refine regionS (a0 := a) (k0 := k) (n := 176) (m := 2) (⟨some (IsV x1063_5.2), [(9, none)]⟩ :: ⟨some (IsV (x1063_5.2 != 0)), [(53, some 0)]⟩ :: []) hs (by kernel_rfl) ⟨ob1 rfl fun b q hk hn => ok_move rfl (up i9 hk hn.1), ob1 rfl fun b q hk hn => ok_neI rfl hn.1 (isV_int.2 rfl), trivial⟩ hQQ1134 fun b q p => ?_
        exact tail_done (k := q) (hp1135 _ _ ⟨Bs.post ⟨hg, hs, hd⟩ p, keep p 0 rfl i0, keep p 1 rfl i1, keep p 5 rfl i5, keep p 6 rfl i6, keep p 7 rfl i7, keep p 8 rfl i8, keep p 9 rfl i9, keep p 10 rfl i10, keep p 11 rfl i11, keep p 12 rfl i12, out p 1 54 _ rfl rfl rfl, trivial⟩)
      rintro a k ⟨⟨hg, hs, hd⟩, i0, i1, i5, i6, i7, i8, i9, i10, i11, i12, i54, _⟩
      refine wp_cond_split (isBool i54) (fun hc1133 => ?_) (fun hc1133 => ?_)
      · rw [if_pos hc1133] at hr
        refine wp_seq ?_
        obtain ⟨x1066_20, hx1066_20, hr⟩ := bind_some hr
        obtain ⟨x1066_19, hx1066_19, hx1066_20⟩ := ite_bind hx1066_20
        refine cut (fun a' k' => Bs noF k0 176 a' k' ∧ (IsV x1066_20) (a'.get 4) k' ∧ True) ?_ hQ ?_
        · intro Q1067 hQQ1067 hp1068
          refine regionS (a0 := a) (k0 := k) (n := 176) (m := 22) (⟨some (IsV x1051_0), [(5, none)]⟩ :: ⟨some (IsV x1051_0), [(55, some 0)]⟩ :: ⟨some (Gd (x1051_0 = true) (IsV x1063_5.2)), [(9, none)]⟩ :: ⟨some (Gd (x1051_0 = true) (IsV x1064_5.2.2)), [(12, none)]⟩ :: ⟨some (Gd (x1051_0 = true) (IsV (x1063_5.2 == x1064_5.2.2))), [(57, some 2), (58, some 3)]⟩ :: ⟨some (IsV (x1051_0 && (x1063_5.2 == x1064_5.2.2))), [(56, some 1), (59, some 4)]⟩ :: ⟨some (IsV (x1051_0 && (x1063_5.2 == x1064_5.2.2))), [(60, some 5)]⟩ :: ⟨some (Gd ((x1051_0 && (x1063_5.2 == x1064_5.2.2)) = true) (IsV x1064_5.2.1)), [(11, none)]⟩ :: ⟨some (Gd ((x1051_0 && (x1063_5.2 == x1064_5.2.2)) = true) (IsV s1058.2)), [(7, none)]⟩ :: ⟨some (Gd ((x1051_0 && (x1063_5.2 == x1064_5.2.2)) = true) (IsV (x1064_5.2.1 == s1058.2))), [(62, some 7), (63, some 8)]⟩ :: ⟨some (IsV ((x1051_0 && (x1063_5.2 == x1064_5.2.2)) && (x1064_5.2.1 == s1058.2))), [(61, some 6), (64, some 9)]⟩ :: ⟨some (IsV ((x1051_0 && (x1063_5.2 == x1064_5.2.2)) && (x1064_5.2.1 == s1058.2))), [(65, some 10)]⟩ :: ⟨some (Gd (((x1051_0 && (x1063_5.2 == x1064_5.2.2)) && (x1064_5.2.1 == s1058.2)) = true) (IsV x1063_5.1)), [(8, none)]⟩ :: ⟨some (Gd (((x1051_0 && (x1063_5.2 == x1064_5.2.2)) && (x1064_5.2.1 == s1058.2)) = true) (IsV (α := Int) (x1063_5.1.length : Int))), [(67, some 12)]⟩ :: ⟨some (Gd (((x1051_0 && (x1063_5.2 == x1064_5.2.2)) && (x1064_5.2.1 == s1058.2)) = true) (IsV ((x1063_5.1.length : Int) == 0))), [(68, some 13)]⟩ :: ⟨some (IsV (((x1051_0 && (x1063_5.2 == x1064_5.2.2)) && (x1064_5.2.1 == s1058.2)) && ((x1063_5.1.length : Int) == 0))), [(66, some 11), (69, some 14)]⟩ :: ⟨some (IsV (((x1051_0 && (x1063_5.2 == x1064_5.2.2)) && (x1064_5.2.1 == s1058.2)) && ((x1063_5.1.length : Int) == 0))), [(70, some 15)]⟩ :: ⟨some (Gd ((((x1051_0 && (x1063_5.2 == x1064_5.2.2)) && (x1064_5.2.1 == s1058.2)) && ((x1063_5.1.length : Int) == 0)) = true) (IsV x1064_5.1)), [(10, none)]⟩ :: ⟨some (Gd ((((x1051_0 && (x1063_5.2 == x1064_5.2.2)) && (x1064_5.2.1 == s1058.2)) && ((x1063_5.1.length : Int) == 0)) = true) (IsV s1058.1)), [(6, none)]⟩ :: ⟨some (Gd ((((x1051_0 && (x1063_5.2 == x1064_5.2.2)) && (x1064_5.2.1 == s1058.2)) && ((x1063_5.1.length : Int) == 0)) = true) (IsV x1066_19)), [(72, some 17), (73, some 18)]⟩ :: ⟨some (IsV x1066_20), [(71, some 16), (74, some 19)]⟩ :: ⟨some (IsV x1066_20), [(75, some 20)]⟩ :: []) hs (by kernel_rfl) ⟨ob1 rfl fun b q hk hn => ok_move rfl (up i5 hk hn.1), ob1 rfl fun b q hk hn => ok_move rfl hn.1, gdT rfl rfl fun hp b q hk hn => ok_move rfl (up i9 hk hn.1), gdT rfl rfl fun hp b q hk hn => ok_move rfl (up i12 hk hn.1), gdT rfl rfl fun hp b q hk hn => ok_eqI rfl (Gd.get hn.1 hp) (Gd.get hn.2.1 hp), ob1 rfl fun b q hk hn => ok_pickAnd rfl hn.1 (fun hm => (Gd.get hn.2.1 hm)) (fun _ => (isV_bool.2 rfl)), ob1 rfl fun b q hk hn => ok_move rfl hn.1, gdT rfl rfl fun hp b q hk hn => ok_move rfl (up i11 hk hn.1), gdT rfl rfl fun hp b q hk hn => ok_move rfl (up i7 hk hn.1), gdT rfl rfl fun hp b q hk hn => ok_eqI rfl (Gd.get hn.1 hp) (Gd.get hn.2.1 hp), ob1 rfl fun b q hk hn => ok_pickAnd rfl hn.1 (fun hm => (Gd.get hn.2.1 hm)) (fun _ => (isV_bool.2 rfl)), ob1 rfl fun b q hk hn => ok_move rfl hn.1, gdT rfl rfl fun hp b q hk hn => ok_move rfl (up i8 hk hn.1), gdT rfl rfl fun hp b q hk hn => ok_len rfl rfl Try.underlying22 (IsV.rd (Gd.get hn.1 hp)), gdT rfl rfl fun hp b q hk hn => ok_eqI rfl (Gd.get hn.1 hp) (isV_int.2 rfl), ob1 rfl fun b q hk hn => ok_pickAnd rfl hn.1 (fun hm => (Gd.get hn.2.1 hm)) (fun _ => (isV_bool.2 rfl)), ob1 rfl fun b q hk hn => ok_move rfl hn.1, gdT rfl rfl fun hp b q hk hn => ok_move rfl (up i10 hk hn.1), gdT rfl rfl fun hp b q hk hn => ok_move rfl (up i6 hk hn.1), gdT rfl rfl fun hp b q hk hn => ok_call rfl Try.call14 (rSame_ok (Gd.get hn.1 hp) (Gd.get hn.2.1 hp) (hx1066_19 hp)), ob1 rfl fun b q hk hn => ok_pickM rfl hn.1 hx1066_20 (fun hm => (Gd.get hn.2.1 hm)) (fun _ => (isV_bool.2 rfl)), ob1 rfl fun b q hk hn => ok_assign rfl hn.1, trivial⟩ hQQ1067 fun b q p => ?_
          exact tail_done (k := q) (hp1068 _ _ ⟨Bs.post ⟨hg, hs, hd⟩ p, out p 21 4 _ rfl rfl rfl, trivial⟩)
        rintro a k ⟨⟨hg, hs, hd⟩, i4, _⟩
        refine wp_ret ?_
        exact hret1061 _ _ _ (Option.some.inj hr).symm (retC1 rfl hd hg i4)
      rw [if_neg (by rw [hc1133]; decide)] at hr
      refine wp_skip ?_
      refine wp_seq ?_
      obtain ⟨x1069_1, hx1069_1, hr⟩ := bind_some hr
      refine cut (fun a' k' => Bs noF k0 176 a' k' ∧ (IsV l_) (a'.get 0) k' ∧ (IsV m_) (a'.get 1) k' ∧ (IsV x1051_0) (a'.get 5) k' ∧ (IsV s1058.1) (a'.get 6) k' ∧ (IsV s1058.2) (a'.get 7) k' ∧ (IsV x1063_5.1) (a'.get 8) k' ∧ (IsV x1064_5.1) (a'.get 10) k' ∧ (IsV x1064_5.2.1) (a'.get 11) k' ∧ (IsV x1064_5.2.2) (a'.get 12) k' ∧ (IsV x1069_1) (a'.get 13) k' ∧ True) ?_ hQ ?_
      · intro Q1131 hQQ1131 hp1132
        refine regionS (a0 := a) (k0 := k) (n := 176) (m := 3) (⟨some (IsV s1058.1), [(6, none)]⟩ :: ⟨some (IsV x1069_1), [(76, some 0)]⟩ :: ⟨some (IsV x1069_1), [(77, some 1)]⟩ :: []) hs (by kernel_rfl) ⟨ob1 rfl fun b q hk hn => ok_move rfl (up i6 hk hn.1), ob1 rfl fun b q hk hn => ok_call rfl Try.call21 (cTotal_ok hn.1 hx1069_1), ob1 rfl fun b q hk hn => ok_assign rfl hn.1, trivial⟩ hQQ1131 fun b q p => ?_
        exact tail_done (k := q) (hp1132 _ _ ⟨Bs.post ⟨hg, hs, hd⟩ p, keep p 0 rfl i0, keep p 1 rfl i1, keep p 5 rfl i5, keep p 6 rfl i6, keep p 7 rfl i7, keep p 8 rfl i8, keep p 10 rfl i10, keep p 11 rfl i11, keep p 12 rfl i12, out p 2 13 _ rfl rfl rfl, trivial⟩)
      rintro a k ⟨⟨hg, hs, hd⟩, i0, i1, i5, i6, i7, i8, i10, i11, i12, i13, _⟩
      refine wp_seq ?_
      refine wp_seq ?_
      obtain ⟨x1070_2, hx1070_2, hr⟩ := bind_some hr
      refine cut (fun a' k' => Bs noF k0 176 a' k' ∧ (IsV l_) (a'.get 0) k' ∧ (IsV m_) (a'.get 1) k' ∧ (IsV x1051_0) (a'.get 5) k' ∧ (IsV s1058.1) (a'.get 6) k' ∧ (IsV s1058.2) (a'.get 7) k' ∧ (IsV x1063_5.1) (a'.get 8) k' ∧ (IsV x1064_5.1) (a'.get 10) k' ∧ (IsV x1064_5.2.1) (a'.get 11) k' ∧ (IsV x1064_5.2.2) (a'.get 12) k' ∧ (IsV x1069_1) (a'.get 13) k' ∧ (IsV (x1070_2.Kind == 0)) (a'.get 83) k' ∧ True) ?_ hQ ?_
      · intro Q1129 hQQ1129 hp1130
        refine regionS (a0 := a) (k0 := k) (n := 176) (m := 6) (⟨some (IsV m_), [(1, none)]⟩ :: ⟨some (IsV s1058.2), [(7, none)]⟩ :: ⟨some (IsPtr x1070_2), [(78, some 0), (79, some 1)]⟩ :: ⟨some (IsPtr x1070_2.Kind), [(80, some 2)]⟩ :: ⟨some (IsV x1070_2.Kind), [(81, some 3)]⟩ :: ⟨some (IsV (x1070_2.Kind == 0)), [(82, some 4)]⟩ :: []) hs (by kernel_rfl) ⟨ob1 rfl fun b q hk hn => ok_move rfl (up i1 hk hn.1), ob1 rfl fun b q hk hn => ok_move rfl (up i7 hk hn.1), ob1 rfl fun b q hk hn => ok_indexAddr rfl Try.underlying23 ty33 (IsV.rd hn.1) hn.2.1 hx1070_2, ob1 rfl fun b q hk hn => ok_fieldAddr rfl fo33_0 (at_Move_0 _) hn.1, ob1 rfl fun b q hk hn => ok_load rfl ty3 hn.1, ob1 rfl fun b q hk hn => ok_eqI rfl hn.1 (isV_int.2 rfl), trivial⟩ hQQ1129 fun b q p => ?_
        exact tail_done (k := q) (hp1130 _ _ ⟨Bs.post ⟨hg, hs, hd⟩ p, keep p 0 rfl i0, keep p 1 rfl i1, keep p 5 rfl i5, keep p 6 rfl i6, keep p 7 rfl i7, keep p 8 rfl i8, keep p 10 rfl i10, keep p 11 rfl i11, keep p 12 rfl i12, keep p 13 rfl i13, out p 5 83 _ rfl rfl rfl, trivial⟩)
      rintro a k ⟨⟨hg, hs, hd⟩, i0, i1, i5, i6, i7, i8, i10, i11, i12, i13, i83, _⟩
      obtain ⟨s1071, hs1071, hr⟩ := bind_some hr
      refine cut (fun a' k' => Bs noF k0 176 a' k' ∧ (IsV l_) (a'.get 0) k' ∧ (IsV m_) (a'.get 1) k' ∧ (IsV x1051_0) (a'.get 5) k' ∧ (IsV s1058.1) (a'.get 6) k' ∧ (IsV s1058.2) (a'.get 7) k' ∧ (IsV x1063_5.1) (a'.get 8) k' ∧ (IsV x1064_5.1) (a'.get 10) k' ∧ (IsV x1064_5.2.1) (a'.get 11) k' ∧ (IsV x1064_5.2.2) (a'.get 12) k' ∧ (IsV s1071) (a'.get 13) k' ∧ True) ?_ hQ ?_
      · intro Q1128 hQQ1128 hp1072
        replace hr := hs1071
        clear hQ
        have hQ := hQQ1128
        refine wp_cond_split (isBool i83) (fun hc1076 => ?_) (fun hc1076 => ?_)
        · rw [if_pos hc1076] at hr
          obtain ⟨x1073_3, hx1073_3, hr⟩ := bind_some hr
          obtain ⟨x1073_6, hx1073_6, hr⟩ := bind_some hr
          refine cut (fun a' k' => Bs noF k0 176 a' k' ∧ (IsV l_) (a'.get 0) k' ∧ (IsV m_) (a'.get 1) k' ∧ (IsV x1051_0) (a'.get 5) k' ∧ (IsV s1058.1) (a'.get 6) k' ∧ (IsV s1058.2) (a'.get 7) k' ∧ (IsV x1063_5.1) (a'.get 8) k' ∧ (IsV x1064_5.1) (a'.get 10) k' ∧ (IsV x1064_5.2.1) (a'.get 11) k' ∧ (IsV x1064_5.2.2) (a'.get 12) k' ∧ (IsV x1073_6) (a'.get 13) k' ∧ True) ?_ hQ ?_
          · intro Q1074 hQQ1074 hp1075
            refine regionS (a0 := a) (k0 := k) (n := 176) (m := 8) (⟨some (IsV x1069_1), [(13, none)]⟩ :: ⟨some (IsV m_), [(1, none)]⟩ :: ⟨some (IsV s1058.2), [(7, none)]⟩ :: ⟨some (IsPtr x1073_3), [(85, some 1), (86, some 2)]⟩ :: ⟨some (IsPtr x1073_3.N), [(87, some 3)]⟩ :: ⟨some (IsV x1073_3.N), [(88, some 4)]⟩ :: ⟨some (IsV x1073_6), [(84, some 0), (89, some 5)]⟩ :: ⟨some (IsV x1073_6), [(90, some 6)]⟩ :: []) hs (by kernel_rfl) ⟨ob1 rfl fun b q hk hn => ok_move rfl (up i13 hk hn.1), ob1 rfl fun b q hk hn => ok_move rfl (up i1 hk hn.1), ob1 rfl fun b q hk hn => ok_move rfl (up i7 hk hn.1), ob1 rfl fun b q hk hn => ok_indexAddr rfl Try.underlying23 ty33 (IsV.rd hn.1) hn.2.1 hx1073_3, ob1 rfl fun b q hk hn => ok_fieldAddr rfl fo33_3 (at_Move_3 _) hn.1, ob1 rfl fun b q hk hn => ok_load rfl ty3 hn.1, ob1 rfl fun b q hk hn => ok_add rfl hn.1 hn.2.1 hx1073_6, ob1 rfl fun b q hk hn => ok_assign rfl hn.1, trivial⟩ hQQ1074 fun b q p => ?_
            exact tail_done (k := q) (hp1075 _ _ ⟨Bs.post ⟨hg, hs, hd⟩ p, keep p 0 rfl i0, keep p 1 rfl i1, keep p 5 rfl i5, keep p 6 rfl i6, keep p 7 rfl i7, keep p 8 rfl i8, keep p 10 rfl i10, keep p 11 rfl i11, keep p 12 rfl i12, out p 7 13 _ rfl rfl rfl, trivial⟩)
          rintro a k ⟨⟨hg, hs, hd⟩, i0, i1, i5, i6, i7, i8, i10, i11, i12, i13, _⟩
          obtain rfl := Option.some.inj hr
          exact hp1072 _ _ ⟨⟨hg, hs, hd⟩, i0, i1, i5, i6, i7, i8, i10, i11, i12, i13, trivial⟩
        rw [if_neg (by rw [hc1076]; decide)] at hr
        refine wp_skip ?_
        obtain rfl := Option.some.inj hr
        exact hp1072 _ _ ⟨⟨hg, hs, hd⟩, i0, i1, i5, i6, i7, i8, i10, i11, i12, i13, trivial⟩
      clear hs1071
      rintro a k ⟨⟨hg, hs, hd⟩, i0, i1, i5, i6, i7, i8, i10, i11, i12, i13, _⟩
      refine wp_seq ?_
      refine wp_seq ?_
      obtain ⟨x1077_2, hx1077_2, hr⟩ := bind_some hr
      obtain ⟨x1077_13, hx1077_13, hr⟩ := bind_some hr
      obtain ⟨x1077_9, hx1077_9, hx1077_13⟩ := ite_bindF hx1077_13
      refine cut (fun a' k' => Bs noF k0 176 a' k' ∧ (IsV l_) (a'.get 0) k' ∧ (IsV m_) (a'.get 1) k' ∧ (IsV x1051_0) (a'.get 5) k' ∧ (IsV s1058.1) (a'.get 6) k' ∧ (IsV s1058.2) (a'.get 7) k' ∧ (IsV x1063_5.1) (a'.get 8) k' ∧ (IsV x1064_5.1) (a'.get 10) k' ∧ (IsV x1064_5.2.1) (a'.get 11) k' ∧ (IsV x1064_5.2.2) (a'.get 12) k' ∧ (IsV s1071) (a'.get 13) k' ∧ (IsV x1077_13) (a'.get 104) k' ∧ True) ?_ hQ ?_
      · intro Q1126 hQQ1126 hp1127
        refine regionS (a0 := a) (k0 := k) (n := 176) (m := 14) (⟨some (IsV m_), [(1, none)]⟩ :: ⟨some (IsV s1058.2), [(7, none)]⟩ :: ⟨some (IsPtr x1077_2), [(91, some 0), (92, some 1)]⟩ :: ⟨some (IsPtr x1077_2.Kind), [(93, some 2)]⟩ :: ⟨some (IsV x1077_2.Kind), [(94, some 3)]⟩ :: ⟨some (IsV (x1077_2.Kind == 2)), [(95, some 4)]⟩ :: ⟨some (IsV (x1077_2.Kind == 2)), [(96, some 5)]⟩ :: ⟨some (Gd ((x1077_2.Kind == 2) = false) (IsV m_)), [(1, none)]⟩ :: ⟨some (Gd ((x1077_2.Kind == 2) = false) (IsV s1058.2)), [(7, none)]⟩ :: ⟨some (Gd ((x1077_2.Kind == 2) = false) (IsPtr x1077_9)), [(98, some 7), (99, some 8)]⟩ :: ⟨some (Gd ((x1077_2.Kind == 2) = false) (IsPtr x1077_9.Kind)), [(100, some 9)]⟩ :: ⟨some (Gd ((x1077_2.Kind == 2) = false) (IsV x1077_9.Kind)), [(101, some 10)]⟩ :: ⟨some (Gd ((x1077_2.Kind == 2) = false) (IsV (x1077_9.Kind == 3))), [(102, some 11)]⟩ :: ⟨some (IsV x1077_13), [(97, some 6), (103, some 12)]⟩ :: []) hs (by kernel_rfl) ⟨ob1 rfl fun b q hk hn => ok_move rfl (up i1 hk hn.1), ob1 rfl fun b q hk hn => ok_move rfl (up i7 hk hn.1), ob1 rfl fun b q hk hn => ok_indexAddr rfl Try.underlying23 ty33 (IsV.rd hn.1) hn.2.1 hx1077_2, ob1 rfl fun b q hk hn => ok_fieldAddr rfl fo33_0 (at_Move_0 _) hn.1, ob1 rfl fun b q hk hn => ok_load rfl ty3 hn.1, ob1 rfl fun b q hk hn => ok_eqI rfl hn.1 (isV_int.2 rfl), ob1 rfl fun b q hk hn => ok_move rfl hn.1, gdF rfl rfl fun hp b q hk hn => ok_move rfl (up i1 hk hn.1), gdF rfl rfl fun hp b q hk hn => ok_move rfl (up i7 hk hn.1), gdF rfl rfl fun hp b q hk hn => ok_indexAddr rfl Try.underlying23 ty33 (IsV.rd (Gd.get hn.1 hp)) (Gd.get hn.2.1 hp) (hx1077_9 hp), gdF rfl rfl fun hp b q hk hn => ok_fieldAddr rfl fo33_0 (at_Move_0 _) (Gd.get hn.1 hp), gdF rfl rfl fun hp b q hk hn => ok_load rfl ty3 (Gd.get hn.1 hp), gdF rfl rfl fun hp b q hk hn => ok_eqI rfl (Gd.get hn.1 hp) (isV_int.2 rfl), ob1 rfl fun b q hk hn => ok_pickM rfl hn.1 hx1077_13 (fun _ => (isV_bool.2 rfl)) (fun hm => (Gd.get hn.2.1 hm)), trivial⟩ hQQ1126 fun b q p => ?_
        exact tail_done (k := q) (hp1127 _ _ ⟨Bs.post ⟨hg, hs, hd⟩ p, keep p 0 rfl i0, keep p 1 rfl i1, keep p 5 rfl i5, keep p 6 rfl i6, keep p 7 rfl i7, keep p 8 rfl i8, keep p 10 rfl i10, keep p 11 rfl i11, keep p 12 rfl i12, keep p 13 rfl i13, out p 13 104 _ rfl rfl rfl, trivial⟩)
      rintro a k ⟨⟨hg, hs, hd⟩, i0, i1, i5, i6, i7, i8, i10, i11, i12, i13, i104, _⟩
      obtain ⟨s1078, hs1078, hr⟩ := bind_some hr
      refine cut (fun a' k' => Bs noF k0 176 a' k' ∧ (IsV l_) (a'.get 0) k' ∧ (IsV m_) (a'.get 1) k' ∧ (IsV x1051_0) (a'.get 5) k' ∧ (IsV s1058.1) (a'.get 6) k' ∧ (IsV s1058.2) (a'.get 7) k' ∧ (IsV x1063_5.1) (a'.get 8) k' ∧ (IsV x1064_5.1) (a'.get 10) k' ∧ (IsV x1064_5.2.1) (a'.get 11) k' ∧ (IsV x1064_5.2.2) (a'.get 12) k' ∧ (IsV s1078) (a'.get 13) k' ∧ True) ?_ hQ ?_
      · intro Q1125 hQQ1125 hp1079
        replace hr := hs1078
        clear hQ
        have hQ := hQQ1125
        refine wp_cond_split (isBool i104) (fun hc1083 => ?_) (fun hc1083 => ?_)
        · rw [if_pos hc1083] at hr
          obtain ⟨x1080_3, hx1080_3, hr⟩ := bind_some hr
          obtain ⟨x1080_6, hx1080_6, hr⟩ := bind_some hr
          refine cut (fun a' k' => Bs noF k0 176 a' k' ∧ (IsV l_) (a'.get 0) k' ∧ (IsV m_) (a'.get 1) k' ∧ (IsV x1051_0) (a'.get 5) k' ∧ (IsV s1058.1) (a'.get 6) k' ∧ (IsV s1058.2) (a'.get 7) k' ∧ (IsV x1063_5.1) (a'.get 8) k' ∧ (IsV x1064_5.1) (a'.get 10) k' ∧ (IsV x1064_5.2.1) (a'.get 11) k' ∧ (IsV x1064_5.2.2) (a'.get 12) k' ∧ (IsV x1080_6) (a'.get 13) k' ∧ True) ?_ hQ ?_
          · intro Q1081 hQQ1081 hp1082
            refine regionS (a0 := a) (k0 := k) (n := 176) (m := 8) (⟨some (IsV s1071), [(13, none)]⟩ :: ⟨some (IsV m_), [(1, none)]⟩ :: ⟨some (IsV s1058.2), [(7, none)]⟩ :: ⟨some (IsPtr x1080_3), [(106, some 1), (107, some 2)]⟩ :: ⟨some (IsPtr x1080_3.N), [(108, some 3)]⟩ :: ⟨some (IsV x1080_3.N), [(109, some 4)]⟩ :: ⟨some (IsV x1080_6), [(105, some 0), (110, some 5)]⟩ :: ⟨some (IsV x1080_6), [(111, some 6)]⟩ :: []) hs (by kernel_rfl) ⟨ob1 rfl fun b q hk hn => ok_move rfl (up i13 hk hn.1), ob1 rfl fun b q hk hn => ok_move rfl (up i1 hk hn.1), ob1 rfl fun b q hk hn => ok_move rfl (up i7 hk hn.1), ob1 rfl fun b q hk hn => ok_indexAddr rfl Try.underlying23 ty33 (IsV.rd hn.1) hn.2.1 hx1080_3, ob1 rfl fun b q hk hn => ok_fieldAddr rfl fo33_3 (at_Move_3 _) hn.1, ob1 rfl fun b q hk hn => ok_load rfl ty3 hn.1, ob1 rfl fun b q hk hn => ok_sub rfl hn.1 hn.2.1 hx1080_6, ob1 rfl fun b q hk hn => ok_assign rfl hn.1, trivial⟩ hQQ1081 fun b q p => ?_
            exact tail_done (k := q) (hp1082 _ _ ⟨Bs.post ⟨hg, hs, hd⟩ p, keep p 0 rfl i0, keep p 1 rfl i1, keep p 5 rfl i5, keep p 6 rfl i6, keep p 7 rfl i7, keep p 8 rfl i8, keep p 10 rfl i10, keep p 11 rfl i11, keep p 12 rfl i12, out p 7 13 _ rfl rfl rfl, trivial⟩)
          rintro a k ⟨⟨hg, hs, hd⟩, i0, i1, i5, i6, i7, i8, i10, i11, i12, i13, _⟩
          obtain rfl := Option.some.inj hr
          exact hp1079 _ _ ⟨⟨hg, hs, hd⟩, i0, i1, i5, i6, i7, i8, i10, i11, i12, i13, trivial⟩
        rw [if_neg (by rw [hc1083]; decide)] at hr
        refine wp_skip ?_
        obtain rfl := Option.some.inj hr
        exact hp1079 _ _ ⟨⟨hg, hs, hd⟩, i0, i1, i5, i6, i7, i8, i10, i11, i12, i13, trivial⟩
      clear hs1078
      rintro a k ⟨⟨hg, hs, hd⟩, i0, i1, i5, i6, i7, i8, i10, i11, i12, i13, _⟩
      refine wp_seq ?_
      refine wp_seq ?_
      obtain ⟨x1084_1, hx1084_1, hr⟩ := bind_some hr
      obtain ⟨x1084_8, hx1084_8, hr⟩ := bind_some hr
      obtain ⟨x1084_5, hx1084_5, hx1084_8⟩ := ite_bindF hx1084_8
      obtain ⟨x1084_18, hx1084_18, hr⟩ := bind_some hr
      obtain ⟨x1084_16, hx1084_16, hx1084_18⟩ := ite_bindF hx1084_18
      obtain ⟨x1084_24, hx1084_24, hr⟩ := bind_some hr
      obtain ⟨x1084_22, hx1084_22, hx1084_24⟩ := ite_bindF hx1084_24
      refine cut (fun a' k' => Bs noF k0 176 a' k' ∧ (IsV l_) (a'.get 0) k' ∧ (IsV m_) (a'.get 1) k' ∧ (IsV x1051_0) (a'.get 5) k' ∧ (IsV s1058.1) (a'.get 6) k' ∧ (IsV s1058.2) (a'.get 7) k' ∧ (IsV x1063_5.1) (a'.get 8) k' ∧ (IsV x1084_24) (a'.get 136) k' ∧ True) ?_ hQ ?_
      · intro Q1123 hQQ1123 hp1124
        refine regionS (a0 := a) (k0 := k) (n := 176) (m := 25) (⟨some (IsV x1063_5.1), [(8, none)]⟩ :: ⟨some (IsV x1084_1), [(112, some 0)]⟩ :: ⟨some (IsV (!x1084_1)), [(113, some 1)]⟩ :: ⟨some (IsV (!x1084_1)), [(114, some 2)]⟩ :: ⟨some (Gd ((!x1084_1) = false) (IsV x1063_5.1)), [(8, none)]⟩ :: ⟨some (Gd ((!x1084_1) = false) (IsV x1084_5)), [(116, some 4)]⟩ :: ⟨some (Gd ((!x1084_1) = false) (IsV s1078)), [(13, none)]⟩ :: ⟨some (Gd ((!x1084_1) = false) (IsV (x1084_5 != s1078))), [(117, some 5), (118, some 6)]⟩ :: ⟨some (IsV x1084_8), [(115, some 3), (119, some 7)]⟩ :: ⟨some (IsV x1084_8), [(120, some 8)]⟩ :: ⟨some (Gd (x1084_8 = false) (IsV x1064_5.2.2)), [(12, none)]⟩ :: ⟨some (Gd (x1084_8 = false) (IsV (x1064_5.2.2 != 0))), [(122, some 10)]⟩ :: ⟨some (IsV (x1084_8 || (x1064_5.2.2 != 0))), [(121, some 9), (123, some 11)]⟩ :: ⟨some (IsV (x1084_8 || (x1064_5.2.2 != 0))), [(124, some 12)]⟩ :: ⟨some (Gd ((x1084_8 || (x1064_5.2.2 != 0)) = false) (IsV x1064_5.2.1)), [(11, none)]⟩ :: ⟨some (Gd ((x1084_8 || (x1064_5.2.2 != 0)) = false) (IsV s1058.2)), [(7, none)]⟩ :: ⟨some (Gd ((x1084_8 || (x1064_5.2.2 != 0)) = false) (IsV x1084_16)), [(127, some 15)]⟩ :: ⟨some (Gd ((x1084_8 || (x1064_5.2.2 != 0)) = false) (IsV (x1064_5.2.1 != x1084_16))), [(126, some 14), (128, some 16)]⟩ :: ⟨some (IsV x1084_18), [(125, some 13), (129, some 17)]⟩ :: ⟨some (IsV x1084_18), [(130, some 18)]⟩ :: ⟨some (Gd (x1084_18 = false) (IsV x1064_5.1)), [(10, none)]⟩ :: ⟨some (Gd (x1084_18 = false) (IsV x1063_5.1)), [(8, none)]⟩ :: ⟨some (Gd (x1084_18 = false) (IsV x1084_22)), [(132, some 20), (133, some 21)]⟩ :: ⟨some (Gd (x1084_18 = false) (IsV (!x1084_22))), [(134, some 22)]⟩ :: ⟨some (IsV x1084_24), [(131, some 19), (135, some 23)]⟩ :: []) hs (by kernel_rfl) ⟨ob1 rfl fun b q hk hn => ok_move rfl (up i8 hk hn.1), ob1 rfl fun b q hk hn => ok_call rfl Try.call17 (cRight_ok hn.1 hx1084_1), ob1 rfl fun b q hk hn => ok_not rfl hn.1, ob1 rfl fun b q hk hn => ok_move rfl hn.1, gdF rfl rfl fun hp b q hk hn => ok_move rfl (up i8 hk hn.1), gdF rfl rfl fun hp b q hk hn => ok_call rfl Try.call21 (cTotal_ok (Gd.get hn.1 hp) (hx1084_5 hp)), gdF rfl rfl fun hp b q hk hn => ok_move rfl (up i13 hk hn.1), gdF rfl rfl fun hp b q hk hn => ok_neI rfl (Gd.get hn.1 hp) (Gd.get hn.2.1 hp), ob1 rfl fun b q hk hn => ok_pickM rfl hn.1 hx1084_8 (fun _ => (isV_bool.2 rfl)) (fun hm => (Gd.get hn.2.1 hm)), ob1 rfl fun b q hk hn => ok_move rfl hn.1, gdF rfl rfl fun hp b q hk hn => ok_move rfl (up i12 hk hn.1), gdF rfl rfl fun hp b q hk hn => ok_neI rfl (Gd.get hn.1 hp) (isV_int.2 rfl), ob1 rfl fun b q hk hn => ok_pickOr rfl hn.1 (fun _ => (isV_bool.2 rfl)) (fun hm => (Gd.get hn.2.1 hm)), ob1 rfl fun b q hk hn => ok_move rfl hn.1, gdF rfl rfl fun hp b q hk hn => ok_move rfl (up i11 hk hn.1), gdF rfl rfl fun hp b q hk hn => ok_move rfl (up i7 hk hn.1), gdF rfl rfl fun hp b q hk hn => ok_add rfl (Gd.get hn.1 hp) (isV_int.2 rfl) (hx1084_16 hp), gdF rfl rfl fun hp b q hk hn => ok_neI rfl (Gd.get hn.1 hp) (Gd.get hn.2.1 hp), ob1 rfl fun b q hk hn => ok_pickM rfl hn.1 hx1084_18 (fun _ => (isV_bool.2 rfl)) (fun hm => (Gd.get hn.2.1 hm)), ob1 rfl fun b q hk hn => ok_move rfl hn.1, gdF rfl rfl fun hp b q hk hn => ok_move rfl (up i10 hk hn.1), gdF rfl rfl fun hp b q hk hn => ok_move rfl (up i8 hk hn.1), gdF rfl rfl fun hp b q hk hn => ok_call rfl Try.call14 (rSame_ok (Gd.get hn.1 hp) (Gd.get hn.2.1 hp) (hx1084_22 hp)), gdF rfl rfl fun hp b q hk hn => ok_not rfl (Gd.get hn.1 hp), ob1 rfl fun b q hk hn => ok_pickM rfl hn.1 hx1084_24 (fun _ => (isV_bool.2 rfl)) (fun hm => (Gd.get hn.2.1 hm)), trivial⟩ hQQ1123 fun b q p => ?_
        exact tail_done (k := q) (hp1124 _ _ ⟨Bs.post ⟨hg, hs, hd⟩ p, keep p 0 rfl i0, keep p 1 rfl i1, keep p 5 rfl i5, keep p 6 rfl i6, keep p 7 rfl i7, keep p 8 rfl i8, out p 24 136 _ rfl rfl rfl, trivial⟩)
      rintro a k ⟨⟨hg, hs, hd⟩, i0, i1, i5, i6, i7, i8, i136, _⟩
      refine wp_cond_split (isBool i136) (fun hc1122 => ?_) (fun hc1122 => ?_)
      · rw [if_pos hc1122] at hr
        refine wp_seq ?_
        refine cut (fun a' k' => Bs noF k0 176 a' k' ∧ (IsV false) (a'.get 4) k' ∧ True) ?_ hQ ?_
        · intro Q1086 hQQ1086 hp1087
          refine regionS (a0 := a) (k0 := k) (n := 176) (m := 1) (⟨some (IsV false), []⟩ :: []) hs (by kernel_rfl) ⟨ob1 rfl fun b q hk hn => ok_assign rfl (isV_bool.2 rfl), trivial⟩ hQQ1086 fun b q p => ?_
          exact tail_done (k := q) (hp1087 _ _ ⟨Bs.post ⟨hg, hs, hd⟩ p, out p 0 4 _ rfl rfl rfl, trivial⟩)
        rintro a k ⟨⟨hg, hs, hd⟩, i4, _⟩
        refine wp_ret ?_
        exact hret1061 _ _ _ (Option.some.inj hr).symm (retC1 rfl hd hg i4)
      rw [if_neg (by rw [hc1122]; decide)] at hr
      refine wp_skip ?_
      refine wp_seq ?_
      refine wp_seq ?_
      refine cut (fun a' k' => Bs noF k0 176 a' k' ∧ (IsV l_) (a'.get 0) k' ∧ (IsV m_) (a'.get 1) k' ∧ (IsV x1051_0) (a'.get 5) k' ∧ (IsV s1058.1) (a'.get 6) k' ∧ (IsV s1058.2) (a'.get 7) k' ∧ (IsV x1063_5.1) (a'.get 8) k' ∧ (IsV (α := Int) 0) (a'.get 14) k' ∧ True) ?_ hQ ?_
      · intro Q1120 hQQ1120 hp1121
        refine regionS (a0 := a) (k0 := k) (n := 176) (m := 1) (⟨some (IsV (α := Int) 0), []⟩ :: []) hs (by kernel_rfl) ⟨ob1 rfl fun b q hk hn => ok_assign rfl (isV_int.2 rfl), trivial⟩ hQQ1120 fun b q p => ?_
        exact tail_done (k := q) (hp1121 _ _ ⟨Bs.post ⟨hg, hs, hd⟩ p, keep p 0 rfl i0, keep p 1 rfl i1, keep p 5 rfl i5, keep p 6 rfl i6, keep p 7 rfl i7, keep p 8 rfl i8, out p 0 14 _ rfl rfl rfl, trivial⟩)
      rintro a k ⟨⟨hg, hs, hd⟩, i0, i1, i5, i6, i7, i8, i14, _⟩
      refine wp_block ?_
      obtain ⟨f1110, hf1110, hr⟩ := bind_some hr
      refine cutFe f1110 (fun s' a' k' => Bs noF k0 176 a' k' ∧ (IsV l_) (a'.get 0) k' ∧ (IsV m_) (a'.get 1) k' ∧ (IsV x1051_0) (a'.get 5) k' ∧ (IsV s1058.1) (a'.get 6) k' ∧ (IsV s1058.2) (a'.get 7) k' ∧ (IsV x1063_5.1) (a'.get 8) k' ∧ (IsV s') (a'.get 14) k' ∧ True) (fun i' s' a' k' => (i' = 2 ∧ Bs noF k0 176 a' k' ∧ (IsV l_) (a'.get 0) k' ∧ (IsV m_) (a'.get 1) k' ∧ (IsV x1051_0) (a'.get 5) k' ∧ (IsV s1058.2) (a'.get 7) k' ∧ (IsV x1063_5.1) (a'.get 8) k' ∧ True)) (fun r' a' k' => bodyPost Try.prog Try.f7 (RetC noF k0 (IsV r')) .ret a' k'.w) ?_ hQ ?_ ?_ ?_
      · intro Q1119 hQQ1119 hgo hex hret
        refine sim_loop ?_ _ _ _ _ _ hf1110 ⟨⟨hg, hs, hd⟩, i0, i1, i5, i6, i7, i8, i14, trivial⟩ Q1119 hQQ1119 hgo hex hret
        clear hr hf1110 hgo hex hret hQQ1119 hQ hg hs hd i0 i1 i14 i5 i6 i7 i8
        intro s1089 fl_ a k hr hS Q hQ hgo1090 hex1091 hret1092
        obtain ⟨⟨hg, hs, hd⟩, i0, i1, i5, i6, i7, i8, i14, _⟩ := hS
        unfold lawKeeps_L1 at hr
        refine wp_seq ?_
        refine wp_seq ?_
        refine cut (fun a' k' => Bs noF k0 176 a' k' ∧ (IsV l_) (a'.get 0) k' ∧ (IsV m_) (a'.get 1) k' ∧ (IsV x1051_0) (a'.get 5) k' ∧ (IsV s1058.1) (a'.get 6) k' ∧ (IsV s1058.2) (a'.get 7) k' ∧ (IsV x1063_5.1) (a'.get 8) k' ∧ (IsV s1089) (a'.get 14) k' ∧ (IsV (decide (s1089 < (s1058.1.length : Int)))) (a'.get 140) k' ∧ True) ?_ hQ ?_
        · intro Q1108 hQQ1108 hp1109
          refine regionS (a0 := a) (k0 := k) (n := 176) (m := 4) (⟨some (IsV s1089), [(14, none)]⟩ :: ⟨some (IsV s1058.1), [(6, none)]⟩ :: ⟨some (IsV (α := Int) (s1058.1.length : Int)), [(138, some 1)]⟩ :: ⟨some (IsV (decide (s1089 < (s1058.1.length : Int)))), [(137, some 0), (139, some 2)]⟩ :: []) hs (by kernel_rfl) ⟨ob1 rfl fun b q hk hn => ok_move rfl (up i14 hk hn.1), ob1 rfl fun b q hk hn => ok_move rfl (up i6 hk hn.1), ob1 rfl fun b q hk hn => ok_len rfl rfl Try.underlying22 (IsV.rd hn.1), ob1 rfl fun b q hk hn => ok_lss rfl hn.1 hn.2.1, trivial⟩ hQQ1108 fun b q p => ?_
          exact tail_done (k := q) (hp1109 _ _ ⟨Bs.post ⟨hg, hs, hd⟩ p, keep p 0 rfl i0, keep p 1 rfl i1, keep p 5 rfl i5, keep p 6 rfl i6, keep p 7 rfl i7, keep p 8 rfl i8, keep p 14 rfl i14, out p 3 140 _ rfl rfl rfl, trivial⟩)
        rintro a k ⟨⟨hg, hs, hd⟩, i0, i1, i5, i6, i7, i8, i14, i140, _⟩
        refine wp_cond_split (isBool i140) (fun hc1107 => ?_) (fun hc1107 => ?_)
        · rw [if_pos hc1107] at hr
          refine wp_skip ?_
          refine wp_seq ?_
          refine wp_block ?_
          refine wp_seq ?_
          obtain ⟨x1094_2, hx1094_2, hr⟩ := bind_some hr
          refine cut (fun a' k' => Bs noF k0 176 a' k' ∧ (IsV l_) (a'.get 0) k' ∧ (IsV m_) (a'.get 1) k' ∧ (IsV x1051_0) (a'.get 5) k' ∧ (IsV s1058.1) (a'.get 6) k' ∧ (IsV s1058.2) (a'.get 7) k' ∧ (IsV x1063_5.1) (a'.get 8) k' ∧ (IsV s1089) (a'.get 14) k' ∧ (IsRef x1094_2) (a'.get 15) k' ∧ True) ?_ hQ ?_
          · intro Q1105 hQQ1105 hp1106
            refine regionS (a0 := a) (k0 := k) (n := 176) (m := 5) (⟨some (IsV s1058.1), [(6, none)]⟩ :: ⟨some (IsV s1089), [(14, none)]⟩ :: ⟨some (IsPtr x1094_2), [(143, some 0), (144, some 1)]⟩ :: ⟨some (IsV x1094_2), [(145, some 2)]⟩ :: ⟨some (IsBox k.w.heap.size (⟨0, 0, false⟩ : Account)), []⟩ :: []) hs (by kernel_rfl) ⟨ob1 rfl fun b q hk hn => ok_move rfl (up i6 hk hn.1), ob1 rfl fun b q hk hn => ok_move rfl (up i14 hk hn.1), ob1 rfl fun b q hk hn => ok_indexAddr rfl Try.underlying22 ty35 (IsV.rd hn.1) hn.2.1 hx1094_2, ob1 rfl fun b q hk hn => ok_load rfl ty35 hn.1, ob1 rfl fun b q hk hn => ok_alloc _ hk.size rfl z35, trivial⟩ hQQ1105 fun b q p => ?_
            have hgq := hg.then p.grow
            have hsb := p.size.trans hs
            have hdb := p.defers.trans hd
            have j0 := keep p 0 rfl i0
            have j1 := keep p 1 rfl i1
            have j5 := keep p 5 rfl i5
            have j6 := keep p 6 rfl i6
            have j7 := keep p 7 rfl i7
            have j8 := keep p 8 rfl i8
            have j14 := keep p 14 rfl i14
            obtain ⟨b15, j15, x15, z15⟩ : (IsBox k.w.heap.size (⟨0, 0, false⟩ : Account)) (b.get 15) q := out p 4 15 _ rfl rfl rfl
            replace x15 : Lo k (Eq b15) := Lo.eq x15
            have y15 : Lo k0 (Eq b15) := x15.chg hg
            have j146 : (IsV x1094_2) (b.get 146) q := out p 3 146 _ rfl rfl rfl
            have hns := z15.nshF
            refine tail_storeB (i := 5) rfl rfl rfl rfl szf35 (Upd.self (α := Account)) j15 z15 j146 fun q2 hch hz => ?_
            replace hgq := hgq.step hch y15.wr
            have hle := hch.le hns
            replace j0 := Pers.pers hle j0
            replace j1 := Pers.pers hle j1
            replace j5 := Pers.pers hle j5
            replace j6 := Pers.pers hle j6
            replace j7 := Pers.pers hle j7
            replace j8 := Pers.pers hle j8
            replace j14 := Pers.pers hle j14
            replace j146 := Pers.pers hle j146
            replace z15 := hz
            clear hns hle hch
            obtain ⟨q, hqq⟩ : ∃ q, q = q2 := ⟨q2, rfl⟩
            subst hqq
            obtain ⟨q2, hsh, jn⟩ := z15.give
            replace j0 := Pers.pers hsh.le j0
            replace j1 := Pers.pers hsh.le j1
            replace j5 := Pers.pers hsh.le j5
            replace j6 := Pers.pers hsh.le j6
            replace j7 := Pers.pers hsh.le j7
            replace j8 := Pers.pers hsh.le j8
            replace j14 := Pers.pers hsh.le j14
            rw [← j15] at jn
            replace j15 := jn
            replace hgq := hgq.hand hsh y15.wr
            rw [← hsh.w]
            clear hsh
            obtain ⟨q, hqq⟩ : ∃ q, q = q2 := ⟨q2, rfl⟩
            subst hqq
            exact tail_done (k := q) (hp1106 _ _ ⟨⟨hgq, hsb, hdb⟩, j0, j1, j5, j6, j7, j8, j14, j15, trivial⟩)
          rintro a k ⟨⟨hg, hs, hd⟩, i0, i1, i5, i6, i7, i8, i14, i15, _⟩
          refine wp_seq ?_
          obtain ⟨x1095_4, hx1095_4, hr⟩ := bind_some hr
          obtain ⟨x1095_17, hx1095_17, hr⟩ := bind_some hr
          obtain ⟨x1095_13, hx1095_13, hx1095_17⟩ := ite_bind hx1095_17
          obtain ⟨x1095_26, hx1095_26, hr⟩ := bind_some hr
          obtain ⟨x1095_22, hx1095_22, hx1095_26⟩ := ite_bind hx1095_26
          refine cut (fun a' k' => Bs noF k0 176 a' k' ∧ (IsV l_) (a'.get 0) k' ∧ (IsV m_) (a'.get 1) k' ∧ (IsV x1051_0) (a'.get 5) k' ∧ (IsV s1058.1) (a'.get 6) k' ∧ (IsV s1058.2) (a'.get 7) k' ∧ (IsV x1063_5.1) (a'.get 8) k' ∧ (IsV s1089) (a'.get 14) k' ∧ (IsV x1095_26) (a'.get 173) k' ∧ True) ?_ hQ ?_
          · intro Q1103 hQQ1103 hp1104
            refine region (a0 := a) (k0 := k) (n := 176) (m := 27) (⟨some (IsPtr x1094_2.Lot), [(15, none)]⟩ :: ⟨some (IsV x1094_2.Lot), [(147, some 0)]⟩ :: ⟨some (IsV m_), [(1, none)]⟩ :: ⟨some (IsV s1058.2), [(7, none)]⟩ :: ⟨some (IsPtr x1095_4), [(149, some 2), (150, some 3)]⟩ :: ⟨some (IsPtr x1095_4.From), [(151, some 4)]⟩ :: ⟨some (IsV x1095_4.From), [(152, some 5)]⟩ :: ⟨some (IsV (x1094_2.Lot != x1095_4.From)), [(148, some 1), (153, some 6)]⟩ :: ⟨some (IsV (x1094_2.Lot != x1095_4.From)), [(154, some 7)]⟩ :: ⟨some (Gd ((x1094_2.Lot != x1095_4.From) = true) (IsPtr x1094_2.Lot)), [(15, none)]⟩ :: ⟨some (Gd ((x1094_2.Lot != x1095_4.From) = true) (IsV x1094_2.Lot)), [(156, some 9)]⟩ :: ⟨some (Gd ((x1094_2.Lot != x1095_4.From) = true) (IsV m_)), [(1, none)]⟩ :: ⟨some (Gd ((x1094_2.Lot != x1095_4.From) = true) (IsV s1058.2)), [(7, none)]⟩ :: ⟨some (Gd ((x1094_2.Lot != x1095_4.From) = true) (IsPtr x1095_13)), [(158, some 11), (159, some 12)]⟩ :: ⟨some (Gd ((x1094_2.Lot != x1095_4.From) = true) (IsPtr x1095_13.To)), [(160, some 13)]⟩ :: ⟨some (Gd ((x1094_2.Lot != x1095_4.From) = true) (IsV x1095_13.To)), [(161, some 14)]⟩ :: ⟨some (Gd ((x1094_2.Lot != x1095_4.From) = true) (IsV (x1094_2.Lot != x1095_13.To))), [(157, some 10), (162, some 15)]⟩ :: ⟨some (IsV x1095_17), [(155, some 8), (163, some 16)]⟩ :: ⟨some (IsV x1095_17), [(164, some 17)]⟩ :: ⟨some (Gd (x1095_17 = true) (IsV x1063_5.1)), [(8, none)]⟩ :: ⟨some (Gd (x1095_17 = true) (IsPtr x1094_2.Lot)), [(15, none)]⟩ :: ⟨some (Gd (x1095_17 = true) (IsV x1094_2.Lot)), [(167, some 20)]⟩ :: ⟨some (Gd (x1095_17 = true) (IsV x1095_22)), [(166, some 19), (168, some 21)]⟩ :: ⟨some (Gd (x1095_17 = true) (IsPtr x1094_2.Units)), [(15, none)]⟩ :: ⟨some (Gd (x1095_17 = true) (IsV x1094_2.Units)), [(170, some 23)]⟩ :: ⟨some (Gd (x1095_17 = true) (IsV (x1095_22 != x1094_2.Units))), [(169, some 22), (171, some 24)]⟩ :: ⟨some (IsV x1095_26), [(165, some 18), (172, some 25)]⟩ :: []) hmix hs (by kernel_rfl) ⟨ob1 rfl fun b q hk hn => ok_fieldAddr rfl fo35_0 (at_Account_0 _) ((up i15 hk hn.1)).ptr, ob1 rfl fun b q hk hn => ok_load rfl ty3 hn.1, ob1 rfl fun b q hk hn => ok_move rfl (up i1 hk hn.1), ob1 rfl fun b q hk hn => ok_move rfl (up i7 hk hn.1), ob1 rfl fun b q hk hn => ok_indexAddr rfl Try.underlying23 ty33 (IsV.rd hn.1) hn.2.1 hx1095_4, ob1 rfl fun b q hk hn => ok_fieldAddr rfl fo33_1 (at_Move_1 _) hn.1, ob1 rfl fun b q hk hn => ok_load rfl ty3 hn.1, ob1 rfl fun b q hk hn => ok_neI rfl hn.1 hn.2.1, ob1 rfl fun b q hk hn => ok_move rfl hn.1, gdT rfl rfl fun hp b q hk hn => ok_fieldAddr rfl fo35_0 (at_Account_0 _) ((up i15 hk hn.1)).ptr, gdT rfl rfl fun hp b q hk hn => ok_load rfl ty3 (Gd.get hn.1 hp), gdT rfl rfl fun hp b q hk hn => ok_move rfl (up i1 hk hn.1), gdT rfl rfl fun hp b q hk hn => ok_move rfl (up i7 hk hn.1), gdT rfl rfl fun hp b q hk hn => ok_indexAddr rfl Try.underlying23 ty33 (IsV.rd (Gd.get hn.1 hp)) (Gd.get hn.2.1 hp) (hx1095_13 hp), gdT rfl rfl fun hp b q hk hn => ok_fieldAddr rfl fo33_2 (at_Move_2 _) (Gd.get hn.1 hp), gdT rfl rfl fun hp b q hk hn => ok_load rfl ty3 (Gd.get hn.1 hp), gdT rfl rfl fun hp b q hk hn => ok_neI rfl (Gd.get hn.1 hp) (Gd.get hn.2.1 hp), ob1 rfl fun b q hk hn => ok_pickM rfl hn.1 hx1095_17 (fun hm => (Gd.get hn.2.1 hm)) (fun _ => (isV_bool.2 rfl)), ob1 rfl fun b q hk hn => ok_move rfl hn.1, gdT rfl rfl fun hp b q hk hn => ok_move rfl (up i8 hk hn.1), gdT rfl rfl fun hp b q hk hn => ok_fieldAddr rfl fo35_0 (at_Account_0 _) ((up i15 hk hn.1)).ptr, gdT rfl rfl fun hp b q hk hn => ok_load rfl ty3 (Gd.get hn.1 hp), gdT rfl rfl fun hp b q hk hn => ok_call rfl Try.call19 (cUnits_ok (Gd.get hn.1 hp) (Gd.get hn.2.1 hp) (hx1095_22 hp)), gdT rfl rfl fun hp b q hk hn => ok_fieldAddr rfl fo35_1 (at_Account_1 _) ((up i15 hk hn.1)).ptr, gdT rfl rfl fun hp b q hk hn => ok_load rfl ty3 (Gd.get hn.1 hp), gdT rfl rfl fun hp b q hk hn => ok_neI rfl (Gd.get hn.1 hp) (Gd.get hn.2.1 hp), ob1 rfl fun b q hk hn => ok_pickM rfl hn.1 hx1095_26 (fun hm => (Gd.get hn.2.1 hm)) (fun _ => (isV_bool.2 rfl)), trivial⟩ hQQ1103 fun b q p => ?_
            exact tail_done (k := q) (hp1104 _ _ ⟨Bs.post ⟨hg, hs, hd⟩ p, keep p 0 rfl i0, keep p 1 rfl i1, keep p 5 rfl i5, keep p 6 rfl i6, keep p 7 rfl i7, keep p 8 rfl i8, keep p 14 rfl i14, out p 26 173 _ rfl rfl rfl, trivial⟩)
          rintro a k ⟨⟨hg, hs, hd⟩, i0, i1, i5, i6, i7, i8, i14, i173, _⟩
          refine wp_cond_split (isBool i173) (fun hc1102 => ?_) (fun hc1102 => ?_)
          · rw [if_pos hc1102] at hr
            refine wp_seq ?_
            refine cut (fun a' k' => Bs noF k0 176 a' k' ∧ (IsV false) (a'.get 4) k' ∧ True) ?_ hQ ?_
            · intro Q1097 hQQ1097 hp1098
              refine regionS (a0 := a) (k0 := k) (n := 176) (m := 1) (⟨some (IsV false), []⟩ :: []) hs (by kernel_rfl) ⟨ob1 rfl fun b q hk hn => ok_assign rfl (isV_bool.2 rfl), trivial⟩ hQQ1097 fun b q p => ?_
              exact tail_done (k := q) (hp1098 _ _ ⟨Bs.post ⟨hg, hs, hd⟩ p, out p 0 4 _ rfl rfl rfl, trivial⟩)
            rintro a k ⟨⟨hg, hs, hd⟩, i4, _⟩
            refine wp_ret ?_
            exact hret1092 _ _ _ (Option.some.inj hr).symm (retC1 rfl hd hg i4)
          rw [if_neg (by rw [hc1102]; decide)] at hr
          refine wp_skip ?_
          obtain ⟨x1099_1, hx1099_1, hr⟩ := bind_some hr
          refine cut (fun a' k' => Bs noF k0 176 a' k' ∧ (IsV l_) (a'.get 0) k' ∧ (IsV m_) (a'.get 1) k' ∧ (IsV x1051_0) (a'.get 5) k' ∧ (IsV s1058.1) (a'.get 6) k' ∧ (IsV s1058.2) (a'.get 7) k' ∧ (IsV x1063_5.1) (a'.get 8) k' ∧ (IsV x1099_1) (a'.get 14) k' ∧ True) ?_ hQ ?_
          · intro Q1100 hQQ1100 hp1101
            refine regionS (a0 := a) (k0 := k) (n := 176) (m := 3) (⟨some (IsV s1089), [(14, none)]⟩ :: ⟨some (IsV x1099_1), [(141, some 0)]⟩ :: ⟨some (IsV x1099_1), [(142, some 1)]⟩ :: []) hs (by kernel_rfl) ⟨ob1 rfl fun b q hk hn => ok_move rfl (up i14 hk hn.1), ob1 rfl fun b q hk hn => ok_add rfl hn.1 (isV_int.2 rfl) hx1099_1, ob1 rfl fun b q hk hn => ok_assign rfl hn.1, trivial⟩ hQQ1100 fun b q p => ?_
            exact tail_done (k := q) (hp1101 _ _ ⟨Bs.post ⟨hg, hs, hd⟩ p, keep p 0 rfl i0, keep p 1 rfl i1, keep p 5 rfl i5, keep p 6 rfl i6, keep p 7 rfl i7, keep p 8 rfl i8, out p 2 14 _ rfl rfl rfl, trivial⟩)
          rintro a k ⟨⟨hg, hs, hd⟩, i0, i1, i5, i6, i7, i8, i14, _⟩
          exact hgo1090 _ _ _ (Option.some.inj hr).symm ⟨⟨hg, hs, hd⟩, i0, i1, i5, i6, i7, i8, i14, trivial⟩
        rw [if_neg (by rw [hc1107]; decide)] at hr
        refine wp_exit ?_
        exact hex1091 _ _ _ _ (Option.some.inj hr).symm ⟨rfl, ⟨hg, hs, hd⟩, i0, i1, i5, i7, i8, trivial⟩
      · rintro r1118 a k rfl hR
        dsimp only at hr
        exact hret1061 _ _ _ (Option.some.inj hr).symm hR
      · rintro _ _ _ rfl _
        simp at hr
      clear hf1110
      rintro _ s1111 a k rfl ⟨rfl, ⟨hg, hs, hd⟩, i0, i1, i5, i7, i8, _⟩
      dsimp only at hr
      refine cut (fun a' k' => Bs noF k0 176 a' k' ∧ (IsV l_) (a'.get 0) k' ∧ (IsV m_) (a'.get 1) k' ∧ (IsV x1051_0) (a'.get 5) k' ∧ (IsV x1063_5.1) (a'.get 6) k' ∧ (IsV s1058.2) (a'.get 7) k' ∧ True) ?_ hQ ?_
      · intro Q1116 hQQ1116 hp1117
        refine regionS (a0 := a) (k0 := k) (n := 176) (m := 2) (⟨some (IsV x1063_5.1), [(8, none)]⟩ :: ⟨some (IsV x1063_5.1), [(174, some 0)]⟩ :: []) hs (by kernel_rfl) ⟨ob1 rfl fun b q hk hn => ok_move rfl (up i8 hk hn.1), ob1 rfl fun b q hk hn => ok_assign rfl hn.1, trivial⟩ hQQ1116 fun b q p => ?_
        exact tail_done (k := q) (hp1117 _ _ ⟨Bs.post ⟨hg, hs, hd⟩ p, keep p 0 rfl i0, keep p 1 rfl i1, keep p 5 rfl i5, out p 1 6 _ rfl rfl rfl, keep p 7 rfl i7, trivial⟩)
      rintro a k ⟨⟨hg, hs, hd⟩, i0, i1, i5, i6, i7, _⟩
      obtain ⟨x1113_1, hx1113_1, hr⟩ := bind_some hr
      refine cut (fun a' k' => Bs noF k0 176 a' k' ∧ (IsV l_) (a'.get 0) k' ∧ (IsV m_) (a'.get 1) k' ∧ (IsV x1051_0) (a'.get 5) k' ∧ (IsV x1063_5.1) (a'.get 6) k' ∧ (IsV x1113_1) (a'.get 7) k' ∧ True) ?_ hQ ?_
      · intro Q1114 hQQ1114 hp1115
        refine regionS (a0 := a) (k0 := k) (n := 176) (m := 3) (⟨some (IsV s1058.2), [(7, none)]⟩ :: ⟨some (IsV x1113_1), [(32, some 0)]⟩ :: ⟨some (IsV x1113_1), [(33, some 1)]⟩ :: []) hs (by kernel_rfl) ⟨ob1 rfl fun b q hk hn => ok_move rfl (up i7 hk hn.1), ob1 rfl fun b q hk hn => ok_add rfl hn.1 (isV_int.2 rfl) hx1113_1, ob1 rfl fun b q hk hn => ok_assign rfl hn.1, trivial⟩ hQQ1114 fun b q p => ?_
        exact tail_done (k := q) (hp1115 _ _ ⟨Bs.post ⟨hg, hs, hd⟩ p, keep p 0 rfl i0, keep p 1 rfl i1, keep p 5 rfl i5, keep p 6 rfl i6, out p 2 7 _ rfl rfl rfl, trivial⟩)
      rintro a k ⟨⟨hg, hs, hd⟩, i0, i1, i5, i6, i7, _⟩
      exact hgo1059 _ _ _ (Option.some.inj hr).symm ⟨⟨hg, hs, hd⟩, i0, i1, i5, i6, i7, trivial⟩
    rw [if_neg (by rw [hc1140]; decide)] at hr
    refine wp_exit ?_
    exact hex1060 _ _ _ _ (Option.some.inj hr).symm ⟨rfl, ⟨hg, hs, hd⟩, i5, trivial⟩
  · rintro r1148 a k rfl hR
    dsimp only at hr
    obtain rfl := Option.some.inj hr
    exact hR
  · rintro _ _ _ rfl _
    simp at hr
  clear hf1143
  rintro _ s1144 a k rfl ⟨rfl, ⟨hg, hs, hd⟩, i5, _⟩
  dsimp only at hr
  refine wp_seq ?_
  refine cut (fun a' k' => Bs noF k0 176 a' k' ∧ (IsV x1051_0) (a'.get 4) k' ∧ True) ?_ hQ ?_
  · intro Q1146 hQQ1146 hp1147
    refine regionS (a0 := a) (k0 := k) (n := 176) (m := 2) (⟨some (IsV x1051_0), [(5, none)]⟩ :: ⟨some (IsV x1051_0), [(175, some 0)]⟩ :: []) hs (by kernel_rfl) ⟨ob1 rfl fun b q hk hn => ok_move rfl (up i5 hk hn.1), ob1 rfl fun b q hk hn => ok_assign rfl hn.1, trivial⟩ hQQ1146 fun b q p => ?_
    exact tail_done (k := q) (hp1147 _ _ ⟨Bs.post ⟨hg, hs, hd⟩ p, out p 1 4 _ rfl rfl rfl, trivial⟩)
  rintro a k ⟨⟨hg, hs, hd⟩, i4, _⟩
  refine wp_ret ?_
  obtain rfl := Option.some.inj hr
  exact retC1 rfl hd hg i4
def lawSplits (l_ : (List Account)) (m_ : (List Move)) (from_ : Int) (to_ : Int) (a_ : Int) (b_ : Int) : Option (Bool) :=
  (small).bind fun x1162_0 =>
  (few l_ m_).bind fun x1163_2 =>
  if (!x1163_2) then
    some x1162_0
  else
    (cRun l_ m_).bind fun x1167_2 =>
    if (((((x1167_2.2.2 != 0) || (decide (a_ < 1))) || (decide (b_ < 1))) || (decide (536870912 < a_))) || (decide (536870912 < b_))) then
      some x1162_0
    else
      (appI [] m_).bind fun x1172_2 =>
      (appI x1172_2 ([(⟨1, from_, to_, a_⟩ : Move), (⟨1, from_, to_, b_⟩ : Move)])).bind fun x1172_12 =>
      (appI [] m_).bind fun x1174_2 =>
      (addI a_ b_).bind fun x1174_7 =>
      (appI x1174_2 ([(⟨1, from_, to_, x1174_7⟩ : Move)])).bind fun x1174_10 =>
      (cRun l_ x1172_12).bind fun x1176_2 =>
      (cRun l_ x1174_10).bind fun x1177_2 =>
      if ((x1176_2.2.2 == 0) != (x1177_2.2.2 == 0)) then
        some false
      else
        if (x1176_2.2.2 != 0) then
          some x1162_0
        else
          (cTrace l_ x1172_12 to_).bind fun x1186_3 =>
          (cTrace l_ x1174_10 to_).bind fun x1187_3 =>
          (cTrace l_ x1172_12 from_).bind fun x1188_3 =>
          (cTrace l_ x1174_10 from_).bind fun x1189_3 =>
          (if x1162_0 then
            (rSame x1176_2.1 x1177_2.1).bind fun x1190_4 =>
            some x1190_4
          else
            some false).bind fun x1190_5 =>
          (if x1190_5 then
            (rSameTrace x1186_3.1 x1187_3.1).bind fun x1190_9 =>
            some x1190_9
          else
            some false).bind fun x1190_10 =>
          (if x1190_10 then
            (rSameTrace x1188_3.1 x1189_3.1).bind fun x1190_14 =>
            some x1190_14
          else
            some false).bind fun x1190_15 =>
          some x1190_15
theorem lawSplits_ok {k0 : K} {v0 v1 v2 v3 v4 v5 : Value} {l_ : (List Account)} {m_ : (List Move)} {from_ : Int} {to_ : Int} {a_ : Int} {b_ : Int} {r : Bool} (i0 : (IsV l_) v0 k0) (i1 : (IsV m_) v1 k0) (i2 : (IsV from_) v2 k0) (i3 : (IsV to_) v3 k0) (i4 : (IsV a_) v4 k0) (i5 : (IsV b_) v5 k0) (hr : lawSplits l_ m_ from_ to_ a_ b_ = some r) :
    Calls Try.prog 5 #[v0, v1, v2, v3, v4, v5] k0.w (Ret k0 (IsV r)) := by
  unfold lawSplits at hr
  refine Ret.ofC ?_
  refine enterK Try.func5 rfl Try.ntmps5 (show 6 ≤ 155 by decide) fun a k hk0 hs hd ha => ?_
  obtain ⟨e0, e1, e2, e3, e4, e5, _⟩ := ha
  replace i0 : (IsV l_) (a.get 0) k := by rw [e0, hk0]; exact i0
  replace i1 : (IsV m_) (a.get 1) k := by rw [e1, hk0]; exact i1
  replace i2 : (IsV from_) (a.get 2) k := by rw [e2, hk0]; exact i2
  replace i3 : (IsV to_) (a.get 3) k := by rw [e3, hk0]; exact i3
  replace i4 : (IsV a_) (a.get 4) k := by rw [e4, hk0]; exact i4
  replace i5 : (IsV b_) (a.get 5) k := by rw [e5, hk0]; exact i5
  have hQ : Gb.LetsOut (bodyPost Try.prog Try.f5 (RetC noF k0 (IsV r))) := letsOutC
  have hg : Chg noF k0 k := by rw [hk0]; exact Chg.refl _ k0
  refine wp_seq ?_
  refine cut (fun a' k' => Bs noF k0 155 a' k' ∧ (IsV l_) (a'.get 0) k' ∧ (IsV m_) (a'.get 1) k' ∧ (IsV from_) (a'.get 2) k' ∧ (IsV to_) (a'.get 3) k' ∧ (IsV a_) (a'.get 4) k' ∧ (IsV b_) (a'.get 5) k' ∧ True) ?_ hQ ?_
  · intro Q1225 hQQ1225 hp1226
    refine regionS (a0 := a) (k0 := k) (n := 155) (m := 1) (⟨some (IsV false), []⟩ :: []) hs (by kernel_rfl) ⟨ob1 rfl fun b q hk hn => ok_assign rfl (isV_bool.2 rfl), trivial⟩ hQQ1225 fun b q p => ?_
    exact tail_done (k := q) (hp1226 _ _ ⟨Bs.post ⟨hg, hs, hd⟩ p, keep p 0 rfl i0, keep p 1 rfl i1, keep p 2 rfl i2, keep p 3 rfl i3, keep p 4 rfl i4, keep p 5 rfl i5, trivial⟩)
  rintro a k ⟨⟨hg, hs, hd⟩, i0, i1, i2, i3, i4, i5, _⟩
  refine wp_seq ?_
  obtain ⟨x1162_0, hx1162_0, hr⟩ := bind_some hr
  refine cut (fun a' k' => Bs noF k0 155 a' k' ∧ (IsV l_) (a'.get 0) k' ∧ (IsV m_) (a'.get 1) k' ∧ (IsV from_) (a'.get 2) k' ∧ (IsV to_) (a'.get 3) k' ∧ (IsV a_) (a'.get 4) k' ∧ (IsV b_) (a'.get 5) k' ∧ (IsV x1162_0) (a'.get 13) k' ∧ True) ?_ hQ ?_
  · intro Q1223 hQQ1223 hp1224
    refine regionS (a0 := a) (k0 := k) (n := 155) (m := 2) (⟨some (IsV x1162_0), []⟩ :: ⟨some (IsV x1162_0), [(33, some 0)]⟩ :: []) hs (by kernel_rfl) ⟨ob1 rfl fun b q hk hn => ok_call rfl Try.call8 (small_ok hx1162_0), ob1 rfl fun b q hk hn => ok_assign rfl hn.1, trivial⟩ hQQ1223 fun b q p => ?_
    exact tail_done (k := q) (hp1224 _ _ ⟨Bs.post ⟨hg, hs, hd⟩ p, keep p 0 rfl i0, keep p 1 rfl i1, keep p 2 rfl i2, keep p 3 rfl i3, keep p 4 rfl i4, keep p 5 rfl i5, out p 1 13 _ rfl rfl rfl, trivial⟩)
  rintro a k ⟨⟨hg, hs, hd⟩, i0, i1, i2, i3, i4, i5, i13, _⟩
  refine wp_seq ?_
  refine wp_seq ?_
  obtain ⟨x1163_2, hx1163_2, hr⟩ := bind_some hr
  refine cut (fun a' k' => Bs noF k0 155 a' k' ∧ (IsV l_) (a'.get 0) k' ∧ (IsV m_) (a'.get 1) k' ∧ (IsV from_) (a'.get 2) k' ∧ (IsV to_) (a'.get 3) k' ∧ (IsV a_) (a'.get 4) k' ∧ (IsV b_) (a'.get 5) k' ∧ (IsV x1162_0) (a'.get 13) k' ∧ (IsV (!x1163_2)) (a'.get 37) k' ∧ True) ?_ hQ ?_
  · intro Q1221 hQQ1221 hp1222
    refine regionS (a0 := a) (k0 := k) (n := 155) (m := 4) (⟨some (IsV l_), [(0, none)]⟩ :: ⟨some (IsV m_), [(1, none)]⟩ :: ⟨some (IsV x1163_2), [(34, some 0), (35, some 1)]⟩ :: ⟨some (IsV (!x1163_2)), [(36, some 2)]⟩ :: []) hs (by kernel_rfl) ⟨ob1 rfl fun b q hk hn => ok_move rfl (up i0 hk hn.1), ob1 rfl fun b q hk hn => ok_move rfl (up i1 hk hn.1), ob1 rfl fun b q hk hn => ok_call rfl Try.call9 (few_ok hn.1 hn.2.1 hx1163_2), ob1 rfl fun b q hk hn => ok_not rfl hn.1, trivial⟩ hQQ1221 fun b q p => ?_
    exact tail_done (k := q) (hp1222 _ _ ⟨Bs.post ⟨hg, hs, hd⟩ p, keep p 0 rfl i0, keep p 1 rfl i1, keep p 2 rfl i2, keep p 3 rfl i3, keep p 4 rfl i4, keep p 5 rfl i5, keep p 13 rfl i13, out p 3 37 _ rfl rfl rfl, trivial⟩)
  rintro a k ⟨⟨hg, hs, hd⟩, i0, i1, i2, i3, i4, i5, i13, i37, _⟩
  refine wp_cond_split (isBool i37) (fun hc1220 => ?_) (fun hc1220 => ?_)
  · rw [if_pos hc1220] at hr
    refine wp_seq ?_
    refine cut (fun a' k' => Bs noF k0 155 a' k' ∧ (IsV x1162_0) (a'.get 12) k' ∧ True) ?_ hQ ?_
    · intro Q1165 hQQ1165 hp1166
      refine regionS (a0 := a) (k0 := k) (n := 155) (m := 2) (⟨some (IsV x1162_0), [(13, none)]⟩ :: ⟨some (IsV x1162_0), [(38, some 0)]⟩ :: []) hs (by kernel_rfl) ⟨ob1 rfl fun b q hk hn => ok_move rfl (up i13 hk hn.1), ob1 rfl fun b q hk hn => ok_assign rfl hn.1, trivial⟩ hQQ1165 fun b q p => ?_
      exact tail_done (k := q) (hp1166 _ _ ⟨Bs.post ⟨hg, hs, hd⟩ p, out p 1 12 _ rfl rfl rfl, trivial⟩)
    rintro a k ⟨⟨hg, hs, hd⟩, i12, _⟩
    refine wp_ret ?_
    obtain rfl := Option.some.inj hr
    exact retC1 rfl hd hg i12
  rw [if_neg (by rw [hc1220]; decide)] at hr
  refine wp_skip ?_
  refine wp_seq ?_
  obtain ⟨x1167_2, hx1167_2, hr⟩ := bind_some hr
  refine cut (fun a' k' => Bs noF k0 155 a' k' ∧ (IsV l_) (a'.get 0) k' ∧ (IsV m_) (a'.get 1) k' ∧ (IsV from_) (a'.get 2) k' ∧ (IsV to_) (a'.get 3) k' ∧ (IsV a_) (a'.get 4) k' ∧ (IsV b_) (a'.get 5) k' ∧ (IsV x1162_0) (a'.get 13) k' ∧ (IsV x1167_2.2.2) (a'.get 16) k' ∧ True) ?_ hQ ?_
  · intro Q1218 hQQ1218 hp1219
    refine regionS (a0 := a) (k0 := k) (n := 155) (m := 10) (⟨some (IsV l_), [(0, none)]⟩ :: ⟨some (IsV m_), [(1, none)]⟩ :: ⟨some (IsTup3 (IsV x1167_2.1) (IsV x1167_2.2.1) (IsV x1167_2.2.2)), [(40, some 0), (41, some 1)]⟩ :: ⟨some (IsTup3 (IsV x1167_2.1) (IsV x1167_2.2.1) (IsV x1167_2.2.2)), [(42, some 2)]⟩ :: ⟨some (IsV x1167_2.1), [(39, some 3)]⟩ :: ⟨some (IsV x1167_2.2.1), [(39, some 3)]⟩ :: ⟨some (IsV x1167_2.2.2), [(39, some 3)]⟩ :: ⟨some (IsV x1167_2.1), [(43, some 4)]⟩ :: ⟨some (IsV x1167_2.2.1), [(44, some 5)]⟩ :: ⟨some (IsV x1167_2.2.2), [(45, some 6)]⟩ :: []) hs (by kernel_rfl) ⟨ob1 rfl fun b q hk hn => ok_move rfl (up i0 hk hn.1), ob1 rfl fun b q hk hn => ok_move rfl (up i1 hk hn.1), ob1 rfl fun b q hk hn => ok_call rfl Try.call10 (cRun_ok hn.1 hn.2.1 hx1167_2), ob1 rfl fun b q hk hn => ok_move rfl hn.1, ob1 rfl fun b q hk hn => ok_ext3_0 rfl hn.1, ob1 rfl fun b q hk hn => ok_ext3_1 rfl hn.1, ob1 rfl fun b q hk hn => ok_ext3_2 rfl hn.1, ob1 rfl fun b q hk hn => ok_assign rfl hn.1, ob1 rfl fun b q hk hn => ok_assign rfl hn.1, ob1 rfl fun b q hk hn => ok_assign rfl hn.1, trivial⟩ hQQ1218 fun b q p => ?_
    exact tail_done (k := q) (hp1219 _ _ ⟨Bs.post ⟨hg, hs, hd⟩ p, keep p 0 rfl i0, keep p 1 rfl i1, keep p 2 rfl i2, keep p 3 rfl i3, keep p 4 rfl i4, keep p 5 rfl i5, keep p 13 rfl i13, out p 9 16 _ rfl rfl rfl, trivial⟩)
  rintro a k ⟨⟨hg, hs, hd⟩, i0, i1, i2, i3, i4, i5, i13, i16, _⟩
  refine wp_seq ?_
  refine wp_seq ?_
  refine cut (fun a' k' => Bs noF k0 155 a' k' ∧ (IsV l_) (a'.get 0) k' ∧ (IsV m_) (a'.get 1) k' ∧ (IsV from_) (a'.get 2) k' ∧ (IsV to_) (a'.get 3) k' ∧ (IsV a_) (a'.get 4) k' ∧ (IsV b_) (a'.get 5) k' ∧ (IsV x1162_0) (a'.get 13) k' ∧ (IsV (((((x1167_2.2.2 != 0) || (decide (a_ < 1))) || (decide (b_ < 1))) || (decide (536870912 < a_))) || (decide (536870912 < b_)))) (a'.get 63) k' ∧ True) ?_ hQ ?_
  · intro Q1216 hQQ1216 hp1217
    refine regionS (a0 := a) (k0 := k) (n := 155) (m := 18) (⟨some (IsV x1167_2.2.2), [(16, none)]⟩ :: ⟨some (IsV (x1167_2.2.2 != 0)), [(46, some 0)]⟩ :: ⟨some (IsV (x1167_2.2.2 != 0)), [(47, some 1)]⟩ :: ⟨some (Gd ((x1167_2.2.2 != 0) = false) (IsV a_)), [(4, none)]⟩ :: ⟨some (Gd ((x1167_2.2.2 != 0) = false) (IsV (decide (a_ < 1)))), [(49, some 3)]⟩ :: ⟨some (IsV ((x1167_2.2.2 != 0) || (decide (a_ < 1)))), [(48, some 2), (50, some 4)]⟩ :: ⟨some (IsV ((x1167_2.2.2 != 0) || (decide (a_ < 1)))), [(51, some 5)]⟩ :: ⟨some (Gd (((x1167_2.2.2 != 0) || (decide (a_ < 1))) = false) (IsV b_)), [(5, none)]⟩ :: ⟨some (Gd (((x1167_2.2.2 != 0) || (decide (a_ < 1))) = false) (IsV (decide (b_ < 1)))), [(53, some 7)]⟩ :: ⟨some (IsV (((x1167_2.2.2 != 0) || (decide (a_ < 1))) || (decide (b_ < 1)))), [(52, some 6), (54, some 8)]⟩ :: ⟨some (IsV (((x1167_2.2.2 != 0) || (decide (a_ < 1))) || (decide (b_ < 1)))), [(55, some 9)]⟩ :: ⟨some (Gd ((((x1167_2.2.2 != 0) || (decide (a_ < 1))) || (decide (b_ < 1))) = false) (IsV a_)), [(4, none)]⟩ :: ⟨some (Gd ((((x1167_2.2.2 != 0) || (decide (a_ < 1))) || (decide (b_ < 1))) = false) (IsV (decide (536870912 < a_)))), [(57, some 11)]⟩ :: ⟨some (IsV ((((x1167_2.2.2 != 0) || (decide (a_ < 1))) || (decide (b_ < 1))) || (decide (536870912 < a_)))), [(56, some 10), (58, some 12)]⟩ :: ⟨some (IsV ((((x1167_2.2.2 != 0) || (decide (a_ < 1))) || (decide (b_ < 1))) || (decide (536870912 < a_)))), [(59, some 13)]⟩ :: ⟨some (Gd (((((x1167_2.2.2 != 0) || (decide (a_ < 1))) || (decide (b_ < 1))) || (decide (536870912 < a_))) = false) (IsV b_)), [(5, none)]⟩ :: ⟨some (Gd (((((x1167_2.2.2 != 0) || (decide (a_ < 1))) || (decide (b_ < 1))) || (decide (536870912 < a_))) = false) (IsV (decide (536870912 < b_)))), [(61, some 15)]⟩ :: ⟨some (IsV (((((x1167_2.2.2 != 0) || (decide (a_ < 1))) || (decide (b_ < 1))) || (decide (536870912 < a_))) || (decide (536870912 < b_)))), [(60, some 14), (62, some 16)]⟩ :: []) hs (by kernel_rfl) ⟨ob1 rfl fun b q hk hn => ok_move rfl (up i16 hk hn.1), ob1 rfl fun b q hk hn => ok_neI rfl hn.1 (isV_int.2 rfl), ob1 rfl fun b q hk hn => ok_move rfl hn.1, gdF rfl rfl fun hp b q hk hn => ok_move rfl (up i4 hk hn.1), gdF rfl rfl fun hp b q hk hn => ok_lss rfl (Gd.get hn.1 hp) (isV_int.2 rfl), ob1 rfl fun b q hk hn => ok_pickOr rfl hn.1 (fun _ => (isV_bool.2 rfl)) (fun hm => (Gd.get hn.2.1 hm)), ob1 rfl fun b q hk hn => ok_move rfl hn.1, gdF rfl rfl fun hp b q hk hn => ok_move rfl (up i5 hk hn.1), gdF rfl rfl fun hp b q hk hn => ok_lss rfl (Gd.get hn.1 hp) (isV_int.2 rfl), ob1 rfl fun b q hk hn => ok_pickOr rfl hn.1 (fun _ => (isV_bool.2 rfl)) (fun hm => (Gd.get hn.2.1 hm)), ob1 rfl fun b q hk hn => ok_move rfl hn.1, gdF rfl rfl fun hp b q hk hn => ok_move rfl (up i4 hk hn.1), gdF rfl rfl fun hp b q hk hn => ok_gtr rfl (Gd.get hn.1 hp) (isV_int.2 rfl), ob1 rfl fun b q hk hn => ok_pickOr rfl hn.1 (fun _ => (isV_bool.2 rfl)) (fun hm => (Gd.get hn.2.1 hm)), ob1 rfl fun b q hk hn => ok_move rfl hn.1, gdF rfl rfl fun hp b q hk hn => ok_move rfl (up i5 hk hn.1), gdF rfl rfl fun hp b q hk hn => ok_gtr rfl (Gd.get hn.1 hp) (isV_int.2 rfl), ob1 rfl fun b q hk hn => ok_pickOr rfl hn.1 (fun _ => (isV_bool.2 rfl)) (fun hm => (Gd.get hn.2.1 hm)), trivial⟩ hQQ1216 fun b q p => ?_
    exact tail_done (k := q) (hp1217 _ _ ⟨Bs.post ⟨hg, hs, hd⟩ p, keep p 0 rfl i0, keep p 1 rfl i1, keep p 2 rfl i2, keep p 3 rfl i3, keep p 4 rfl i4, keep p 5 rfl i5, keep p 13 rfl i13, out p 17 63 _ rfl rfl rfl, trivial⟩)
  rintro a k ⟨⟨hg, hs, hd⟩, i0, i1, i2, i3, i4, i5, i13, i63, _⟩
  refine wp_cond_split (isBool i63) (fun hc1215 => ?_) (fun hc1215 => ?_)
  · rw [if_pos hc1215] at hr
    refine wp_seq ?_
    refine cut (fun a' k' => Bs noF k0 155 a' k' ∧ (IsV x1162_0) (a'.get 12) k' ∧ True) ?_ hQ ?_
    · intro Q1170 hQQ1170 hp1171
      refine regionS (a0 := a) (k0 := k) (n := 155) (m := 2) (⟨some (IsV x1162_0), [(13, none)]⟩ :: ⟨some (IsV x1162_0), [(64, some 0)]⟩ :: []) hs (by kernel_rfl) ⟨ob1 rfl fun b q hk hn => ok_move rfl (up i13 hk hn.1), ob1 rfl fun b q hk hn => ok_assign rfl hn.1, trivial⟩ hQQ1170 fun b q p => ?_
      exact tail_done (k := q) (hp1171 _ _ ⟨Bs.post ⟨hg, hs, hd⟩ p, out p 1 12 _ rfl rfl rfl, trivial⟩)
    rintro a k ⟨⟨hg, hs, hd⟩, i12, _⟩
    refine wp_ret ?_
    obtain rfl := Option.some.inj hr
    exact retC1 rfl hd hg i12
  rw [if_neg (by rw [hc1215]; decide)] at hr
  refine wp_skip ?_
  refine wp_seq ?_
  obtain ⟨x1172_2, hx1172_2, hr⟩ := bind_some hr
  obtain ⟨x1172_12, hx1172_12, hr⟩ := bind_some hr
  refine cut (fun a' k' => Bs noF k0 155 a' k' ∧ (IsV l_) (a'.get 0) k' ∧ (IsV m_) (a'.get 1) k' ∧ (IsV from_) (a'.get 2) k' ∧ (IsV to_) (a'.get 3) k' ∧ (IsV a_) (a'.get 4) k' ∧ (IsV b_) (a'.get 5) k' ∧ (IsV x1162_0) (a'.get 13) k' ∧ IsOwn 0 33 x1172_12 (a'.get 17) k' ∧ Lo k0 (obF (a'.get 17)) ∧ True) ?_ hQ ?_
  · intro Q1213 hQQ1213 hp1214
    refine regionS (a0 := a) (k0 := k) (n := 155) (m := 12) (⟨some IsE0, []⟩ :: ⟨some (IsV m_), [(1, none)]⟩ :: ⟨some (IsOwn k.w.heap.size 33 x1172_2), [(65, some 0), (66, some 1)]⟩ :: ⟨some (IsV from_), [(2, none)]⟩ :: ⟨some (IsV to_), [(3, none)]⟩ :: ⟨some (IsV a_), [(4, none)]⟩ :: ⟨some (IsV (⟨1, from_, to_, a_⟩ : Move)), [(68, some 3), (69, some 4), (70, some 5)]⟩ :: ⟨some (IsV from_), [(2, none)]⟩ :: ⟨some (IsV to_), [(3, none)]⟩ :: ⟨some (IsV b_), [(5, none)]⟩ :: ⟨some (IsV (⟨1, from_, to_, b_⟩ : Move)), [(72, some 7), (73, some 8), (74, some 9)]⟩ :: ⟨some (IsV ([(⟨1, from_, to_, a_⟩ : Move), (⟨1, from_, to_, b_⟩ : Move)])), [(71, some 6), (75, some 10)]⟩ :: []) hs (by kernel_rfl) ⟨ob1 rfl fun b q hk hn => ok_buildSlice0 rfl Try.underlying23 eo33, ob1 rfl fun b q hk hn => ok_move rfl (up i1 hk hn.1), ob1 rfl fun b q hk hn => ok_append0 rfl Try.underlying23 eo33 hk.size hn.1 (IsV.rd hn.2.1) hx1172_2, ob1 rfl fun b q hk hn => ok_move rfl (up i2 hk hn.1), ob1 rfl fun b q hk hn => ok_move rfl (up i3 hk hn.1), ob1 rfl fun b q hk hn => ok_move rfl (up i4 hk hn.1), ob1 rfl fun b q hk hn => ok_build rfl (bld33_0_1_2_3 (isV_int.2 rfl) hn.1 hn.2.1 hn.2.2.1), ob1 rfl fun b q hk hn => ok_move rfl (up i2 hk hn.1), ob1 rfl fun b q hk hn => ok_move rfl (up i3 hk hn.1), ob1 rfl fun b q hk hn => ok_move rfl (up i5 hk hn.1), ob1 rfl fun b q hk hn => ok_build rfl (bld33_0_1_2_3 (isV_int.2 rfl) hn.1 hn.2.1 hn.2.2.1), ob1 rfl fun b q hk hn => ok_buildSlice rfl Try.underlying23 eo33 rfl (by decide) (by decide) ⟨rfl, hn.1, rfl, hn.2.1, trivial⟩, trivial⟩ hQQ1213 fun b q p => ?_
    have hgq := hg.then p.grow
    have hsb := p.size.trans hs
    have hdb := p.defers.trans hd
    have j0 := keep p 0 rfl i0
    have j1 := keep p 1 rfl i1
    have j2 := keep p 2 rfl i2
    have j3 := keep p 3 rfl i3
    have j4 := keep p 4 rfl i4
    have j5 := keep p 5 rfl i5
    have j13 := keep p 13 rfl i13
    have j67 : (IsOwn k.w.heap.size 33 x1172_2) (b.get 67) q := out p 2 67 _ rfl rfl rfl
    have x67 : Lo k (obF (b.get 67)) := j67.loF
    have y67 := x67.chg hg
    replace j67 := j67.weaken (Nat.zero_le _)
    have j76 : (IsV ([(⟨1, from_, to_, a_⟩ : Move), (⟨1, from_, to_, b_⟩ : Move)])) (b.get 76) q := out p 11 76 _ rfl rfl rfl
    have hns := j67.nshF
    refine tail_appendS (i := 12) (d := 77) rfl rfl rfl rfl (by rw [hsb]; decide) (e := 33) Try.underlying23 eo33 j67 (IsV.rd j76) hx1172_12 fun b2 q2 hsz hdf hoth hch hown hob => ?_
    have hle := hch.le hns
    have yn : Lo k0 (obF (b2.get 77)) := y67.app hgq hob
    replace j0 := Pers.pers hle j0
    replace j1 := Pers.pers hle j1
    replace j2 := Pers.pers hle j2
    replace j3 := Pers.pers hle j3
    replace j4 := Pers.pers hle j4
    replace j5 := Pers.pers hle j5
    replace j13 := Pers.pers hle j13
    replace j76 := Pers.pers hle j76
    replace hgq := hgq.step hch y67.wr
    rw [← hoth 0 (by decide)] at j0
    rw [← hoth 1 (by decide)] at j1
    rw [← hoth 2 (by decide)] at j2
    rw [← hoth 3 (by decide)] at j3
    rw [← hoth 4 (by decide)] at j4
    rw [← hoth 5 (by decide)] at j5
    rw [← hoth 13 (by decide)] at j13
    rw [← hoth 76 (by decide)] at j76
    have j77 := hown
    have y77 := yn
    replace hsb := hsz.trans hsb
    replace hdb := hdf.trans hdb
    clear hle hch hown hob hns yn hsz hdf hoth
    obtain ⟨b, hbb⟩ : ∃ b, b = b2 := ⟨b2, rfl⟩
    subst hbb
    obtain ⟨q, hqq⟩ : ∃ q, q = q2 := ⟨q2, rfl⟩
    subst hqq
    refine tail_assign (i := 13) (d := 17) rfl rfl (.inl rfl) rfl (by rw [hsb]; decide) fun b2 hsz hdf hnew hoth => ?_
    have jn : (IsOwn 0 33 x1172_12) (b2.get 17) q := by rw [hnew]; exact j77
    have yn : Lo k0 (obF (b2.get 17)) := by rw [hnew]; exact y77
    rw [← hoth 0 (by decide)] at j0
    rw [← hoth 1 (by decide)] at j1
    rw [← hoth 2 (by decide)] at j2
    rw [← hoth 3 (by decide)] at j3
    rw [← hoth 4 (by decide)] at j4
    rw [← hoth 5 (by decide)] at j5
    rw [← hoth 13 (by decide)] at j13
    rw [← hoth 76 (by decide)] at j76
    have j17 := jn
    have y17 := yn
    replace hsb := hsz.trans hsb
    replace hdb := hdf.trans hdb
    clear hsz hdf hoth
    obtain ⟨b, hbb⟩ : ∃ b, b = b2 := ⟨b2, rfl⟩
    subst hbb
    exact tail_done (k := q) (hp1214 _ _ ⟨⟨hgq, hsb, hdb⟩, j0, j1, j2, j3, j4, j5, j13, j17, y17, trivial⟩)
  rintro a k ⟨⟨hg, hs, hd⟩, i0, i1, i2, i3, i4, i5, i13, i17, n17, _⟩
  refine wp_seq ?_
  obtain ⟨kk, sh1173, ii17⟩ := i17.give
  replace i0 := Pers.pers sh1173.le i0
  replace i1 := Pers.pers sh1173.le i1
  replace i2 := Pers.pers sh1173.le i2
  replace i3 := Pers.pers sh1173.le i3
  replace i4 := Pers.pers sh1173.le i4
  replace i5 := Pers.pers sh1173.le i5
  replace i13 := Pers.pers sh1173.le i13
  replace i17 := ii17
  replace hg := hg.hand sh1173 n17.wr
  rw [← sh1173.w]
  clear sh1173
  obtain ⟨k, hkk⟩ : ∃ k, k = kk := ⟨kk, rfl⟩
  subst hkk
  obtain ⟨x1174_2, hx1174_2, hr⟩ := bind_some hr
  obtain ⟨x1174_7, hx1174_7, hr⟩ := bind_some hr
  obtain ⟨x1174_10, hx1174_10, hr⟩ := bind_some hr
  refine cut (fun a' k' => Bs noF k0 155 a' k' ∧ (IsV l_) (a'.get 0) k' ∧ (IsV from_) (a'.get 2) k' ∧ (IsV to_) (a'.get 3) k' ∧ (IsV x1162_0) (a'.get 13) k' ∧ (IsV x1172_12) (a'.get 17) k' ∧ IsOwn 0 33 x1174_10 (a'.get 18) k' ∧ Lo k0 (obF (a'.get 18)) ∧ True) ?_ hQ ?_
  · intro Q1211 hQQ1211 hp1212
    refine regionS (a0 := a) (k0 := k) (n := 155) (m := 10) (⟨some IsE0, []⟩ :: ⟨some (IsV m_), [(1, none)]⟩ :: ⟨some (IsOwn k.w.heap.size 33 x1174_2), [(78, some 0), (79, some 1)]⟩ :: ⟨some (IsV from_), [(2, none)]⟩ :: ⟨some (IsV to_), [(3, none)]⟩ :: ⟨some (IsV a_), [(4, none)]⟩ :: ⟨some (IsV b_), [(5, none)]⟩ :: ⟨some (IsV x1174_7), [(83, some 5), (84, some 6)]⟩ :: ⟨some (IsV (⟨1, from_, to_, x1174_7⟩ : Move)), [(81, some 3), (82, some 4), (85, some 7)]⟩ :: ⟨some (IsV ([(⟨1, from_, to_, x1174_7⟩ : Move)])), [(86, some 8)]⟩ :: []) hs (by kernel_rfl) ⟨ob1 rfl fun b q hk hn => ok_buildSlice0 rfl Try.underlying23 eo33, ob1 rfl fun b q hk hn => ok_move rfl (up i1 hk hn.1), ob1 rfl fun b q hk hn => ok_append0 rfl Try.underlying23 eo33 hk.size hn.1 (IsV.rd hn.2.1) hx1174_2, ob1 rfl fun b q hk hn => ok_move rfl (up i2 hk hn.1), ob1 rfl fun b q hk hn => ok_move rfl (up i3 hk hn.1), ob1 rfl fun b q hk hn => ok_move rfl (up i4 hk hn.1), ob1 rfl fun b q hk hn => ok_move rfl (up i5 hk hn.1), ob1 rfl fun b q hk hn => ok_add rfl hn.1 hn.2.1 hx1174_7, ob1 rfl fun b q hk hn => ok_build rfl (bld33_0_1_2_3 (isV_int.2 rfl) hn.1 hn.2.1 hn.2.2.1), ob1 rfl fun b q hk hn => ok_buildSlice rfl Try.underlying23 eo33 rfl (by decide) (by decide) ⟨rfl, hn.1, trivial⟩, trivial⟩ hQQ1211 fun b q p => ?_
    have hgq := hg.then p.grow
    have hsb := p.size.trans hs
    have hdb := p.defers.trans hd
    have j0 := keep p 0 rfl i0
    have j2 := keep p 2 rfl i2
    have j3 := keep p 3 rfl i3
    have j13 := keep p 13 rfl i13
    have j17 := keep p 17 rfl i17
    have j80 : (IsOwn k.w.heap.size 33 x1174_2) (b.get 80) q := out p 2 80 _ rfl rfl rfl
    have x80 : Lo k (obF (b.get 80)) := j80.loF
    have y80 := x80.chg hg
    replace j80 := j80.weaken (Nat.zero_le _)
    have j87 : (IsV ([(⟨1, from_, to_, x1174_7⟩ : Move)])) (b.get 87) q := out p 9 87 _ rfl rfl rfl
    have hns := j80.nshF
    refine tail_appendS (i := 10) (d := 88) rfl rfl rfl rfl (by rw [hsb]; decide) (e := 33) Try.underlying23 eo33 j80 (IsV.rd j87) hx1174_10 fun b2 q2 hsz hdf hoth hch hown hob => ?_
    have hle := hch.le hns
    have yn : Lo k0 (obF (b2.get 88)) := y80.app hgq hob
    replace j0 := Pers.pers hle j0
    replace j2 := Pers.pers hle j2
    replace j3 := Pers.pers hle j3
    replace j13 := Pers.pers hle j13
    replace j17 := Pers.pers hle j17
    replace j87 := Pers.pers hle j87
    replace hgq := hgq.step hch y80.wr
    rw [← hoth 0 (by decide)] at j0
    rw [← hoth 2 (by decide)] at j2
    rw [← hoth 3 (by decide)] at j3
    rw [← hoth 13 (by decide)] at j13
    rw [← hoth 17 (by decide)] at j17
    rw [← hoth 87 (by decide)] at j87
    have j88 := hown
    have y88 := yn
    replace hsb := hsz.trans hsb
    replace hdb := hdf.trans hdb
    clear hle hch hown hob hns yn hsz hdf hoth
    obtain ⟨b, hbb⟩ : ∃ b, b = b2 := ⟨b2, rfl⟩
    subst hbb
    obtain ⟨q, hqq⟩ : ∃ q, q = q2 := ⟨q2, rfl⟩
    subst hqq
    refine tail_assign (i := 11) (d := 18) rfl rfl (.inl rfl) rfl (by rw [hsb]; decide) fun b2 hsz hdf hnew hoth => ?_
    have jn : (IsOwn 0 33 x1174_10) (b2.get 18) q := by rw [hnew]; exact j88
    have yn : Lo k0 (obF (b2.get 18)) := by rw [hnew]; exact y88
    rw [← hoth 0 (by decide)] at j0
    rw [← hoth 2 (by decide)] at j2
    rw [← hoth 3 (by decide)] at j3
    rw [← hoth 13 (by decide)] at j13
    rw [← hoth 17 (by decide)] at j17
    rw [← hoth 87 (by decide)] at j87
    have j18 := jn
    have y18 := yn
    replace hsb := hsz.trans hsb
    replace hdb := hdf.trans hdb
    clear hsz hdf hoth
    obtain ⟨b, hbb⟩ : ∃ b, b = b2 := ⟨b2, rfl⟩
    subst hbb
    exact tail_done (k := q) (hp1212 _ _ ⟨⟨hgq, hsb, hdb⟩, j0, j2, j3, j13, j17, j18, y18, trivial⟩)
  rintro a k ⟨⟨hg, hs, hd⟩, i0, i2, i3, i13, i17, i18, n18, _⟩
  refine wp_seq ?_
  obtain ⟨kk, sh1175, ii18⟩ := i18.give
  replace i0 := Pers.pers sh1175.le i0
  replace i2 := Pers.pers sh1175.le i2
  replace i3 := Pers.pers sh1175.le i3
  replace i13 := Pers.pers sh1175.le i13
  replace i17 := Pers.pers sh1175.le i17
  replace i18 := ii18
  replace hg := hg.hand sh1175 n18.wr
  rw [← sh1175.w]
  clear sh1175
  obtain ⟨k, hkk⟩ : ∃ k, k = kk := ⟨kk, rfl⟩
  subst hkk
  obtain ⟨x1176_2, hx1176_2, hr⟩ := bind_some hr
  refine cut (fun a' k' => Bs noF k0 155 a' k' ∧ (IsV l_) (a'.get 0) k' ∧ (IsV from_) (a'.get 2) k' ∧ (IsV to_) (a'.get 3) k' ∧ (IsV x1162_0) (a'.get 13) k' ∧ (IsV x1172_12) (a'.get 17) k' ∧ (IsV x1174_10) (a'.get 18) k' ∧ (IsV x1176_2.1) (a'.get 19) k' ∧ (IsV x1176_2.2.2) (a'.get 21) k' ∧ True) ?_ hQ ?_
  · intro Q1209 hQQ1209 hp1210
    refine regionS (a0 := a) (k0 := k) (n := 155) (m := 10) (⟨some (IsV l_), [(0, none)]⟩ :: ⟨some (IsV x1172_12), [(17, none)]⟩ :: ⟨some (IsTup3 (IsV x1176_2.1) (IsV x1176_2.2.1) (IsV x1176_2.2.2)), [(90, some 0), (91, some 1)]⟩ :: ⟨some (IsTup3 (IsV x1176_2.1) (IsV x1176_2.2.1) (IsV x1176_2.2.2)), [(92, some 2)]⟩ :: ⟨some (IsV x1176_2.1), [(89, some 3)]⟩ :: ⟨some (IsV x1176_2.2.1), [(89, some 3)]⟩ :: ⟨some (IsV x1176_2.2.2), [(89, some 3)]⟩ :: ⟨some (IsV x1176_2.1), [(93, some 4)]⟩ :: ⟨some (IsV x1176_2.2.1), [(94, some 5)]⟩ :: ⟨some (IsV x1176_2.2.2), [(95, some 6)]⟩ :: []) hs (by kernel_rfl) ⟨ob1 rfl fun b q hk hn => ok_move rfl (up i0 hk hn.1), ob1 rfl fun b q hk hn => ok_move rfl (up i17 hk hn.1), ob1 rfl fun b q hk hn => ok_call rfl Try.call10 (cRun_ok hn.1 hn.2.1 hx1176_2), ob1 rfl fun b q hk hn => ok_move rfl hn.1, ob1 rfl fun b q hk hn => ok_ext3_0 rfl hn.1, ob1 rfl fun b q hk hn => ok_ext3_1 rfl hn.1, ob1 rfl fun b q hk hn => ok_ext3_2 rfl hn.1, ob1 rfl fun b q hk hn => ok_assign rfl hn.1, ob1 rfl fun b q hk hn => ok_assign rfl hn.1, ob1 rfl fun b q hk hn => ok_assign rfl hn.1, trivial⟩ hQQ1209 fun b q p => ?_
    exact tail_done (k := q) (hp1210 _ _ ⟨Bs.post ⟨hg, hs, hd⟩ p, keep p 0 rfl i0, keep p 2 rfl i2, keep p 3 rfl i3, keep p 13 rfl i13, keep p 17 rfl i17, keep p 18 rfl i18, out p 7 19 _ rfl rfl rfl, out p 9 21 _ rfl rfl rfl, trivial⟩)
  rintro a k ⟨⟨hg, hs, hd⟩, i0, i2, i3, i13, i17, i18, i19, i21, _⟩
  refine wp_seq ?_
  obtain ⟨x1177_2, hx1177_2, hr⟩ := bind_some hr
  refine cut (fun a' k' => Bs noF k0 155 a' k' ∧ (IsV l_) (a'.get 0) k' ∧ (IsV from_) (a'.get 2) k' ∧ (IsV to_) (a'.get 3) k' ∧ (IsV x1162_0) (a'.get 13) k' ∧ (IsV x1172_12) (a'.get 17) k' ∧ (IsV x1174_10) (a'.get 18) k' ∧ (IsV x1176_2.1) (a'.get 19) k' ∧ (IsV x1176_2.2.2) (a'.get 21) k' ∧ (IsV x1177_2.1) (a'.get 22) k' ∧ (IsV x1177_2.2.2) (a'.get 24) k' ∧ True) ?_ hQ ?_
  · intro Q1207 hQQ1207 hp1208
    refine regionS (a0 := a) (k0 := k) (n := 155) (m := 10) (⟨some (IsV l_), [(0, none)]⟩ :: ⟨some (IsV x1174_10), [(18, none)]⟩ :: ⟨some (IsTup3 (IsV x1177_2.1) (IsV x1177_2.2.1) (IsV x1177_2.2.2)), [(97, some 0), (98, some 1)]⟩ :: ⟨some (IsTup3 (IsV x1177_2.1) (IsV x1177_2.2.1) (IsV x1177_2.2.2)), [(99, some 2)]⟩ :: ⟨some (IsV x1177_2.1), [(96, some 3)]⟩ :: ⟨some (IsV x1177_2.2.1), [(96, some 3)]⟩ :: ⟨some (IsV x1177_2.2.2), [(96, some 3)]⟩ :: ⟨some (IsV x1177_2.1), [(100, some 4)]⟩ :: ⟨some (IsV x1177_2.2.1), [(101, some 5)]⟩ :: ⟨some (IsV x1177_2.2.2), [(102, some 6)]⟩ :: []) hs (by kernel_rfl) ⟨ob1 rfl fun b q hk hn => ok_move rfl (up i0 hk hn.1), ob1 rfl fun b q hk hn => ok_move rfl (up i18 hk hn.1), ob1 rfl fun b q hk hn => ok_call rfl Try.call10 (cRun_ok hn.1 hn.2.1 hx1177_2), ob1 rfl fun b q hk hn => ok_move rfl hn.1, ob1 rfl fun b q hk hn => ok_ext3_0 rfl hn.1, ob1 rfl fun b q hk hn => ok_ext3_1 rfl hn.1, ob1 rfl fun b q hk hn => ok_ext3_2 rfl hn.1, ob1 rfl fun b q hk hn => ok_assign rfl hn.1, ob1 rfl fun b q hk hn => ok_assign rfl hn.1, ob1 rfl fun b q hk hn => ok_assign rfl hn.1, trivial⟩ hQQ1207 fun b q p => ?_
    exact tail_done (k := q) (hp1208 _ _ ⟨Bs.post ⟨hg, hs, hd⟩ p, keep p 0 rfl i0, keep p 2 rfl i2, keep p 3 rfl i3, keep p 13 rfl i13, keep p 17 rfl i17, keep p 18 rfl i18, keep p 19 rfl i19, keep p 21 rfl i21, out p 7 22 _ rfl rfl rfl, out p 9 24 _ rfl rfl rfl, trivial⟩)
  rintro a k ⟨⟨hg, hs, hd⟩, i0, i2, i3, i13, i17, i18, i19, i21, i22, i24, _⟩
  refine wp_seq ?_
  refine wp_seq ?_
  refine cut (fun a' k' => Bs noF k0 155 a' k' ∧ (IsV l_) (a'.get 0) k' ∧ (IsV from_) (a'.get 2) k' ∧ (IsV to_) (a'.get 3) k' ∧ (IsV x1162_0) (a'.get 13) k' ∧ (IsV x1172_12) (a'.get 17) k' ∧ (IsV x1174_10) (a'.get 18) k' ∧ (IsV x1176_2.1) (a'.get 19) k' ∧ (IsV x1176_2.2.2) (a'.get 21) k' ∧ (IsV x1177_2.1) (a'.get 22) k' ∧ (IsV ((x1176_2.2.2 == 0) != (x1177_2.2.2 == 0))) (a'.get 107) k' ∧ True) ?_ hQ ?_
  · intro Q1205 hQQ1205 hp1206
    refine regionS (a0 := a) (k0 := k) (n := 155) (m := 5) (⟨some (IsV x1176_2.2.2), [(21, none)]⟩ :: ⟨some (IsV (x1176_2.2.2 == 0)), [(103, some 0)]⟩ :: ⟨some (IsV x1177_2.2.2), [(24, none)]⟩ :: ⟨some (IsV (x1177_2.2.2 == 0)), [(105, some 2)]⟩ :: ⟨some (IsV ((x1176_2.2.2 == 0) != (x1177_2.2.2 == 0))), [(104, some 1), (106, some 3)]⟩ :: []) hs (by kernel_rfl) ⟨ob1 rfl fun b q hk hn => ok_move rfl (up i21 hk hn.1), ob1 rfl fun b q hk hn => ok_eqI rfl hn.1 (isV_int.2 rfl), ob1 rfl fun b q hk hn => ok_move rfl (up i24 hk hn.1), ob1 rfl fun b q hk hn => ok_eqI rfl hn.1 (isV_int.2 rfl), ob1 rfl fun b q hk hn => ok_neB rfl Try.underlying4 hn.1 hn.2.1, trivial⟩ hQQ1205 fun b q p => ?_
    exact tail_done (k := q) (hp1206 _ _ ⟨Bs.post ⟨hg, hs, hd⟩ p, keep p 0 rfl i0, keep p 2 rfl i2, keep p 3 rfl i3, keep p 13 rfl i13, keep p 17 rfl i17, keep p 18 rfl i18, keep p 19 rfl i19, keep p 21 rfl i21, keep p 22 rfl i22, out p 4 107 _ rfl rfl rfl, trivial⟩)
  rintro a k ⟨⟨hg, hs, hd⟩, i0, i2, i3, i13, i17, i18, i19, i21, i22, i107, _⟩
  refine wp_cond_split (isBool i107) (fun hc1204 => ?_) (fun hc1204 => ?_)
  · rw [if_pos hc1204] at hr
    refine wp_seq ?_
    refine cut (fun a' k' => Bs noF k0 155 a' k' ∧ (IsV false) (a'.get 12) k' ∧ True) ?_ hQ ?_
    · intro Q1180 hQQ1180 hp1181
      refine regionS (a0 := a) (k0 := k) (n := 155) (m := 1) (⟨some (IsV false), []⟩ :: []) hs (by kernel_rfl) ⟨ob1 rfl fun b q hk hn => ok_assign rfl (isV_bool.2 rfl), trivial⟩ hQQ1180 fun b q p => ?_
      exact tail_done (k := q) (hp1181 _ _ ⟨Bs.post ⟨hg, hs, hd⟩ p, out p 0 12 _ rfl rfl rfl, trivial⟩)
    rintro a k ⟨⟨hg, hs, hd⟩, i12, _⟩
    refine wp_ret ?_
    obtain rfl := Option.some.inj hr
    exact retC1 rfl hd hg i12
  rw [if_neg (by rw [hc1204]; decide)] at hr
  refine wp_skip ?_
  refine wp_seq ?_
  refine wp_seq ?_
  refine cut (fun a' k' => Bs noF k0 155 a' k' ∧ (IsV l_) (a'.get 0) k' ∧ (IsV from_) (a'.get 2) k' ∧ (IsV to_) (a'.get 3) k' ∧ (IsV x1162_0) (a'.get 13) k' ∧ (IsV x1172_12) (a'.get 17) k' ∧ (IsV x1174_10) (a'.get 18) k' ∧ (IsV x1176_2.1) (a'.get 19) k' ∧ (IsV x1177_2.1) (a'.get 22) k' ∧ (IsV (x1176_2.2.2 != 0)) (a'.get 109) k' ∧ True) ?_ hQ ?_
  · intro Q1202 hQQ1202 hp1203
    refine regionS (a0 := a) (k0 := k) (n := 155) (m := 2) (⟨some (IsV x1176_2.2.2), [(21, none)]⟩ :: ⟨some (IsV (x1176_2.2.2 != 0)), [(108, some 0)]⟩ :: []) hs (by kernel_rfl) ⟨ob1 rfl fun b q hk hn => ok_move rfl (up i21 hk hn.1), ob1 rfl fun b q hk hn => ok_neI rfl hn.1 (isV_int.2 rfl), trivial⟩ hQQ1202 fun b q p => ?_
    exact tail_done (k := q) (hp1203 _ _ ⟨Bs.post ⟨hg, hs, hd⟩ p, keep p 0 rfl i0, keep p 2 rfl i2, keep p 3 rfl i3, keep p 13 rfl i13, keep p 17 rfl i17, keep p 18 rfl i18, keep p 19 rfl i19, keep p 22 rfl i22, out p 1 109 _ rfl rfl rfl, trivial⟩)
  rintro a k ⟨⟨hg, hs, hd⟩, i0, i2, i3, i13, i17, i18, i19, i22, i109, _⟩
  refine wp_cond_split (isBool i109) (fun hc1201 => ?_) (fun hc1201 => ?_)
  · rw [if_pos hc1201] at hr
    refine wp_seq ?_
    refine cut (fun a' k' => Bs noF k0 155 a' k' ∧ (IsV x1162_0) (a'.get 12) k' ∧ True) ?_ hQ ?_
    · intro Q1184 hQQ1184 hp1185
      refine regionS (a0 := a) (k0 := k) (n := 155) (m := 2) (⟨some (IsV x1162_0), [(13, none)]⟩ :: ⟨some (IsV x1162_0), [(110, some 0)]⟩ :: []) hs (by kernel_rfl) ⟨ob1 rfl fun b q hk hn => ok_move rfl (up i13 hk hn.1), ob1 rfl fun b q hk hn => ok_assign rfl hn.1, trivial⟩ hQQ1184 fun b q p => ?_
      exact tail_done (k := q) (hp1185 _ _ ⟨Bs.post ⟨hg, hs, hd⟩ p, out p 1 12 _ rfl rfl rfl, trivial⟩)
    rintro a k ⟨⟨hg, hs, hd⟩, i12, _⟩
    refine wp_ret ?_
    obtain rfl := Option.some.inj hr
    exact retC1 rfl hd hg i12
  rw [if_neg (by rw [hc1201]; decide)] at hr
  refine wp_skip ?_
  refine wp_seq ?_
  obtain ⟨x1186_3, hx1186_3, hr⟩ := bind_some hr
  refine cut (fun a' k' => Bs noF k0 155 a' k' ∧ (IsV l_) (a'.get 0) k' ∧ (IsV from_) (a'.get 2) k' ∧ (IsV to_) (a'.get 3) k' ∧ (IsV x1162_0) (a'.get 13) k' ∧ (IsV x1172_12) (a'.get 17) k' ∧ (IsV x1174_10) (a'.get 18) k' ∧ (IsV x1176_2.1) (a'.get 19) k' ∧ (IsV x1177_2.1) (a'.get 22) k' ∧ (IsV x1186_3.1) (a'.get 25) k' ∧ True) ?_ hQ ?_
  · intro Q1199 hQQ1199 hp1200
    refine regionS (a0 := a) (k0 := k) (n := 155) (m := 9) (⟨some (IsV l_), [(0, none)]⟩ :: ⟨some (IsV x1172_12), [(17, none)]⟩ :: ⟨some (IsV to_), [(3, none)]⟩ :: ⟨some (IsTup2 (IsV x1186_3.1) (IsV x1186_3.2)), [(112, some 0), (113, some 1), (114, some 2)]⟩ :: ⟨some (IsTup2 (IsV x1186_3.1) (IsV x1186_3.2)), [(115, some 3)]⟩ :: ⟨some (IsV x1186_3.1), [(111, some 4)]⟩ :: ⟨some (IsV x1186_3.2), [(111, some 4)]⟩ :: ⟨some (IsV x1186_3.1), [(116, some 5)]⟩ :: ⟨some (IsV x1186_3.2), [(117, some 6)]⟩ :: []) hs (by kernel_rfl) ⟨ob1 rfl fun b q hk hn => ok_move rfl (up i0 hk hn.1), ob1 rfl fun b q hk hn => ok_move rfl (up i17 hk hn.1), ob1 rfl fun b q hk hn => ok_move rfl (up i3 hk hn.1), ob1 rfl fun b q hk hn => ok_call rfl Try.call11 (cTrace_ok hn.1 hn.2.1 hn.2.2.1 hx1186_3), ob1 rfl fun b q hk hn => ok_move rfl hn.1, ob1 rfl fun b q hk hn => ok_ext2_0 rfl hn.1, ob1 rfl fun b q hk hn => ok_ext2_1 rfl hn.1, ob1 rfl fun b q hk hn => ok_assign rfl hn.1, ob1 rfl fun b q hk hn => ok_assign rfl hn.1, trivial⟩ hQQ1199 fun b q p => ?_
    exact tail_done (k := q) (hp1200 _ _ ⟨Bs.post ⟨hg, hs, hd⟩ p, keep p 0 rfl i0, keep p 2 rfl i2, keep p 3 rfl i3, keep p 13 rfl i13, keep p 17 rfl i17, keep p 18 rfl i18, keep p 19 rfl i19, keep p 22 rfl i22, out p 7 25 _ rfl rfl rfl, trivial⟩)
  rintro a k ⟨⟨hg, hs, hd⟩, i0, i2, i3, i13, i17, i18, i19, i22, i25, _⟩
  refine wp_seq ?_
  obtain ⟨x1187_3, hx1187_3, hr⟩ := bind_some hr
  refine cut (fun a' k' => Bs noF k0 155 a' k' ∧ (IsV l_) (a'.get 0) k' ∧ (IsV from_) (a'.get 2) k' ∧ (IsV x1162_0) (a'.get 13) k' ∧ (IsV x1172_12) (a'.get 17) k' ∧ (IsV x1174_10) (a'.get 18) k' ∧ (IsV x1176_2.1) (a'.get 19) k' ∧ (IsV x1177_2.1) (a'.get 22) k' ∧ (IsV x1186_3.1) (a'.get 25) k' ∧ (IsV x1187_3.1) (a'.get 27) k' ∧ True) ?_ hQ ?_
  · intro Q1197 hQQ1197 hp1198
    refine regionS (a0 := a) (k0 := k) (n := 155) (m := 9) (⟨some (IsV l_), [(0, none)]⟩ :: ⟨some (IsV x1174_10), [(18, none)]⟩ :: ⟨some (IsV to_), [(3, none)]⟩ :: ⟨some (IsTup2 (IsV x1187_3.1) (IsV x1187_3.2)), [(119, some 0), (120, some 1), (121, some 2)]⟩ :: ⟨some (IsTup2 (IsV x1187_3.1) (IsV x1187_3.2)), [(122, some 3)]⟩ :: ⟨some (IsV x1187_3.1), [(118, some 4)]⟩ :: ⟨some (IsV x1187_3.2), [(118, some 4)]⟩ :: ⟨some (IsV x1187_3.1), [(123, some 5)]⟩ :: ⟨some (IsV x1187_3.2), [(124, some 6)]⟩ :: []) hs (by kernel_rfl) ⟨ob1 rfl fun b q hk hn => ok_move rfl (up i0 hk hn.1), ob1 rfl fun b q hk hn => ok_move rfl (up i18 hk hn.1), ob1 rfl fun b q hk hn => ok_move rfl (up i3 hk hn.1), ob1 rfl fun b q hk hn => ok_call rfl Try.call11 (cTrace_ok hn.1 hn.2.1 hn.2.2.1 hx1187_3), ob1 rfl fun b q hk hn => ok_move rfl hn.1, ob1 rfl fun b q hk hn => ok_ext2_0 rfl hn.1, ob1 rfl fun b q hk hn => ok_ext2_1 rfl hn.1, ob1 rfl fun b q hk hn => ok_assign rfl hn.1, ob1 rfl fun b q hk hn => ok_assign rfl hn.1, trivial⟩ hQQ1197 fun b q p => ?_
    exact tail_done (k := q) (hp1198 _ _ ⟨Bs.post ⟨hg, hs, hd⟩ p, keep p 0 rfl i0, keep p 2 rfl i2, keep p 13 rfl i13, keep p 17 rfl i17, keep p 18 rfl i18, keep p 19 rfl i19, keep p 22 rfl i22, keep p 25 rfl i25, out p 7 27 _ rfl rfl rfl, trivial⟩)
  rintro a k ⟨⟨hg, hs, hd⟩, i0, i2, i13, i17, i18, i19, i22, i25, i27, _⟩
  refine wp_seq ?_
  obtain ⟨x1188_3, hx1188_3, hr⟩ := bind_some hr
  refine cut (fun a' k' => Bs noF k0 155 a' k' ∧ (IsV l_) (a'.get 0) k' ∧ (IsV from_) (a'.get 2) k' ∧ (IsV x1162_0) (a'.get 13) k' ∧ (IsV x1174_10) (a'.get 18) k' ∧ (IsV x1176_2.1) (a'.get 19) k' ∧ (IsV x1177_2.1) (a'.get 22) k' ∧ (IsV x1186_3.1) (a'.get 25) k' ∧ (IsV x1187_3.1) (a'.get 27) k' ∧ (IsV x1188_3.1) (a'.get 29) k' ∧ True) ?_ hQ ?_
  · intro Q1195 hQQ1195 hp1196
    refine regionS (a0 := a) (k0 := k) (n := 155) (m := 9) (⟨some (IsV l_), [(0, none)]⟩ :: ⟨some (IsV x1172_12), [(17, none)]⟩ :: ⟨some (IsV from_), [(2, none)]⟩ :: ⟨some (IsTup2 (IsV x1188_3.1) (IsV x1188_3.2)), [(126, some 0), (127, some 1), (128, some 2)]⟩ :: ⟨some (IsTup2 (IsV x1188_3.1) (IsV x1188_3.2)), [(129, some 3)]⟩ :: ⟨some (IsV x1188_3.1), [(125, some 4)]⟩ :: ⟨some (IsV x1188_3.2), [(125, some 4)]⟩ :: ⟨some (IsV x1188_3.1), [(130, some 5)]⟩ :: ⟨some (IsV x1188_3.2), [(131, some 6)]⟩ :: []) hs (by kernel_rfl) ⟨ob1 rfl fun b q hk hn => ok_move rfl (up i0 hk hn.1), ob1 rfl fun b q hk hn => ok_move rfl (up i17 hk hn.1), ob1 rfl fun b q hk hn => ok_move rfl (up i2 hk hn.1), ob1 rfl fun b q hk hn => ok_call rfl Try.call11 (cTrace_ok hn.1 hn.2.1 hn.2.2.1 hx1188_3), ob1 rfl fun b q hk hn => ok_move rfl hn.1, ob1 rfl fun b q hk hn => ok_ext2_0 rfl hn.1, ob1 rfl fun b q hk hn => ok_ext2_1 rfl hn.1, ob1 rfl fun b q hk hn => ok_assign rfl hn.1, ob1 rfl fun b q hk hn => ok_assign rfl hn.1, trivial⟩ hQQ1195 fun b q p => ?_
    exact tail_done (k := q) (hp1196 _ _ ⟨Bs.post ⟨hg, hs, hd⟩ p, keep p 0 rfl i0, keep p 2 rfl i2, keep p 13 rfl i13, keep p 18 rfl i18, keep p 19 rfl i19, keep p 22 rfl i22, keep p 25 rfl i25, keep p 27 rfl i27, out p 7 29 _ rfl rfl rfl, trivial⟩)
  rintro a k ⟨⟨hg, hs, hd⟩, i0, i2, i13, i18, i19, i22, i25, i27, i29, _⟩
  refine wp_seq ?_
  obtain ⟨x1189_3, hx1189_3, hr⟩ := bind_some hr
  refine cut (fun a' k' => Bs noF k0 155 a' k' ∧ (IsV x1162_0) (a'.get 13) k' ∧ (IsV x1176_2.1) (a'.get 19) k' ∧ (IsV x1177_2.1) (a'.get 22) k' ∧ (IsV x1186_3.1) (a'.get 25) k' ∧ (IsV x1187_3.1) (a'.get 27) k' ∧ (IsV x1188_3.1) (a'.get 29) k' ∧ (IsV x1189_3.1) (a'.get 31) k' ∧ True) ?_ hQ ?_
  · intro Q1193 hQQ1193 hp1194
    refine regionS (a0 := a) (k0 := k) (n := 155) (m := 9) (⟨some (IsV l_), [(0, none)]⟩ :: ⟨some (IsV x1174_10), [(18, none)]⟩ :: ⟨some (IsV from_), [(2, none)]⟩ :: ⟨some (IsTup2 (IsV x1189_3.1) (IsV x1189_3.2)), [(133, some 0), (134, some 1), (135, some 2)]⟩ :: ⟨some (IsTup2 (IsV x1189_3.1) (IsV x1189_3.2)), [(136, some 3)]⟩ :: ⟨some (IsV x1189_3.1), [(132, some 4)]⟩ :: ⟨some (IsV x1189_3.2), [(132, some 4)]⟩ :: ⟨some (IsV x1189_3.1), [(137, some 5)]⟩ :: ⟨some (IsV x1189_3.2), [(138, some 6)]⟩ :: []) hs (by kernel_rfl) ⟨ob1 rfl fun b q hk hn => ok_move rfl (up i0 hk hn.1), ob1 rfl fun b q hk hn => ok_move rfl (up i18 hk hn.1), ob1 rfl fun b q hk hn => ok_move rfl (up i2 hk hn.1), ob1 rfl fun b q hk hn => ok_call rfl Try.call11 (cTrace_ok hn.1 hn.2.1 hn.2.2.1 hx1189_3), ob1 rfl fun b q hk hn => ok_move rfl hn.1, ob1 rfl fun b q hk hn => ok_ext2_0 rfl hn.1, ob1 rfl fun b q hk hn => ok_ext2_1 rfl hn.1, ob1 rfl fun b q hk hn => ok_assign rfl hn.1, ob1 rfl fun b q hk hn => ok_assign rfl hn.1, trivial⟩ hQQ1193 fun b q p => ?_
    exact tail_done (k := q) (hp1194 _ _ ⟨Bs.post ⟨hg, hs, hd⟩ p, keep p 13 rfl i13, keep p 19 rfl i19, keep p 22 rfl i22, keep p 25 rfl i25, keep p 27 rfl i27, keep p 29 rfl i29, out p 7 31 _ rfl rfl rfl, trivial⟩)
  rintro a k ⟨⟨hg, hs, hd⟩, i13, i19, i22, i25, i27, i29, i31, _⟩
  refine wp_seq ?_
  obtain ⟨x1190_5, hx1190_5, hr⟩ := bind_some hr
  obtain ⟨x1190_4, hx1190_4, hx1190_5⟩ := ite_bind hx1190_5
  obtain ⟨x1190_10, hx1190_10, hr⟩ := bind_some hr
  obtain ⟨x1190_9, hx1190_9, hx1190_10⟩ := ite_bind hx1190_10
  obtain ⟨x1190_15, hx1190_15, hr⟩ := bind_some hr
  obtain ⟨x1190_14, hx1190_14, hx1190_15⟩ := ite_bind hx1190_15
  refine cut (fun a' k' => Bs noF k0 155 a' k' ∧ (IsV x1190_15) (a'.get 12) k' ∧ True) ?_ hQ ?_
  · intro Q1191 hQQ1191 hp1192
    refine regionS (a0 := a) (k0 := k) (n := 155) (m := 17) (⟨some (IsV x1162_0), [(13, none)]⟩ :: ⟨some (IsV x1162_0), [(139, some 0)]⟩ :: ⟨some (Gd (x1162_0 = true) (IsV x1176_2.1)), [(19, none)]⟩ :: ⟨some (Gd (x1162_0 = true) (IsV x1177_2.1)), [(22, none)]⟩ :: ⟨some (Gd (x1162_0 = true) (IsV x1190_4)), [(141, some 2), (142, some 3)]⟩ :: ⟨some (IsV x1190_5), [(140, some 1), (143, some 4)]⟩ :: ⟨some (IsV x1190_5), [(144, some 5)]⟩ :: ⟨some (Gd (x1190_5 = true) (IsV x1186_3.1)), [(25, none)]⟩ :: ⟨some (Gd (x1190_5 = true) (IsV x1187_3.1)), [(27, none)]⟩ :: ⟨some (Gd (x1190_5 = true) (IsV x1190_9)), [(146, some 7), (147, some 8)]⟩ :: ⟨some (IsV x1190_10), [(145, some 6), (148, some 9)]⟩ :: ⟨some (IsV x1190_10), [(149, some 10)]⟩ :: ⟨some (Gd (x1190_10 = true) (IsV x1188_3.1)), [(29, none)]⟩ :: ⟨some (Gd (x1190_10 = true) (IsV x1189_3.1)), [(31, none)]⟩ :: ⟨some (Gd (x1190_10 = true) (IsV x1190_14)), [(151, some 12), (152, some 13)]⟩ :: ⟨some (IsV x1190_15), [(150, some 11), (153, some 14)]⟩ :: ⟨some (IsV x1190_15), [(154, some 15)]⟩ :: []) hs (by kernel_rfl) ⟨ob1 rfl fun b q hk hn => ok_move rfl (up i13 hk hn.1), ob1 rfl fun b q hk hn => ok_move rfl hn.1, gdT rfl rfl fun hp b q hk hn => ok_move rfl (up i19 hk hn.1), gdT rfl rfl fun hp b q hk hn => ok_move rfl (up i22 hk hn.1), gdT rfl rfl fun hp b q hk hn => ok_call rfl Try.call14 (rSame_ok (Gd.get hn.1 hp) (Gd.get hn.2.1 hp) (hx1190_4 hp)), ob1 rfl fun b q hk hn => ok_pickM rfl hn.1 hx1190_5 (fun hm => (Gd.get hn.2.1 hm)) (fun _ => (isV_bool.2 rfl)), ob1 rfl fun b q hk hn => ok_move rfl hn.1, gdT rfl rfl fun hp b q hk hn => ok_move rfl (up i25 hk hn.1), gdT rfl rfl fun hp b q hk hn => ok_move rfl (up i27 hk hn.1), gdT rfl rfl fun hp b q hk hn => ok_call rfl Try.call15 (rSameTrace_ok (Gd.get hn.1 hp) (Gd.get hn.2.1 hp) (hx1190_9 hp)), ob1 rfl fun b q hk hn => ok_pickM rfl hn.1 hx1190_10 (fun hm => (Gd.get hn.2.1 hm)) (fun _ => (isV_bool.2 rfl)), ob1 rfl fun b q hk hn => ok_move rfl hn.1, gdT rfl rfl fun hp b q hk hn => ok_move rfl (up i29 hk hn.1), gdT rfl rfl fun hp b q hk hn => ok_move rfl (up i31 hk hn.1), gdT rfl rfl fun hp b q hk hn => ok_call rfl Try.call15 (rSameTrace_ok (Gd.get hn.1 hp) (Gd.get hn.2.1 hp) (hx1190_14 hp)), ob1 rfl fun b q hk hn => ok_pickM rfl hn.1 hx1190_15 (fun hm => (Gd.get hn.2.1 hm)) (fun _ => (isV_bool.2 rfl)), ob1 rfl fun b q hk hn => ok_assign rfl hn.1, trivial⟩ hQQ1191 fun b q p => ?_
    exact tail_done (k := q) (hp1192 _ _ ⟨Bs.post ⟨hg, hs, hd⟩ p, out p 16 12 _ rfl rfl rfl, trivial⟩)
  rintro a k ⟨⟨hg, hs, hd⟩, i12, _⟩
  refine wp_ret ?_
  obtain rfl := Option.some.inj hr
  exact retC1 rfl hd hg i12
def lawTraces_L0 (m_ : (List Move)) (s1245 : (List Account) × Int × Int × Int) : Option (Flow ((List Account) × Int × Int × Int) (Bool)) :=
  if (decide (s1245.2.2.2 < (m_.length : Int))) then
    (getI m_ s1245.2.2.2).bind fun x1250_2 =>
    (if (x1250_2.Kind == 0) then
      (getI m_ s1245.2.2.2).bind fun x1254_3 =>
      (getI m_ s1245.2.2.2).bind fun x1254_8 =>
      (appI s1245.1 ([(⟨x1254_3.To, x1254_8.N, false⟩ : Account)])).bind fun x1254_13 =>
      some (x1254_13, s1245.2.1, s1245.2.2.1)
    else
      (if (x1250_2.Kind == 2) then
        (getI m_ s1245.2.2.2).bind fun x1260_3 =>
        (addI s1245.2.1 x1260_3.N).bind fun x1260_6 =>
        some (x1260_6, s1245.2.2.1)
      else
        (if (x1250_2.Kind == 3) then
          (getI m_ s1245.2.2.2).bind fun x1266_3 =>
          (addI s1245.2.2.1 x1266_3.N).bind fun x1266_6 =>
          some x1266_6
        else
          some s1245.2.2.1).bind fun s1264 =>
        some (s1245.2.1, s1264)).bind fun s1258 =>
      some (s1245.1, s1258.1, s1258.2)).bind fun s1252 =>
    (addI s1245.2.2.2 1).bind fun x1278_1 =>
    some (.go (s1252.1, s1252.2.1, s1252.2.2, x1278_1))
  else
    some (.ex 0 (s1245.1, s1245.2.1, s1245.2.2.1, s1245.2.2.2))
def lawTraces_L3 (x1315_7 : (List (Int × Int)) × Int) (s1321 : Int) : Option (Flow (Int) (Bool)) :=
  if (decide (s1321 < (x1315_7.1.length : Int))) then
    (getI x1315_7.1 s1321).bind fun x1326_2 =>
    (if (decide (x1326_2.2 < 1)) then
      some true
    else
      (if (decide (0 < s1321)) then
        (subI s1321 1).bind fun x1326_12 =>
        (getI x1315_7.1 x1326_12).bind fun x1326_13 =>
        (getI x1315_7.1 s1321).bind fun x1326_18 =>
        some (x1326_13.1 == x1326_18.1)
      else
        some false).bind fun x1326_22 =>
      some x1326_22).bind fun x1326_23 =>
    if x1326_23 then
      some (.ret false)
    else
      (addI s1321 1).bind fun x1330_1 =>
      some (.go x1330_1)
  else
    some (.ex 7 s1321)
def lawTraces_L2 (l_ : (List Account)) (m_ : (List Move)) (x1233_2 : (List Account) × Int × Int) (s1291 : (List Account) × Int × Int × Int) (x1296_2 : (List (Int × Int)) × Int) (x1297_2 : (List (Int × Int)) × Int) (s1303 : Int) (s1310 : Int × Int) : Option (Flow (Int × Int) (Bool)) :=
  if (decide (s1310.2 < (x1233_2.1.length : Int))) then
    (getI x1233_2.1 s1310.2).bind fun x1315_4 =>
    (cTrace l_ m_ x1315_4.Lot).bind fun x1315_7 =>
    (if (x1315_7.2 != 0) then
      some true
    else
      (lAdd x1315_7.1 0).bind fun x1316_4 =>
      (getI x1233_2.1 s1310.2).bind fun x1316_7 =>
      some (x1316_4 != x1316_7.Units)).bind fun x1316_11 =>
    if x1316_11 then
      some (.ret false)
    else
      (iterL (lawTraces_L3 x1315_7) (l_.length + m_.length + x1233_2.1.length + s1291.1.length + x1296_2.1.length + x1297_2.1.length + x1315_7.1.length + 1) 0).bind fun f1339 => match f1339 with
        | .go _ => none
        | .ex _ _ =>
          (getI s1291.1 s1303).bind fun x1341_4 =>
          (lAdd x1315_7.1 x1341_4.Lot).bind fun x1341_7 =>
          (addI s1310.1 x1341_7).bind fun x1341_8 =>
          (addI s1310.2 1).bind fun x1342_1 =>
          some (.go (x1341_8, x1342_1))
        | .ret r1347 => some (.ret r1347)
  else
    some (.ex 5 (s1310.1, s1310.2))
def lawTraces_L1 (l_ : (List Account)) (m_ : (List Move)) (x1233_2 : (List Account) × Int × Int) (s1291 : (List Account) × Int × Int × Int) (x1296_2 : (List (Int × Int)) × Int) (x1297_2 : (List (Int × Int)) × Int) (s1303 : Int) : Option (Flow (Int) (Bool)) :=
  if (decide (s1303 < (s1291.1.length : Int))) then
    (getI s1291.1 s1303).bind fun x1308_3 =>
    (lAdd x1296_2.1 x1308_3.Lot).bind fun x1308_6 =>
    (getI s1291.1 s1303).bind fun x1308_10 =>
    (lAdd x1297_2.1 x1308_10.Lot).bind fun x1308_13 =>
    (addI x1308_6 x1308_13).bind fun x1308_14 =>
    (iterL (lawTraces_L2 l_ m_ x1233_2 s1291 x1296_2 x1297_2 s1303) (l_.length + m_.length + x1233_2.1.length + s1291.1.length + x1296_2.1.length + x1297_2.1.length + 1) (x1308_14, 0)).bind fun f1359 => match f1359 with
      | .go _ => none
      | .ex _ s1360 =>
        (getI s1291.1 s1303).bind fun x1361_3 =>
        if (s1360.1 != x1361_3.Units) then
          some (.ret false)
        else
          (addI s1303 1).bind fun x1365_1 =>
          some (.go x1365_1)
      | .ret r1371 => some (.ret r1371)
  else
    some (.ex 3 s1303)
def lawTraces (l_ : (List Account)) (m_ : (List Move)) : Option (Bool) :=
  (small).bind fun x1228_0 =>
  (few l_ m_).bind fun x1229_2 =>
  if (!x1229_2) then
    some x1228_0
  else
    (cRun l_ m_).bind fun x1233_2 =>
    if (x1233_2.2.2 != 0) then
      (cTrace l_ m_ 0).bind fun x1235_2 =>
      some ((x1228_0 && (x1235_2.2 == x1233_2.2.2)) && ((x1235_2.1.length : Int) == 0))
    else
      (appI [] l_).bind fun x1241_2 =>
      (iterL (lawTraces_L0 m_) (l_.length + m_.length + x1233_2.1.length + x1241_2.length + 1) (x1241_2, 0, 0, 0)).bind fun f1290 => match f1290 with
        | .go _ => none
        | .ex _ s1291 =>
          if ((x1233_2.1.length : Int) != (s1291.1.length : Int)) then
            some false
          else
            (cTrace l_ m_ 0).bind fun x1296_2 =>
            (cTrace l_ m_ (-1)).bind fun x1297_2 =>
            (lAdd x1296_2.1 0).bind fun x1298_1 =>
            (if (x1298_1 != s1291.2.1) then
              some true
            else
              (lAdd x1297_2.1 0).bind fun x1298_6 =>
              some (x1298_6 != s1291.2.2.1)).bind fun x1298_9 =>
            if x1298_9 then
              some false
            else
              (iterL (lawTraces_L1 l_ m_ x1233_2 s1291 x1296_2 x1297_2) (l_.length + m_.length + x1233_2.1.length + s1291.1.length + x1296_2.1.length + x1297_2.1.length + 1) 0).bind fun f1380 => match f1380 with
                | .go _ => none
                | .ex _ _ =>
                  some x1228_0
                | .ret r1385 => some r1385
        | .ret r1399 => some r1399
theorem lawTraces_ok {k0 : K} {v0 v1 : Value} {l_ : (List Account)} {m_ : (List Move)} {r : Bool} (i0 : (IsV l_) v0 k0) (i1 : (IsV m_) v1 k0) (hr : lawTraces l_ m_ = some r) :
    Calls Try.prog 3 #[v0, v1] k0.w (Ret k0 (IsV r)) := by
  unfold lawTraces at hr
  refine Ret.ofC ?_
  refine enterK Try.func3 rfl Try.ntmps3 (show 2 ≤ 229 by decide) fun a k hk0 hs hd ha => ?_
  obtain ⟨e0, e1, _⟩ := ha
  replace i0 : (IsV l_) (a.get 0) k := by rw [e0, hk0]; exact i0
  replace i1 : (IsV m_) (a.get 1) k := by rw [e1, hk0]; exact i1
  have hQ : Gb.LetsOut (bodyPost Try.prog Try.f3 (RetC noF k0 (IsV r))) := letsOutC
  have hg : Chg noF k0 k := by rw [hk0]; exact Chg.refl _ k0
  refine wp_seq ?_
  refine cut (fun a' k' => Bs noF k0 229 a' k' ∧ (IsV l_) (a'.get 0) k' ∧ (IsV m_) (a'.get 1) k' ∧ True) ?_ hQ ?_
  · intro Q1419 hQQ1419 hp1420
    refine regionS (a0 := a) (k0 := k) (n := 229) (m := 1) (⟨some (IsV false), []⟩ :: []) hs (by kernel_rfl) ⟨ob1 rfl fun b q hk hn => ok_assign rfl (isV_bool.2 rfl), trivial⟩ hQQ1419 fun b q p => ?_
    exact tail_done (k := q) (hp1420 _ _ ⟨Bs.post ⟨hg, hs, hd⟩ p, keep p 0 rfl i0, keep p 1 rfl i1, trivial⟩)
  rintro a k ⟨⟨hg, hs, hd⟩, i0, i1, _⟩
  refine wp_seq ?_
  obtain ⟨x1228_0, hx1228_0, hr⟩ := bind_some hr
  refine cut (fun a' k' => Bs noF k0 229 a' k' ∧ (IsV l_) (a'.get 0) k' ∧ (IsV m_) (a'.get 1) k' ∧ (IsV x1228_0) (a'.get 5) k' ∧ True) ?_ hQ ?_
  · intro Q1417 hQQ1417 hp1418
    refine regionS (a0 := a) (k0 := k) (n := 229) (m := 2) (⟨some (IsV x1228_0), []⟩ :: ⟨some (IsV x1228_0), [(25, some 0)]⟩ :: []) hs (by kernel_rfl) ⟨ob1 rfl fun b q hk hn => ok_call rfl Try.call8 (small_ok hx1228_0), ob1 rfl fun b q hk hn => ok_assign rfl hn.1, trivial⟩ hQQ1417 fun b q p => ?_
    exact tail_done (k := q) (hp1418 _ _ ⟨Bs.post ⟨hg, hs, hd⟩ p, keep p 0 rfl i0, keep p 1 rfl i1, out p 1 5 _ rfl rfl rfl, trivial⟩)
  rintro a k ⟨⟨hg, hs, hd⟩, i0, i1, i5, _⟩
  refine wp_seq ?_
  refine wp_seq ?_
  obtain ⟨x1229_2, hx1229_2, hr⟩ := bind_some hr
  refine cut (fun a' k' => Bs noF k0 229 a' k' ∧ (IsV l_) (a'.get 0) k' ∧ (IsV m_) (a'.get 1) k' ∧ (IsV x1228_0) (a'.get 5) k' ∧ (IsV (!x1229_2)) (a'.get 29) k' ∧ True) ?_ hQ ?_
  · intro Q1415 hQQ1415 hp1416
    refine regionS (a0 := a) (k0 := k) (n := 229) (m := 4) (⟨some (IsV l_), [(0, none)]⟩ :: ⟨some (IsV m_), [(1, none)]⟩ :: ⟨some (IsV x1229_2), [(26, some 0), (27, some 1)]⟩ :: ⟨some (IsV (!x1229_2)), [(28, some 2)]⟩ :: []) hs (by kernel_rfl) ⟨ob1 rfl fun b q hk hn => ok_move rfl (up i0 hk hn.1), ob1 rfl fun b q hk hn => ok_move rfl (up i1 hk hn.1), ob1 rfl fun b q hk hn => ok_call rfl Try.call9 (few_ok hn.1 hn.2.1 hx1229_2), ob1 rfl fun b q hk hn => ok_not rfl hn.1, trivial⟩ hQQ1415 fun b q p => ?_
    exact tail_done (k := q) (hp1416 _ _ ⟨Bs.post ⟨hg, hs, hd⟩ p, keep p 0 rfl i0, keep p 1 rfl i1, keep p 5 rfl i5, out p 3 29 _ rfl rfl rfl, trivial⟩)
  rintro a k ⟨⟨hg, hs, hd⟩, i0, i1, i5, i29, _⟩
  refine wp_cond_split (isBool i29) (fun hc1414 => ?_) (fun hc1414 => ?_)
  · rw [if_pos hc1414] at hr
    refine wp_seq ?_
    refine cut (fun a' k' => Bs noF k0 229 a' k' ∧ (IsV x1228_0) (a'.get 4) k' ∧ True) ?_ hQ ?_
    · intro Q1231 hQQ1231 hp1232
      refine regionS (a0 := a) (k0 := k) (n := 229) (m := 2) (⟨some (IsV x1228_0), [(5, none)]⟩ :: ⟨some (IsV x1228_0), [(30, some 0)]⟩ :: []) hs (by kernel_rfl) ⟨ob1 rfl fun b q hk hn => ok_move rfl (up i5 hk hn.1), ob1 rfl fun b q hk hn => ok_assign rfl hn.1, trivial⟩ hQQ1231 fun b q p => ?_
      exact tail_done (k := q) (hp1232 _ _ ⟨Bs.post ⟨hg, hs, hd⟩ p, out p 1 4 _ rfl rfl rfl, trivial⟩)
    rintro a k ⟨⟨hg, hs, hd⟩, i4, _⟩
    refine wp_ret ?_
    obtain rfl := Option.some.inj hr
    exact retC1 rfl hd hg i4
  rw [if_neg (by rw [hc1414]; decide)] at hr
  refine wp_skip ?_
  refine wp_seq ?_
  obtain ⟨x1233_2, hx1233_2, hr⟩ := bind_some hr
  refine cut (fun a' k' => Bs noF k0 229 a' k' ∧ (IsV l_) (a'.get 0) k' ∧ (IsV m_) (a'.get 1) k' ∧ (IsV x1228_0) (a'.get 5) k' ∧ (IsV x1233_2.1) (a'.get 6) k' ∧ (IsV x1233_2.2.2) (a'.get 8) k' ∧ True) ?_ hQ ?_
  · intro Q1412 hQQ1412 hp1413
    refine regionS (a0 := a) (k0 := k) (n := 229) (m := 10) (⟨some (IsV l_), [(0, none)]⟩ :: ⟨some (IsV m_), [(1, none)]⟩ :: ⟨some (IsTup3 (IsV x1233_2.1) (IsV x1233_2.2.1) (IsV x1233_2.2.2)), [(32, some 0), (33, some 1)]⟩ :: ⟨some (IsTup3 (IsV x1233_2.1) (IsV x1233_2.2.1) (IsV x1233_2.2.2)), [(34, some 2)]⟩ :: ⟨some (IsV x1233_2.1), [(31, some 3)]⟩ :: ⟨some (IsV x1233_2.2.1), [(31, some 3)]⟩ :: ⟨some (IsV x1233_2.2.2), [(31, some 3)]⟩ :: ⟨some (IsV x1233_2.1), [(35, some 4)]⟩ :: ⟨some (IsV x1233_2.2.1), [(36, some 5)]⟩ :: ⟨some (IsV x1233_2.2.2), [(37, some 6)]⟩ :: []) hs (by kernel_rfl) ⟨ob1 rfl fun b q hk hn => ok_move rfl (up i0 hk hn.1), ob1 rfl fun b q hk hn => ok_move rfl (up i1 hk hn.1), ob1 rfl fun b q hk hn => ok_call rfl Try.call10 (cRun_ok hn.1 hn.2.1 hx1233_2), ob1 rfl fun b q hk hn => ok_move rfl hn.1, ob1 rfl fun b q hk hn => ok_ext3_0 rfl hn.1, ob1 rfl fun b q hk hn => ok_ext3_1 rfl hn.1, ob1 rfl fun b q hk hn => ok_ext3_2 rfl hn.1, ob1 rfl fun b q hk hn => ok_assign rfl hn.1, ob1 rfl fun b q hk hn => ok_assign rfl hn.1, ob1 rfl fun b q hk hn => ok_assign rfl hn.1, trivial⟩ hQQ1412 fun b q p => ?_
    exact tail_done (k := q) (hp1413 _ _ ⟨Bs.post ⟨hg, hs, hd⟩ p, keep p 0 rfl i0, keep p 1 rfl i1, keep p 5 rfl i5, out p 7 6 _ rfl rfl rfl, out p 9 8 _ rfl rfl rfl, trivial⟩)
  rintro a k ⟨⟨hg, hs, hd⟩, i0, i1, i5, i6, i8, _⟩
  refine wp_seq ?_
  refine wp_seq ?_
  refine cut (fun a' k' => Bs noF k0 229 a' k' ∧ (IsV l_) (a'.get 0) k' ∧ (IsV m_) (a'.get 1) k' ∧ (IsV x1228_0) (a'.get 5) k' ∧ (IsV x1233_2.1) (a'.get 6) k' ∧ (IsV x1233_2.2.2) (a'.get 8) k' ∧ (IsV (x1233_2.2.2 != 0)) (a'.get 39) k' ∧ True) ?_ hQ ?_
  · intro Q1410 hQQ1410 hp1411
    refine regionS (a0 := a) (k0 := k) (n := 229) (m := 2) (⟨some (IsV x1233_2.2.2), [(8, none)]⟩ :: ⟨some (IsV (x1233_2.2.2 != 0)), [(38, some 0)]⟩ :: []) hs (by kernel_rfl) ⟨ob1 rfl fun b q hk hn => ok_move rfl (up i8 hk hn.1), ob1 rfl fun b q hk hn => ok_neI rfl hn.1 (isV_int.2 rfl), trivial⟩ hQQ1410 fun b q p => ?_
    exact tail_done (k := q) (hp1411 _ _ ⟨Bs.post ⟨hg, hs, hd⟩ p, keep p 0 rfl i0, keep p 1 rfl i1, keep p 5 rfl i5, keep p 6 rfl i6, keep p 8 rfl i8, out p 1 39 _ rfl rfl rfl, trivial⟩)
  rintro a k ⟨⟨hg, hs, hd⟩, i0, i1, i5, i6, i8, i39, _⟩
  refine wp_cond_split (isBool i39) (fun hc1409 => ?_) (fun hc1409 => ?_)
  · rw [if_pos hc1409] at hr
    refine wp_seq ?_
    obtain ⟨x1235_2, hx1235_2, hr⟩ := bind_some hr
    refine cut (fun a' k' => Bs noF k0 229 a' k' ∧ (IsV x1228_0) (a'.get 5) k' ∧ (IsV x1233_2.2.2) (a'.get 8) k' ∧ (IsV x1235_2.1) (a'.get 9) k' ∧ (IsV x1235_2.2) (a'.get 10) k' ∧ True) ?_ hQ ?_
    · intro Q1239 hQQ1239 hp1240
      refine regionS (a0 := a) (k0 := k) (n := 229) (m := 8) (⟨some (IsV l_), [(0, none)]⟩ :: ⟨some (IsV m_), [(1, none)]⟩ :: ⟨some (IsTup2 (IsV x1235_2.1) (IsV x1235_2.2)), [(41, some 0), (42, some 1)]⟩ :: ⟨some (IsTup2 (IsV x1235_2.1) (IsV x1235_2.2)), [(43, some 2)]⟩ :: ⟨some (IsV x1235_2.1), [(40, some 3)]⟩ :: ⟨some (IsV x1235_2.2), [(40, some 3)]⟩ :: ⟨some (IsV x1235_2.1), [(44, some 4)]⟩ :: ⟨some (IsV x1235_2.2), [(45, some 5)]⟩ :: []) hs (by kernel_rfl) ⟨ob1 rfl fun b q hk hn => ok_move rfl (up i0 hk hn.1), ob1 rfl fun b q hk hn => ok_move rfl (up i1 hk hn.1), ob1 rfl fun b q hk hn => ok_call rfl Try.call11 (cTrace_ok hn.1 hn.2.1 (isV_int.2 rfl) hx1235_2), ob1 rfl fun b q hk hn => ok_move rfl hn.1, ob1 rfl fun b q hk hn => ok_ext2_0 rfl hn.1, ob1 rfl fun b q hk hn => ok_ext2_1 rfl hn.1, ob1 rfl fun b q hk hn => ok_assign rfl hn.1, ob1 rfl fun b q hk hn => ok_assign rfl hn.1, trivial⟩ hQQ1239 fun b q p => ?_
      exact tail_done (k := q) (hp1240 _ _ ⟨Bs.post ⟨hg, hs, hd⟩ p, keep p 5 rfl i5, keep p 8 rfl i8, out p 6 9 _ rfl rfl rfl, out p 7 10 _ rfl rfl rfl, trivial⟩)
    rintro a k ⟨⟨hg, hs, hd⟩, i5, i8, i9, i10, _⟩
    refine wp_seq ?_
    refine cut (fun a' k' => Bs noF k0 229 a' k' ∧ (IsV ((x1228_0 && (x1235_2.2 == x1233_2.2.2)) && ((x1235_2.1.length : Int) == 0))) (a'.get 4) k' ∧ True) ?_ hQ ?_
    · intro Q1237 hQQ1237 hp1238
      refine regionS (a0 := a) (k0 := k) (n := 229) (m := 12) (⟨some (IsV x1228_0), [(5, none)]⟩ :: ⟨some (IsV x1228_0), [(46, some 0)]⟩ :: ⟨some (Gd (x1228_0 = true) (IsV x1235_2.2)), [(10, none)]⟩ :: ⟨some (Gd (x1228_0 = true) (IsV x1233_2.2.2)), [(8, none)]⟩ :: ⟨some (Gd (x1228_0 = true) (IsV (x1235_2.2 == x1233_2.2.2))), [(48, some 2), (49, some 3)]⟩ :: ⟨some (IsV (x1228_0 && (x1235_2.2 == x1233_2.2.2))), [(47, some 1), (50, some 4)]⟩ :: ⟨some (IsV (x1228_0 && (x1235_2.2 == x1233_2.2.2))), [(51, some 5)]⟩ :: ⟨some (Gd ((x1228_0 && (x1235_2.2 == x1233_2.2.2)) = true) (IsV x1235_2.1)), [(9, none)]⟩ :: ⟨some (Gd ((x1228_0 && (x1235_2.2 == x1233_2.2.2)) = true) (IsV (α := Int) (x1235_2.1.length : Int))), [(53, some 7)]⟩ :: ⟨some (Gd ((x1228_0 && (x1235_2.2 == x1233_2.2.2)) = true) (IsV ((x1235_2.1.length : Int) == 0))), [(54, some 8)]⟩ :: ⟨some (IsV ((x1228_0 && (x1235_2.2 == x1233_2.2.2)) && ((x1235_2.1.length : Int) == 0))), [(52, some 6), (55, some 9)]⟩ :: ⟨some (IsV ((x1228_0 && (x1235_2.2 == x1233_2.2.2)) && ((x1235_2.1.length : Int) == 0))), [(56, some 10)]⟩ :: []) hs (by kernel_rfl) ⟨ob1 rfl fun b q hk hn => ok_move rfl (up i5 hk hn.1), ob1 rfl fun b q hk hn => ok_move rfl hn.1, gdT rfl rfl fun hp b q hk hn => ok_move rfl (up i10 hk hn.1), gdT rfl rfl fun hp b q hk hn => ok_move rfl (up i8 hk hn.1), gdT rfl rfl fun hp b q hk hn => ok_eqI rfl (Gd.get hn.1 hp) (Gd.get hn.2.1 hp), ob1 rfl fun b q hk hn => ok_pickAnd rfl hn.1 (fun hm => (Gd.get hn.2.1 hm)) (fun _ => (isV_bool.2 rfl)), ob1 rfl fun b q hk hn => ok_move rfl hn.1, gdT rfl rfl fun hp b q hk hn => ok_move rfl (up i9 hk hn.1), gdT rfl rfl fun hp b q hk hn => ok_len rfl rfl Try.underlying29 (IsV.rd (Gd.get hn.1 hp)), gdT rfl rfl fun hp b q hk hn => ok_eqI rfl (Gd.get hn.1 hp) (isV_int.2 rfl), ob1 rfl fun b q hk hn => ok_pickAnd rfl hn.1 (fun hm => (Gd.get hn.2.1 hm)) (fun _ => (isV_bool.2 rfl)), ob1 rfl fun b q hk hn => ok_assign rfl hn.1, trivial⟩ hQQ1237 fun b q p => ?_
      exact tail_done (k := q) (hp1238 _ _ ⟨Bs.post ⟨hg, hs, hd⟩ p, out p 11 4 _ rfl rfl rfl, trivial⟩)
    rintro a k ⟨⟨hg, hs, hd⟩, i4, _⟩
    refine wp_ret ?_
    obtain rfl := Option.some.inj hr
    exact retC1 rfl hd hg i4
  rw [if_neg (by rw [hc1409]; decide)] at hr
  refine wp_skip ?_
  refine wp_seq ?_
  obtain ⟨x1241_2, hx1241_2, hr⟩ := bind_some hr
  refine cut (fun a' k' => Bs noF k0 229 a' k' ∧ (IsV l_) (a'.get 0) k' ∧ (IsV m_) (a'.get 1) k' ∧ (IsV x1228_0) (a'.get 5) k' ∧ (IsV x1233_2.1) (a'.get 6) k' ∧ IsOwn 0 35 x1241_2 (a'.get 11) k' ∧ Lo k0 (obF (a'.get 11)) ∧ True) ?_ hQ ?_
  · intro Q1407 hQQ1407 hp1408
    refine regionS (a0 := a) (k0 := k) (n := 229) (m := 4) (⟨some IsE0, []⟩ :: ⟨some (IsV l_), [(0, none)]⟩ :: ⟨some (IsOwn k.w.heap.size 35 x1241_2), [(57, some 0), (58, some 1)]⟩ :: ⟨some (IsOwn k.w.heap.size 35 x1241_2), [(59, some 2)]⟩ :: []) hs (by kernel_rfl) ⟨ob1 rfl fun b q hk hn => ok_buildSlice0 rfl Try.underlying22 eo35, ob1 rfl fun b q hk hn => ok_move rfl (up i0 hk hn.1), ob1 rfl fun b q hk hn => ok_append0 rfl Try.underlying22 eo35 hk.size hn.1 (IsV.rd hn.2.1) hx1241_2, ob1 rfl fun b q hk hn => ok_assign rfl hn.1, trivial⟩ hQQ1407 fun b q p => ?_
    have hgq := hg.then p.grow
    have hsb := p.size.trans hs
    have hdb := p.defers.trans hd
    have j0 := keep p 0 rfl i0
    have j1 := keep p 1 rfl i1
    have j5 := keep p 5 rfl i5
    have j6 := keep p 6 rfl i6
    have j11 : (IsOwn k.w.heap.size 35 x1241_2) (b.get 11) q := out p 3 11 _ rfl rfl rfl
    have x11 : Lo k (obF (b.get 11)) := j11.loF
    have y11 := x11.chg hg
    replace j11 := j11.weaken (Nat.zero_le _)
    exact tail_done (k := q) (hp1408 _ _ ⟨⟨hgq, hsb, hdb⟩, j0, j1, j5, j6, j11, y11, trivial⟩)
  rintro a k ⟨⟨hg, hs, hd⟩, i0, i1, i5, i6, i11, n11, _⟩
  refine wp_seq ?_
  refine cut (fun a' k' => Bs noF k0 229 a' k' ∧ (IsV l_) (a'.get 0) k' ∧ (IsV m_) (a'.get 1) k' ∧ (IsV x1228_0) (a'.get 5) k' ∧ (IsV x1233_2.1) (a'.get 6) k' ∧ IsOwn 0 35 x1241_2 (a'.get 11) k' ∧ Lo k0 (obF (a'.get 11)) ∧ (IsV (α := Int) 0) (a'.get 12) k' ∧ True) ?_ hQ ?_
  · intro Q1405 hQQ1405 hp1406
    refine regionS (a0 := a) (k0 := k) (n := 229) (m := 1) (⟨some (IsV (α := Int) 0), []⟩ :: []) hs (by kernel_rfl) ⟨ob1 rfl fun b q hk hn => ok_assign rfl (isV_int.2 rfl), trivial⟩ hQQ1405 fun b q p => ?_
    exact tail_done (k := q) (hp1406 _ _ ⟨Bs.post ⟨hg, hs, hd⟩ p, keep p 0 rfl i0, keep p 1 rfl i1, keep p 5 rfl i5, keep p 6 rfl i6, keep p 11 rfl i11, (by rw [p.old 11 rfl]; exact n11), out p 0 12 _ rfl rfl rfl, trivial⟩)
  rintro a k ⟨⟨hg, hs, hd⟩, i0, i1, i5, i6, i11, n11, i12, _⟩
  refine wp_seq ?_
  refine cut (fun a' k' => Bs noF k0 229 a' k' ∧ (IsV l_) (a'.get 0) k' ∧ (IsV m_) (a'.get 1) k' ∧ (IsV x1228_0) (a'.get 5) k' ∧ (IsV x1233_2.1) (a'.get 6) k' ∧ IsOwn 0 35 x1241_2 (a'.get 11) k' ∧ Lo k0 (obF (a'.get 11)) ∧ (IsV (α := Int) 0) (a'.get 12) k' ∧ (IsV (α := Int) 0) (a'.get 13) k' ∧ True) ?_ hQ ?_
  · intro Q1403 hQQ1403 hp1404
    refine regionS (a0 := a) (k0 := k) (n := 229) (m := 1) (⟨some (IsV (α := Int) 0), []⟩ :: []) hs (by kernel_rfl) ⟨ob1 rfl fun b q hk hn => ok_assign rfl (isV_int.2 rfl), trivial⟩ hQQ1403 fun b q p => ?_
    exact tail_done (k := q) (hp1404 _ _ ⟨Bs.post ⟨hg, hs, hd⟩ p, keep p 0 rfl i0, keep p 1 rfl i1, keep p 5 rfl i5, keep p 6 rfl i6, keep p 11 rfl i11, (by rw [p.old 11 rfl]; exact n11), keep p 12 rfl i12, out p 0 13 _ rfl rfl rfl, trivial⟩)
  rintro a k ⟨⟨hg, hs, hd⟩, i0, i1, i5, i6, i11, n11, i12, i13, _⟩
  refine wp_seq ?_
  refine wp_seq ?_
  refine cut (fun a' k' => Bs noF k0 229 a' k' ∧ (IsV l_) (a'.get 0) k' ∧ (IsV m_) (a'.get 1) k' ∧ (IsV x1228_0) (a'.get 5) k' ∧ (IsV x1233_2.1) (a'.get 6) k' ∧ IsOwn 0 35 x1241_2 (a'.get 11) k' ∧ Lo k0 (obF (a'.get 11)) ∧ (IsV (α := Int) 0) (a'.get 12) k' ∧ (IsV (α := Int) 0) (a'.get 13) k' ∧ (IsV (α := Int) 0) (a'.get 14) k' ∧ True) ?_ hQ ?_
  · intro Q1401 hQQ1401 hp1402
    refine regionS (a0 := a) (k0 := k) (n := 229) (m := 1) (⟨some (IsV (α := Int) 0), []⟩ :: []) hs (by kernel_rfl) ⟨ob1 rfl fun b q hk hn => ok_assign rfl (isV_int.2 rfl), trivial⟩ hQQ1401 fun b q p => ?_
    exact tail_done (k := q) (hp1402 _ _ ⟨Bs.post ⟨hg, hs, hd⟩ p, keep p 0 rfl i0, keep p 1 rfl i1, keep p 5 rfl i5, keep p 6 rfl i6, keep p 11 rfl i11, (by rw [p.old 11 rfl]; exact n11), keep p 12 rfl i12, keep p 13 rfl i13, out p 0 14 _ rfl rfl rfl, trivial⟩)
  rintro a k ⟨⟨hg, hs, hd⟩, i0, i1, i5, i6, i11, n11, i12, i13, i14, _⟩
  refine wp_block ?_
  obtain ⟨f1290, hf1290, hr⟩ := bind_some hr
  refine cutFe f1290 (fun s' a' k' => Bs noF k0 229 a' k' ∧ (IsV l_) (a'.get 0) k' ∧ (IsV m_) (a'.get 1) k' ∧ (IsV x1228_0) (a'.get 5) k' ∧ (IsV x1233_2.1) (a'.get 6) k' ∧ IsOwn 0 35 s'.1 (a'.get 11) k' ∧ Lo k0 (obF (a'.get 11)) ∧ (IsV s'.2.1) (a'.get 12) k' ∧ (IsV s'.2.2.1) (a'.get 13) k' ∧ (IsV s'.2.2.2) (a'.get 14) k' ∧ True) (fun i' s' a' k' => (i' = 0 ∧ Bs noF k0 229 a' k' ∧ (IsV l_) (a'.get 0) k' ∧ (IsV m_) (a'.get 1) k' ∧ (IsV x1228_0) (a'.get 5) k' ∧ (IsV x1233_2.1) (a'.get 6) k' ∧ (IsV s'.1) (a'.get 11) k' ∧ (IsV s'.2.1) (a'.get 12) k' ∧ (IsV s'.2.2.1) (a'.get 13) k' ∧ True)) (fun r' a' k' => bodyPost Try.prog Try.f3 (RetC noF k0 (IsV r')) .ret a' k'.w) ?_ hQ ?_ ?_ ?_
  · intro Q1400 hQQ1400 hgo hex hret
    refine sim_loop ?_ _ _ _ _ _ hf1290 ⟨⟨hg, hs, hd⟩, i0, i1, i5, i6, i11, n11, i12, i13, i14, trivial⟩ Q1400 hQQ1400 hgo hex hret
    clear hr hf1290 hgo hex hret hQQ1400 hQ hg hs hd i0 i1 i11 i12 i13 i14 i5 i6 n11
    intro s1245 fl_ a k hr hS Q hQ hgo1246 hex1247 hret1248
    obtain ⟨⟨hg, hs, hd⟩, i0, i1, i5, i6, i11, n11, i12, i13, i14, _⟩ := hS
    unfold lawTraces_L0 at hr
    refine wp_seq ?_
    refine wp_seq ?_
    refine cut (fun a' k' => Bs noF k0 229 a' k' ∧ (IsV l_) (a'.get 0) k' ∧ (IsV m_) (a'.get 1) k' ∧ (IsV x1228_0) (a'.get 5) k' ∧ (IsV x1233_2.1) (a'.get 6) k' ∧ IsOwn 0 35 s1245.1 (a'.get 11) k' ∧ Lo k0 (obF (a'.get 11)) ∧ (IsV s1245.2.1) (a'.get 12) k' ∧ (IsV s1245.2.2.1) (a'.get 13) k' ∧ (IsV s1245.2.2.2) (a'.get 14) k' ∧ (IsV (decide (s1245.2.2.2 < (m_.length : Int)))) (a'.get 63) k' ∧ True) ?_ hQ ?_
    · intro Q1288 hQQ1288 hp1289
      refine regionS (a0 := a) (k0 := k) (n := 229) (m := 4) (⟨some (IsV s1245.2.2.2), [(14, none)]⟩ :: ⟨some (IsV m_), [(1, none)]⟩ :: ⟨some (IsV (α := Int) (m_.length : Int)), [(61, some 1)]⟩ :: ⟨some (IsV (decide (s1245.2.2.2 < (m_.length : Int)))), [(60, some 0), (62, some 2)]⟩ :: []) hs (by kernel_rfl) ⟨ob1 rfl fun b q hk hn => ok_move rfl (up i14 hk hn.1), ob1 rfl fun b q hk hn => ok_move rfl (up i1 hk hn.1), ob1 rfl fun b q hk hn => ok_len rfl rfl Try.underlying23 (IsV.rd hn.1), ob1 rfl fun b q hk hn => ok_lss rfl hn.1 hn.2.1, trivial⟩ hQQ1288 fun b q p => ?_
      exact tail_done (k := q) (hp1289 _ _ ⟨Bs.post ⟨hg, hs, hd⟩ p, keep p 0 rfl i0, keep p 1 rfl i1, keep p 5 rfl i5, keep p 6 rfl i6, keep p 11 rfl i11, (by rw [p.old 11 rfl]; exact n11), keep p 12 rfl i12, keep p 13 rfl i13, keep p 14 rfl i14, out p 3 63 _ rfl rfl rfl, trivial⟩)
    rintro a k ⟨⟨hg, hs, hd⟩, i0, i1, i5, i6, i11, n11, i12, i13, i14, i63, _⟩
    refine wp_cond_split (isBool i63) (fun hc1287 => ?_) (fun hc1287 => ?_)
    · rw [if_pos hc1287] at hr
      refine wp_skip ?_
      refine wp_seq ?_
      refine wp_block ?_
      refine wp_seq ?_
      obtain ⟨x1250_2, hx1250_2, hr⟩ := bind_some hr
      refine cut (fun a' k' => Bs noF k0 229 a' k' ∧ (IsV l_) (a'.get 0) k' ∧ (IsV m_) (a'.get 1) k' ∧ (IsV x1228_0) (a'.get 5) k' ∧ (IsV x1233_2.1) (a'.get 6) k' ∧ IsOwn 0 35 s1245.1 (a'.get 11) k' ∧ Lo k0 (obF (a'.get 11)) ∧ (IsV s1245.2.1) (a'.get 12) k' ∧ (IsV s1245.2.2.1) (a'.get 13) k' ∧ (IsV s1245.2.2.2) (a'.get 14) k' ∧ (IsV x1250_2.Kind) (a'.get 70) k' ∧ True) ?_ hQ ?_
      · intro Q1284 hQQ1284 hp1285
        refine regionS (a0 := a) (k0 := k) (n := 229) (m := 5) (⟨some (IsV m_), [(1, none)]⟩ :: ⟨some (IsV s1245.2.2.2), [(14, none)]⟩ :: ⟨some (IsPtr x1250_2), [(66, some 0), (67, some 1)]⟩ :: ⟨some (IsPtr x1250_2.Kind), [(68, some 2)]⟩ :: ⟨some (IsV x1250_2.Kind), [(69, some 3)]⟩ :: []) hs (by kernel_rfl) ⟨ob1 rfl fun b q hk hn => ok_move rfl (up i1 hk hn.1), ob1 rfl fun b q hk hn => ok_move rfl (up i14 hk hn.1), ob1 rfl fun b q hk hn => ok_indexAddr rfl Try.underlying23 ty33 (IsV.rd hn.1) hn.2.1 hx1250_2, ob1 rfl fun b q hk hn => ok_fieldAddr rfl fo33_0 (at_Move_0 _) hn.1, ob1 rfl fun b q hk hn => ok_load rfl ty3 hn.1, trivial⟩ hQQ1284 fun b q p => ?_
        exact tail_done (k := q) (hp1285 _ _ ⟨Bs.post ⟨hg, hs, hd⟩ p, keep p 0 rfl i0, keep p 1 rfl i1, keep p 5 rfl i5, keep p 6 rfl i6, keep p 11 rfl i11, (by rw [p.old 11 rfl]; exact n11), keep p 12 rfl i12, keep p 13 rfl i13, keep p 14 rfl i14, out p 4 70 _ rfl rfl rfl, trivial⟩)
      rintro a k ⟨⟨hg, hs, hd⟩, i0, i1, i5, i6, i11, n11, i12, i13, i14, i70, _⟩
      refine wp_block ?_
      refine wp_seq ?_
      refine cut (fun a' k' => Bs noF k0 229 a' k' ∧ (IsV l_) (a'.get 0) k' ∧ (IsV m_) (a'.get 1) k' ∧ (IsV x1228_0) (a'.get 5) k' ∧ (IsV x1233_2.1) (a'.get 6) k' ∧ IsOwn 0 35 s1245.1 (a'.get 11) k' ∧ Lo k0 (obF (a'.get 11)) ∧ (IsV s1245.2.1) (a'.get 12) k' ∧ (IsV s1245.2.2.1) (a'.get 13) k' ∧ (IsV s1245.2.2.2) (a'.get 14) k' ∧ (IsV x1250_2.Kind) (a'.get 70) k' ∧ (IsV (x1250_2.Kind == 0)) (a'.get 71) k' ∧ True) ?_ hQ ?_
      · intro Q1282 hQQ1282 hp1283
        refine regionS (a0 := a) (k0 := k) (n := 229) (m := 2) (⟨some (IsV (x1250_2.Kind == 0)), [(70, none)]⟩ :: ⟨some (IsV (x1250_2.Kind == 0)), [(72, some 0)]⟩ :: []) hs (by kernel_rfl) ⟨ob1 rfl fun b q hk hn => ok_eqI rfl (up i70 hk hn.1) (isV_int.2 rfl), ob1 rfl fun b q hk hn => ok_assign rfl hn.1, trivial⟩ hQQ1282 fun b q p => ?_
        exact tail_done (k := q) (hp1283 _ _ ⟨Bs.post ⟨hg, hs, hd⟩ p, keep p 0 rfl i0, keep p 1 rfl i1, keep p 5 rfl i5, keep p 6 rfl i6, keep p 11 rfl i11, (by rw [p.old 11 rfl]; exact n11), keep p 12 rfl i12, keep p 13 rfl i13, keep p 14 rfl i14, keep p 70 rfl i70, out p 1 71 _ rfl rfl rfl, trivial⟩)
      rintro a k ⟨⟨hg, hs, hd⟩, i0, i1, i5, i6, i11, n11, i12, i13, i14, i70, i71, _⟩
      obtain ⟨s1252, hs1252, hr⟩ := bind_some hr
      refine cut (fun a' k' => Bs noF k0 229 a' k' ∧ (IsV l_) (a'.get 0) k' ∧ (IsV m_) (a'.get 1) k' ∧ (IsV x1228_0) (a'.get 5) k' ∧ (IsV x1233_2.1) (a'.get 6) k' ∧ IsOwn 0 35 s1252.1 (a'.get 11) k' ∧ Lo k0 (obF (a'.get 11)) ∧ (IsV s1252.2.1) (a'.get 12) k' ∧ (IsV s1252.2.2) (a'.get 13) k' ∧ (IsV s1245.2.2.2) (a'.get 14) k' ∧ True) ?_ hQ ?_
      · intro Q1281 hQQ1281 hp1253
        replace hr := hs1252
        clear hQ
        have hQ := hQQ1281
        refine wp_cond_split (isBool i71) (fun hc1277 => ?_) (fun hc1277 => ?_)
        · rw [if_pos hc1277] at hr
          obtain ⟨x1254_3, hx1254_3, hr⟩ := bind_some hr
          obtain ⟨x1254_8, hx1254_8, hr⟩ := bind_some hr
          obtain ⟨x1254_13, hx1254_13, hr⟩ := bind_some hr
          refine cut (fun a' k' => Bs noF k0 229 a' k' ∧ (IsV l_) (a'.get 0) k' ∧ (IsV m_) (a'.get 1) k' ∧ (IsV x1228_0) (a'.get 5) k' ∧ (IsV x1233_2.1) (a'.get 6) k' ∧ IsOwn 0 35 x1254_13 (a'.get 11) k' ∧ Lo k0 (obF (a'.get 11)) ∧ (IsV s1245.2.1) (a'.get 12) k' ∧ (IsV s1245.2.2.1) (a'.get 13) k' ∧ (IsV s1245.2.2.2) (a'.get 14) k' ∧ True) ?_ hQ ?_
          · intro Q1255 hQQ1255 hp1256
            refine region (a0 := a) (k0 := k) (n := 229) (m := 13) (⟨some (OwnAt (a.get 11) 0 35 s1245.1), [(11, none)]⟩ :: ⟨some (IsV m_), [(1, none)]⟩ :: ⟨some (IsV s1245.2.2.2), [(14, none)]⟩ :: ⟨some (IsPtr x1254_3), [(74, some 1), (75, some 2)]⟩ :: ⟨some (IsPtr x1254_3.To), [(76, some 3)]⟩ :: ⟨some (IsV x1254_3.To), [(77, some 4)]⟩ :: ⟨some (IsV m_), [(1, none)]⟩ :: ⟨some (IsV s1245.2.2.2), [(14, none)]⟩ :: ⟨some (IsPtr x1254_8), [(79, some 6), (80, some 7)]⟩ :: ⟨some (IsPtr x1254_8.N), [(81, some 8)]⟩ :: ⟨some (IsV x1254_8.N), [(82, some 9)]⟩ :: ⟨some (IsV (⟨x1254_3.To, x1254_8.N, false⟩ : Account)), [(78, some 5), (83, some 10)]⟩ :: ⟨some (IsV ([(⟨x1254_3.To, x1254_8.N, false⟩ : Account)])), [(84, some 11)]⟩ :: []) hmix hs (by kernel_rfl) ⟨ob1 rfl fun b q hk hn => ok_moveOA (.inl rfl) ⟨hn.1, up i11 hk hn.1⟩, ob1 rfl fun b q hk hn => ok_move rfl (up i1 hk hn.1), ob1 rfl fun b q hk hn => ok_move rfl (up i14 hk hn.1), ob1 rfl fun b q hk hn => ok_indexAddr rfl Try.underlying23 ty33 (IsV.rd hn.1) hn.2.1 hx1254_3, ob1 rfl fun b q hk hn => ok_fieldAddr rfl fo33_2 (at_Move_2 _) hn.1, ob1 rfl fun b q hk hn => ok_load rfl ty3 hn.1, ob1 rfl fun b q hk hn => ok_move rfl (up i1 hk hn.1), ob1 rfl fun b q hk hn => ok_move rfl (up i14 hk hn.1), ob1 rfl fun b q hk hn => ok_indexAddr rfl Try.underlying23 ty33 (IsV.rd hn.1) hn.2.1 hx1254_8, ob1 rfl fun b q hk hn => ok_fieldAddr rfl fo33_3 (at_Move_3 _) hn.1, ob1 rfl fun b q hk hn => ok_load rfl ty3 hn.1, ob1 rfl fun b q hk hn => ok_build rfl (bld35_0_1 hn.1 hn.2.1), ob1 rfl fun b q hk hn => ok_buildSlice rfl Try.underlying22 eo35 rfl (by decide) (by decide) ⟨rfl, hn.1, trivial⟩, trivial⟩ hQQ1255 fun b q p => ?_
            have hgq := hg.then p.grow
            have hsb := p.size.trans hs
            have hdb := p.defers.trans hd
            have j0 := keep p 0 rfl i0
            have j1 := keep p 1 rfl i1
            have j5 := keep p 5 rfl i5
            have j6 := keep p 6 rfl i6
            have j12 := keep p 12 rfl i12
            have j13 := keep p 13 rfl i13
            have j14 := keep p 14 rfl i14
            have e73 : b.get 73 = a.get 11 := (out p 0 73 _ rfl rfl rfl).1
            have j73 : IsOwn 0 35 s1245.1 (b.get 73) q := (out p 0 73 _ rfl rfl rfl).2
            have y73 : Lo k0 (obF (b.get 73)) := by rw [e73]; exact n11
            have j85 : (IsV ([(⟨x1254_3.To, x1254_8.N, false⟩ : Account)])) (b.get 85) q := out p 12 85 _ rfl rfl rfl
            have hns := j73.nshF
            refine tail_appendS (i := 13) (d := 86) rfl rfl rfl rfl (by rw [hsb]; decide) (e := 35) Try.underlying22 eo35 j73 (IsV.rd j85) hx1254_13 fun b2 q2 hsz hdf hoth hch hown hob => ?_
            have hle := hch.le hns
            have yn : Lo k0 (obF (b2.get 86)) := y73.app hgq hob
            replace j0 := Pers.pers hle j0
            replace j1 := Pers.pers hle j1
            replace j5 := Pers.pers hle j5
            replace j6 := Pers.pers hle j6
            replace j12 := Pers.pers hle j12
            replace j13 := Pers.pers hle j13
            replace j14 := Pers.pers hle j14
            replace j85 := Pers.pers hle j85
            replace hgq := hgq.step hch y73.wr
            rw [← hoth 0 (by decide)] at j0
            rw [← hoth 1 (by decide)] at j1
            rw [← hoth 5 (by decide)] at j5
            rw [← hoth 6 (by decide)] at j6
            rw [← hoth 12 (by decide)] at j12
            rw [← hoth 13 (by decide)] at j13
            rw [← hoth 14 (by decide)] at j14
            rw [← hoth 85 (by decide)] at j85
            have j86 := hown
            have y86 := yn
            replace hsb := hsz.trans hsb
            replace hdb := hdf.trans hdb
            clear hle hch hown hob hns yn hsz hdf hoth
            obtain ⟨b, hbb⟩ : ∃ b, b = b2 := ⟨b2, rfl⟩
            subst hbb
            obtain ⟨q, hqq⟩ : ∃ q, q = q2 := ⟨q2, rfl⟩
            subst hqq
            refine tail_assign (i := 14) (d := 11) rfl rfl (.inl rfl) rfl (by rw [hsb]; decide) fun b2 hsz hdf hnew hoth => ?_
            have jn : (IsOwn 0 35 x1254_13) (b2.get 11) q := by rw [hnew]; exact j86
            have yn : Lo k0 (obF (b2.get 11)) := by rw [hnew]; exact y86
            rw [← hoth 0 (by decide)] at j0
            rw [← hoth 1 (by decide)] at j1
            rw [← hoth 5 (by decide)] at j5
            rw [← hoth 6 (by decide)] at j6
            rw [← hoth 12 (by decide)] at j12
            rw [← hoth 13 (by decide)] at j13
            rw [← hoth 14 (by decide)] at j14
            rw [← hoth 85 (by decide)] at j85
            have j11 := jn
            have y11 := yn
            replace hsb := hsz.trans hsb
            replace hdb := hdf.trans hdb
            clear hsz hdf hoth
            obtain ⟨b, hbb⟩ : ∃ b, b = b2 := ⟨b2, rfl⟩
            subst hbb
            exact tail_done (k := q) (hp1256 _ _ ⟨⟨hgq, hsb, hdb⟩, j0, j1, j5, j6, j11, y11, j12, j13, j14, trivial⟩)
          rintro a k ⟨⟨hg, hs, hd⟩, i0, i1, i5, i6, i11, n11, i12, i13, i14, _⟩
          obtain rfl := Option.some.inj hr
          exact hp1253 _ _ ⟨⟨hg, hs, hd⟩, i0, i1, i5, i6, i11, n11, i12, i13, i14, trivial⟩
        rw [if_neg (by rw [hc1277]; decide)] at hr
        refine wp_seq ?_
        refine cut (fun a' k' => Bs noF k0 229 a' k' ∧ (IsV l_) (a'.get 0) k' ∧ (IsV m_) (a'.get 1) k' ∧ (IsV x1228_0) (a'.get 5) k' ∧ (IsV x1233_2.1) (a'.get 6) k' ∧ IsOwn 0 35 s1245.1 (a'.get 11) k' ∧ Lo k0 (obF (a'.get 11)) ∧ (IsV s1245.2.1) (a'.get 12) k' ∧ (IsV s1245.2.2.1) (a'.get 13) k' ∧ (IsV s1245.2.2.2) (a'.get 14) k' ∧ (IsV x1250_2.Kind) (a'.get 70) k' ∧ (IsV (x1250_2.Kind == 2)) (a'.get 87) k' ∧ True) ?_ hQ ?_
        · intro Q1275 hQQ1275 hp1276
          refine regionS (a0 := a) (k0 := k) (n := 229) (m := 2) (⟨some (IsV (x1250_2.Kind == 2)), [(70, none)]⟩ :: ⟨some (IsV (x1250_2.Kind == 2)), [(88, some 0)]⟩ :: []) hs (by kernel_rfl) ⟨ob1 rfl fun b q hk hn => ok_eqI rfl (up i70 hk hn.1) (isV_int.2 rfl), ob1 rfl fun b q hk hn => ok_assign rfl hn.1, trivial⟩ hQQ1275 fun b q p => ?_
          exact tail_done (k := q) (hp1276 _ _ ⟨Bs.post ⟨hg, hs, hd⟩ p, keep p 0 rfl i0, keep p 1 rfl i1, keep p 5 rfl i5, keep p 6 rfl i6, keep p 11 rfl i11, (by rw [p.old 11 rfl]; exact n11), keep p 12 rfl i12, keep p 13 rfl i13, keep p 14 rfl i14, keep p 70 rfl i70, out p 1 87 _ rfl rfl rfl, trivial⟩)
        rintro a k ⟨⟨hg, hs, hd⟩, i0, i1, i5, i6, i11, n11, i12, i13, i14, i70, i87, _⟩
        obtain ⟨s1258, hs1258, hr⟩ := bind_some hr
        refine cut (fun a' k' => Bs noF k0 229 a' k' ∧ (IsV l_) (a'.get 0) k' ∧ (IsV m_) (a'.get 1) k' ∧ (IsV x1228_0) (a'.get 5) k' ∧ (IsV x1233_2.1) (a'.get 6) k' ∧ IsOwn 0 35 s1245.1 (a'.get 11) k' ∧ Lo k0 (obF (a'.get 11)) ∧ (IsV s1258.1) (a'.get 12) k' ∧ (IsV s1258.2) (a'.get 13) k' ∧ (IsV s1245.2.2.2) (a'.get 14) k' ∧ True) ?_ hQ ?_
        · intro Q1274 hQQ1274 hp1259
          replace hr := hs1258
          clear hQ
          have hQ := hQQ1274
          refine wp_cond_split (isBool i87) (fun hc1273 => ?_) (fun hc1273 => ?_)
          · rw [if_pos hc1273] at hr
            obtain ⟨x1260_3, hx1260_3, hr⟩ := bind_some hr
            obtain ⟨x1260_6, hx1260_6, hr⟩ := bind_some hr
            refine cut (fun a' k' => Bs noF k0 229 a' k' ∧ (IsV l_) (a'.get 0) k' ∧ (IsV m_) (a'.get 1) k' ∧ (IsV x1228_0) (a'.get 5) k' ∧ (IsV x1233_2.1) (a'.get 6) k' ∧ IsOwn 0 35 s1245.1 (a'.get 11) k' ∧ Lo k0 (obF (a'.get 11)) ∧ (IsV x1260_6) (a'.get 12) k' ∧ (IsV s1245.2.2.1) (a'.get 13) k' ∧ (IsV s1245.2.2.2) (a'.get 14) k' ∧ True) ?_ hQ ?_
            · intro Q1261 hQQ1261 hp1262
              refine regionS (a0 := a) (k0 := k) (n := 229) (m := 8) (⟨some (IsV s1245.2.1), [(12, none)]⟩ :: ⟨some (IsV m_), [(1, none)]⟩ :: ⟨some (IsV s1245.2.2.2), [(14, none)]⟩ :: ⟨some (IsPtr x1260_3), [(90, some 1), (91, some 2)]⟩ :: ⟨some (IsPtr x1260_3.N), [(92, some 3)]⟩ :: ⟨some (IsV x1260_3.N), [(93, some 4)]⟩ :: ⟨some (IsV x1260_6), [(89, some 0), (94, some 5)]⟩ :: ⟨some (IsV x1260_6), [(95, some 6)]⟩ :: []) hs (by kernel_rfl) ⟨ob1 rfl fun b q hk hn => ok_move rfl (up i12 hk hn.1), ob1 rfl fun b q hk hn => ok_move rfl (up i1 hk hn.1), ob1 rfl fun b q hk hn => ok_move rfl (up i14 hk hn.1), ob1 rfl fun b q hk hn => ok_indexAddr rfl Try.underlying23 ty33 (IsV.rd hn.1) hn.2.1 hx1260_3, ob1 rfl fun b q hk hn => ok_fieldAddr rfl fo33_3 (at_Move_3 _) hn.1, ob1 rfl fun b q hk hn => ok_load rfl ty3 hn.1, ob1 rfl fun b q hk hn => ok_add rfl hn.1 hn.2.1 hx1260_6, ob1 rfl fun b q hk hn => ok_assign rfl hn.1, trivial⟩ hQQ1261 fun b q p => ?_
              exact tail_done (k := q) (hp1262 _ _ ⟨Bs.post ⟨hg, hs, hd⟩ p, keep p 0 rfl i0, keep p 1 rfl i1, keep p 5 rfl i5, keep p 6 rfl i6, keep p 11 rfl i11, (by rw [p.old 11 rfl]; exact n11), out p 7 12 _ rfl rfl rfl, keep p 13 rfl i13, keep p 14 rfl i14, trivial⟩)
            rintro a k ⟨⟨hg, hs, hd⟩, i0, i1, i5, i6, i11, n11, i12, i13, i14, _⟩
            obtain rfl := Option.some.inj hr
            exact hp1259 _ _ ⟨⟨hg, hs, hd⟩, i0, i1, i5, i6, i11, n11, i12, i13, i14, trivial⟩
          rw [if_neg (by rw [hc1273]; decide)] at hr
          refine wp_seq ?_
          refine cut (fun a' k' => Bs noF k0 229 a' k' ∧ (IsV l_) (a'.get 0) k' ∧ (IsV m_) (a'.get 1) k' ∧ (IsV x1228_0) (a'.get 5) k' ∧ (IsV x1233_2.1) (a'.get 6) k' ∧ IsOwn 0 35 s1245.1 (a'.get 11) k' ∧ Lo k0 (obF (a'.get 11)) ∧ (IsV s1245.2.1) (a'.get 12) k' ∧ (IsV s1245.2.2.1) (a'.get 13) k' ∧ (IsV s1245.2.2.2) (a'.get 14) k' ∧ (IsV (x1250_2.Kind == 3)) (a'.get 96) k' ∧ True) ?_ hQ ?_
          · intro Q1271 hQQ1271 hp1272
            refine regionS (a0 := a) (k0 := k) (n := 229) (m := 2) (⟨some (IsV (x1250_2.Kind == 3)), [(70, none)]⟩ :: ⟨some (IsV (x1250_2.Kind == 3)), [(97, some 0)]⟩ :: []) hs (by kernel_rfl) ⟨ob1 rfl fun b q hk hn => ok_eqI rfl (up i70 hk hn.1) (isV_int.2 rfl), ob1 rfl fun b q hk hn => ok_assign rfl hn.1, trivial⟩ hQQ1271 fun b q p => ?_
            exact tail_done (k := q) (hp1272 _ _ ⟨Bs.post ⟨hg, hs, hd⟩ p, keep p 0 rfl i0, keep p 1 rfl i1, keep p 5 rfl i5, keep p 6 rfl i6, keep p 11 rfl i11, (by rw [p.old 11 rfl]; exact n11), keep p 12 rfl i12, keep p 13 rfl i13, keep p 14 rfl i14, out p 1 96 _ rfl rfl rfl, trivial⟩)
          rintro a k ⟨⟨hg, hs, hd⟩, i0, i1, i5, i6, i11, n11, i12, i13, i14, i96, _⟩
          obtain ⟨s1264, hs1264, hr⟩ := bind_some hr
          refine cut (fun a' k' => Bs noF k0 229 a' k' ∧ (IsV l_) (a'.get 0) k' ∧ (IsV m_) (a'.get 1) k' ∧ (IsV x1228_0) (a'.get 5) k' ∧ (IsV x1233_2.1) (a'.get 6) k' ∧ IsOwn 0 35 s1245.1 (a'.get 11) k' ∧ Lo k0 (obF (a'.get 11)) ∧ (IsV s1245.2.1) (a'.get 12) k' ∧ (IsV s1264) (a'.get 13) k' ∧ (IsV s1245.2.2.2) (a'.get 14) k' ∧ True) ?_ hQ ?_
          · intro Q1270 hQQ1270 hp1265
            replace hr := hs1264
            clear hQ
            have hQ := hQQ1270
            refine wp_cond_split (isBool i96) (fun hc1269 => ?_) (fun hc1269 => ?_)
            · rw [if_pos hc1269] at hr
              obtain ⟨x1266_3, hx1266_3, hr⟩ := bind_some hr
              obtain ⟨x1266_6, hx1266_6, hr⟩ := bind_some hr
              refine cut (fun a' k' => Bs noF k0 229 a' k' ∧ (IsV l_) (a'.get 0) k' ∧ (IsV m_) (a'.get 1) k' ∧ (IsV x1228_0) (a'.get 5) k' ∧ (IsV x1233_2.1) (a'.get 6) k' ∧ IsOwn 0 35 s1245.1 (a'.get 11) k' ∧ Lo k0 (obF (a'.get 11)) ∧ (IsV s1245.2.1) (a'.get 12) k' ∧ (IsV x1266_6) (a'.get 13) k' ∧ (IsV s1245.2.2.2) (a'.get 14) k' ∧ True) ?_ hQ ?_
              · intro Q1267 hQQ1267 hp1268
                refine regionS (a0 := a) (k0 := k) (n := 229) (m := 8) (⟨some (IsV s1245.2.2.1), [(13, none)]⟩ :: ⟨some (IsV m_), [(1, none)]⟩ :: ⟨some (IsV s1245.2.2.2), [(14, none)]⟩ :: ⟨some (IsPtr x1266_3), [(99, some 1), (100, some 2)]⟩ :: ⟨some (IsPtr x1266_3.N), [(101, some 3)]⟩ :: ⟨some (IsV x1266_3.N), [(102, some 4)]⟩ :: ⟨some (IsV x1266_6), [(98, some 0), (103, some 5)]⟩ :: ⟨some (IsV x1266_6), [(104, some 6)]⟩ :: []) hs (by kernel_rfl) ⟨ob1 rfl fun b q hk hn => ok_move rfl (up i13 hk hn.1), ob1 rfl fun b q hk hn => ok_move rfl (up i1 hk hn.1), ob1 rfl fun b q hk hn => ok_move rfl (up i14 hk hn.1), ob1 rfl fun b q hk hn => ok_indexAddr rfl Try.underlying23 ty33 (IsV.rd hn.1) hn.2.1 hx1266_3, ob1 rfl fun b q hk hn => ok_fieldAddr rfl fo33_3 (at_Move_3 _) hn.1, ob1 rfl fun b q hk hn => ok_load rfl ty3 hn.1, ob1 rfl fun b q hk hn => ok_add rfl hn.1 hn.2.1 hx1266_6, ob1 rfl fun b q hk hn => ok_assign rfl hn.1, trivial⟩ hQQ1267 fun b q p => ?_
                exact tail_done (k := q) (hp1268 _ _ ⟨Bs.post ⟨hg, hs, hd⟩ p, keep p 0 rfl i0, keep p 1 rfl i1, keep p 5 rfl i5, keep p 6 rfl i6, keep p 11 rfl i11, (by rw [p.old 11 rfl]; exact n11), keep p 12 rfl i12, out p 7 13 _ rfl rfl rfl, keep p 14 rfl i14, trivial⟩)
              rintro a k ⟨⟨hg, hs, hd⟩, i0, i1, i5, i6, i11, n11, i12, i13, i14, _⟩
              obtain rfl := Option.some.inj hr
              exact hp1265 _ _ ⟨⟨hg, hs, hd⟩, i0, i1, i5, i6, i11, n11, i12, i13, i14, trivial⟩
            rw [if_neg (by rw [hc1269]; decide)] at hr
            refine wp_skip ?_
            obtain rfl := Option.some.inj hr
            exact hp1265 _ _ ⟨⟨hg, hs, hd⟩, i0, i1, i5, i6, i11, n11, i12, i13, i14, trivial⟩
          clear hs1264
          rintro a k ⟨⟨hg, hs, hd⟩, i0, i1, i5, i6, i11, n11, i12, i13, i14, _⟩
          obtain rfl := Option.some.inj hr
          exact hp1259 _ _ ⟨⟨hg, hs, hd⟩, i0, i1, i5, i6, i11, n11, i12, i13, i14, trivial⟩
        clear hs1258
        rintro a k ⟨⟨hg, hs, hd⟩, i0, i1, i5, i6, i11, n11, i12, i13, i14, _⟩
        obtain rfl := Option.some.inj hr
        exact hp1253 _ _ ⟨⟨hg, hs, hd⟩, i0, i1, i5, i6, i11, n11, i12, i13, i14, trivial⟩
      clear hs1252
      rintro a k ⟨⟨hg, hs, hd⟩, i0, i1, i5, i6, i11, n11, i12, i13, i14, _⟩
      obtain ⟨x1278_1, hx1278_1, hr⟩ := bind_some hr
      refine cut (fun a' k' => Bs noF k0 229 a' k' ∧ (IsV l_) (a'.get 0) k' ∧ (IsV m_) (a'.get 1) k' ∧ (IsV x1228_0) (a'.get 5) k' ∧ (IsV x1233_2.1) (a'.get 6) k' ∧ IsOwn 0 35 s1252.1 (a'.get 11) k' ∧ Lo k0 (obF (a'.get 11)) ∧ (IsV s1252.2.1) (a'.get 12) k' ∧ (IsV s1252.2.2) (a'.get 13) k' ∧ (IsV x1278_1) (a'.get 14) k' ∧ True) ?_ hQ ?_
      · intro Q1279 hQQ1279 hp1280
        refine regionS (a0 := a) (k0 := k) (n := 229) (m := 3) (⟨some (IsV s1245.2.2.2), [(14, none)]⟩ :: ⟨some (IsV x1278_1), [(64, some 0)]⟩ :: ⟨some (IsV x1278_1), [(65, some 1)]⟩ :: []) hs (by kernel_rfl) ⟨ob1 rfl fun b q hk hn => ok_move rfl (up i14 hk hn.1), ob1 rfl fun b q hk hn => ok_add rfl hn.1 (isV_int.2 rfl) hx1278_1, ob1 rfl fun b q hk hn => ok_assign rfl hn.1, trivial⟩ hQQ1279 fun b q p => ?_
        exact tail_done (k := q) (hp1280 _ _ ⟨Bs.post ⟨hg, hs, hd⟩ p, keep p 0 rfl i0, keep p 1 rfl i1, keep p 5 rfl i5, keep p 6 rfl i6, keep p 11 rfl i11, (by rw [p.old 11 rfl]; exact n11), keep p 12 rfl i12, keep p 13 rfl i13, out p 2 14 _ rfl rfl rfl, trivial⟩)
      rintro a k ⟨⟨hg, hs, hd⟩, i0, i1, i5, i6, i11, n11, i12, i13, i14, _⟩
      exact hgo1246 _ _ _ (Option.some.inj hr).symm ⟨⟨hg, hs, hd⟩, i0, i1, i5, i6, i11, n11, i12, i13, i14, trivial⟩
    rw [if_neg (by rw [hc1287]; decide)] at hr
    refine wp_exit ?_
    obtain ⟨kk, sh1286, ii11⟩ := i11.give
    replace i0 := Pers.pers sh1286.le i0
    replace i1 := Pers.pers sh1286.le i1
    replace i5 := Pers.pers sh1286.le i5
    replace i6 := Pers.pers sh1286.le i6
    replace i12 := Pers.pers sh1286.le i12
    replace i13 := Pers.pers sh1286.le i13
    replace i11 := ii11
    replace hg := hg.hand sh1286 n11.wr
    rw [← sh1286.w]
    clear sh1286
    obtain ⟨k, hkk⟩ : ∃ k, k = kk := ⟨kk, rfl⟩
    subst hkk
    exact hex1247 _ _ _ _ (Option.some.inj hr).symm ⟨rfl, ⟨hg, hs, hd⟩, i0, i1, i5, i6, i11, i12, i13, trivial⟩
  · rintro r1399 a k rfl hR
    dsimp only at hr
    obtain rfl := Option.some.inj hr
    exact hR
  · rintro _ _ _ rfl _
    simp at hr
  clear hf1290
  rintro _ s1291 a k rfl ⟨rfl, ⟨hg, hs, hd⟩, i0, i1, i5, i6, i11, i12, i13, _⟩
  dsimp only at hr
  refine wp_seq ?_
  refine wp_seq ?_
  refine cut (fun a' k' => Bs noF k0 229 a' k' ∧ (IsV l_) (a'.get 0) k' ∧ (IsV m_) (a'.get 1) k' ∧ (IsV x1228_0) (a'.get 5) k' ∧ (IsV x1233_2.1) (a'.get 6) k' ∧ (IsV s1291.1) (a'.get 11) k' ∧ (IsV s1291.2.1) (a'.get 12) k' ∧ (IsV s1291.2.2.1) (a'.get 13) k' ∧ (IsV ((x1233_2.1.length : Int) != (s1291.1.length : Int))) (a'.get 109) k' ∧ True) ?_ hQ ?_
  · intro Q1397 hQQ1397 hp1398
    refine regionS (a0 := a) (k0 := k) (n := 229) (m := 5) (⟨some (IsV x1233_2.1), [(6, none)]⟩ :: ⟨some (IsV (α := Int) (x1233_2.1.length : Int)), [(105, some 0)]⟩ :: ⟨some (IsV s1291.1), [(11, none)]⟩ :: ⟨some (IsV (α := Int) (s1291.1.length : Int)), [(107, some 2)]⟩ :: ⟨some (IsV ((x1233_2.1.length : Int) != (s1291.1.length : Int))), [(106, some 1), (108, some 3)]⟩ :: []) hs (by kernel_rfl) ⟨ob1 rfl fun b q hk hn => ok_move rfl (up i6 hk hn.1), ob1 rfl fun b q hk hn => ok_len rfl rfl Try.underlying22 (IsV.rd hn.1), ob1 rfl fun b q hk hn => ok_move rfl (up i11 hk hn.1), ob1 rfl fun b q hk hn => ok_len rfl rfl Try.underlying22 (IsV.rd hn.1), ob1 rfl fun b q hk hn => ok_neI rfl hn.1 hn.2.1, trivial⟩ hQQ1397 fun b q p => ?_
    exact tail_done (k := q) (hp1398 _ _ ⟨Bs.post ⟨hg, hs, hd⟩ p, keep p 0 rfl i0, keep p 1 rfl i1, keep p 5 rfl i5, keep p 6 rfl i6, keep p 11 rfl i11, keep p 12 rfl i12, keep p 13 rfl i13, out p 4 109 _ rfl rfl rfl, trivial⟩)
  rintro a k ⟨⟨hg, hs, hd⟩, i0, i1, i5, i6, i11, i12, i13, i109, _⟩
  refine wp_cond_split (isBool i109) (fun hc1396 => ?_) (fun hc1396 => ?_)
  · rw [if_pos hc1396] at hr
    refine wp_seq ?_
    refine cut (fun a' k' => Bs noF k0 229 a' k' ∧ (IsV false) (a'.get 4) k' ∧ True) ?_ hQ ?_
    · intro Q1294 hQQ1294 hp1295
      refine regionS (a0 := a) (k0 := k) (n := 229) (m := 1) (⟨some (IsV false), []⟩ :: []) hs (by kernel_rfl) ⟨ob1 rfl fun b q hk hn => ok_assign rfl (isV_bool.2 rfl), trivial⟩ hQQ1294 fun b q p => ?_
      exact tail_done (k := q) (hp1295 _ _ ⟨Bs.post ⟨hg, hs, hd⟩ p, out p 0 4 _ rfl rfl rfl, trivial⟩)
    rintro a k ⟨⟨hg, hs, hd⟩, i4, _⟩
    refine wp_ret ?_
    obtain rfl := Option.some.inj hr
    exact retC1 rfl hd hg i4
  rw [if_neg (by rw [hc1396]; decide)] at hr
  refine wp_skip ?_
  refine wp_seq ?_
  obtain ⟨x1296_2, hx1296_2, hr⟩ := bind_some hr
  refine cut (fun a' k' => Bs noF k0 229 a' k' ∧ (IsV l_) (a'.get 0) k' ∧ (IsV m_) (a'.get 1) k' ∧ (IsV x1228_0) (a'.get 5) k' ∧ (IsV x1233_2.1) (a'.get 6) k' ∧ (IsV s1291.1) (a'.get 11) k' ∧ (IsV s1291.2.1) (a'.get 12) k' ∧ (IsV s1291.2.2.1) (a'.get 13) k' ∧ (IsV x1296_2.1) (a'.get 15) k' ∧ True) ?_ hQ ?_
  · intro Q1394 hQQ1394 hp1395
    refine regionS (a0 := a) (k0 := k) (n := 229) (m := 8) (⟨some (IsV l_), [(0, none)]⟩ :: ⟨some (IsV m_), [(1, none)]⟩ :: ⟨some (IsTup2 (IsV x1296_2.1) (IsV x1296_2.2)), [(111, some 0), (112, some 1)]⟩ :: ⟨some (IsTup2 (IsV x1296_2.1) (IsV x1296_2.2)), [(113, some 2)]⟩ :: ⟨some (IsV x1296_2.1), [(110, some 3)]⟩ :: ⟨some (IsV x1296_2.2), [(110, some 3)]⟩ :: ⟨some (IsV x1296_2.1), [(114, some 4)]⟩ :: ⟨some (IsV x1296_2.2), [(115, some 5)]⟩ :: []) hs (by kernel_rfl) ⟨ob1 rfl fun b q hk hn => ok_move rfl (up i0 hk hn.1), ob1 rfl fun b q hk hn => ok_move rfl (up i1 hk hn.1), ob1 rfl fun b q hk hn => ok_call rfl Try.call11 (cTrace_ok hn.1 hn.2.1 (isV_int.2 rfl) hx1296_2), ob1 rfl fun b q hk hn => ok_move rfl hn.1, ob1 rfl fun b q hk hn => ok_ext2_0 rfl hn.1, ob1 rfl fun b q hk hn => ok_ext2_1 rfl hn.1, ob1 rfl fun b q hk hn => ok_assign rfl hn.1, ob1 rfl fun b q hk hn => ok_assign rfl hn.1, trivial⟩ hQQ1394 fun b q p => ?_
    exact tail_done (k := q) (hp1395 _ _ ⟨Bs.post ⟨hg, hs, hd⟩ p, keep p 0 rfl i0, keep p 1 rfl i1, keep p 5 rfl i5, keep p 6 rfl i6, keep p 11 rfl i11, keep p 12 rfl i12, keep p 13 rfl i13, out p 6 15 _ rfl rfl rfl, trivial⟩)
  rintro a k ⟨⟨hg, hs, hd⟩, i0, i1, i5, i6, i11, i12, i13, i15, _⟩
  refine wp_seq ?_
  obtain ⟨x1297_2, hx1297_2, hr⟩ := bind_some hr
  refine cut (fun a' k' => Bs noF k0 229 a' k' ∧ (IsV l_) (a'.get 0) k' ∧ (IsV m_) (a'.get 1) k' ∧ (IsV x1228_0) (a'.get 5) k' ∧ (IsV x1233_2.1) (a'.get 6) k' ∧ (IsV s1291.1) (a'.get 11) k' ∧ (IsV s1291.2.1) (a'.get 12) k' ∧ (IsV s1291.2.2.1) (a'.get 13) k' ∧ (IsV x1296_2.1) (a'.get 15) k' ∧ (IsV x1297_2.1) (a'.get 17) k' ∧ True) ?_ hQ ?_
  · intro Q1392 hQQ1392 hp1393
    refine regionS (a0 := a) (k0 := k) (n := 229) (m := 8) (⟨some (IsV l_), [(0, none)]⟩ :: ⟨some (IsV m_), [(1, none)]⟩ :: ⟨some (IsTup2 (IsV x1297_2.1) (IsV x1297_2.2)), [(117, some 0), (118, some 1)]⟩ :: ⟨some (IsTup2 (IsV x1297_2.1) (IsV x1297_2.2)), [(119, some 2)]⟩ :: ⟨some (IsV x1297_2.1), [(116, some 3)]⟩ :: ⟨some (IsV x1297_2.2), [(116, some 3)]⟩ :: ⟨some (IsV x1297_2.1), [(120, some 4)]⟩ :: ⟨some (IsV x1297_2.2), [(121, some 5)]⟩ :: []) hs (by kernel_rfl) ⟨ob1 rfl fun b q hk hn => ok_move rfl (up i0 hk hn.1), ob1 rfl fun b q hk hn => ok_move rfl (up i1 hk hn.1), ob1 rfl fun b q hk hn => ok_call rfl Try.call11 (cTrace_ok hn.1 hn.2.1 (isV_int.2 rfl) hx1297_2), ob1 rfl fun b q hk hn => ok_move rfl hn.1, ob1 rfl fun b q hk hn => ok_ext2_0 rfl hn.1, ob1 rfl fun b q hk hn => ok_ext2_1 rfl hn.1, ob1 rfl fun b q hk hn => ok_assign rfl hn.1, ob1 rfl fun b q hk hn => ok_assign rfl hn.1, trivial⟩ hQQ1392 fun b q p => ?_
    exact tail_done (k := q) (hp1393 _ _ ⟨Bs.post ⟨hg, hs, hd⟩ p, keep p 0 rfl i0, keep p 1 rfl i1, keep p 5 rfl i5, keep p 6 rfl i6, keep p 11 rfl i11, keep p 12 rfl i12, keep p 13 rfl i13, keep p 15 rfl i15, out p 6 17 _ rfl rfl rfl, trivial⟩)
  rintro a k ⟨⟨hg, hs, hd⟩, i0, i1, i5, i6, i11, i12, i13, i15, i17, _⟩
  refine wp_seq ?_
  refine wp_seq ?_
  obtain ⟨x1298_1, hx1298_1, hr⟩ := bind_some hr
  obtain ⟨x1298_9, hx1298_9, hr⟩ := bind_some hr
  obtain ⟨x1298_6, hx1298_6, hx1298_9⟩ := ite_bindF hx1298_9
  refine cut (fun a' k' => Bs noF k0 229 a' k' ∧ (IsV l_) (a'.get 0) k' ∧ (IsV m_) (a'.get 1) k' ∧ (IsV x1228_0) (a'.get 5) k' ∧ (IsV x1233_2.1) (a'.get 6) k' ∧ (IsV s1291.1) (a'.get 11) k' ∧ (IsV x1296_2.1) (a'.get 15) k' ∧ (IsV x1297_2.1) (a'.get 17) k' ∧ (IsV x1298_9) (a'.get 131) k' ∧ True) ?_ hQ ?_
  · intro Q1390 hQQ1390 hp1391
    refine regionS (a0 := a) (k0 := k) (n := 229) (m := 10) (⟨some (IsV x1296_2.1), [(15, none)]⟩ :: ⟨some (IsV x1298_1), [(122, some 0)]⟩ :: ⟨some (IsV s1291.2.1), [(12, none)]⟩ :: ⟨some (IsV (x1298_1 != s1291.2.1)), [(123, some 1), (124, some 2)]⟩ :: ⟨some (IsV (x1298_1 != s1291.2.1)), [(125, some 3)]⟩ :: ⟨some (Gd ((x1298_1 != s1291.2.1) = false) (IsV x1297_2.1)), [(17, none)]⟩ :: ⟨some (Gd ((x1298_1 != s1291.2.1) = false) (IsV x1298_6)), [(127, some 5)]⟩ :: ⟨some (Gd ((x1298_1 != s1291.2.1) = false) (IsV s1291.2.2.1)), [(13, none)]⟩ :: ⟨some (Gd ((x1298_1 != s1291.2.1) = false) (IsV (x1298_6 != s1291.2.2.1))), [(128, some 6), (129, some 7)]⟩ :: ⟨some (IsV x1298_9), [(126, some 4), (130, some 8)]⟩ :: []) hs (by kernel_rfl) ⟨ob1 rfl fun b q hk hn => ok_move rfl (up i15 hk hn.1), ob1 rfl fun b q hk hn => ok_call rfl Try.call12 (lAdd_ok hn.1 (isV_int.2 rfl) hx1298_1), ob1 rfl fun b q hk hn => ok_move rfl (up i12 hk hn.1), ob1 rfl fun b q hk hn => ok_neI rfl hn.1 hn.2.1, ob1 rfl fun b q hk hn => ok_move rfl hn.1, gdF rfl rfl fun hp b q hk hn => ok_move rfl (up i17 hk hn.1), gdF rfl rfl fun hp b q hk hn => ok_call rfl Try.call12 (lAdd_ok (Gd.get hn.1 hp) (isV_int.2 rfl) (hx1298_6 hp)), gdF rfl rfl fun hp b q hk hn => ok_move rfl (up i13 hk hn.1), gdF rfl rfl fun hp b q hk hn => ok_neI rfl (Gd.get hn.1 hp) (Gd.get hn.2.1 hp), ob1 rfl fun b q hk hn => ok_pickM rfl hn.1 hx1298_9 (fun _ => (isV_bool.2 rfl)) (fun hm => (Gd.get hn.2.1 hm)), trivial⟩ hQQ1390 fun b q p => ?_
    exact tail_done (k := q) (hp1391 _ _ ⟨Bs.post ⟨hg, hs, hd⟩ p, keep p 0 rfl i0, keep p 1 rfl i1, keep p 5 rfl i5, keep p 6 rfl i6, keep p 11 rfl i11, keep p 15 rfl i15, keep p 17 rfl i17, out p 9 131 _ rfl rfl rfl, trivial⟩)
  rintro a k ⟨⟨hg, hs, hd⟩, i0, i1, i5, i6, i11, i15, i17, i131, _⟩
  refine wp_cond_split (isBool i131) (fun hc1389 => ?_) (fun hc1389 => ?_)
  · rw [if_pos hc1389] at hr
    refine wp_seq ?_
    refine cut (fun a' k' => Bs noF k0 229 a' k' ∧ (IsV false) (a'.get 4) k' ∧ True) ?_ hQ ?_
    · intro Q1300 hQQ1300 hp1301
      refine regionS (a0 := a) (k0 := k) (n := 229) (m := 1) (⟨some (IsV false), []⟩ :: []) hs (by kernel_rfl) ⟨ob1 rfl fun b q hk hn => ok_assign rfl (isV_bool.2 rfl), trivial⟩ hQQ1300 fun b q p => ?_
      exact tail_done (k := q) (hp1301 _ _ ⟨Bs.post ⟨hg, hs, hd⟩ p, out p 0 4 _ rfl rfl rfl, trivial⟩)
    rintro a k ⟨⟨hg, hs, hd⟩, i4, _⟩
    refine wp_ret ?_
    obtain rfl := Option.some.inj hr
    exact retC1 rfl hd hg i4
  rw [if_neg (by rw [hc1389]; decide)] at hr
  refine wp_skip ?_
  refine wp_seq ?_
  refine wp_seq ?_
  refine cut (fun a' k' => Bs noF k0 229 a' k' ∧ (IsV l_) (a'.get 0) k' ∧ (IsV m_) (a'.get 1) k' ∧ (IsV x1228_0) (a'.get 5) k' ∧ (IsV x1233_2.1) (a'.get 6) k' ∧ (IsV s1291.1) (a'.get 11) k' ∧ (IsV x1296_2.1) (a'.get 15) k' ∧ (IsV x1297_2.1) (a'.get 17) k' ∧ (IsV (α := Int) 0) (a'.get 19) k' ∧ True) ?_ hQ ?_
  · intro Q1387 hQQ1387 hp1388
    refine regionS (a0 := a) (k0 := k) (n := 229) (m := 1) (⟨some (IsV (α := Int) 0), []⟩ :: []) hs (by kernel_rfl) ⟨ob1 rfl fun b q hk hn => ok_assign rfl (isV_int.2 rfl), trivial⟩ hQQ1387 fun b q p => ?_
    exact tail_done (k := q) (hp1388 _ _ ⟨Bs.post ⟨hg, hs, hd⟩ p, keep p 0 rfl i0, keep p 1 rfl i1, keep p 5 rfl i5, keep p 6 rfl i6, keep p 11 rfl i11, keep p 15 rfl i15, keep p 17 rfl i17, out p 0 19 _ rfl rfl rfl, trivial⟩)
  rintro a k ⟨⟨hg, hs, hd⟩, i0, i1, i5, i6, i11, i15, i17, i19, _⟩
  refine wp_block ?_
  obtain ⟨f1380, hf1380, hr⟩ := bind_some hr
  refine cutFe f1380 (fun s' a' k' => Bs noF k0 229 a' k' ∧ (IsV l_) (a'.get 0) k' ∧ (IsV m_) (a'.get 1) k' ∧ (IsV x1228_0) (a'.get 5) k' ∧ (IsV x1233_2.1) (a'.get 6) k' ∧ (IsV s1291.1) (a'.get 11) k' ∧ (IsV x1296_2.1) (a'.get 15) k' ∧ (IsV x1297_2.1) (a'.get 17) k' ∧ (IsV s') (a'.get 19) k' ∧ True) (fun i' s' a' k' => (i' = 3 ∧ Bs noF k0 229 a' k' ∧ (IsV x1228_0) (a'.get 5) k' ∧ True)) (fun r' a' k' => bodyPost Try.prog Try.f3 (RetC noF k0 (IsV r')) .ret a' k'.w) ?_ hQ ?_ ?_ ?_
  · intro Q1386 hQQ1386 hgo hex hret
    refine sim_loop ?_ _ _ _ _ _ hf1380 ⟨⟨hg, hs, hd⟩, i0, i1, i5, i6, i11, i15, i17, i19, trivial⟩ Q1386 hQQ1386 hgo hex hret
    clear hr hf1380 hgo hex hret hQQ1386 hQ hg hs hd i0 i1 i11 i15 i17 i19 i5 i6
    intro s1303 fl_ a k hr hS Q hQ hgo1304 hex1305 hret1306
    obtain ⟨⟨hg, hs, hd⟩, i0, i1, i5, i6, i11, i15, i17, i19, _⟩ := hS
    unfold lawTraces_L1 at hr
    refine wp_seq ?_
    refine wp_seq ?_
    refine cut (fun a' k' => Bs noF k0 229 a' k' ∧ (IsV l_) (a'.get 0) k' ∧ (IsV m_) (a'.get 1) k' ∧ (IsV x1228_0) (a'.get 5) k' ∧ (IsV x1233_2.1) (a'.get 6) k' ∧ (IsV s1291.1) (a'.get 11) k' ∧ (IsV x1296_2.1) (a'.get 15) k' ∧ (IsV x1297_2.1) (a'.get 17) k' ∧ (IsV s1303) (a'.get 19) k' ∧ (IsV (decide (s1303 < (s1291.1.length : Int)))) (a'.get 135) k' ∧ True) ?_ hQ ?_
    · intro Q1378 hQQ1378 hp1379
      refine regionS (a0 := a) (k0 := k) (n := 229) (m := 4) (⟨some (IsV s1303), [(19, none)]⟩ :: ⟨some (IsV s1291.1), [(11, none)]⟩ :: ⟨some (IsV (α := Int) (s1291.1.length : Int)), [(133, some 1)]⟩ :: ⟨some (IsV (decide (s1303 < (s1291.1.length : Int)))), [(132, some 0), (134, some 2)]⟩ :: []) hs (by kernel_rfl) ⟨ob1 rfl fun b q hk hn => ok_move rfl (up i19 hk hn.1), ob1 rfl fun b q hk hn => ok_move rfl (up i11 hk hn.1), ob1 rfl fun b q hk hn => ok_len rfl rfl Try.underlying22 (IsV.rd hn.1), ob1 rfl fun b q hk hn => ok_lss rfl hn.1 hn.2.1, trivial⟩ hQQ1378 fun b q p => ?_
      exact tail_done (k := q) (hp1379 _ _ ⟨Bs.post ⟨hg, hs, hd⟩ p, keep p 0 rfl i0, keep p 1 rfl i1, keep p 5 rfl i5, keep p 6 rfl i6, keep p 11 rfl i11, keep p 15 rfl i15, keep p 17 rfl i17, keep p 19 rfl i19, out p 3 135 _ rfl rfl rfl, trivial⟩)
    rintro a k ⟨⟨hg, hs, hd⟩, i0, i1, i5, i6, i11, i15, i17, i19, i135, _⟩
    refine wp_cond_split (isBool i135) (fun hc1377 => ?_) (fun hc1377 => ?_)
    · rw [if_pos hc1377] at hr
      refine wp_skip ?_
      refine wp_seq ?_
      refine wp_block ?_
      refine wp_seq ?_
      obtain ⟨x1308_3, hx1308_3, hr⟩ := bind_some hr
      obtain ⟨x1308_6, hx1308_6, hr⟩ := bind_some hr
      obtain ⟨x1308_10, hx1308_10, hr⟩ := bind_some hr
      obtain ⟨x1308_13, hx1308_13, hr⟩ := bind_some hr
      obtain ⟨x1308_14, hx1308_14, hr⟩ := bind_some hr
      refine cut (fun a' k' => Bs noF k0 229 a' k' ∧ (IsV l_) (a'.get 0) k' ∧ (IsV m_) (a'.get 1) k' ∧ (IsV x1228_0) (a'.get 5) k' ∧ (IsV x1233_2.1) (a'.get 6) k' ∧ (IsV s1291.1) (a'.get 11) k' ∧ (IsV x1296_2.1) (a'.get 15) k' ∧ (IsV x1297_2.1) (a'.get 17) k' ∧ (IsV s1303) (a'.get 19) k' ∧ (IsV x1308_14) (a'.get 20) k' ∧ True) ?_ hQ ?_
      · intro Q1375 hQQ1375 hp1376
        refine region (a0 := a) (k0 := k) (n := 229) (m := 16) (⟨some (IsV x1296_2.1), [(15, none)]⟩ :: ⟨some (IsV s1291.1), [(11, none)]⟩ :: ⟨some (IsV s1303), [(19, none)]⟩ :: ⟨some (IsPtr x1308_3), [(139, some 1), (140, some 2)]⟩ :: ⟨some (IsPtr x1308_3.Lot), [(141, some 3)]⟩ :: ⟨some (IsV x1308_3.Lot), [(142, some 4)]⟩ :: ⟨some (IsV x1308_6), [(138, some 0), (143, some 5)]⟩ :: ⟨some (IsV x1297_2.1), [(17, none)]⟩ :: ⟨some (IsV s1291.1), [(11, none)]⟩ :: ⟨some (IsV s1303), [(19, none)]⟩ :: ⟨some (IsPtr x1308_10), [(146, some 8), (147, some 9)]⟩ :: ⟨some (IsPtr x1308_10.Lot), [(148, some 10)]⟩ :: ⟨some (IsV x1308_10.Lot), [(149, some 11)]⟩ :: ⟨some (IsV x1308_13), [(145, some 7), (150, some 12)]⟩ :: ⟨some (IsV x1308_14), [(144, some 6), (151, some 13)]⟩ :: ⟨some (IsV x1308_14), [(152, some 14)]⟩ :: []) hmix hs (by kernel_rfl) ⟨ob1 rfl fun b q hk hn => ok_move rfl (up i15 hk hn.1), ob1 rfl fun b q hk hn => ok_move rfl (up i11 hk hn.1), ob1 rfl fun b q hk hn => ok_move rfl (up i19 hk hn.1), ob1 rfl fun b q hk hn => ok_indexAddr rfl Try.underlying22 ty35 (IsV.rd hn.1) hn.2.1 hx1308_3, ob1 rfl fun b q hk hn => ok_fieldAddr rfl fo35_0 (at_Account_0 _) hn.1, ob1 rfl fun b q hk hn => ok_load rfl ty3 hn.1, ob1 rfl fun b q hk hn => ok_call rfl Try.call12 (lAdd_ok hn.1 hn.2.1 hx1308_6), ob1 rfl fun b q hk hn => ok_move rfl (up i17 hk hn.1), ob1 rfl fun b q hk hn => ok_move rfl (up i11 hk hn.1), ob1 rfl fun b q hk hn => ok_move rfl (up i19 hk hn.1), ob1 rfl fun b q hk hn => ok_indexAddr rfl Try.underlying22 ty35 (IsV.rd hn.1) hn.2.1 hx1308_10, ob1 rfl fun b q hk hn => ok_fieldAddr rfl fo35_0 (at_Account_0 _) hn.1, ob1 rfl fun b q hk hn => ok_load rfl ty3 hn.1, ob1 rfl fun b q hk hn => ok_call rfl Try.call12 (lAdd_ok hn.1 hn.2.1 hx1308_13), ob1 rfl fun b q hk hn => ok_add rfl hn.1 hn.2.1 hx1308_14, ob1 rfl fun b q hk hn => ok_assign rfl hn.1, trivial⟩ hQQ1375 fun b q p => ?_
        exact tail_done (k := q) (hp1376 _ _ ⟨Bs.post ⟨hg, hs, hd⟩ p, keep p 0 rfl i0, keep p 1 rfl i1, keep p 5 rfl i5, keep p 6 rfl i6, keep p 11 rfl i11, keep p 15 rfl i15, keep p 17 rfl i17, keep p 19 rfl i19, out p 15 20 _ rfl rfl rfl, trivial⟩)
      rintro a k ⟨⟨hg, hs, hd⟩, i0, i1, i5, i6, i11, i15, i17, i19, i20, _⟩
      refine wp_seq ?_
      refine wp_seq ?_
      refine cut (fun a' k' => Bs noF k0 229 a' k' ∧ (IsV l_) (a'.get 0) k' ∧ (IsV m_) (a'.get 1) k' ∧ (IsV x1228_0) (a'.get 5) k' ∧ (IsV x1233_2.1) (a'.get 6) k' ∧ (IsV s1291.1) (a'.get 11) k' ∧ (IsV x1296_2.1) (a'.get 15) k' ∧ (IsV x1297_2.1) (a'.get 17) k' ∧ (IsV s1303) (a'.get 19) k' ∧ (IsV x1308_14) (a'.get 20) k' ∧ (IsV (α := Int) 0) (a'.get 21) k' ∧ True) ?_ hQ ?_
      · intro Q1373 hQQ1373 hp1374
        refine regionS (a0 := a) (k0 := k) (n := 229) (m := 1) (⟨some (IsV (α := Int) 0), []⟩ :: []) hs (by kernel_rfl) ⟨ob1 rfl fun b q hk hn => ok_assign rfl (isV_int.2 rfl), trivial⟩ hQQ1373 fun b q p => ?_
        exact tail_done (k := q) (hp1374 _ _ ⟨Bs.post ⟨hg, hs, hd⟩ p, keep p 0 rfl i0, keep p 1 rfl i1, keep p 5 rfl i5, keep p 6 rfl i6, keep p 11 rfl i11, keep p 15 rfl i15, keep p 17 rfl i17, keep p 19 rfl i19, keep p 20 rfl i20, out p 0 21 _ rfl rfl rfl, trivial⟩)
      rintro a k ⟨⟨hg, hs, hd⟩, i0, i1, i5, i6, i11, i15, i17, i19, i20, i21, _⟩
      refine wp_block ?_
      obtain ⟨f1359, hf1359, hr⟩ := bind_some hr
      refine cutFe f1359 (fun s' a' k' => Bs noF k0 229 a' k' ∧ (IsV l_) (a'.get 0) k' ∧ (IsV m_) (a'.get 1) k' ∧ (IsV x1228_0) (a'.get 5) k' ∧ (IsV x1233_2.1) (a'.get 6) k' ∧ (IsV s1291.1) (a'.get 11) k' ∧ (IsV x1296_2.1) (a'.get 15) k' ∧ (IsV x1297_2.1) (a'.get 17) k' ∧ (IsV s1303) (a'.get 19) k' ∧ (IsV s'.1) (a'.get 20) k' ∧ (IsV s'.2) (a'.get 21) k' ∧ True) (fun i' s' a' k' => (i' = 5 ∧ Bs noF k0 229 a' k' ∧ (IsV l_) (a'.get 0) k' ∧ (IsV m_) (a'.get 1) k' ∧ (IsV x1228_0) (a'.get 5) k' ∧ (IsV x1233_2.1) (a'.get 6) k' ∧ (IsV s1291.1) (a'.get 11) k' ∧ (IsV x1296_2.1) (a'.get 15) k' ∧ (IsV x1297_2.1) (a'.get 17) k' ∧ (IsV s1303) (a'.get 19) k' ∧ (IsV s'.1) (a'.get 20) k' ∧ True)) (fun r' a' k' => bodyPost Try.prog Try.f3 (RetC noF k0 (IsV r')) .ret a' k'.w) ?_ hQ ?_ ?_ ?_
      · intro Q1372 hQQ1372 hgo hex hret
        refine sim_loop ?_ _ _ _ _ _ hf1359 ⟨⟨hg, hs, hd⟩, i0, i1, i5, i6, i11, i15, i17, i19, i20, i21, trivial⟩ Q1372 hQQ1372 hgo hex hret
        clear hr hf1359 hgo hex hret hQQ1372 hQ hg hs hd i0 i1 i11 i15 i17 i19 i20 i21 i5 i6
        intro s1310 fl_ a k hr hS Q hQ hgo1311 hex1312 hret1313
        obtain ⟨⟨hg, hs, hd⟩, i0, i1, i5, i6, i11, i15, i17, i19, i20, i21, _⟩ := hS
        unfold lawTraces_L2 at hr
        refine wp_seq ?_
        refine wp_seq ?_
        refine cut (fun a' k' => Bs noF k0 229 a' k' ∧ (IsV l_) (a'.get 0) k' ∧ (IsV m_) (a'.get 1) k' ∧ (IsV x1228_0) (a'.get 5) k' ∧ (IsV x1233_2.1) (a'.get 6) k' ∧ (IsV s1291.1) (a'.get 11) k' ∧ (IsV x1296_2.1) (a'.get 15) k' ∧ (IsV x1297_2.1) (a'.get 17) k' ∧ (IsV s1303) (a'.get 19) k' ∧ (IsV s1310.1) (a'.get 20) k' ∧ (IsV s1310.2) (a'.get 21) k' ∧ (IsV (decide (s1310.2 < (x1233_2.1.length : Int)))) (a'.get 156) k' ∧ True) ?_ hQ ?_
        · intro Q1357 hQQ1357 hp1358
          refine regionS (a0 := a) (k0 := k) (n := 229) (m := 4) (⟨some (IsV s1310.2), [(21, none)]⟩ :: ⟨some (IsV x1233_2.1), [(6, none)]⟩ :: ⟨some (IsV (α := Int) (x1233_2.1.length : Int)), [(154, some 1)]⟩ :: ⟨some (IsV (decide (s1310.2 < (x1233_2.1.length : Int)))), [(153, some 0), (155, some 2)]⟩ :: []) hs (by kernel_rfl) ⟨ob1 rfl fun b q hk hn => ok_move rfl (up i21 hk hn.1), ob1 rfl fun b q hk hn => ok_move rfl (up i6 hk hn.1), ob1 rfl fun b q hk hn => ok_len rfl rfl Try.underlying22 (IsV.rd hn.1), ob1 rfl fun b q hk hn => ok_lss rfl hn.1 hn.2.1, trivial⟩ hQQ1357 fun b q p => ?_
          exact tail_done (k := q) (hp1358 _ _ ⟨Bs.post ⟨hg, hs, hd⟩ p, keep p 0 rfl i0, keep p 1 rfl i1, keep p 5 rfl i5, keep p 6 rfl i6, keep p 11 rfl i11, keep p 15 rfl i15, keep p 17 rfl i17, keep p 19 rfl i19, keep p 20 rfl i20, keep p 21 rfl i21, out p 3 156 _ rfl rfl rfl, trivial⟩)
        rintro a k ⟨⟨hg, hs, hd⟩, i0, i1, i5, i6, i11, i15, i17, i19, i20, i21, i156, _⟩
        refine wp_cond_split (isBool i156) (fun hc1356 => ?_) (fun hc1356 => ?_)
        · rw [if_pos hc1356] at hr
          refine wp_skip ?_
          refine wp_seq ?_
          refine wp_block ?_
          refine wp_seq ?_
          obtain ⟨x1315_4, hx1315_4, hr⟩ := bind_some hr
          obtain ⟨x1315_7, hx1315_7, hr⟩ := bind_some hr
          refine cut (fun a' k' => Bs noF k0 229 a' k' ∧ (IsV l_) (a'.get 0) k' ∧ (IsV m_) (a'.get 1) k' ∧ (IsV x1228_0) (a'.get 5) k' ∧ (IsV x1233_2.1) (a'.get 6) k' ∧ (IsV s1291.1) (a'.get 11) k' ∧ (IsV x1296_2.1) (a'.get 15) k' ∧ (IsV x1297_2.1) (a'.get 17) k' ∧ (IsV s1303) (a'.get 19) k' ∧ (IsV s1310.1) (a'.get 20) k' ∧ (IsV s1310.2) (a'.get 21) k' ∧ (IsV x1315_7.1) (a'.get 22) k' ∧ (IsV x1315_7.2) (a'.get 23) k' ∧ True) ?_ hQ ?_
          · intro Q1354 hQQ1354 hp1355
            refine regionS (a0 := a) (k0 := k) (n := 229) (m := 13) (⟨some (IsV l_), [(0, none)]⟩ :: ⟨some (IsV m_), [(1, none)]⟩ :: ⟨some (IsV x1233_2.1), [(6, none)]⟩ :: ⟨some (IsV s1310.2), [(21, none)]⟩ :: ⟨some (IsPtr x1315_4), [(162, some 2), (163, some 3)]⟩ :: ⟨some (IsPtr x1315_4.Lot), [(164, some 4)]⟩ :: ⟨some (IsV x1315_4.Lot), [(165, some 5)]⟩ :: ⟨some (IsTup2 (IsV x1315_7.1) (IsV x1315_7.2)), [(160, some 0), (161, some 1), (166, some 6)]⟩ :: ⟨some (IsTup2 (IsV x1315_7.1) (IsV x1315_7.2)), [(167, some 7)]⟩ :: ⟨some (IsV x1315_7.1), [(159, some 8)]⟩ :: ⟨some (IsV x1315_7.2), [(159, some 8)]⟩ :: ⟨some (IsV x1315_7.1), [(168, some 9)]⟩ :: ⟨some (IsV x1315_7.2), [(169, some 10)]⟩ :: []) hs (by kernel_rfl) ⟨ob1 rfl fun b q hk hn => ok_move rfl (up i0 hk hn.1), ob1 rfl fun b q hk hn => ok_move rfl (up i1 hk hn.1), ob1 rfl fun b q hk hn => ok_move rfl (up i6 hk hn.1), ob1 rfl fun b q hk hn => ok_move rfl (up i21 hk hn.1), ob1 rfl fun b q hk hn => ok_indexAddr rfl Try.underlying22 ty35 (IsV.rd hn.1) hn.2.1 hx1315_4, ob1 rfl fun b q hk hn => ok_fieldAddr rfl fo35_0 (at_Account_0 _) hn.1, ob1 rfl fun b q hk hn => ok_load rfl ty3 hn.1, ob1 rfl fun b q hk hn => ok_call rfl Try.call11 (cTrace_ok hn.1 hn.2.1 hn.2.2.1 hx1315_7), ob1 rfl fun b q hk hn => ok_move rfl hn.1, ob1 rfl fun b q hk hn => ok_ext2_0 rfl hn.1, ob1 rfl fun b q hk hn => ok_ext2_1 rfl hn.1, ob1 rfl fun b q hk hn => ok_assign rfl hn.1, ob1 rfl fun b q hk hn => ok_assign rfl hn.1, trivial⟩ hQQ1354 fun b q p => ?_
            exact tail_done (k := q) (hp1355 _ _ ⟨Bs.post ⟨hg, hs, hd⟩ p, keep p 0 rfl i0, keep p 1 rfl i1, keep p 5 rfl i5, keep p 6 rfl i6, keep p 11 rfl i11, keep p 15 rfl i15, keep p 17 rfl i17, keep p 19 rfl i19, keep p 20 rfl i20, keep p 21 rfl i21, out p 11 22 _ rfl rfl rfl, out p 12 23 _ rfl rfl rfl, trivial⟩)
          rintro a k ⟨⟨hg, hs, hd⟩, i0, i1, i5, i6, i11, i15, i17, i19, i20, i21, i22, i23, _⟩
          refine wp_seq ?_
          refine wp_seq ?_
          obtain ⟨x1316_11, hx1316_11, hr⟩ := bind_some hr
          obtain ⟨x1316_4, hx1316_4, hx1316_11⟩ := ite_bindF hx1316_11
          obtain ⟨x1316_7, hx1316_7, hx1316_11⟩ := ite_bindF hx1316_11
          refine cut (fun a' k' => Bs noF k0 229 a' k' ∧ (IsV l_) (a'.get 0) k' ∧ (IsV m_) (a'.get 1) k' ∧ (IsV x1228_0) (a'.get 5) k' ∧ (IsV x1233_2.1) (a'.get 6) k' ∧ (IsV s1291.1) (a'.get 11) k' ∧ (IsV x1296_2.1) (a'.get 15) k' ∧ (IsV x1297_2.1) (a'.get 17) k' ∧ (IsV s1303) (a'.get 19) k' ∧ (IsV s1310.1) (a'.get 20) k' ∧ (IsV s1310.2) (a'.get 21) k' ∧ (IsV x1315_7.1) (a'.get 22) k' ∧ (IsV x1316_11) (a'.get 181) k' ∧ True) ?_ hQ ?_
          · intro Q1352 hQQ1352 hp1353
            refine region (a0 := a) (k0 := k) (n := 229) (m := 12) (⟨some (IsV x1315_7.2), [(23, none)]⟩ :: ⟨some (IsV (x1315_7.2 != 0)), [(170, some 0)]⟩ :: ⟨some (IsV (x1315_7.2 != 0)), [(171, some 1)]⟩ :: ⟨some (Gd ((x1315_7.2 != 0) = false) (IsV x1315_7.1)), [(22, none)]⟩ :: ⟨some (Gd ((x1315_7.2 != 0) = false) (IsV x1316_4)), [(173, some 3)]⟩ :: ⟨some (Gd ((x1315_7.2 != 0) = false) (IsV x1233_2.1)), [(6, none)]⟩ :: ⟨some (Gd ((x1315_7.2 != 0) = false) (IsV s1310.2)), [(21, none)]⟩ :: ⟨some (Gd ((x1315_7.2 != 0) = false) (IsPtr x1316_7)), [(175, some 5), (176, some 6)]⟩ :: ⟨some (Gd ((x1315_7.2 != 0) = false) (IsPtr x1316_7.Units)), [(177, some 7)]⟩ :: ⟨some (Gd ((x1315_7.2 != 0) = false) (IsV x1316_7.Units)), [(178, some 8)]⟩ :: ⟨some (Gd ((x1315_7.2 != 0) = false) (IsV (x1316_4 != x1316_7.Units))), [(174, some 4), (179, some 9)]⟩ :: ⟨some (IsV x1316_11), [(172, some 2), (180, some 10)]⟩ :: []) hmix hs (by kernel_rfl) ⟨ob1 rfl fun b q hk hn => ok_move rfl (up i23 hk hn.1), ob1 rfl fun b q hk hn => ok_neI rfl hn.1 (isV_int.2 rfl), ob1 rfl fun b q hk hn => ok_move rfl hn.1, gdF rfl rfl fun hp b q hk hn => ok_move rfl (up i22 hk hn.1), gdF rfl rfl fun hp b q hk hn => ok_call rfl Try.call12 (lAdd_ok (Gd.get hn.1 hp) (isV_int.2 rfl) (hx1316_4 hp)), gdF rfl rfl fun hp b q hk hn => ok_move rfl (up i6 hk hn.1), gdF rfl rfl fun hp b q hk hn => ok_move rfl (up i21 hk hn.1), gdF rfl rfl fun hp b q hk hn => ok_indexAddr rfl Try.underlying22 ty35 (IsV.rd (Gd.get hn.1 hp)) (Gd.get hn.2.1 hp) (hx1316_7 hp), gdF rfl rfl fun hp b q hk hn => ok_fieldAddr rfl fo35_1 (at_Account_1 _) (Gd.get hn.1 hp), gdF rfl rfl fun hp b q hk hn => ok_load rfl ty3 (Gd.get hn.1 hp), gdF rfl rfl fun hp b q hk hn => ok_neI rfl (Gd.get hn.1 hp) (Gd.get hn.2.1 hp), ob1 rfl fun b q hk hn => ok_pickM rfl hn.1 hx1316_11 (fun _ => (isV_bool.2 rfl)) (fun hm => (Gd.get hn.2.1 hm)), trivial⟩ hQQ1352 fun b q p => ?_
            exact tail_done (k := q) (hp1353 _ _ ⟨Bs.post ⟨hg, hs, hd⟩ p, keep p 0 rfl i0, keep p 1 rfl i1, keep p 5 rfl i5, keep p 6 rfl i6, keep p 11 rfl i11, keep p 15 rfl i15, keep p 17 rfl i17, keep p 19 rfl i19, keep p 20 rfl i20, keep p 21 rfl i21, keep p 22 rfl i22, out p 11 181 _ rfl rfl rfl, trivial⟩)
          rintro a k ⟨⟨hg, hs, hd⟩, i0, i1, i5, i6, i11, i15, i17, i19, i20, i21, i22, i181, _⟩
          refine wp_cond_split (isBool i181) (fun hc1351 => ?_) (fun hc1351 => ?_)
          · rw [if_pos hc1351] at hr
            refine wp_seq ?_
            refine cut (fun a' k' => Bs noF k0 229 a' k' ∧ (IsV false) (a'.get 4) k' ∧ True) ?_ hQ ?_
            · intro Q1318 hQQ1318 hp1319
              refine regionS (a0 := a) (k0 := k) (n := 229) (m := 1) (⟨some (IsV false), []⟩ :: []) hs (by kernel_rfl) ⟨ob1 rfl fun b q hk hn => ok_assign rfl (isV_bool.2 rfl), trivial⟩ hQQ1318 fun b q p => ?_
              exact tail_done (k := q) (hp1319 _ _ ⟨Bs.post ⟨hg, hs, hd⟩ p, out p 0 4 _ rfl rfl rfl, trivial⟩)
            rintro a k ⟨⟨hg, hs, hd⟩, i4, _⟩
            refine wp_ret ?_
            exact hret1313 _ _ _ (Option.some.inj hr).symm (retC1 rfl hd hg i4)
          rw [if_neg (by rw [hc1351]; decide)] at hr
          refine wp_skip ?_
          refine wp_seq ?_
          refine wp_seq ?_
          refine cut (fun a' k' => Bs noF k0 229 a' k' ∧ (IsV l_) (a'.get 0) k' ∧ (IsV m_) (a'.get 1) k' ∧ (IsV x1228_0) (a'.get 5) k' ∧ (IsV x1233_2.1) (a'.get 6) k' ∧ (IsV s1291.1) (a'.get 11) k' ∧ (IsV x1296_2.1) (a'.get 15) k' ∧ (IsV x1297_2.1) (a'.get 17) k' ∧ (IsV s1303) (a'.get 19) k' ∧ (IsV s1310.1) (a'.get 20) k' ∧ (IsV s1310.2) (a'.get 21) k' ∧ (IsV x1315_7.1) (a'.get 22) k' ∧ (IsV (α := Int) 0) (a'.get 24) k' ∧ True) ?_ hQ ?_
          · intro Q1349 hQQ1349 hp1350
            refine regionS (a0 := a) (k0 := k) (n := 229) (m := 1) (⟨some (IsV (α := Int) 0), []⟩ :: []) hs (by kernel_rfl) ⟨ob1 rfl fun b q hk hn => ok_assign rfl (isV_int.2 rfl), trivial⟩ hQQ1349 fun b q p => ?_
            exact tail_done (k := q) (hp1350 _ _ ⟨Bs.post ⟨hg, hs, hd⟩ p, keep p 0 rfl i0, keep p 1 rfl i1, keep p 5 rfl i5, keep p 6 rfl i6, keep p 11 rfl i11, keep p 15 rfl i15, keep p 17 rfl i17, keep p 19 rfl i19, keep p 20 rfl i20, keep p 21 rfl i21, keep p 22 rfl i22, out p 0 24 _ rfl rfl rfl, trivial⟩)
          rintro a k ⟨⟨hg, hs, hd⟩, i0, i1, i5, i6, i11, i15, i17, i19, i20, i21, i22, i24, _⟩
          refine wp_block ?_
          obtain ⟨f1339, hf1339, hr⟩ := bind_some hr
          refine cutFe f1339 (fun s' a' k' => Bs noF k0 229 a' k' ∧ (IsV l_) (a'.get 0) k' ∧ (IsV m_) (a'.get 1) k' ∧ (IsV x1228_0) (a'.get 5) k' ∧ (IsV x1233_2.1) (a'.get 6) k' ∧ (IsV s1291.1) (a'.get 11) k' ∧ (IsV x1296_2.1) (a'.get 15) k' ∧ (IsV x1297_2.1) (a'.get 17) k' ∧ (IsV s1303) (a'.get 19) k' ∧ (IsV s1310.1) (a'.get 20) k' ∧ (IsV s1310.2) (a'.get 21) k' ∧ (IsV x1315_7.1) (a'.get 22) k' ∧ (IsV s') (a'.get 24) k' ∧ True) (fun i' s' a' k' => (i' = 7 ∧ Bs noF k0 229 a' k' ∧ (IsV l_) (a'.get 0) k' ∧ (IsV m_) (a'.get 1) k' ∧ (IsV x1228_0) (a'.get 5) k' ∧ (IsV x1233_2.1) (a'.get 6) k' ∧ (IsV s1291.1) (a'.get 11) k' ∧ (IsV x1296_2.1) (a'.get 15) k' ∧ (IsV x1297_2.1) (a'.get 17) k' ∧ (IsV s1303) (a'.get 19) k' ∧ (IsV s1310.1) (a'.get 20) k' ∧ (IsV s1310.2) (a'.get 21) k' ∧ (IsV x1315_7.1) (a'.get 22) k' ∧ True)) (fun r' a' k' => bodyPost Try.prog Try.f3 (RetC noF k0 (IsV r')) .ret a' k'.w) ?_ hQ ?_ ?_ ?_
          · intro Q1348 hQQ1348 hgo hex hret
            refine sim_loop ?_ _ _ _ _ _ hf1339 ⟨⟨hg, hs, hd⟩, i0, i1, i5, i6, i11, i15, i17, i19, i20, i21, i22, i24, trivial⟩ Q1348 hQQ1348 hgo hex hret
            clear hr hf1339 hgo hex hret hQQ1348 hQ hg hs hd i0 i1 i11 i15 i17 i19 i20 i21 i22 i24 i5 i6
            intro s1321 fl_ a k hr hS Q hQ hgo1322 hex1323 hret1324
            obtain ⟨⟨hg, hs, hd⟩, i0, i1, i5, i6, i11, i15, i17, i19, i20, i21, i22, i24, _⟩ := hS
            unfold lawTraces_L3 at hr
            refine wp_seq ?_
            refine wp_seq ?_
            refine cut (fun a' k' => Bs noF k0 229 a' k' ∧ (IsV l_) (a'.get 0) k' ∧ (IsV m_) (a'.get 1) k' ∧ (IsV x1228_0) (a'.get 5) k' ∧ (IsV x1233_2.1) (a'.get 6) k' ∧ (IsV s1291.1) (a'.get 11) k' ∧ (IsV x1296_2.1) (a'.get 15) k' ∧ (IsV x1297_2.1) (a'.get 17) k' ∧ (IsV s1303) (a'.get 19) k' ∧ (IsV s1310.1) (a'.get 20) k' ∧ (IsV s1310.2) (a'.get 21) k' ∧ (IsV x1315_7.1) (a'.get 22) k' ∧ (IsV s1321) (a'.get 24) k' ∧ (IsV (decide (s1321 < (x1315_7.1.length : Int)))) (a'.get 185) k' ∧ True) ?_ hQ ?_
            · intro Q1337 hQQ1337 hp1338
              refine regionS (a0 := a) (k0 := k) (n := 229) (m := 4) (⟨some (IsV s1321), [(24, none)]⟩ :: ⟨some (IsV x1315_7.1), [(22, none)]⟩ :: ⟨some (IsV (α := Int) (x1315_7.1.length : Int)), [(183, some 1)]⟩ :: ⟨some (IsV (decide (s1321 < (x1315_7.1.length : Int)))), [(182, some 0), (184, some 2)]⟩ :: []) hs (by kernel_rfl) ⟨ob1 rfl fun b q hk hn => ok_move rfl (up i24 hk hn.1), ob1 rfl fun b q hk hn => ok_move rfl (up i22 hk hn.1), ob1 rfl fun b q hk hn => ok_len rfl rfl Try.underlying29 (IsV.rd hn.1), ob1 rfl fun b q hk hn => ok_lss rfl hn.1 hn.2.1, trivial⟩ hQQ1337 fun b q p => ?_
              exact tail_done (k := q) (hp1338 _ _ ⟨Bs.post ⟨hg, hs, hd⟩ p, keep p 0 rfl i0, keep p 1 rfl i1, keep p 5 rfl i5, keep p 6 rfl i6, keep p 11 rfl i11, keep p 15 rfl i15, keep p 17 rfl i17, keep p 19 rfl i19, keep p 20 rfl i20, keep p 21 rfl i21, keep p 22 rfl i22, keep p 24 rfl i24, out p 3 185 _ rfl rfl rfl, trivial⟩)
            rintro a k ⟨⟨hg, hs, hd⟩, i0, i1, i5, i6, i11, i15, i17, i19, i20, i21, i22, i24, i185, _⟩
            refine wp_cond_split (isBool i185) (fun hc1336 => ?_) (fun hc1336 => ?_)
            · rw [if_pos hc1336] at hr
              refine wp_skip ?_
              refine wp_seq ?_
              refine wp_block ?_
              refine wp_seq ?_
              obtain ⟨x1326_2, hx1326_2, hr⟩ := bind_some hr
              obtain ⟨x1326_23, hx1326_23, hr⟩ := bind_some hr
              obtain ⟨x1326_22, hx1326_22, hx1326_23⟩ := ite_bindF hx1326_23
              obtain ⟨x1326_12, hx1326_12, hx1326_22⟩ := ite_bindP hx1326_22
              obtain ⟨x1326_13, hx1326_13, hx1326_22⟩ := ite_bindP hx1326_22
              obtain ⟨x1326_18, hx1326_18, hx1326_22⟩ := ite_bindP hx1326_22
              refine cut (fun a' k' => Bs noF k0 229 a' k' ∧ (IsV l_) (a'.get 0) k' ∧ (IsV m_) (a'.get 1) k' ∧ (IsV x1228_0) (a'.get 5) k' ∧ (IsV x1233_2.1) (a'.get 6) k' ∧ (IsV s1291.1) (a'.get 11) k' ∧ (IsV x1296_2.1) (a'.get 15) k' ∧ (IsV x1297_2.1) (a'.get 17) k' ∧ (IsV s1303) (a'.get 19) k' ∧ (IsV s1310.1) (a'.get 20) k' ∧ (IsV s1310.2) (a'.get 21) k' ∧ (IsV x1315_7.1) (a'.get 22) k' ∧ (IsV s1321) (a'.get 24) k' ∧ (IsV x1326_23) (a'.get 211) k' ∧ True) ?_ hQ ?_
              · intro Q1334 hQQ1334 hp1335
                refine region (a0 := a) (k0 := k) (n := 229) (m := 24) (⟨some (IsV x1315_7.1), [(22, none)]⟩ :: ⟨some (IsV s1321), [(24, none)]⟩ :: ⟨some (IsPtr x1326_2), [(188, some 0), (189, some 1)]⟩ :: ⟨some (IsPtr x1326_2.2), [(190, some 2)]⟩ :: ⟨some (IsV x1326_2.2), [(191, some 3)]⟩ :: ⟨some (IsV (decide (x1326_2.2 < 1))), [(192, some 4)]⟩ :: ⟨some (IsV (decide (x1326_2.2 < 1))), [(193, some 5)]⟩ :: ⟨some (Gd ((decide (x1326_2.2 < 1)) = false) (IsV s1321)), [(24, none)]⟩ :: ⟨some (Gd ((decide (x1326_2.2 < 1)) = false) (IsV (decide (0 < s1321)))), [(195, some 7)]⟩ :: ⟨some (Gd ((decide (x1326_2.2 < 1)) = false) (IsV (decide (0 < s1321)))), [(196, some 8)]⟩ :: ⟨some (Gd (((decide (x1326_2.2 < 1)) = false) ∧ (decide (0 < s1321)) = true) (IsV x1315_7.1)), [(22, none)]⟩ :: ⟨some (Gd (((decide (x1326_2.2 < 1)) = false) ∧ (decide (0 < s1321)) = true) (IsV s1321)), [(24, none)]⟩ :: ⟨some (Gd (((decide (x1326_2.2 < 1)) = false) ∧ (decide (0 < s1321)) = true) (IsV x1326_12)), [(199, some 11)]⟩ :: ⟨some (Gd (((decide (x1326_2.2 < 1)) = false) ∧ (decide (0 < s1321)) = true) (IsPtr x1326_13)), [(198, some 10), (200, some 12)]⟩ :: ⟨some (Gd (((decide (x1326_2.2 < 1)) = false) ∧ (decide (0 < s1321)) = true) (IsPtr x1326_13.1)), [(201, some 13)]⟩ :: ⟨some (Gd (((decide (x1326_2.2 < 1)) = false) ∧ (decide (0 < s1321)) = true) (IsV x1326_13.1)), [(202, some 14)]⟩ :: ⟨some (Gd (((decide (x1326_2.2 < 1)) = false) ∧ (decide (0 < s1321)) = true) (IsV x1315_7.1)), [(22, none)]⟩ :: ⟨some (Gd (((decide (x1326_2.2 < 1)) = false) ∧ (decide (0 < s1321)) = true) (IsV s1321)), [(24, none)]⟩ :: ⟨some (Gd (((decide (x1326_2.2 < 1)) = false) ∧ (decide (0 < s1321)) = true) (IsPtr x1326_18)), [(204, some 16), (205, some 17)]⟩ :: ⟨some (Gd (((decide (x1326_2.2 < 1)) = false) ∧ (decide (0 < s1321)) = true) (IsPtr x1326_18.1)), [(206, some 18)]⟩ :: ⟨some (Gd (((decide (x1326_2.2 < 1)) = false) ∧ (decide (0 < s1321)) = true) (IsV x1326_18.1)), [(207, some 19)]⟩ :: ⟨some (Gd (((decide (x1326_2.2 < 1)) = false) ∧ (decide (0 < s1321)) = true) (IsV (x1326_13.1 == x1326_18.1))), [(203, some 15), (208, some 20)]⟩ :: ⟨some (Gd ((decide (x1326_2.2 < 1)) = false) (IsV x1326_22)), [(197, some 9), (209, some 21)]⟩ :: ⟨some (IsV x1326_23), [(194, some 6), (210, some 22)]⟩ :: []) hmix hs (by kernel_rfl) ⟨ob1 rfl fun b q hk hn => ok_move rfl (up i22 hk hn.1), ob1 rfl fun b q hk hn => ok_move rfl (up i24 hk hn.1), ob1 rfl fun b q hk hn => ok_indexAddr rfl Try.underlying29 ty37 (IsV.rd hn.1) hn.2.1 hx1326_2, ob1 rfl fun b q hk hn => ok_arrAddr (i := 1) rfl ao37 (by decide) (aat37_1 _) hn.1 (isV_int.2 rfl), ob1 rfl fun b q hk hn => ok_load rfl ty3 hn.1, ob1 rfl fun b q hk hn => ok_lss rfl hn.1 (isV_int.2 rfl), ob1 rfl fun b q hk hn => ok_move rfl hn.1, gdF rfl rfl fun hp b q hk hn => ok_move rfl (up i24 hk hn.1), gdF rfl rfl fun hp b q hk hn => ok_gtr rfl (Gd.get hn.1 hp) (isV_int.2 rfl), gdF rfl rfl fun hp b q hk hn => ok_move rfl (Gd.get hn.1 hp), gdTT rfl rfl fun hp b q hk hn => ok_move rfl (up i22 hk hn.1), gdTT rfl rfl fun hp b q hk hn => ok_move rfl (up i24 hk hn.1), gdTT rfl rfl fun hp b q hk hn => ok_sub rfl (Gd.get hn.1 hp) (isV_int.2 rfl) (hx1326_12 hp), gdTT rfl rfl fun hp b q hk hn => ok_indexAddr rfl Try.underlying29 ty37 (IsV.rd (Gd.get hn.1 hp)) (Gd.get hn.2.1 hp) (hx1326_13 hp), gdTT rfl rfl fun hp b q hk hn => ok_arrAddr (i := 0) rfl ao37 (by decide) (aat37_0 _) (Gd.get hn.1 hp) (isV_int.2 rfl), gdTT rfl rfl fun hp b q hk hn => ok_load rfl ty3 (Gd.get hn.1 hp), gdTT rfl rfl fun hp b q hk hn => ok_move rfl (up i22 hk hn.1), gdTT rfl rfl fun hp b q hk hn => ok_move rfl (up i24 hk hn.1), gdTT rfl rfl fun hp b q hk hn => ok_indexAddr rfl Try.underlying29 ty37 (IsV.rd (Gd.get hn.1 hp)) (Gd.get hn.2.1 hp) (hx1326_18 hp), gdTT rfl rfl fun hp b q hk hn => ok_arrAddr (i := 0) rfl ao37 (by decide) (aat37_0 _) (Gd.get hn.1 hp) (isV_int.2 rfl), gdTT rfl rfl fun hp b q hk hn => ok_load rfl ty3 (Gd.get hn.1 hp), gdTT rfl rfl fun hp b q hk hn => ok_eqI rfl (Gd.get hn.1 hp) (Gd.get hn.2.1 hp), gdF rfl rfl fun hp b q hk hn => ok_pickM rfl (Gd.get hn.1 hp) (hx1326_22 hp) (fun hm => (Gd.get hn.2.1 ⟨hp, hm⟩)) (fun _ => (isV_bool.2 rfl)), ob1 rfl fun b q hk hn => ok_pickM rfl hn.1 hx1326_23 (fun _ => (isV_bool.2 rfl)) (fun hm => (Gd.get hn.2.1 hm)), trivial⟩ hQQ1334 fun b q p => ?_
                exact tail_done (k := q) (hp1335 _ _ ⟨Bs.post ⟨hg, hs, hd⟩ p, keep p 0 rfl i0, keep p 1 rfl i1, keep p 5 rfl i5, keep p 6 rfl i6, keep p 11 rfl i11, keep p 15 rfl i15, keep p 17 rfl i17, keep p 19 rfl i19, keep p 20 rfl i20, keep p 21 rfl i21, keep p 22 rfl i22, keep p 24 rfl i24, out p 23 211 _ rfl rfl rfl, trivial⟩)
              rintro a k ⟨⟨hg, hs, hd⟩, i0, i1, i5, i6, i11, i15, i17, i19, i20, i21, i22, i24, i211, _⟩
              refine wp_cond_split (isBool i211) (fun hc1333 => ?_) (fun hc1333 => ?_)
              · rw [if_pos hc1333] at hr
                refine wp_seq ?_
                refine cut (fun a' k' => Bs noF k0 229 a' k' ∧ (IsV false) (a'.get 4) k' ∧ True) ?_ hQ ?_
                · intro Q1328 hQQ1328 hp1329
                  refine regionS (a0 := a) (k0 := k) (n := 229) (m := 1) (⟨some (IsV false), []⟩ :: []) hs (by kernel_rfl) ⟨ob1 rfl fun b q hk hn => ok_assign rfl (isV_bool.2 rfl), trivial⟩ hQQ1328 fun b q p => ?_
                  exact tail_done (k := q) (hp1329 _ _ ⟨Bs.post ⟨hg, hs, hd⟩ p, out p 0 4 _ rfl rfl rfl, trivial⟩)
                rintro a k ⟨⟨hg, hs, hd⟩, i4, _⟩
                refine wp_ret ?_
                exact hret1324 _ _ _ (Option.some.inj hr).symm (retC1 rfl hd hg i4)
              rw [if_neg (by rw [hc1333]; decide)] at hr
              refine wp_skip ?_
              obtain ⟨x1330_1, hx1330_1, hr⟩ := bind_some hr
              refine cut (fun a' k' => Bs noF k0 229 a' k' ∧ (IsV l_) (a'.get 0) k' ∧ (IsV m_) (a'.get 1) k' ∧ (IsV x1228_0) (a'.get 5) k' ∧ (IsV x1233_2.1) (a'.get 6) k' ∧ (IsV s1291.1) (a'.get 11) k' ∧ (IsV x1296_2.1) (a'.get 15) k' ∧ (IsV x1297_2.1) (a'.get 17) k' ∧ (IsV s1303) (a'.get 19) k' ∧ (IsV s1310.1) (a'.get 20) k' ∧ (IsV s1310.2) (a'.get 21) k' ∧ (IsV x1315_7.1) (a'.get 22) k' ∧ (IsV x1330_1) (a'.get 24) k' ∧ True) ?_ hQ ?_
              · intro Q1331 hQQ1331 hp1332
                refine regionS (a0 := a) (k0 := k) (n := 229) (m := 3) (⟨some (IsV s1321), [(24, none)]⟩ :: ⟨some (IsV x1330_1), [(186, some 0)]⟩ :: ⟨some (IsV x1330_1), [(187, some 1)]⟩ :: []) hs (by kernel_rfl) ⟨ob1 rfl fun b q hk hn => ok_move rfl (up i24 hk hn.1), ob1 rfl fun b q hk hn => ok_add rfl hn.1 (isV_int.2 rfl) hx1330_1, ob1 rfl fun b q hk hn => ok_assign rfl hn.1, trivial⟩ hQQ1331 fun b q p => ?_
                exact tail_done (k := q) (hp1332 _ _ ⟨Bs.post ⟨hg, hs, hd⟩ p, keep p 0 rfl i0, keep p 1 rfl i1, keep p 5 rfl i5, keep p 6 rfl i6, keep p 11 rfl i11, keep p 15 rfl i15, keep p 17 rfl i17, keep p 19 rfl i19, keep p 20 rfl i20, keep p 21 rfl i21, keep p 22 rfl i22, out p 2 24 _ rfl rfl rfl, trivial⟩)
              rintro a k ⟨⟨hg, hs, hd⟩, i0, i1, i5, i6, i11, i15, i17, i19, i20, i21, i22, i24, _⟩
              exact hgo1322 _ _ _ (Option.some.inj hr).symm ⟨⟨hg, hs, hd⟩, i0, i1, i5, i6, i11, i15, i17, i19, i20, i21, i22, i24, trivial⟩
            rw [if_neg (by rw [hc1336]; decide)] at hr
            refine wp_exit ?_
            exact hex1323 _ _ _ _ (Option.some.inj hr).symm ⟨rfl, ⟨hg, hs, hd⟩, i0, i1, i5, i6, i11, i15, i17, i19, i20, i21, i22, trivial⟩
          · rintro r1347 a k rfl hR
            dsimp only at hr
            exact hret1313 _ _ _ (Option.some.inj hr).symm hR
          · rintro _ _ _ rfl _
            simp at hr
          clear hf1339
          rintro _ s1340 a k rfl ⟨rfl, ⟨hg, hs, hd⟩, i0, i1, i5, i6, i11, i15, i17, i19, i20, i21, i22, _⟩
          dsimp only at hr
          obtain ⟨x1341_4, hx1341_4, hr⟩ := bind_some hr
          obtain ⟨x1341_7, hx1341_7, hr⟩ := bind_some hr
          obtain ⟨x1341_8, hx1341_8, hr⟩ := bind_some hr
          refine cut (fun a' k' => Bs noF k0 229 a' k' ∧ (IsV l_) (a'.get 0) k' ∧ (IsV m_) (a'.get 1) k' ∧ (IsV x1228_0) (a'.get 5) k' ∧ (IsV x1233_2.1) (a'.get 6) k' ∧ (IsV s1291.1) (a'.get 11) k' ∧ (IsV x1296_2.1) (a'.get 15) k' ∧ (IsV x1297_2.1) (a'.get 17) k' ∧ (IsV s1303) (a'.get 19) k' ∧ (IsV x1341_8) (a'.get 20) k' ∧ (IsV s1310.2) (a'.get 21) k' ∧ True) ?_ hQ ?_
          · intro Q1345 hQQ1345 hp1346
            refine regionS (a0 := a) (k0 := k) (n := 229) (m := 10) (⟨some (IsV s1310.1), [(20, none)]⟩ :: ⟨some (IsV x1315_7.1), [(22, none)]⟩ :: ⟨some (IsV s1291.1), [(11, none)]⟩ :: ⟨some (IsV s1303), [(19, none)]⟩ :: ⟨some (IsPtr x1341_4), [(214, some 2), (215, some 3)]⟩ :: ⟨some (IsPtr x1341_4.Lot), [(216, some 4)]⟩ :: ⟨some (IsV x1341_4.Lot), [(217, some 5)]⟩ :: ⟨some (IsV x1341_7), [(213, some 1), (218, some 6)]⟩ :: ⟨some (IsV x1341_8), [(212, some 0), (219, some 7)]⟩ :: ⟨some (IsV x1341_8), [(220, some 8)]⟩ :: []) hs (by kernel_rfl) ⟨ob1 rfl fun b q hk hn => ok_move rfl (up i20 hk hn.1), ob1 rfl fun b q hk hn => ok_move rfl (up i22 hk hn.1), ob1 rfl fun b q hk hn => ok_move rfl (up i11 hk hn.1), ob1 rfl fun b q hk hn => ok_move rfl (up i19 hk hn.1), ob1 rfl fun b q hk hn => ok_indexAddr rfl Try.underlying22 ty35 (IsV.rd hn.1) hn.2.1 hx1341_4, ob1 rfl fun b q hk hn => ok_fieldAddr rfl fo35_0 (at_Account_0 _) hn.1, ob1 rfl fun b q hk hn => ok_load rfl ty3 hn.1, ob1 rfl fun b q hk hn => ok_call rfl Try.call12 (lAdd_ok hn.1 hn.2.1 hx1341_7), ob1 rfl fun b q hk hn => ok_add rfl hn.1 hn.2.1 hx1341_8, ob1 rfl fun b q hk hn => ok_assign rfl hn.1, trivial⟩ hQQ1345 fun b q p => ?_
            exact tail_done (k := q) (hp1346 _ _ ⟨Bs.post ⟨hg, hs, hd⟩ p, keep p 0 rfl i0, keep p 1 rfl i1, keep p 5 rfl i5, keep p 6 rfl i6, keep p 11 rfl i11, keep p 15 rfl i15, keep p 17 rfl i17, keep p 19 rfl i19, out p 9 20 _ rfl rfl rfl, keep p 21 rfl i21, trivial⟩)
          rintro a k ⟨⟨hg, hs, hd⟩, i0, i1, i5, i6, i11, i15, i17, i19, i20, i21, _⟩
          obtain ⟨x1342_1, hx1342_1, hr⟩ := bind_some hr
          refine cut (fun a' k' => Bs noF k0 229 a' k' ∧ (IsV l_) (a'.get 0) k' ∧ (IsV m_) (a'.get 1) k' ∧ (IsV x1228_0) (a'.get 5) k' ∧ (IsV x1233_2.1) (a'.get 6) k' ∧ (IsV s1291.1) (a'.get 11) k' ∧ (IsV x1296_2.1) (a'.get 15) k' ∧ (IsV x1297_2.1) (a'.get 17) k' ∧ (IsV s1303) (a'.get 19) k' ∧ (IsV x1341_8) (a'.get 20) k' ∧ (IsV x1342_1) (a'.get 21) k' ∧ True) ?_ hQ ?_
          · intro Q1343 hQQ1343 hp1344
            refine regionS (a0 := a) (k0 := k) (n := 229) (m := 3) (⟨some (IsV s1310.2), [(21, none)]⟩ :: ⟨some (IsV x1342_1), [(157, some 0)]⟩ :: ⟨some (IsV x1342_1), [(158, some 1)]⟩ :: []) hs (by kernel_rfl) ⟨ob1 rfl fun b q hk hn => ok_move rfl (up i21 hk hn.1), ob1 rfl fun b q hk hn => ok_add rfl hn.1 (isV_int.2 rfl) hx1342_1, ob1 rfl fun b q hk hn => ok_assign rfl hn.1, trivial⟩ hQQ1343 fun b q p => ?_
            exact tail_done (k := q) (hp1344 _ _ ⟨Bs.post ⟨hg, hs, hd⟩ p, keep p 0 rfl i0, keep p 1 rfl i1, keep p 5 rfl i5, keep p 6 rfl i6, keep p 11 rfl i11, keep p 15 rfl i15, keep p 17 rfl i17, keep p 19 rfl i19, keep p 20 rfl i20, out p 2 21 _ rfl rfl rfl, trivial⟩)
          rintro a k ⟨⟨hg, hs, hd⟩, i0, i1, i5, i6, i11, i15, i17, i19, i20, i21, _⟩
          exact hgo1311 _ _ _ (Option.some.inj hr).symm ⟨⟨hg, hs, hd⟩, i0, i1, i5, i6, i11, i15, i17, i19, i20, i21, trivial⟩
        rw [if_neg (by rw [hc1356]; decide)] at hr
        refine wp_exit ?_
        exact hex1312 _ _ _ _ (Option.some.inj hr).symm ⟨rfl, ⟨hg, hs, hd⟩, i0, i1, i5, i6, i11, i15, i17, i19, i20, trivial⟩
      · rintro r1371 a k rfl hR
        dsimp only at hr
        exact hret1306 _ _ _ (Option.some.inj hr).symm hR
      · rintro _ _ _ rfl _
        simp at hr
      clear hf1359
      rintro _ s1360 a k rfl ⟨rfl, ⟨hg, hs, hd⟩, i0, i1, i5, i6, i11, i15, i17, i19, i20, _⟩
      dsimp only at hr
      refine wp_seq ?_
      obtain ⟨x1361_3, hx1361_3, hr⟩ := bind_some hr
      refine cut (fun a' k' => Bs noF k0 229 a' k' ∧ (IsV l_) (a'.get 0) k' ∧ (IsV m_) (a'.get 1) k' ∧ (IsV x1228_0) (a'.get 5) k' ∧ (IsV x1233_2.1) (a'.get 6) k' ∧ (IsV s1291.1) (a'.get 11) k' ∧ (IsV x1296_2.1) (a'.get 15) k' ∧ (IsV x1297_2.1) (a'.get 17) k' ∧ (IsV s1303) (a'.get 19) k' ∧ (IsV (s1360.1 != x1361_3.Units)) (a'.get 227) k' ∧ True) ?_ hQ ?_
      · intro Q1369 hQQ1369 hp1370
        refine regionS (a0 := a) (k0 := k) (n := 229) (m := 7) (⟨some (IsV s1360.1), [(20, none)]⟩ :: ⟨some (IsV s1291.1), [(11, none)]⟩ :: ⟨some (IsV s1303), [(19, none)]⟩ :: ⟨some (IsPtr x1361_3), [(222, some 1), (223, some 2)]⟩ :: ⟨some (IsPtr x1361_3.Units), [(224, some 3)]⟩ :: ⟨some (IsV x1361_3.Units), [(225, some 4)]⟩ :: ⟨some (IsV (s1360.1 != x1361_3.Units)), [(221, some 0), (226, some 5)]⟩ :: []) hs (by kernel_rfl) ⟨ob1 rfl fun b q hk hn => ok_move rfl (up i20 hk hn.1), ob1 rfl fun b q hk hn => ok_move rfl (up i11 hk hn.1), ob1 rfl fun b q hk hn => ok_move rfl (up i19 hk hn.1), ob1 rfl fun b q hk hn => ok_indexAddr rfl Try.underlying22 ty35 (IsV.rd hn.1) hn.2.1 hx1361_3, ob1 rfl fun b q hk hn => ok_fieldAddr rfl fo35_1 (at_Account_1 _) hn.1, ob1 rfl fun b q hk hn => ok_load rfl ty3 hn.1, ob1 rfl fun b q hk hn => ok_neI rfl hn.1 hn.2.1, trivial⟩ hQQ1369 fun b q p => ?_
        exact tail_done (k := q) (hp1370 _ _ ⟨Bs.post ⟨hg, hs, hd⟩ p, keep p 0 rfl i0, keep p 1 rfl i1, keep p 5 rfl i5, keep p 6 rfl i6, keep p 11 rfl i11, keep p 15 rfl i15, keep p 17 rfl i17, keep p 19 rfl i19, out p 6 227 _ rfl rfl rfl, trivial⟩)
      rintro a k ⟨⟨hg, hs, hd⟩, i0, i1, i5, i6, i11, i15, i17, i19, i227, _⟩
      refine wp_cond_split (isBool i227) (fun hc1368 => ?_) (fun hc1368 => ?_)
      · rw [if_pos hc1368] at hr
        refine wp_seq ?_
        refine cut (fun a' k' => Bs noF k0 229 a' k' ∧ (IsV false) (a'.get 4) k' ∧ True) ?_ hQ ?_
        · intro Q1363 hQQ1363 hp1364
          refine regionS (a0 := a) (k0 := k) (n := 229) (m := 1) (⟨some (IsV false), []⟩ :: []) hs (by kernel_rfl) ⟨ob1 rfl fun b q hk hn => ok_assign rfl (isV_bool.2 rfl), trivial⟩ hQQ1363 fun b q p => ?_
          exact tail_done (k := q) (hp1364 _ _ ⟨Bs.post ⟨hg, hs, hd⟩ p, out p 0 4 _ rfl rfl rfl, trivial⟩)
        rintro a k ⟨⟨hg, hs, hd⟩, i4, _⟩
        refine wp_ret ?_
        exact hret1306 _ _ _ (Option.some.inj hr).symm (retC1 rfl hd hg i4)
      rw [if_neg (by rw [hc1368]; decide)] at hr
      refine wp_skip ?_
      obtain ⟨x1365_1, hx1365_1, hr⟩ := bind_some hr
      refine cut (fun a' k' => Bs noF k0 229 a' k' ∧ (IsV l_) (a'.get 0) k' ∧ (IsV m_) (a'.get 1) k' ∧ (IsV x1228_0) (a'.get 5) k' ∧ (IsV x1233_2.1) (a'.get 6) k' ∧ (IsV s1291.1) (a'.get 11) k' ∧ (IsV x1296_2.1) (a'.get 15) k' ∧ (IsV x1297_2.1) (a'.get 17) k' ∧ (IsV x1365_1) (a'.get 19) k' ∧ True) ?_ hQ ?_
      · intro Q1366 hQQ1366 hp1367
        refine regionS (a0 := a) (k0 := k) (n := 229) (m := 3) (⟨some (IsV s1303), [(19, none)]⟩ :: ⟨some (IsV x1365_1), [(136, some 0)]⟩ :: ⟨some (IsV x1365_1), [(137, some 1)]⟩ :: []) hs (by kernel_rfl) ⟨ob1 rfl fun b q hk hn => ok_move rfl (up i19 hk hn.1), ob1 rfl fun b q hk hn => ok_add rfl hn.1 (isV_int.2 rfl) hx1365_1, ob1 rfl fun b q hk hn => ok_assign rfl hn.1, trivial⟩ hQQ1366 fun b q p => ?_
        exact tail_done (k := q) (hp1367 _ _ ⟨Bs.post ⟨hg, hs, hd⟩ p, keep p 0 rfl i0, keep p 1 rfl i1, keep p 5 rfl i5, keep p 6 rfl i6, keep p 11 rfl i11, keep p 15 rfl i15, keep p 17 rfl i17, out p 2 19 _ rfl rfl rfl, trivial⟩)
      rintro a k ⟨⟨hg, hs, hd⟩, i0, i1, i5, i6, i11, i15, i17, i19, _⟩
      exact hgo1304 _ _ _ (Option.some.inj hr).symm ⟨⟨hg, hs, hd⟩, i0, i1, i5, i6, i11, i15, i17, i19, trivial⟩
    rw [if_neg (by rw [hc1377]; decide)] at hr
    refine wp_exit ?_
    exact hex1305 _ _ _ _ (Option.some.inj hr).symm ⟨rfl, ⟨hg, hs, hd⟩, i5, trivial⟩
  · rintro r1385 a k rfl hR
    dsimp only at hr
    obtain rfl := Option.some.inj hr
    exact hR
  · rintro _ _ _ rfl _
    simp at hr
  clear hf1380
  rintro _ s1381 a k rfl ⟨rfl, ⟨hg, hs, hd⟩, i5, _⟩
  dsimp only at hr
  refine wp_seq ?_
  refine cut (fun a' k' => Bs noF k0 229 a' k' ∧ (IsV x1228_0) (a'.get 4) k' ∧ True) ?_ hQ ?_
  · intro Q1383 hQQ1383 hp1384
    refine regionS (a0 := a) (k0 := k) (n := 229) (m := 2) (⟨some (IsV x1228_0), [(5, none)]⟩ :: ⟨some (IsV x1228_0), [(228, some 0)]⟩ :: []) hs (by kernel_rfl) ⟨ob1 rfl fun b q hk hn => ok_move rfl (up i5 hk hn.1), ob1 rfl fun b q hk hn => ok_assign rfl hn.1, trivial⟩ hQQ1383 fun b q p => ?_
    exact tail_done (k := q) (hp1384 _ _ ⟨Bs.post ⟨hg, hs, hd⟩ p, out p 1 4 _ rfl rfl rfl, trivial⟩)
  rintro a k ⟨⟨hg, hs, hd⟩, i4, _⟩
  refine wp_ret ?_
  obtain rfl := Option.some.inj hr
  exact retC1 rfl hd hg i4
end Go.Proofs.Ytbanncpkgbiklaa
