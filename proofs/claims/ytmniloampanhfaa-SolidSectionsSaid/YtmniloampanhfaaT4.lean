/- What the functions compute that the law reaches, part 4 -/
import Derived.Test.YtmniloampanhfaaT3
namespace Go.Proofs.Ytmniloampanhfaa
open Go.Gb
set_option linter.unusedVariables false
set_option linter.unusedSimpArgs false
set_option maxRecDepth 100000
def region_merge_L0 (x1067_3 : (List RegionSpan)) (s1068 : (List Int) × Int) : Option (Flow ((List Int) × Int) ((List RegionSpan))) :=
 if (decide (s1068.2 < (x1067_3.length : Int))) then
  (getI x1067_3 s1068.2).bind fun x1073_0 =>
  (appI s1068.1 ([x1073_0.from_, x1073_0.to_])).bind fun x1074_6 =>
  (addI s1068.2 1).bind fun x1075_0 =>
  some (.go (x1074_6, x1075_0))
 else
  some (.ex 0 (s1068.1, s1068.2))
def region_merge_L1 (a_ : (List RegionSpan)) (b_ : (List RegionSpan)) (keep_ : (Bool → Bool → Option (Bool))) (x1088_1 : (List Int)) (s1092 : (List RegionSpan) × Int) : Option (Flow ((List RegionSpan) × Int) ((List RegionSpan))) :=
 if (decide (s1092.2 < (x1088_1.length : Int))) then
  ((subI s1092.2 1).bind fun x1099_2 =>
  (getI x1088_1 x1099_2).bind fun x1099_3 =>
  (region_inside a_ x1099_3).bind fun x1100_3 =>
  (region_inside b_ x1099_3).bind fun x1100_6 =>
  (keep_ x1100_3 x1100_6).bind fun x1100_7 =>
  if (!x1100_7) then
   some s1092.1
  else
   (if (decide (0 < (s1092.1.length : Int))) then
    (subI (s1092.1.length : Int) 1).bind fun x1102_5 =>
    (getI s1092.1 x1102_5).bind fun x1102_6 =>
    some (x1102_6.to_ == x1099_3)
   else
    some false).bind fun x1102_11 =>
   (if x1102_11 then
    (subI (s1092.1.length : Int) 1).bind fun x1105_2 =>
    (getI x1088_1 s1092.2).bind fun x1105_5 =>
    (getI s1092.1 x1105_2).bind fun x1105_7 =>
    (some (s1092.1.set (x1105_2).toNat ({ x1105_7 with to_ := x1105_5 }))).bind fun x1105_9 =>
    some x1105_9
   else
    (getI x1088_1 s1092.2).bind fun x1108_4 =>
    (appI s1092.1 ([(⟨x1099_3, x1108_4⟩ : RegionSpan)])).bind fun x1108_8 =>
    some x1108_8).bind fun s1103 =>
   some s1103).bind fun s1097 =>
  (addI s1092.2 1).bind fun x1122_1 =>
  some (.go (s1097, x1122_1))
 else
  some (.ex 2 (s1092.1, s1092.2))
def region_merge (a_ : (List RegionSpan)) (b_ : (List RegionSpan)) (keep_ : (Bool → Bool → Option (Bool))) : Option ((List RegionSpan)) :=
 (slices_Concat_span ([a_, b_])).bind fun x1067_3 =>
 (iterL (region_merge_L0 x1067_3) (x1067_3.length + 1) (([] : List Int), 0)).bind fun f1085 => match f1085 with
  | .go _ => none
  | .ex _ s1086 =>
   (sortInts s1086.1).bind fun x1087_1 =>
   (compactInts x1087_1).bind fun x1088_1 =>
   (iterL (region_merge_L1 a_ b_ keep_ x1088_1) (a_.length + b_.length + x1088_1.length + ([] : List RegionSpan).length + 1) (([] : List RegionSpan), 1)).bind fun f1130 => match f1130 with
    | .go _ => none
    | .ex _ s1131 =>
     some s1131.1
    | .ret r1135 => some r1135
  | .ret r1145 => some r1145
theorem region_merge_ok {k0 : K} {v0 v1 v2 : Value} {a_ : (List RegionSpan)} {b_ : (List RegionSpan)} {keep_ : (Bool → Bool → Option (Bool))} {r : (List RegionSpan)} (i0 : (IsV a_) v0 k0) (i1 : (IsV b_) v1 k0) (i2 : (IsFn2 Try.prog keep_) v2 k0) (hr : region_merge a_ b_ keep_ = some r) :
  Calls Try.prog 65 #[v0, v1, v2] k0.w (Ret k0 (IsV r)) := by
 unfold region_merge at hr
 refine Ret.ofC ?_
 refine enterK Try.func65 rfl Try.ntmps65 (show 3 ≤ 88 by decide) fun a k hk0 hs hd ha => ?_
 obtain ⟨e0, e1, e2, _⟩ := ha
 replace i0 : (IsV a_) (a.get 0) k := by rw [e0, hk0]; exact i0
 replace i1 : (IsV b_) (a.get 1) k := by rw [e1, hk0]; exact i1
 replace i2 : (IsFn2 Try.prog keep_) (a.get 2) k := by rw [e2, hk0]; exact i2
 have hQ : Gb.LetsOut (bodyPost Try.prog Try.f65 (RetC noF k0 (IsV r))) := letsOutC
 have hg : Chg noF k0 k := by rw [hk0]; exact Chg.refl _ k0
 refine stepL 1 (⟨some IsE0, []⟩ :: []) rfl ⟨hg, hs, hd⟩ (by kernel_rfl) ⟨ob1 rfl fun b q h n => ok_assign rfl isE0_nil, trivial⟩ [⟨_, _⟩, ⟨_, _⟩, ⟨_, _⟩] (fun b q p => ⟨p.ke 0 rfl i0, p.ke 1 rfl i1, p.ke 2 rfl i2, trivial⟩) ?_
 rintro a k ⟨⟨hg, hs, hd⟩, i0, i1, i2, _⟩
 refine cutS (fun a' k' => Bs noF k0 88 a' k' ∧ (IsV a_) (a'.get 0) k' ∧ (IsV b_) (a'.get 1) k' ∧ (IsFn2 Try.prog keep_) (a'.get 2) k' ∧ IsOwn 0 3 ([] : List Int) (a'.get 7) k' ∧ Lo k0 (obF (a'.get 7)) ∧ True) ?_ ?_
 ·intro Q1149 hQQ1149 hp1150
  refine gS 1 (⟨some IsE0, []⟩ :: []) hs (by kernel_rfl) ⟨ob1 rfl fun b q h n => ok_assign rfl isE0_nil, trivial⟩ hQQ1149 fun b q p => ?_
  have hgq := hg.then p.grow
  have hsb := p.size.trans hs
  have hdb := p.defers.trans hd
  have j0 := p.ke 0 rfl i0
  have j1 := p.ke 1 rfl i1
  have j2 := p.ke 2 rfl i2
  have j7 : IsE0 (b.get 7) q := p.ou 0 7 rfl
  have y7 : Lo k0 (obF (b.get 7)) := j7.lo
  replace j7 : IsOwn 0 3 ([] : List Int) (b.get 7) q := j7.own0
  exact tail_done (k := q) (hp1150 _ _ ⟨⟨hgq, hsb, hdb⟩, j0, j1, j2, j7, y7, trivial⟩)
 rintro a k ⟨⟨hg, hs, hd⟩, i0, i1, i2, i7, n7, _⟩
 refine wp_seq ?_
 refine wp_seq ?_
 obtain ⟨x1067_3, hx1067_3, hr⟩ := bind_some hr
 refine cut (fun a' k' => Bs noF k0 88 a' k' ∧ (IsV a_) (a'.get 0) k' ∧ (IsV b_) (a'.get 1) k' ∧ (IsFn2 Try.prog keep_) (a'.get 2) k' ∧ IsOwn 0 3 ([] : List Int) (a'.get 7) k' ∧ Lo k0 (obF (a'.get 7)) ∧ (IsV x1067_3) (a'.get 17) k' ∧ (IsL x1067_3) (a'.get 18) k' ∧ (IsI 0) (a'.get 19) k' ∧ True) ?_ hQ ?_
 ·intro Q1147 hQQ1147 hp1148
  refine gS 6 (_ :: _ :: ⟨some (IsV (α := (List (List RegionSpan))) ([a_, b_])), [(14, some 0), (15, some 1)]⟩ :: _ :: _ :: ⟨some (IsI 0), []⟩ :: []) hs (by kernel_rfl) ⟨mu rfl i0, mu rfl i1, ob1 rfl fun _ _ h n => ok_buildSlice rfl Try.underlying124 eo81 rfl (by decide) (by decide) ⟨rfl, n.1, rfl, n.2.1, trivial⟩, o1 [(16, some 2)] rfl fun _ _ h n => ok_call rfl Try.call82 (slices_Concat_span_ok n.1 hx1067_3), o1 [(17, some 3)] rfl fun _ _ h n => ok_len rfl rfl Try.underlying81 (IsV.rd n.1), ob1 rfl fun _ _ h n => ok_move rfl (cI rfl), trivial⟩ hQQ1147 fun b q p => ?_
  exact tail_done (k := q) (hp1148 _ _ ⟨Bs.post ⟨hg, hs, hd⟩ p, p.ke 0 rfl i0, p.ke 1 rfl i1, p.ke 2 rfl i2, p.ke 7 rfl i7, (by rw [p.old 7 rfl]; exact n7), p.ou 3 17 rfl, p.ou 4 18 rfl, p.ou 5 19 rfl, trivial⟩)
 rintro a k ⟨⟨hg, hs, hd⟩, i0, i1, i2, i7, n7, i17, i18, i19, _⟩
 refine wp_block ?_
 obtain ⟨f1085, hf1085, hr⟩ := bind_some hr
 refine cutFe f1085 (fun s' a' k' => Bs noF k0 88 a' k' ∧ (IsV a_) (a'.get 0) k' ∧ (IsV b_) (a'.get 1) k' ∧ (IsFn2 Try.prog keep_) (a'.get 2) k' ∧ IsOwn 0 3 s'.1 (a'.get 7) k' ∧ Lo k0 (obF (a'.get 7)) ∧ (IsV x1067_3) (a'.get 17) k' ∧ (IsL x1067_3) (a'.get 18) k' ∧ (IsV s'.2) (a'.get 19) k' ∧ True) (fun i' s' a' k' => (i' = 0 ∧ Bs noF k0 88 a' k' ∧ (IsV a_) (a'.get 0) k' ∧ (IsV b_) (a'.get 1) k' ∧ (IsFn2 Try.prog keep_) (a'.get 2) k' ∧ IsOwn 0 3 s'.1 (a'.get 7) k' ∧ Lo k0 (obF (a'.get 7)) ∧ True)) (fun r' a' k' => bodyPost Try.prog Try.f65 (RetC noF k0 (IsV r')) .ret a' k'.w) ?_ hQ ?_ ?_ ?_
 ·intro Q1146 hQQ1146 hgo hex hret
  refine sim_loop ?_ _ _ _ _ _ hf1085 ⟨⟨hg, hs, hd⟩, i0, i1, i2, i7, n7, i17, i18, i19, trivial⟩ Q1146 hQQ1146 hgo hex hret
  clear hr hf1085 hgo hex hret hQQ1146 hQ hg hs hd i0 i1 i17 i18 i19 i2 i7 n7
  intro s1068 fl_ a k hr hS Q hQ hgo1069 hex1070 hret1071
  obtain ⟨⟨hg, hs, hd⟩, i0, i1, i2, i7, n7, i17, i18, i19, _⟩ := hS
  unfold region_merge_L0 at hr
  refine cutS (fun a' k' => Bs noF k0 88 a' k' ∧ (IsV a_) (a'.get 0) k' ∧ (IsV b_) (a'.get 1) k' ∧ (IsFn2 Try.prog keep_) (a'.get 2) k' ∧ IsOwn 0 3 s1068.1 (a'.get 7) k' ∧ Lo k0 (obF (a'.get 7)) ∧ (IsV x1067_3) (a'.get 17) k' ∧ (IsL x1067_3) (a'.get 18) k' ∧ (IsV s1068.2) (a'.get 19) k' ∧ (IsV (decide (s1068.2 < (x1067_3.length : Int)))) (a'.get 20) k' ∧ True) ?_ ?_
  ·intro Q1083 hQQ1083 hp1084
   refine gS 1 (_ :: []) hs (by kernel_rfl) ⟨o1 [(19, none), (18, none)] rfl fun _ _ h n => ok_lss rfl (up i19 h n.1) (up i18 h n.2.1), trivial⟩ hQQ1083 fun b q p => ?_
   exact tail_done (k := q) (hp1084 _ _ ⟨Bs.post ⟨hg, hs, hd⟩ p, p.ke 0 rfl i0, p.ke 1 rfl i1, p.ke 2 rfl i2, p.ke 7 rfl i7, (by rw [p.old 7 rfl]; exact n7), p.ke 17 rfl i17, p.ke 18 rfl i18, p.ke 19 rfl i19, p.ou 0 20 rfl, trivial⟩)
  rintro a k ⟨⟨hg, hs, hd⟩, i0, i1, i2, i7, n7, i17, i18, i19, i20, _⟩
  refine wp_seq ?_
  refine wp_cond_split (isBool i20) (fun hc1082 => ?_) (fun hc1082 => ?_)
  ·rw [if_pos hc1082] at hr
   refine wp_skip ?_
   refine wp_seq ?_
   refine wp_block ?_
   refine wp_seq ?_
   obtain ⟨x1073_0, hx1073_0, hr⟩ := bind_some hr
   refine cut (fun a' k' => Bs noF k0 88 a' k' ∧ (IsV a_) (a'.get 0) k' ∧ (IsV b_) (a'.get 1) k' ∧ (IsFn2 Try.prog keep_) (a'.get 2) k' ∧ IsOwn 0 3 s1068.1 (a'.get 7) k' ∧ Lo k0 (obF (a'.get 7)) ∧ (IsRef x1073_0) (a'.get 9) k' ∧ (IsV x1067_3) (a'.get 17) k' ∧ (IsL x1067_3) (a'.get 18) k' ∧ (IsV s1068.2) (a'.get 19) k' ∧ True) ?_ hQ ?_
   ·intro Q1080 hQQ1080 hp1081
    refine gS 3 (_ :: _ :: ⟨some (IsBox k.w.heap.size (⟨0, 0⟩ : RegionSpan)), []⟩ :: []) hs (by kernel_rfl) ⟨o1 [(17, none), (19, none)] rfl fun _ _ h n => ok_indexAddr rfl Try.underlying81 ty83 (IsV.rd (up i17 h n.1)) (up i19 h n.2.1) hx1073_0, o1 [(21, some 0)] rfl fun _ _ h n => ok_load rfl ty83 n.1, ob1 rfl fun _ _ h n => ok_alloc _ h.size rfl z83, trivial⟩ hQQ1080 fun b q p => ?_
    have hgq := hg.then p.grow
    have hsb := p.size.trans hs
    have hdb := p.defers.trans hd
    have j0 := p.ke 0 rfl i0
    have j1 := p.ke 1 rfl i1
    have j2 := p.ke 2 rfl i2
    have j7 := p.ke 7 rfl i7
    have y7 : Lo k0 (obF (b.get 7)) := by rw [p.old 7 rfl]; exact n7
    obtain ⟨b9, j9, x9, z9⟩ : (IsBox k.w.heap.size (⟨0, 0⟩ : RegionSpan)) (b.get 9) q := p.ou 2 9 rfl
    replace x9 : Lo k (Eq b9) := Lo.eq x9
    have y9 : Lo k0 (Eq b9) := x9.chg hg
    have j17 := p.ke 17 rfl i17
    have j18 := p.ke 18 rfl i18
    have j19 := p.ke 19 rfl i19
    have j22 : (IsV x1073_0) (b.get 22) q := p.ou 1 22 rfl
    have w7_9 : Apart (obF (b.get 7)) (Eq b9) := Apart.new (by rw [p.old 7 rfl]; exact i7.ltF) x9
    have hns := z9.nshF
    refine tail_storeB (i := 3) rfl rfl rfl rfl szf83 (Upd.self (α := RegionSpan)) j9 z9 j22 fun q2 hch hz => ?_
    replace hgq := hgq.step hch y9.wr
    have hle := hch.le hns
    replace j0 := Pers.pers hle j0
    replace j1 := Pers.pers hle j1
    replace j2 := Pers.pers hle j2
    replace j7 := j7.keep hch w7_9 hns
    replace j17 := Pers.pers hle j17
    replace j18 := Pers.pers hle j18
    replace j19 := Pers.pers hle j19
    replace j22 := Pers.pers hle j22
    replace z9 := hz
    clear hns hle hch
    obtain ⟨q, hqq⟩ : ∃ q, q = q2 := ⟨q2, rfl⟩
    subst hqq
    obtain ⟨q2, hsh, jn⟩ := z9.give
    replace j0 := Pers.pers hsh.le j0
    replace j1 := Pers.pers hsh.le j1
    replace j2 := Pers.pers hsh.le j2
    replace j7 := j7.handed hsh w7_9
    replace j17 := Pers.pers hsh.le j17
    replace j18 := Pers.pers hsh.le j18
    replace j19 := Pers.pers hsh.le j19
    rw [← j9] at jn
    replace j9 := jn
    replace hgq := hgq.hand hsh y9.wr
    rw [← hsh.w]
    clear hsh
    obtain ⟨q, hqq⟩ : ∃ q, q = q2 := ⟨q2, rfl⟩
    subst hqq
    exact tail_done (k := q) (hp1081 _ _ ⟨⟨hgq, hsb, hdb⟩, j0, j1, j2, j7, y7, j9, j17, j18, j19, trivial⟩)
   rintro a k ⟨⟨hg, hs, hd⟩, i0, i1, i2, i7, n7, i9, i17, i18, i19, _⟩
   obtain ⟨x1074_6, hx1074_6, hr⟩ := bind_some hr
   refine cut (fun a' k' => Bs noF k0 88 a' k' ∧ (IsV a_) (a'.get 0) k' ∧ (IsV b_) (a'.get 1) k' ∧ (IsFn2 Try.prog keep_) (a'.get 2) k' ∧ IsOwn 0 3 x1074_6 (a'.get 7) k' ∧ Lo k0 (obF (a'.get 7)) ∧ (IsV x1067_3) (a'.get 17) k' ∧ (IsL x1067_3) (a'.get 18) k' ∧ (IsV s1068.2) (a'.get 19) k' ∧ True) ?_ hQ ?_
   ·intro Q1078 hQQ1078 hp1079
    refine gS 6 (⟨some (OwnAt (a.get 7) 0 3 s1068.1), [(7, none)]⟩ :: _ :: _ :: _ :: _ :: ⟨some (IsV (α := (List Int)) ([x1073_0.from_, x1073_0.to_])), [(25, some 2), (27, some 4)]⟩ :: []) hs (by kernel_rfl) ⟨ob1 rfl fun _ _ h n => ok_moveOA (.inl rfl) (ownAt n.1 (up i7 h n.1)), o1 [(9, none)] rfl fun _ _ h n => ok_fieldAddr rfl fo83_0 (at_RegionSpan_0 _) ((up i9 h n.1)).ptr, o1 [(24, some 1)] rfl fun _ _ h n => ok_load rfl ty3 n.1, o1 [(9, none)] rfl fun _ _ h n => ok_fieldAddr rfl fo83_1 (at_RegionSpan_1 _) ((up i9 h n.1)).ptr, o1 [(26, some 3)] rfl fun _ _ h n => ok_load rfl ty3 n.1, ob1 rfl fun _ _ h n => ok_buildSlice rfl Try.underlying57 eo3 rfl (by decide) (by decide) ⟨rfl, n.1, rfl, n.2.1, trivial⟩, trivial⟩ hQQ1078 fun b q p => ?_
    have hgq := hg.then p.grow
    have hsb := p.size.trans hs
    have hdb := p.defers.trans hd
    have j0 := p.ke 0 rfl i0
    have j1 := p.ke 1 rfl i1
    have j2 := p.ke 2 rfl i2
    have j17 := p.ke 17 rfl i17
    have j18 := p.ke 18 rfl i18
    have j19 := p.ke 19 rfl i19
    have e23 : b.get 23 = a.get 7 := (p.ou 0 23 rfl).1
    have j23 : IsOwn 0 3 s1068.1 (b.get 23) q := (p.ou 0 23 rfl).2
    have y23 : Lo k0 (obF (b.get 23)) := by rw [e23]; exact n7
    have j28 : (IsV (α := (List Int)) ([x1073_0.from_, x1073_0.to_])) (b.get 28) q := p.ou 5 28 rfl
    have hns := j23.nshF
    refine tail_appendS (i := 6) (d := 29) rfl rfl rfl rfl (by rw [hsb]; decide) (e := 3) Try.underlying57 eo3 j23 (IsV.rd j28) hx1074_6 fun b2 q2 hsz hdf hoth hch hown hob => ?_
    have hle := hch.le hns
    have yn : Lo k0 (obF (b2.get 29)) := y23.app hgq hob
    replace j0 := Pers.pers hle j0
    replace j1 := Pers.pers hle j1
    replace j2 := Pers.pers hle j2
    replace j17 := Pers.pers hle j17
    replace j18 := Pers.pers hle j18
    replace j19 := Pers.pers hle j19
    replace j28 := Pers.pers hle j28
    replace hgq := hgq.step hch y23.wr
    rw [← hoth 0 (by decide)] at j0
    rw [← hoth 1 (by decide)] at j1
    rw [← hoth 2 (by decide)] at j2
    rw [← hoth 17 (by decide)] at j17
    rw [← hoth 18 (by decide)] at j18
    rw [← hoth 19 (by decide)] at j19
    rw [← hoth 28 (by decide)] at j28
    have j29 := hown
    have y29 := yn
    replace hsb := hsz.trans hsb
    replace hdb := hdf.trans hdb
    clear hle hch hown hob hns yn hsz hdf hoth
    obtain ⟨b, hbb⟩ : ∃ b, b = b2 := ⟨b2, rfl⟩
    subst hbb
    obtain ⟨q, hqq⟩ : ∃ q, q = q2 := ⟨q2, rfl⟩
    subst hqq
    refine tail_assign (i := 7) (d := 7) rfl rfl (.inl rfl) rfl (by rw [hsb]; decide) fun b2 hsz hdf hnew hoth => ?_
    have jn : (IsOwn 0 3 x1074_6) (b2.get 7) q := by rw [hnew]; exact j29
    have yn : Lo k0 (obF (b2.get 7)) := by rw [hnew]; exact y29
    rw [← hoth 0 (by decide)] at j0
    rw [← hoth 1 (by decide)] at j1
    rw [← hoth 2 (by decide)] at j2
    rw [← hoth 17 (by decide)] at j17
    rw [← hoth 18 (by decide)] at j18
    rw [← hoth 19 (by decide)] at j19
    rw [← hoth 28 (by decide)] at j28
    have j7 := jn
    have y7 := yn
    replace hsb := hsz.trans hsb
    replace hdb := hdf.trans hdb
    clear hsz hdf hoth
    obtain ⟨b, hbb⟩ : ∃ b, b = b2 := ⟨b2, rfl⟩
    subst hbb
    exact tail_done (k := q) (hp1079 _ _ ⟨⟨hgq, hsb, hdb⟩, j0, j1, j2, j7, y7, j17, j18, j19, trivial⟩)
   rintro a k ⟨⟨hg, hs, hd⟩, i0, i1, i2, i7, n7, i17, i18, i19, _⟩
   obtain ⟨x1075_0, hx1075_0, hr⟩ := bind_some hr
   refine cut (fun a' k' => Bs noF k0 88 a' k' ∧ (IsV a_) (a'.get 0) k' ∧ (IsV b_) (a'.get 1) k' ∧ (IsFn2 Try.prog keep_) (a'.get 2) k' ∧ IsOwn 0 3 x1074_6 (a'.get 7) k' ∧ Lo k0 (obF (a'.get 7)) ∧ (IsV x1067_3) (a'.get 17) k' ∧ (IsL x1067_3) (a'.get 18) k' ∧ (IsV x1075_0) (a'.get 19) k' ∧ True) ?_ hQ ?_
   ·intro Q1076 hQQ1076 hp1077
    refine gS 2 (_ :: _ :: []) hs (by kernel_rfl) ⟨o1 [(19, none)] rfl fun _ _ h n => ok_add rfl (up i19 h n.1) (cI rfl) hx1075_0, cm 0 rfl rfl, trivial⟩ hQQ1076 fun b q p => ?_
    exact tail_done (k := q) (hp1077 _ _ ⟨Bs.post ⟨hg, hs, hd⟩ p, p.ke 0 rfl i0, p.ke 1 rfl i1, p.ke 2 rfl i2, p.ke 7 rfl i7, (by rw [p.old 7 rfl]; exact n7), p.ke 17 rfl i17, p.ke 18 rfl i18, p.ou 1 19 rfl, trivial⟩)
   rintro a k ⟨⟨hg, hs, hd⟩, i0, i1, i2, i7, n7, i17, i18, i19, _⟩
   exact hgo1069 _ _ _ (Option.some.inj hr).symm ⟨⟨hg, hs, hd⟩, i0, i1, i2, i7, n7, i17, i18, i19, trivial⟩
  rw [if_neg (by rw [hc1082]; decide)] at hr
  refine wp_exit ?_
  exact hex1070 _ _ _ _ (Option.some.inj hr).symm ⟨rfl, ⟨hg, hs, hd⟩, i0, i1, i2, i7, n7, trivial⟩
 ·rintro r1145 a k rfl hR
  dsimp only at hr
  obtain rfl := Option.some.inj hr
  exact hR
 ·rintro _ _ _ rfl _
  simp at hr
 clear hf1085
 rintro _ s1086 a k rfl ⟨rfl, ⟨hg, hs, hd⟩, i0, i1, i2, i7, n7, _⟩
 dsimp only at hr
 refine wp_seq ?_
 obtain ⟨x1087_1, hx1087_1, hr⟩ := bind_some hr
 refine cut (fun a' k' => Bs noF k0 88 a' k' ∧ (IsV a_) (a'.get 0) k' ∧ (IsV b_) (a'.get 1) k' ∧ (IsFn2 Try.prog keep_) (a'.get 2) k' ∧ IsOwn 0 3 x1087_1 (a'.get 7) k' ∧ Lo k0 (obF (a'.get 7)) ∧ True) ?_ hQ ?_
 ·intro Q1143 hQQ1143 hp1144
  refine gS 1 (⟨some (OwnAt (a.get 7) 0 3 s1086.1), [(7, none)]⟩ :: []) hs (by kernel_rfl) ⟨ob1 rfl fun _ _ h n => ok_moveOA (.inl rfl) (ownAt n.1 (up i7 h n.1)), trivial⟩ hQQ1143 fun b q p => ?_
  have hgq := hg.then p.grow
  have hsb := p.size.trans hs
  have hdb := p.defers.trans hd
  have j0 := p.ke 0 rfl i0
  have j1 := p.ke 1 rfl i1
  have j2 := p.ke 2 rfl i2
  have j7 := p.ke 7 rfl i7
  have y7 : Lo k0 (obF (b.get 7)) := by rw [p.old 7 rfl]; exact n7
  have e31 : b.get 31 = a.get 7 := (p.ou 0 31 rfl).1
  have j31 : IsOwn 0 3 s1086.1 (b.get 31) q := (p.ou 0 31 rfl).2
  have y31 : Lo k0 (obF (b.get 31)) := by rw [e31]; exact n7
  have hns := j31.nshF
  have eS : b.get 7 = b.get 31 := (p.old 7 rfl).trans e31.symm
  refine tail_call (F := obF (b.get 31)) (i := 1) (d := 32) rfl rfl rfl rfl (by rw [hsb]; decide) Try.call51 hQQ1143 (sortInts_ok j31 hx1087_1) fun b2 q2 hsz hdf hoth hch hres => ?_
  have hle := hch.le hns
  replace j0 := Pers.pers hle j0
  replace j1 := Pers.pers hle j1
  replace j2 := Pers.pers hle j2
  replace hgq := hgq.step hch y31.wr
  replace j7 : IsOwn 0 3 x1087_1 (b.get 7) q2 := by rw [eS]; exact hres
  clear hres eS
  rw [← hoth 0 (by decide)] at j0
  rw [← hoth 1 (by decide)] at j1
  rw [← hoth 2 (by decide)] at j2
  rw [← hoth 7 (by decide)] at j7
  rw [← hoth 7 (by decide)] at y7
  replace hsb := hsz.trans hsb
  replace hdb := hdf.trans hdb
  clear hle hch hns hsz hdf hoth
  obtain ⟨b, hbb⟩ : ∃ b, b = b2 := ⟨b2, rfl⟩
  subst hbb
  obtain ⟨q, hqq⟩ : ∃ q, q = q2 := ⟨q2, rfl⟩
  subst hqq
  exact tail_done (k := q) (hp1144 _ _ ⟨⟨hgq, hsb, hdb⟩, j0, j1, j2, j7, y7, trivial⟩)
 rintro a k ⟨⟨hg, hs, hd⟩, i0, i1, i2, i7, n7, _⟩
 refine wp_seq ?_
 obtain ⟨x1088_1, hx1088_1, hr⟩ := bind_some hr
 refine cut (fun a' k' => Bs noF k0 88 a' k' ∧ (IsV a_) (a'.get 0) k' ∧ (IsV b_) (a'.get 1) k' ∧ (IsFn2 Try.prog keep_) (a'.get 2) k' ∧ IsOwn 0 3 x1088_1 (a'.get 7) k' ∧ Lo k0 (obF (a'.get 7)) ∧ True) ?_ hQ ?_
 ·intro Q1141 hQQ1141 hp1142
  refine gS 1 (⟨some (OwnAt (a.get 7) 0 3 x1087_1), [(7, none)]⟩ :: []) hs (by kernel_rfl) ⟨ob1 rfl fun _ _ h n => ok_moveOA (.inl rfl) (ownAt n.1 (up i7 h n.1)), trivial⟩ hQQ1141 fun b q p => ?_
  have hgq := hg.then p.grow
  have hsb := p.size.trans hs
  have hdb := p.defers.trans hd
  have j0 := p.ke 0 rfl i0
  have j1 := p.ke 1 rfl i1
  have j2 := p.ke 2 rfl i2
  have e33 : b.get 33 = a.get 7 := (p.ou 0 33 rfl).1
  have j33 : IsOwn 0 3 x1087_1 (b.get 33) q := (p.ou 0 33 rfl).2
  have y33 : Lo k0 (obF (b.get 33)) := by rw [e33]; exact n7
  have hns := j33.nshF
  refine tail_call (F := obF (b.get 33)) (i := 1) (d := 34) rfl rfl rfl rfl (by rw [hsb]; decide) Try.call52 hQQ1141 (compactInts_ok j33 hx1088_1) fun b2 q2 hsz hdf hoth hch hres => ?_
  have hle := hch.le hns
  obtain ⟨hown, hob⟩ := hres
  have yn : Lo k0 (obF (b2.get 34)) := y33.app hgq hob
  replace j0 := Pers.pers hle j0
  replace j1 := Pers.pers hle j1
  replace j2 := Pers.pers hle j2
  replace hgq := hgq.step hch y33.wr
  rw [← hoth 0 (by decide)] at j0
  rw [← hoth 1 (by decide)] at j1
  rw [← hoth 2 (by decide)] at j2
  have j34 := hown
  have y34 := yn
  have hres := True.intro
  clear hown hob yn
  replace hsb := hsz.trans hsb
  replace hdb := hdf.trans hdb
  clear hle hch hres hns hsz hdf hoth
  obtain ⟨b, hbb⟩ : ∃ b, b = b2 := ⟨b2, rfl⟩
  subst hbb
  obtain ⟨q, hqq⟩ : ∃ q, q = q2 := ⟨q2, rfl⟩
  subst hqq
  refine tail_assign (i := 2) (d := 7) rfl rfl (.inl rfl) rfl (by rw [hsb]; decide) fun b2 hsz hdf hnew hoth => ?_
  have jn : (IsOwn 0 3 x1088_1) (b2.get 7) q := by rw [hnew]; exact j34
  have yn : Lo k0 (obF (b2.get 7)) := by rw [hnew]; exact y34
  rw [← hoth 0 (by decide)] at j0
  rw [← hoth 1 (by decide)] at j1
  rw [← hoth 2 (by decide)] at j2
  have j7 := jn
  have y7 := yn
  replace hsb := hsz.trans hsb
  replace hdb := hdf.trans hdb
  clear hsz hdf hoth
  obtain ⟨b, hbb⟩ : ∃ b, b = b2 := ⟨b2, rfl⟩
  subst hbb
  exact tail_done (k := q) (hp1142 _ _ ⟨⟨hgq, hsb, hdb⟩, j0, j1, j2, j7, y7, trivial⟩)
 rintro a k ⟨⟨hg, hs, hd⟩, i0, i1, i2, i7, n7, _⟩
 refine wp_seq ?_
 obtain ⟨kk, sh1089, ii7⟩ := i7.give
 replace i0 := Pers.pers sh1089.le i0
 replace i1 := Pers.pers sh1089.le i1
 replace i2 := Pers.pers sh1089.le i2
 replace i7 := ii7
 replace hg := hg.hand sh1089 n7.wr
 rw [← sh1089.w]
 clear sh1089
 obtain ⟨k, hkk⟩ : ∃ k, k = kk := ⟨kk, rfl⟩
 subst hkk
 refine cut (fun a' k' => Bs noF k0 88 a' k' ∧ (IsV a_) (a'.get 0) k' ∧ (IsV b_) (a'.get 1) k' ∧ (IsFn2 Try.prog keep_) (a'.get 2) k' ∧ (IsV x1088_1) (a'.get 7) k' ∧ IsOwn 0 83 ([] : List RegionSpan) (a'.get 10) k' ∧ Lo k0 (obF (a'.get 10)) ∧ True) ?_ hQ ?_
 ·intro Q1139 hQQ1139 hp1140
  refine gS 1 (⟨some IsE0, []⟩ :: []) hs (by kernel_rfl) ⟨ob1 rfl fun b q h n => ok_assign rfl isE0_nil, trivial⟩ hQQ1139 fun b q p => ?_
  have hgq := hg.then p.grow
  have hsb := p.size.trans hs
  have hdb := p.defers.trans hd
  have j0 := p.ke 0 rfl i0
  have j1 := p.ke 1 rfl i1
  have j2 := p.ke 2 rfl i2
  have j7 := p.ke 7 rfl i7
  have j10 : IsE0 (b.get 10) q := p.ou 0 10 rfl
  have y10 : Lo k0 (obF (b.get 10)) := j10.lo
  replace j10 : IsOwn 0 83 ([] : List RegionSpan) (b.get 10) q := j10.own0
  exact tail_done (k := q) (hp1140 _ _ ⟨⟨hgq, hsb, hdb⟩, j0, j1, j2, j7, j10, y10, trivial⟩)
 rintro a k ⟨⟨hg, hs, hd⟩, i0, i1, i2, i7, i10, n10, _⟩
 refine wp_seq ?_
 refine cutS (fun a' k' => Bs noF k0 88 a' k' ∧ (IsV a_) (a'.get 0) k' ∧ (IsV b_) (a'.get 1) k' ∧ (IsFn2 Try.prog keep_) (a'.get 2) k' ∧ (IsV x1088_1) (a'.get 7) k' ∧ IsOwn 0 83 ([] : List RegionSpan) (a'.get 10) k' ∧ Lo k0 (obF (a'.get 10)) ∧ (IsI 1) (a'.get 11) k' ∧ True) ?_ ?_
 ·intro Q1137 hQQ1137 hp1138
  refine gS 1 (⟨some (IsI 1), []⟩ :: []) hs (by kernel_rfl) ⟨aI rfl rfl, trivial⟩ hQQ1137 fun b q p => ?_
  exact tail_done (k := q) (hp1138 _ _ ⟨Bs.post ⟨hg, hs, hd⟩ p, p.ke 0 rfl i0, p.ke 1 rfl i1, p.ke 2 rfl i2, p.ke 7 rfl i7, p.ke 10 rfl i10, (by rw [p.old 10 rfl]; exact n10), p.ou 0 11 rfl, trivial⟩)
 rintro a k ⟨⟨hg, hs, hd⟩, i0, i1, i2, i7, i10, n10, i11, _⟩
 refine wp_block ?_
 obtain ⟨f1130, hf1130, hr⟩ := bind_some hr
 refine cutFe f1130 (fun s' a' k' => Bs noF k0 88 a' k' ∧ (IsV a_) (a'.get 0) k' ∧ (IsV b_) (a'.get 1) k' ∧ (IsFn2 Try.prog keep_) (a'.get 2) k' ∧ (IsV x1088_1) (a'.get 7) k' ∧ IsOwn 0 83 s'.1 (a'.get 10) k' ∧ Lo k0 (obF (a'.get 10)) ∧ (IsV s'.2) (a'.get 11) k' ∧ True) (fun i' s' a' k' => (i' = 2 ∧ Bs noF k0 88 a' k' ∧ (IsV s'.1) (a'.get 10) k' ∧ True)) (fun r' a' k' => bodyPost Try.prog Try.f65 (RetC noF k0 (IsV r')) .ret a' k'.w) ?_ hQ ?_ ?_ ?_
 ·intro Q1136 hQQ1136 hgo hex hret
  refine sim_loop ?_ _ _ _ _ _ hf1130 ⟨⟨hg, hs, hd⟩, i0, i1, i2, i7, i10, n10, i11, trivial⟩ Q1136 hQQ1136 hgo hex hret
  clear hr hf1130 hgo hex hret hQQ1136 hQ hg hs hd i0 i1 i10 i11 i2 i7 n10
  intro s1092 fl_ a k hr hS Q hQ hgo1093 hex1094 hret1095
  obtain ⟨⟨hg, hs, hd⟩, i0, i1, i2, i7, i10, n10, i11, _⟩ := hS
  unfold region_merge_L1 at hr
  refine wp_seq ?_
  refine cutS (fun a' k' => Bs noF k0 88 a' k' ∧ (IsV a_) (a'.get 0) k' ∧ (IsV b_) (a'.get 1) k' ∧ (IsFn2 Try.prog keep_) (a'.get 2) k' ∧ (IsV x1088_1) (a'.get 7) k' ∧ IsOwn 0 83 s1092.1 (a'.get 10) k' ∧ Lo k0 (obF (a'.get 10)) ∧ (IsV s1092.2) (a'.get 11) k' ∧ (IsV (decide (s1092.2 < (x1088_1.length : Int)))) (a'.get 38) k' ∧ True) ?_ ?_
  ·intro Q1128 hQQ1128 hp1129
   refine gS 4 (_ :: _ :: _ :: _ :: []) hs (by kernel_rfl) ⟨mu rfl i11, mu rfl i7, o1 [(36, some 1)] rfl fun _ _ h n => ok_len rfl rfl Try.underlying57 (IsV.rd n.1), o1 [(35, some 0), (37, some 2)] rfl fun _ _ h n => ok_lss rfl n.1 n.2.1, trivial⟩ hQQ1128 fun b q p => ?_
   exact tail_done (k := q) (hp1129 _ _ ⟨Bs.post ⟨hg, hs, hd⟩ p, p.ke 0 rfl i0, p.ke 1 rfl i1, p.ke 2 rfl i2, p.ke 7 rfl i7, p.ke 10 rfl i10, (by rw [p.old 10 rfl]; exact n10), p.ke 11 rfl i11, p.ou 3 38 rfl, trivial⟩)
  rintro a k ⟨⟨hg, hs, hd⟩, i0, i1, i2, i7, i10, n10, i11, i38, _⟩
  refine wp_cond_split (isBool i38) (fun hc1127 => ?_) (fun hc1127 => ?_)
  ·rw [if_pos hc1127] at hr
   refine wp_skip ?_
   refine wp_seq ?_
   obtain ⟨s1097, hs1097, hr⟩ := bind_some hr
   refine cut (fun a' k' => Bs noF k0 88 a' k' ∧ (IsV a_) (a'.get 0) k' ∧ (IsV b_) (a'.get 1) k' ∧ (IsFn2 Try.prog keep_) (a'.get 2) k' ∧ (IsV x1088_1) (a'.get 7) k' ∧ IsOwn 0 83 s1097 (a'.get 10) k' ∧ Lo k0 (obF (a'.get 10)) ∧ (IsV s1092.2) (a'.get 11) k' ∧ True) ?_ hQ ?_
   ·intro Q1125 hQQ1125 hp1098
    replace hr := hs1097
    clear hQ
    have hQ := hQQ1125
    refine wp_block ?_
    refine wp_seq ?_
    obtain ⟨x1099_2, hx1099_2, hr⟩ := bind_some hr
    obtain ⟨x1099_3, hx1099_3, hr⟩ := bind_some hr
    refine cut (fun a' k' => Bs noF k0 88 a' k' ∧ (IsV a_) (a'.get 0) k' ∧ (IsV b_) (a'.get 1) k' ∧ (IsFn2 Try.prog keep_) (a'.get 2) k' ∧ (IsV x1088_1) (a'.get 7) k' ∧ IsOwn 0 83 s1092.1 (a'.get 10) k' ∧ Lo k0 (obF (a'.get 10)) ∧ (IsV s1092.2) (a'.get 11) k' ∧ (IsV x1099_3) (a'.get 12) k' ∧ True) ?_ hQ ?_
    ·intro Q1120 hQQ1120 hp1121
     refine gS 6 (_ :: _ :: _ :: _ :: _ :: _ :: []) hs (by kernel_rfl) ⟨mu rfl i7, mu rfl i11, o1 [(42, some 1)] rfl fun _ _ h n => ok_sub rfl n.1 (cI rfl) hx1099_2, o1 [(41, some 0), (43, some 2)] rfl fun _ _ h n => ok_indexAddr rfl Try.underlying57 ty3 (IsV.rd n.1) n.2.1 hx1099_3, o1 [(44, some 3)] rfl fun _ _ h n => ok_load rfl ty3 n.1, cp 4 rfl rfl, trivial⟩ hQQ1120 fun b q p => ?_
     exact tail_done (k := q) (hp1121 _ _ ⟨Bs.post ⟨hg, hs, hd⟩ p, p.ke 0 rfl i0, p.ke 1 rfl i1, p.ke 2 rfl i2, p.ke 7 rfl i7, p.ke 10 rfl i10, (by rw [p.old 10 rfl]; exact n10), p.ke 11 rfl i11, p.ou 5 12 rfl, trivial⟩)
    rintro a k ⟨⟨hg, hs, hd⟩, i0, i1, i2, i7, i10, n10, i11, i12, _⟩
    refine wp_seq ?_
    refine wp_seq ?_
    obtain ⟨x1100_3, hx1100_3, hr⟩ := bind_some hr
    obtain ⟨x1100_6, hx1100_6, hr⟩ := bind_some hr
    obtain ⟨x1100_7, hx1100_7, hr⟩ := bind_some hr
    refine cut (fun a' k' => Bs noF k0 88 a' k' ∧ (IsV a_) (a'.get 0) k' ∧ (IsV b_) (a'.get 1) k' ∧ (IsFn2 Try.prog keep_) (a'.get 2) k' ∧ (IsV x1088_1) (a'.get 7) k' ∧ IsOwn 0 83 s1092.1 (a'.get 10) k' ∧ Lo k0 (obF (a'.get 10)) ∧ (IsV s1092.2) (a'.get 11) k' ∧ (IsV x1099_3) (a'.get 12) k' ∧ (IsV (!x1100_7)) (a'.get 54) k' ∧ True) ?_ hQ ?_
    ·intro Q1118 hQQ1118 hp1119
     refine gS 9 (_ :: _ :: _ :: _ :: _ :: _ :: _ :: ⟨some (IsV x1100_7), [(46, some 0), (49, some 3), (52, some 6)]⟩ :: _ :: []) hs (by kernel_rfl) ⟨mu rfl i2, mu rfl i0, mu rfl i12, o1 [(47, some 1), (48, some 2)] rfl fun _ _ h n => ok_call rfl Try.call83 (region_inside_ok n.1 n.2.1 hx1100_3), mu rfl i1, mu rfl i12, o1 [(50, some 4), (51, some 5)] rfl fun _ _ h n => ok_call rfl Try.call83 (region_inside_ok n.1 n.2.1 hx1100_6), ob1 rfl fun _ _ h n => ok_callF2 rfl n.1 n.2.1 n.2.2.1 hx1100_7, o1 [(53, some 7)] rfl fun _ _ h n => ok_not rfl n.1, trivial⟩ hQQ1118 fun b q p => ?_
     exact tail_done (k := q) (hp1119 _ _ ⟨Bs.post ⟨hg, hs, hd⟩ p, p.ke 0 rfl i0, p.ke 1 rfl i1, p.ke 2 rfl i2, p.ke 7 rfl i7, p.ke 10 rfl i10, (by rw [p.old 10 rfl]; exact n10), p.ke 11 rfl i11, p.ke 12 rfl i12, p.ou 8 54 rfl, trivial⟩)
    rintro a k ⟨⟨hg, hs, hd⟩, i0, i1, i2, i7, i10, n10, i11, i12, i54, _⟩
    refine wp_cond_split (isBool i54) (fun hc1117 => ?_) (fun hc1117 => ?_)
    ·rw [if_pos hc1117] at hr
     refine wp_exit ?_
     obtain rfl := Option.some.inj hr
     exact hp1098 _ _ ⟨⟨hg, hs, hd⟩, i0, i1, i2, i7, i10, n10, i11, trivial⟩
    rw [if_neg (by rw [hc1117]; decide)] at hr
    refine wp_skip ?_
    refine cutS (fun a' k' => Bs noF k0 88 a' k' ∧ (IsV a_) (a'.get 0) k' ∧ (IsV b_) (a'.get 1) k' ∧ (IsFn2 Try.prog keep_) (a'.get 2) k' ∧ (IsV x1088_1) (a'.get 7) k' ∧ IsOwn 0 83 s1092.1 (a'.get 10) k' ∧ Lo k0 (obF (a'.get 10)) ∧ (IsV s1092.2) (a'.get 11) k' ∧ (IsV x1099_3) (a'.get 12) k' ∧ (IsI (s1092.1.length : Int)) (a'.get 13) k' ∧ True) ?_ ?_
    ·intro Q1115 hQQ1115 hp1116
     refine gS 3 (⟨some (OwnAt (a.get 10) 0 83 s1092.1), [(10, none)]⟩ :: _ :: _ :: []) hs (by kernel_rfl) ⟨ob1 rfl fun _ _ h n => ok_moveOA (.inl rfl) (ownAt n.1 (up i10 h n.1)), o1 [(55, some 0)] rfl fun _ _ h n => ok_len rfl rfl Try.underlying81 (IsOwn.rd (n.1).2), cp 1 rfl rfl, trivial⟩ hQQ1115 fun b q p => ?_
     exact tail_done (k := q) (hp1116 _ _ ⟨Bs.post ⟨hg, hs, hd⟩ p, p.ke 0 rfl i0, p.ke 1 rfl i1, p.ke 2 rfl i2, p.ke 7 rfl i7, p.ke 10 rfl i10, (by rw [p.old 10 rfl]; exact n10), p.ke 11 rfl i11, p.ke 12 rfl i12, p.ou 2 13 rfl, trivial⟩)
    rintro a k ⟨⟨hg, hs, hd⟩, i0, i1, i2, i7, i10, n10, i11, i12, i13, _⟩
    refine wp_seq ?_
    obtain ⟨x1102_11, hx1102_11, hr⟩ := bind_some hr
    obtain ⟨x1102_5, hx1102_5, hx1102_11⟩ := ite_bind hx1102_11
    obtain ⟨x1102_6, hx1102_6, hx1102_11⟩ := ite_bind hx1102_11
    refine cut (fun a' k' => Bs noF k0 88 a' k' ∧ (IsV a_) (a'.get 0) k' ∧ (IsV b_) (a'.get 1) k' ∧ (IsFn2 Try.prog keep_) (a'.get 2) k' ∧ (IsV x1088_1) (a'.get 7) k' ∧ IsOwn 0 83 s1092.1 (a'.get 10) k' ∧ Lo k0 (obF (a'.get 10)) ∧ (IsV s1092.2) (a'.get 11) k' ∧ (IsV x1099_3) (a'.get 12) k' ∧ (IsI (s1092.1.length : Int)) (a'.get 13) k' ∧ (IsV x1102_11) (a'.get 68) k' ∧ True) ?_ hQ ?_
    ·intro Q1113 hQQ1113 hp1114
     refine gS 12 (_ :: _ :: _ :: ⟨some (Gd ((decide (0 < (s1092.1.length : Int))) = true) (OwnAt (a.get 10) 0 83 s1092.1)), [(10, none)]⟩ :: _ :: _ :: _ :: _ :: _ :: _ :: _ :: _ :: []) hs (by kernel_rfl) ⟨mu rfl i13, o1 [(57, some 0)] rfl fun _ _ h n => ok_gtr rfl n.1 (cI rfl), cm 1 rfl rfl, gdT rfl rfl fun hp _ _ h n => ok_moveOA (.inl rfl) (ownAt n.1 (up i10 h n.1)), mT rfl rfl i13, gT [(61, some 4)] rfl rfl fun hp _ _ h n => ok_sub rfl (Gd.get n.1 hp) (cI rfl) (hx1102_5 hp), gT [(60, some 3), (62, some 5)] rfl rfl fun hp _ _ h n => ok_indexAddr rfl Try.underlying81 ty83 (IsOwn.rd ((Gd.get n.1 hp)).2) (Gd.get n.2.1 hp) (hx1102_6 hp), gT [(63, some 6)] rfl rfl fun hp _ _ h n => ok_fieldAddr rfl fo83_1 (at_RegionSpan_1 _) (Gd.get n.1 hp), gT [(64, some 7)] rfl rfl fun hp _ _ h n => ok_load rfl ty3 (Gd.get n.1 hp), mT rfl rfl i12, gT [(65, some 8), (66, some 9)] rfl rfl fun hp _ _ h n => ok_eqI rfl (Gd.get n.1 hp) (Gd.get n.2.1 hp), o1 [(59, some 2), (67, some 10)] rfl fun _ _ h n => ok_pickM rfl n.1 hx1102_11 (Gd.get n.2.1) (cB rfl), trivial⟩ hQQ1113 fun b q p => ?_
     exact tail_done (k := q) (hp1114 _ _ ⟨Bs.post ⟨hg, hs, hd⟩ p, p.ke 0 rfl i0, p.ke 1 rfl i1, p.ke 2 rfl i2, p.ke 7 rfl i7, p.ke 10 rfl i10, (by rw [p.old 10 rfl]; exact n10), p.ke 11 rfl i11, p.ke 12 rfl i12, p.ke 13 rfl i13, p.ou 11 68 rfl, trivial⟩)
    rintro a k ⟨⟨hg, hs, hd⟩, i0, i1, i2, i7, i10, n10, i11, i12, i13, i68, _⟩
    obtain ⟨s1103, hs1103, hr⟩ := bind_some hr
    refine cut (fun a' k' => Bs noF k0 88 a' k' ∧ (IsV a_) (a'.get 0) k' ∧ (IsV b_) (a'.get 1) k' ∧ (IsFn2 Try.prog keep_) (a'.get 2) k' ∧ (IsV x1088_1) (a'.get 7) k' ∧ IsOwn 0 83 s1103 (a'.get 10) k' ∧ Lo k0 (obF (a'.get 10)) ∧ (IsV s1092.2) (a'.get 11) k' ∧ True) ?_ hQ ?_
    ·intro Q1112 hQQ1112 hp1104
     replace hr := hs1103
     clear hQ
     have hQ := hQQ1112
     refine wp_cond_split (isBool i68) (fun hc1111 => ?_) (fun hc1111 => ?_)
     ·rw [if_pos hc1111] at hr
      obtain ⟨x1105_2, hx1105_2, hr⟩ := bind_some hr
      obtain ⟨x1105_5, hx1105_5, hr⟩ := bind_some hr
      obtain ⟨x1105_7, hx1105_7, hr⟩ := bind_some hr
      obtain ⟨x1105_9, hx1105_9, hr⟩ := bind_some hr
      refine cut (fun a' k' => Bs noF k0 88 a' k' ∧ (IsV a_) (a'.get 0) k' ∧ (IsV b_) (a'.get 1) k' ∧ (IsFn2 Try.prog keep_) (a'.get 2) k' ∧ (IsV x1088_1) (a'.get 7) k' ∧ IsOwn 0 83 x1105_9 (a'.get 10) k' ∧ Lo k0 (obF (a'.get 10)) ∧ (IsV s1092.2) (a'.get 11) k' ∧ True) ?_ hQ ?_
      ·intro Q1106 hQQ1106 hp1107
       refine gS 9 (⟨some (OwnAt (a.get 10) 0 83 s1092.1), [(10, none)]⟩ :: _ :: _ :: _ :: _ :: _ :: _ :: ⟨some (IsAdrO (a.get 10) ((x1105_2).toNat * Enc.sz RegionSpan)), [(69, some 0), (71, some 2)]⟩ :: _ :: []) hs (by kernel_rfl) ⟨ob1 rfl fun _ _ h n => ok_moveOA (.inl rfl) (ownAt n.1 (up i10 h n.1)), mu rfl i13, o1 [(70, some 1)] rfl fun _ _ h n => ok_sub rfl n.1 (cI rfl) hx1105_2, mu rfl i7, mu rfl i11, o1 [(72, some 3), (73, some 4)] rfl fun _ _ h n => ok_indexAddr rfl Try.underlying57 ty3 (IsV.rd n.1) n.2.1 hx1105_5, o1 [(74, some 5)] rfl fun _ _ h n => ok_load rfl ty3 n.1, ob1 rfl fun _ _ h n => ok_indexO rfl Try.underlying81 ty83 n.1 n.2.1 hx1105_7, o1 [(76, some 7)] rfl fun _ _ h n => ok_fieldAdrO rfl fo83_1 n.1, trivial⟩ hQQ1106 fun b q p => ?_
       have hgq := hg.then p.grow
       have hsb := p.size.trans hs
       have hdb := p.defers.trans hd
       have j0 := p.ke 0 rfl i0
       have j1 := p.ke 1 rfl i1
       have j2 := p.ke 2 rfl i2
       have j7 := p.ke 7 rfl i7
       have j10 := p.ke 10 rfl i10
       have y10 : Lo k0 (obF (b.get 10)) := by rw [p.old 10 rfl]; exact n10
       have j11 := p.ke 11 rfl i11
       have j75 : (IsV x1105_5) (b.get 75) q := p.ou 6 75 rfl
       have j77 : IsAdrO (a.get 10) ((x1105_2).toNat * Enc.sz RegionSpan + 1) (b.get 77) q := p.ou 8 77 rfl
       have eo : b.get 10 = a.get 10 := p.old 10 rfl
       have hns := j10.nshF
       refine tail_storeS (i := 9) (u := b.get 10) (m := (x1105_2).toNat) (off := 0 + 1) rfl rfl rfl rfl szf3 upd_F83_1 (by rw [eo]; exact j77) j10 (getI_spec hx1105_7).2.1 j75 fun q2 hch hz => ?_
       replace hgq := hgq.step hch y10.wr
       have hle := hch.le hns
       replace j0 := Pers.pers hle j0
       replace j1 := Pers.pers hle j1
       replace j2 := Pers.pers hle j2
       replace j7 := Pers.pers hle j7
       replace j11 := Pers.pers hle j11
       replace j75 := Pers.pers hle j75
       replace j77 := Pers.pers hle j77
       replace j10 := hz
       rw [Option.some.inj hx1105_9] at j10
       clear hns hle hch eo hz
       obtain ⟨q, hqq⟩ : ∃ q, q = q2 := ⟨q2, rfl⟩
       subst hqq
       exact tail_done (k := q) (hp1107 _ _ ⟨⟨hgq, hsb, hdb⟩, j0, j1, j2, j7, j10, y10, j11, trivial⟩)
      rintro a k ⟨⟨hg, hs, hd⟩, i0, i1, i2, i7, i10, n10, i11, _⟩
      obtain rfl := Option.some.inj hr
      exact hp1104 _ _ ⟨⟨hg, hs, hd⟩, i0, i1, i2, i7, i10, n10, i11, trivial⟩
     rw [if_neg (by rw [hc1111]; decide)] at hr
     obtain ⟨x1108_4, hx1108_4, hr⟩ := bind_some hr
     obtain ⟨x1108_8, hx1108_8, hr⟩ := bind_some hr
     refine cut (fun a' k' => Bs noF k0 88 a' k' ∧ (IsV a_) (a'.get 0) k' ∧ (IsV b_) (a'.get 1) k' ∧ (IsFn2 Try.prog keep_) (a'.get 2) k' ∧ (IsV x1088_1) (a'.get 7) k' ∧ IsOwn 0 83 x1108_8 (a'.get 10) k' ∧ Lo k0 (obF (a'.get 10)) ∧ (IsV s1092.2) (a'.get 11) k' ∧ True) ?_ hQ ?_
     ·intro Q1109 hQQ1109 hp1110
      refine gS 8 (⟨some (OwnAt (a.get 10) 0 83 s1092.1), [(10, none)]⟩ :: _ :: _ :: _ :: _ :: _ :: ⟨some (IsV (⟨x1099_3, x1108_4⟩ : RegionSpan)), [(79, some 1), (83, some 5)]⟩ :: ⟨some (IsV (α := (List RegionSpan)) ([(⟨x1099_3, x1108_4⟩ : RegionSpan)])), [(84, some 6)]⟩ :: []) hs (by kernel_rfl) ⟨ob1 rfl fun _ _ h n => ok_moveOA (.inl rfl) (ownAt n.1 (up i10 h n.1)), mu rfl i12, mu rfl i7, mu rfl i11, o1 [(80, some 2), (81, some 3)] rfl fun _ _ h n => ok_indexAddr rfl Try.underlying57 ty3 (IsV.rd n.1) n.2.1 hx1108_4, o1 [(82, some 4)] rfl fun _ _ h n => ok_load rfl ty3 n.1, ob1 rfl fun _ _ h n => ok_build rfl (bld83_0_1 n.1 n.2.1), ob1 rfl fun _ _ h n => ok_buildSlice rfl Try.underlying81 eo83 rfl (by decide) (by decide) ⟨rfl, n.1, trivial⟩, trivial⟩ hQQ1109 fun b q p => ?_
      have hgq := hg.then p.grow
      have hsb := p.size.trans hs
      have hdb := p.defers.trans hd
      have j0 := p.ke 0 rfl i0
      have j1 := p.ke 1 rfl i1
      have j2 := p.ke 2 rfl i2
      have j7 := p.ke 7 rfl i7
      have j11 := p.ke 11 rfl i11
      have e78 : b.get 78 = a.get 10 := (p.ou 0 78 rfl).1
      have j78 : IsOwn 0 83 s1092.1 (b.get 78) q := (p.ou 0 78 rfl).2
      have y78 : Lo k0 (obF (b.get 78)) := by rw [e78]; exact n10
      have j85 : (IsV (α := (List RegionSpan)) ([(⟨x1099_3, x1108_4⟩ : RegionSpan)])) (b.get 85) q := p.ou 7 85 rfl
      have hns := j78.nshF
      refine tail_appendS (i := 8) (d := 86) rfl rfl rfl rfl (by rw [hsb]; decide) (e := 83) Try.underlying81 eo83 j78 (IsV.rd j85) hx1108_8 fun b2 q2 hsz hdf hoth hch hown hob => ?_
      have hle := hch.le hns
      have yn : Lo k0 (obF (b2.get 86)) := y78.app hgq hob
      replace j0 := Pers.pers hle j0
      replace j1 := Pers.pers hle j1
      replace j2 := Pers.pers hle j2
      replace j7 := Pers.pers hle j7
      replace j11 := Pers.pers hle j11
      replace j85 := Pers.pers hle j85
      replace hgq := hgq.step hch y78.wr
      rw [← hoth 0 (by decide)] at j0
      rw [← hoth 1 (by decide)] at j1
      rw [← hoth 2 (by decide)] at j2
      rw [← hoth 7 (by decide)] at j7
      rw [← hoth 11 (by decide)] at j11
      rw [← hoth 85 (by decide)] at j85
      have j86 := hown
      have y86 := yn
      replace hsb := hsz.trans hsb
      replace hdb := hdf.trans hdb
      clear hle hch hown hob hns yn hsz hdf hoth
      obtain ⟨b, hbb⟩ : ∃ b, b = b2 := ⟨b2, rfl⟩
      subst hbb
      obtain ⟨q, hqq⟩ : ∃ q, q = q2 := ⟨q2, rfl⟩
      subst hqq
      refine tail_assign (i := 9) (d := 10) rfl rfl (.inl rfl) rfl (by rw [hsb]; decide) fun b2 hsz hdf hnew hoth => ?_
      have jn : (IsOwn 0 83 x1108_8) (b2.get 10) q := by rw [hnew]; exact j86
      have yn : Lo k0 (obF (b2.get 10)) := by rw [hnew]; exact y86
      rw [← hoth 0 (by decide)] at j0
      rw [← hoth 1 (by decide)] at j1
      rw [← hoth 2 (by decide)] at j2
      rw [← hoth 7 (by decide)] at j7
      rw [← hoth 11 (by decide)] at j11
      rw [← hoth 85 (by decide)] at j85
      have j10 := jn
      have y10 := yn
      replace hsb := hsz.trans hsb
      replace hdb := hdf.trans hdb
      clear hsz hdf hoth
      obtain ⟨b, hbb⟩ : ∃ b, b = b2 := ⟨b2, rfl⟩
      subst hbb
      exact tail_done (k := q) (hp1110 _ _ ⟨⟨hgq, hsb, hdb⟩, j0, j1, j2, j7, j10, y10, j11, trivial⟩)
     rintro a k ⟨⟨hg, hs, hd⟩, i0, i1, i2, i7, i10, n10, i11, _⟩
     obtain rfl := Option.some.inj hr
     exact hp1104 _ _ ⟨⟨hg, hs, hd⟩, i0, i1, i2, i7, i10, n10, i11, trivial⟩
    clear hs1103
    rintro a k ⟨⟨hg, hs, hd⟩, i0, i1, i2, i7, i10, n10, i11, _⟩
    obtain rfl := Option.some.inj hr
    exact hp1098 _ _ ⟨⟨hg, hs, hd⟩, i0, i1, i2, i7, i10, n10, i11, trivial⟩
   clear hs1097
   rintro a k ⟨⟨hg, hs, hd⟩, i0, i1, i2, i7, i10, n10, i11, _⟩
   obtain ⟨x1122_1, hx1122_1, hr⟩ := bind_some hr
   refine cut (fun a' k' => Bs noF k0 88 a' k' ∧ (IsV a_) (a'.get 0) k' ∧ (IsV b_) (a'.get 1) k' ∧ (IsFn2 Try.prog keep_) (a'.get 2) k' ∧ (IsV x1088_1) (a'.get 7) k' ∧ IsOwn 0 83 s1097 (a'.get 10) k' ∧ Lo k0 (obF (a'.get 10)) ∧ (IsV x1122_1) (a'.get 11) k' ∧ True) ?_ hQ ?_
   ·intro Q1123 hQQ1123 hp1124
    refine gS 3 (_ :: _ :: _ :: []) hs (by kernel_rfl) ⟨mu rfl i11, o1 [(39, some 0)] rfl fun _ _ h n => ok_add rfl n.1 (cI rfl) hx1122_1, cp 1 rfl rfl, trivial⟩ hQQ1123 fun b q p => ?_
    exact tail_done (k := q) (hp1124 _ _ ⟨Bs.post ⟨hg, hs, hd⟩ p, p.ke 0 rfl i0, p.ke 1 rfl i1, p.ke 2 rfl i2, p.ke 7 rfl i7, p.ke 10 rfl i10, (by rw [p.old 10 rfl]; exact n10), p.ou 2 11 rfl, trivial⟩)
   rintro a k ⟨⟨hg, hs, hd⟩, i0, i1, i2, i7, i10, n10, i11, _⟩
   exact hgo1093 _ _ _ (Option.some.inj hr).symm ⟨⟨hg, hs, hd⟩, i0, i1, i2, i7, i10, n10, i11, trivial⟩
  rw [if_neg (by rw [hc1127]; decide)] at hr
  refine wp_exit ?_
  obtain ⟨kk, sh1126, ii10⟩ := i10.give
  replace i10 := ii10
  replace hg := hg.hand sh1126 n10.wr
  rw [← sh1126.w]
  clear sh1126
  obtain ⟨k, hkk⟩ : ∃ k, k = kk := ⟨kk, rfl⟩
  subst hkk
  exact hex1094 _ _ _ _ (Option.some.inj hr).symm ⟨rfl, ⟨hg, hs, hd⟩, i10, trivial⟩
 ·rintro r1135 a k rfl hR
  dsimp only at hr
  obtain rfl := Option.some.inj hr
  exact hR
 ·rintro _ _ _ rfl _
  simp at hr
 clear hf1130
 rintro _ s1131 a k rfl ⟨rfl, ⟨hg, hs, hd⟩, i10, _⟩
 dsimp only at hr
 refine stepL 2 (_ :: _ :: []) rfl ⟨hg, hs, hd⟩ (by kernel_rfl) ⟨mu rfl i10, cp 0 rfl rfl, trivial⟩ [⟨_, _⟩] (fun b q p => ⟨p.ou 1 6 rfl, trivial⟩) ?_
 rintro a k ⟨⟨hg, hs, hd⟩, i6, _⟩
 refine wp_ret ?_
 obtain rfl := Option.some.inj hr
 exact retC1 rfl hd hg i6
def region_combine_L0 (keep_ : (Bool → Bool → Option (Bool))) (x1158_2 : (List RegionStrip)) (x1158_5 : (List RegionStrip)) (x1159_3 : (List RegionStrip)) (s1161 : (List RegionStrip) × Int) : Option (Flow ((List RegionStrip) × Int) ((List Rect) × Int)) :=
 if (decide (s1161.2 < (x1159_3.length : Int))) then
  (getI s1161.1 s1161.2).bind fun x1166_1 =>
  (region_at x1158_2 x1166_1.x0).bind fun x1167_5 =>
  (region_at x1158_5 x1166_1.x0).bind fun x1167_9 =>
  (region_merge x1167_5 x1167_9 keep_).bind fun x1167_11 =>
  (getI s1161.1 s1161.2).bind fun x1167_12 =>
  (some (s1161.1.set (s1161.2).toNat ({ x1167_12 with column := x1167_11 }))).bind fun x1167_14 =>
  (addI s1161.2 1).bind fun x1168_0 =>
  some (.go (x1167_14, x1168_0))
 else
  some (.ex 0 (s1161.1, s1161.2))
def region_combine (a_ : (List Rect)) (b_ : (List Rect)) (keep_ : (Bool → Bool → Option (Bool))) : Option ((List Rect) × Int) :=
 (region_Right a_).bind fun x1154_1 =>
 (if (!x1154_1) then
  some true
 else
  (region_Right b_).bind fun x1154_5 =>
  some (!x1154_5)).bind fun x1154_7 =>
 if x1154_7 then
  some (([] : List Rect), 1)
 else
  (region_strips ([a_])).bind fun x1158_2 =>
  (region_strips ([b_])).bind fun x1158_5 =>
  (region_strips ([a_, b_])).bind fun x1159_3 =>
  (iterL (region_combine_L0 keep_ x1158_2 x1158_5 x1159_3) (x1159_3.length + 1) (x1159_3, 0)).bind fun f1179 => match f1179 with
   | .go _ => none
   | .ex _ s1180 =>
    (region_write s1180.1).bind fun x1181_1 =>
    (region_limited x1181_1).bind fun x1181_2 =>
    some (x1181_2.1, x1181_2.2)
   | .ret r1184 => some r1184
theorem region_combine_ok {k0 : K} {v0 v1 v2 : Value} {a_ : (List Rect)} {b_ : (List Rect)} {keep_ : (Bool → Bool → Option (Bool))} {r : (List Rect) × Int} (i0 : (IsV a_) v0 k0) (i1 : (IsV b_) v1 k0) (i2 : (IsFn2 Try.prog keep_) v2 k0) (hr : region_combine a_ b_ keep_ = some r) :
  Calls Try.prog 55 #[v0, v1, v2] k0.w (Ret k0 (IsTup2 (IsV r.1) (IsV r.2))) := by
 unfold region_combine at hr
 refine Ret.ofC ?_
 refine enterK Try.func55 rfl Try.ntmps55 (show 3 ≤ 58 by decide) fun a k hk0 hs hd ha => ?_
 obtain ⟨e0, e1, e2, _⟩ := ha
 replace i0 : (IsV a_) (a.get 0) k := by rw [e0, hk0]; exact i0
 replace i1 : (IsV b_) (a.get 1) k := by rw [e1, hk0]; exact i1
 replace i2 : (IsFn2 Try.prog keep_) (a.get 2) k := by rw [e2, hk0]; exact i2
 have hQ : Gb.LetsOut (bodyPost Try.prog Try.f55 (RetC noF k0 (IsTup2 (IsV r.1) (IsV r.2)))) := letsOutC
 have hg : Chg noF k0 k := by rw [hk0]; exact Chg.refl _ k0
 refine stepL 2 (⟨some IsE0, []⟩ :: ⟨some (IsI 0), []⟩ :: []) rfl ⟨hg, hs, hd⟩ (by kernel_rfl) ⟨ob1 rfl fun b q h n => ok_assign rfl isE0_nil, aI rfl rfl, trivial⟩ [⟨_, _⟩, ⟨_, _⟩, ⟨_, _⟩] (fun b q p => ⟨p.ke 0 rfl i0, p.ke 1 rfl i1, p.ke 2 rfl i2, trivial⟩) ?_
 rintro a k ⟨⟨hg, hs, hd⟩, i0, i1, i2, _⟩
 refine wp_seq ?_
 refine wp_seq ?_
 obtain ⟨x1154_1, hx1154_1, hr⟩ := bind_some hr
 obtain ⟨x1154_7, hx1154_7, hr⟩ := bind_some hr
 obtain ⟨x1154_5, hx1154_5, hx1154_7⟩ := ite_bindF hx1154_7
 refine cut (fun a' k' => Bs noF k0 58 a' k' ∧ (IsV a_) (a'.get 0) k' ∧ (IsV b_) (a'.get 1) k' ∧ (IsFn2 Try.prog keep_) (a'.get 2) k' ∧ (IsV x1154_7) (a'.get 20) k' ∧ True) ?_ hQ ?_
 ·intro Q1193 hQQ1193 hp1194
  refine gS 8 (_ :: _ :: _ :: _ :: _ :: _ :: _ :: _ :: []) hs (by kernel_rfl) ⟨mu rfl i0, o1 [(13, some 0)] rfl fun _ _ h n => ok_call rfl Try.call41 (region_Right_ok n.1 hx1154_1), o1 [(14, some 1)] rfl fun _ _ h n => ok_not rfl n.1, cm 2 rfl rfl, mF rfl rfl i1, gF [(17, some 4)] rfl rfl fun hp _ _ h n => ok_call rfl Try.call41 (region_Right_ok (Gd.get n.1 hp) (hx1154_5 hp)), gF [(18, some 5)] rfl rfl fun hp _ _ h n => ok_not rfl (Gd.get n.1 hp), o1 [(16, some 3), (19, some 6)] rfl fun _ _ h n => ok_pickM rfl n.1 hx1154_7 (cB rfl) (Gd.get n.2.1), trivial⟩ hQQ1193 fun b q p => ?_
  exact tail_done (k := q) (hp1194 _ _ ⟨Bs.post ⟨hg, hs, hd⟩ p, p.ke 0 rfl i0, p.ke 1 rfl i1, p.ke 2 rfl i2, p.ou 7 20 rfl, trivial⟩)
 rintro a k ⟨⟨hg, hs, hd⟩, i0, i1, i2, i20, _⟩
 refine wp_cond_split (isBool i20) (fun hc1192 => ?_) (fun hc1192 => ?_)
 ·rw [if_pos hc1192] at hr
  refine cutL noF k0 58 [⟨6, IsV ([] : List Rect)⟩, ⟨7, IsI 1⟩] ?_ ?_
  ·intro Q1156 hQQ1156 hp1157
   refine gS 2 (⟨some IsE0, []⟩ :: ⟨some (IsI 1), []⟩ :: []) hs (by kernel_rfl) ⟨ob1 rfl fun b q h n => ok_assign rfl isE0_nil, aI rfl rfl, trivial⟩ hQQ1156 fun b q p => ?_
   have hgq := hg.then p.grow
   have hsb := p.size.trans hs
   have hdb := p.defers.trans hd
   have j6 : IsE0 (b.get 6) q := p.ou 0 6 rfl
   have j7 : (IsI 1) (b.get 7) q := p.ou 1 7 rfl
   replace j6 : IsV ([] : List Rect) (b.get 6) q := j6.isV
   exact tail_done (k := q) (hp1157 _ _ ⟨⟨hgq, hsb, hdb⟩, j6, j7, trivial⟩)
  rintro a k ⟨⟨hg, hs, hd⟩, i6, i7, _⟩
  refine wp_ret ?_
  obtain rfl := Option.some.inj hr
  exact retC2 rfl hd hg i6 i7
 rw [if_neg (by rw [hc1192]; decide)] at hr
 refine wp_skip ?_
 refine wp_seq ?_
 obtain ⟨x1158_2, hx1158_2, hr⟩ := bind_some hr
 obtain ⟨x1158_5, hx1158_5, hr⟩ := bind_some hr
 refine cut (fun a' k' => Bs noF k0 58 a' k' ∧ (IsV a_) (a'.get 0) k' ∧ (IsV b_) (a'.get 1) k' ∧ (IsFn2 Try.prog keep_) (a'.get 2) k' ∧ (IsV x1158_2) (a'.get 8) k' ∧ (IsV x1158_5) (a'.get 9) k' ∧ True) ?_ hQ ?_
 ·intro Q1190 hQQ1190 hp1191
  refine gS 8 (_ :: ⟨some (IsV (α := (List (List Rect))) ([a_])), [(21, some 0)]⟩ :: _ :: _ :: ⟨some (IsV (α := (List (List Rect))) ([b_])), [(24, some 3)]⟩ :: _ :: _ :: _ :: []) hs (by kernel_rfl) ⟨mu rfl i0, ob1 rfl fun _ _ h n => ok_buildSlice rfl Try.underlying86 eo44 rfl (by decide) (by decide) ⟨rfl, n.1, trivial⟩, o1 [(22, some 1)] rfl fun _ _ h n => ok_call rfl Try.call46 (region_strips_ok n.1 hx1158_2), mu rfl i1, ob1 rfl fun _ _ h n => ok_buildSlice rfl Try.underlying86 eo44 rfl (by decide) (by decide) ⟨rfl, n.1, trivial⟩, o1 [(25, some 4)] rfl fun _ _ h n => ok_call rfl Try.call46 (region_strips_ok n.1 hx1158_5), cp 2 rfl rfl, cp 5 rfl rfl, trivial⟩ hQQ1190 fun b q p => ?_
  exact tail_done (k := q) (hp1191 _ _ ⟨Bs.post ⟨hg, hs, hd⟩ p, p.ke 0 rfl i0, p.ke 1 rfl i1, p.ke 2 rfl i2, p.ou 6 8 rfl, p.ou 7 9 rfl, trivial⟩)
 rintro a k ⟨⟨hg, hs, hd⟩, i0, i1, i2, i8, i9, _⟩
 refine wp_seq ?_
 obtain ⟨x1159_3, hx1159_3, hr⟩ := bind_some hr
 refine cut (fun a' k' => Bs noF k0 58 a' k' ∧ (IsFn2 Try.prog keep_) (a'.get 2) k' ∧ (IsV x1158_2) (a'.get 8) k' ∧ (IsV x1158_5) (a'.get 9) k' ∧ IsOwn 0 85 x1159_3 (a'.get 10) k' ∧ Lo k0 (obF (a'.get 10)) ∧ True) ?_ hQ ?_
 ·intro Q1188 hQQ1188 hp1189
  refine gS 5 (_ :: _ :: ⟨some (IsV (α := (List (List Rect))) ([a_, b_])), [(27, some 0), (28, some 1)]⟩ :: _ :: _ :: []) hs (by kernel_rfl) ⟨mu rfl i0, mu rfl i1, ob1 rfl fun _ _ h n => ok_buildSlice rfl Try.underlying86 eo44 rfl (by decide) (by decide) ⟨rfl, n.1, rfl, n.2.1, trivial⟩, o1 [(29, some 2)] rfl fun _ _ h n => ok_call rfl Try.call46 (ret_weaken h.size (region_strips_okO n.1 hx1159_3)), cp 3 rfl rfl, trivial⟩ hQQ1188 fun b q p => ?_
  have hgq := hg.then p.grow
  have hsb := p.size.trans hs
  have hdb := p.defers.trans hd
  have j2 := p.ke 2 rfl i2
  have j8 := p.ke 8 rfl i8
  have j9 := p.ke 9 rfl i9
  have j10 : (IsOwn k.w.heap.size 85 x1159_3) (b.get 10) q := p.ou 4 10 rfl
  have x10 : Lo k (obF (b.get 10)) := j10.loF
  have y10 := x10.chg hg
  replace j10 := j10.weaken (Nat.zero_le _)
  exact tail_done (k := q) (hp1189 _ _ ⟨⟨hgq, hsb, hdb⟩, j2, j8, j9, j10, y10, trivial⟩)
 rintro a k ⟨⟨hg, hs, hd⟩, i2, i8, i9, i10, n10, _⟩
 refine wp_seq ?_
 refine cutS (fun a' k' => Bs noF k0 58 a' k' ∧ (IsFn2 Try.prog keep_) (a'.get 2) k' ∧ (IsV x1158_2) (a'.get 8) k' ∧ (IsV x1158_5) (a'.get 9) k' ∧ IsOwn 0 85 x1159_3 (a'.get 10) k' ∧ Lo k0 (obF (a'.get 10)) ∧ a'.get 31 = a'.get 10 ∧ (IsL x1159_3) (a'.get 32) k' ∧ (IsI 0) (a'.get 33) k' ∧ True) ?_ ?_
 ·intro Q1186 hQQ1186 hp1187
  refine gS 3 (⟨some (OwnAt (a.get 10) 0 85 x1159_3), [(10, none)]⟩ :: _ :: ⟨some (IsI 0), []⟩ :: []) hs (by kernel_rfl) ⟨ob1 rfl fun _ _ h n => ok_moveOA (.inl rfl) (ownAt n.1 (up i10 h n.1)), o1 [(31, some 0)] rfl fun _ _ h n => ok_len rfl rfl Try.underlying69 (IsOwn.rd (n.1).2), ob1 rfl fun _ _ h n => ok_move rfl (cI rfl), trivial⟩ hQQ1186 fun b q p => ?_
  have hgq := hg.then p.grow
  have hsb := p.size.trans hs
  have hdb := p.defers.trans hd
  have j2 := p.ke 2 rfl i2
  have j8 := p.ke 8 rfl i8
  have j9 := p.ke 9 rfl i9
  have j10 := p.ke 10 rfl i10
  have y10 : Lo k0 (obF (b.get 10)) := by rw [p.old 10 rfl]; exact n10
  have j31 : b.get 31 = b.get 10 := (show b.get 31 = a.get 10 from (p.ou 0 31 rfl).1).trans (p.old 10 rfl).symm
  have j32 : (IsL x1159_3) (b.get 32) q := p.ou 1 32 rfl
  have j33 : (IsI 0) (b.get 33) q := p.ou 2 33 rfl
  exact tail_done (k := q) (hp1187 _ _ ⟨⟨hgq, hsb, hdb⟩, j2, j8, j9, j10, y10, j31, j32, j33, trivial⟩)
 rintro a k ⟨⟨hg, hs, hd⟩, i2, i8, i9, i10, n10, i31, i32, i33, _⟩
 refine wp_block ?_
 obtain ⟨f1179, hf1179, hr⟩ := bind_some hr
 refine cutFe f1179 (fun s' a' k' => Bs noF k0 58 a' k' ∧ (IsFn2 Try.prog keep_) (a'.get 2) k' ∧ (IsV x1158_2) (a'.get 8) k' ∧ (IsV x1158_5) (a'.get 9) k' ∧ IsOwn 0 85 s'.1 (a'.get 10) k' ∧ Lo k0 (obF (a'.get 10)) ∧ a'.get 31 = a'.get 10 ∧ (IsL x1159_3) (a'.get 32) k' ∧ (IsV s'.2) (a'.get 33) k' ∧ True) (fun i' s' a' k' => (i' = 0 ∧ Bs noF k0 58 a' k' ∧ (IsV s'.1) (a'.get 10) k' ∧ True)) (fun r' a' k' => bodyPost Try.prog Try.f55 (RetC noF k0 (IsTup2 (IsV r'.1) (IsV r'.2))) .ret a' k'.w) ?_ hQ ?_ ?_ ?_
 ·intro Q1185 hQQ1185 hgo hex hret
  refine sim_loop ?_ _ _ _ _ _ hf1179 ⟨⟨hg, hs, hd⟩, i2, i8, i9, i10, n10, i31, i32, i33, trivial⟩ Q1185 hQQ1185 hgo hex hret
  clear hr hf1179 hgo hex hret hQQ1185 hQ hg hs hd i10 i2 i31 i32 i33 i8 i9 n10
  intro s1161 fl_ a k hr hS Q hQ hgo1162 hex1163 hret1164
  obtain ⟨⟨hg, hs, hd⟩, i2, i8, i9, i10, n10, i31, i32, i33, _⟩ := hS
  unfold region_combine_L0 at hr
  refine cutS (fun a' k' => Bs noF k0 58 a' k' ∧ (IsFn2 Try.prog keep_) (a'.get 2) k' ∧ (IsV x1158_2) (a'.get 8) k' ∧ (IsV x1158_5) (a'.get 9) k' ∧ IsOwn 0 85 s1161.1 (a'.get 10) k' ∧ Lo k0 (obF (a'.get 10)) ∧ a'.get 31 = a'.get 10 ∧ (IsL x1159_3) (a'.get 32) k' ∧ (IsV s1161.2) (a'.get 33) k' ∧ (IsV (decide (s1161.2 < (x1159_3.length : Int)))) (a'.get 34) k' ∧ True) ?_ ?_
  ·intro Q1177 hQQ1177 hp1178
   refine gS 1 (_ :: []) hs (by kernel_rfl) ⟨o1 [(33, none), (32, none)] rfl fun _ _ h n => ok_lss rfl (up i33 h n.1) (up i32 h n.2.1), trivial⟩ hQQ1177 fun b q p => ?_
   exact tail_done (k := q) (hp1178 _ _ ⟨Bs.post ⟨hg, hs, hd⟩ p, p.ke 2 rfl i2, p.ke 8 rfl i8, p.ke 9 rfl i9, p.ke 10 rfl i10, (by rw [p.old 10 rfl]; exact n10), ((p.old 31 rfl).trans (i31.trans (p.old 10 rfl).symm)), p.ke 32 rfl i32, p.ke 33 rfl i33, p.ou 0 34 rfl, trivial⟩)
  rintro a k ⟨⟨hg, hs, hd⟩, i2, i8, i9, i10, n10, i31, i32, i33, i34, _⟩
  refine wp_seq ?_
  refine wp_cond_split (isBool i34) (fun hc1176 => ?_) (fun hc1176 => ?_)
  ·rw [if_pos hc1176] at hr
   refine wp_skip ?_
   refine wp_seq ?_
   refine wp_block ?_
   refine wp_seq ?_
   obtain ⟨x1166_1, hx1166_1, hr⟩ := bind_some hr
   refine cut (fun a' k' => Bs noF k0 58 a' k' ∧ (IsFn2 Try.prog keep_) (a'.get 2) k' ∧ (IsV x1158_2) (a'.get 8) k' ∧ (IsV x1158_5) (a'.get 9) k' ∧ IsOwn 0 85 s1161.1 (a'.get 10) k' ∧ Lo k0 (obF (a'.get 10)) ∧ (IsV s1161.2) (a'.get 11) k' ∧ (IsRef x1166_1) (a'.get 12) k' ∧ a'.get 31 = a'.get 10 ∧ (IsL x1159_3) (a'.get 32) k' ∧ (IsV s1161.2) (a'.get 33) k' ∧ True) ?_ hQ ?_
   ·intro Q1173 hQQ1173 hp1174
    refine gS 5 (_ :: _ :: _ :: ⟨some (IsBox k.w.heap.size (⟨0, 0, []⟩ : RegionStrip)), []⟩ :: _ :: []) hs (by kernel_rfl) ⟨mu rfl i33, o1 [(31, none), (33, none)] rfl fun _ _ h n => ok_indexAddr rfl Try.underlying69 ty85 (IsOwn.rd ((ownAt ((n.1).trans i31) (upT i10 h ((n.1).trans i31)))).2) (up i33 h n.2.1) hx1166_1, o1 [(36, some 1)] rfl fun _ _ h n => ok_load rfl ty85 n.1, ob1 rfl fun _ _ h n => ok_alloc _ h.size rfl z85, cp 0 rfl rfl, trivial⟩ hQQ1173 fun b q p => ?_
    have hgq := hg.then p.grow
    have hsb := p.size.trans hs
    have hdb := p.defers.trans hd
    have j2 := p.ke 2 rfl i2
    have j8 := p.ke 8 rfl i8
    have j9 := p.ke 9 rfl i9
    have j10 := p.ke 10 rfl i10
    have y10 : Lo k0 (obF (b.get 10)) := by rw [p.old 10 rfl]; exact n10
    have j11 : (IsV s1161.2) (b.get 11) q := p.ou 4 11 rfl
    obtain ⟨b12, j12, x12, z12⟩ : (IsBox k.w.heap.size (⟨0, 0, []⟩ : RegionStrip)) (b.get 12) q := p.ou 3 12 rfl
    replace x12 : Lo k (Eq b12) := Lo.eq x12
    have y12 : Lo k0 (Eq b12) := x12.chg hg
    have j31 : b.get 31 = b.get 10 := (p.old 31 rfl).trans (i31.trans (p.old 10 rfl).symm)
    have j32 := p.ke 32 rfl i32
    have j33 := p.ke 33 rfl i33
    have j37 : (IsV x1166_1) (b.get 37) q := p.ou 2 37 rfl
    have w10_12 : Apart (obF (b.get 10)) (Eq b12) := Apart.new (by rw [p.old 10 rfl]; exact i10.ltF) x12
    have hns := z12.nshF
    refine tail_storeB (i := 5) rfl rfl rfl rfl szf85 (Upd.self (α := RegionStrip)) j12 z12 j37 fun q2 hch hz => ?_
    replace hgq := hgq.step hch y12.wr
    have hle := hch.le hns
    replace j2 := Pers.pers hle j2
    replace j8 := Pers.pers hle j8
    replace j9 := Pers.pers hle j9
    replace j10 := j10.keep hch w10_12 hns
    replace j11 := Pers.pers hle j11
    replace j32 := Pers.pers hle j32
    replace j33 := Pers.pers hle j33
    replace j37 := Pers.pers hle j37
    replace z12 := hz
    clear hns hle hch
    obtain ⟨q, hqq⟩ : ∃ q, q = q2 := ⟨q2, rfl⟩
    subst hqq
    obtain ⟨q2, hsh, jn⟩ := z12.give
    replace j2 := Pers.pers hsh.le j2
    replace j8 := Pers.pers hsh.le j8
    replace j9 := Pers.pers hsh.le j9
    replace j10 := j10.handed hsh w10_12
    replace j11 := Pers.pers hsh.le j11
    replace j32 := Pers.pers hsh.le j32
    replace j33 := Pers.pers hsh.le j33
    rw [← j12] at jn
    replace j12 := jn
    replace hgq := hgq.hand hsh y12.wr
    rw [← hsh.w]
    clear hsh
    obtain ⟨q, hqq⟩ : ∃ q, q = q2 := ⟨q2, rfl⟩
    subst hqq
    exact tail_done (k := q) (hp1174 _ _ ⟨⟨hgq, hsb, hdb⟩, j2, j8, j9, j10, y10, j11, j12, j31, j32, j33, trivial⟩)
   rintro a k ⟨⟨hg, hs, hd⟩, i2, i8, i9, i10, n10, i11, i12, i31, i32, i33, _⟩
   obtain ⟨x1167_5, hx1167_5, hr⟩ := bind_some hr
   obtain ⟨x1167_9, hx1167_9, hr⟩ := bind_some hr
   obtain ⟨x1167_11, hx1167_11, hr⟩ := bind_some hr
   obtain ⟨x1167_12, hx1167_12, hr⟩ := bind_some hr
   obtain ⟨x1167_14, hx1167_14, hr⟩ := bind_some hr
   refine cut (fun a' k' => Bs noF k0 58 a' k' ∧ (IsFn2 Try.prog keep_) (a'.get 2) k' ∧ (IsV x1158_2) (a'.get 8) k' ∧ (IsV x1158_5) (a'.get 9) k' ∧ IsOwn 0 85 x1167_14 (a'.get 10) k' ∧ Lo k0 (obF (a'.get 10)) ∧ a'.get 31 = a'.get 10 ∧ (IsL x1159_3) (a'.get 32) k' ∧ (IsV s1161.2) (a'.get 33) k' ∧ True) ?_ hQ ?_
   ·intro Q1171 hQQ1171 hp1172
    refine region (a0 := a) (k0 := k) (n := 58) (m := 14) (⟨some (OwnAt (a.get 10) 0 85 s1161.1), [(10, none)]⟩ :: ⟨some (IsV s1161.2), [(11, none)]⟩ :: ⟨some (IsV x1158_2), [(8, none)]⟩ :: ⟨some (IsPtr x1166_1.x0), [(12, none)]⟩ :: ⟨some (IsV x1166_1.x0), [(41, some 3)]⟩ :: ⟨some (IsV x1167_5), [(40, some 2), (42, some 4)]⟩ :: ⟨some (IsV x1158_5), [(9, none)]⟩ :: ⟨some (IsPtr x1166_1.x0), [(12, none)]⟩ :: ⟨some (IsV x1166_1.x0), [(45, some 7)]⟩ :: ⟨some (IsV x1167_9), [(44, some 6), (46, some 8)]⟩ :: ⟨some (IsFn2 Try.prog keep_), [(2, none)]⟩ :: ⟨some (IsV x1167_11), [(43, some 5), (47, some 9), (48, some 10)]⟩ :: ⟨some (IsAdrO (a.get 10) ((s1161.2).toNat * Enc.sz RegionStrip)), [(38, some 0), (39, some 1)]⟩ :: ⟨some (IsAdrO (a.get 10) ((s1161.2).toNat * Enc.sz RegionStrip + 2)), [(50, some 12)]⟩ :: []) hmix hs (by kernel_rfl) ⟨ob1 rfl fun b q hk hn => ok_moveOA (.inl rfl) (ownAt hn.1 (up i10 hk hn.1)), ob1 rfl fun b q hk hn => ok_move rfl (up i11 hk hn.1), ob1 rfl fun b q hk hn => ok_move rfl (up i8 hk hn.1), ob1 rfl fun b q hk hn => ok_fieldAddr rfl fo85_0 (at_RegionStrip_0 _) ((up i12 hk hn.1)).ptr, ob1 rfl fun b q hk hn => ok_load rfl ty3 hn.1, ob1 rfl fun b q hk hn => ok_call rfl Try.call66 (region_at_ok hn.1 hn.2.1 hx1167_5), ob1 rfl fun b q hk hn => ok_move rfl (up i9 hk hn.1), ob1 rfl fun b q hk hn => ok_fieldAddr rfl fo85_0 (at_RegionStrip_0 _) ((up i12 hk hn.1)).ptr, ob1 rfl fun b q hk hn => ok_load rfl ty3 hn.1, ob1 rfl fun b q hk hn => ok_call rfl Try.call66 (region_at_ok hn.1 hn.2.1 hx1167_9), ob1 rfl fun b q hk hn => ok_move rfl (up i2 hk hn.1), ob1 rfl fun b q hk hn => ok_call rfl Try.call65 (region_merge_ok hn.1 hn.2.1 hn.2.2.1 hx1167_11), ob1 rfl fun b q hk hn => ok_indexO rfl Try.underlying69 ty85 hn.1 hn.2.1 hx1167_12, ob1 rfl fun b q hk hn => ok_fieldAdrO rfl fo85_2 hn.1, trivial⟩ hQQ1171 fun b q p => ?_
    have hgq := hg.then p.grow
    have hsb := p.size.trans hs
    have hdb := p.defers.trans hd
    have j2 := p.ke 2 rfl i2
    have j8 := p.ke 8 rfl i8
    have j9 := p.ke 9 rfl i9
    have j10 := p.ke 10 rfl i10
    have y10 : Lo k0 (obF (b.get 10)) := by rw [p.old 10 rfl]; exact n10
    have j31 : b.get 31 = b.get 10 := (p.old 31 rfl).trans (i31.trans (p.old 10 rfl).symm)
    have j32 := p.ke 32 rfl i32
    have j33 := p.ke 33 rfl i33
    have j49 : (IsV x1167_11) (b.get 49) q := p.ou 11 49 rfl
    have j51 : IsAdrO (a.get 10) ((s1161.2).toNat * Enc.sz RegionStrip + 2) (b.get 51) q := p.ou 13 51 rfl
    have eo : b.get 10 = a.get 10 := p.old 10 rfl
    have hns := j10.nshF
    refine tail_storeS (i := 14) (u := b.get 10) (m := (s1161.2).toNat) (off := 0 + 2) rfl rfl rfl rfl szf81 upd_F85_2 (by rw [eo]; exact j51) j10 (getI_spec hx1167_12).2.1 j49 fun q2 hch hz => ?_
    replace hgq := hgq.step hch y10.wr
    have hle := hch.le hns
    replace j2 := Pers.pers hle j2
    replace j8 := Pers.pers hle j8
    replace j9 := Pers.pers hle j9
    replace j32 := Pers.pers hle j32
    replace j33 := Pers.pers hle j33
    replace j49 := Pers.pers hle j49
    replace j51 := Pers.pers hle j51
    replace j10 := hz
    rw [Option.some.inj hx1167_14] at j10
    clear hns hle hch eo hz
    obtain ⟨q, hqq⟩ : ∃ q, q = q2 := ⟨q2, rfl⟩
    subst hqq
    exact tail_done (k := q) (hp1172 _ _ ⟨⟨hgq, hsb, hdb⟩, j2, j8, j9, j10, y10, j31, j32, j33, trivial⟩)
   rintro a k ⟨⟨hg, hs, hd⟩, i2, i8, i9, i10, n10, i31, i32, i33, _⟩
   obtain ⟨x1168_0, hx1168_0, hr⟩ := bind_some hr
   refine cut (fun a' k' => Bs noF k0 58 a' k' ∧ (IsFn2 Try.prog keep_) (a'.get 2) k' ∧ (IsV x1158_2) (a'.get 8) k' ∧ (IsV x1158_5) (a'.get 9) k' ∧ IsOwn 0 85 x1167_14 (a'.get 10) k' ∧ Lo k0 (obF (a'.get 10)) ∧ a'.get 31 = a'.get 10 ∧ (IsL x1159_3) (a'.get 32) k' ∧ (IsV x1168_0) (a'.get 33) k' ∧ True) ?_ hQ ?_
   ·intro Q1169 hQQ1169 hp1170
    refine gS 2 (_ :: _ :: []) hs (by kernel_rfl) ⟨o1 [(33, none)] rfl fun _ _ h n => ok_add rfl (up i33 h n.1) (cI rfl) hx1168_0, cm 0 rfl rfl, trivial⟩ hQQ1169 fun b q p => ?_
    exact tail_done (k := q) (hp1170 _ _ ⟨Bs.post ⟨hg, hs, hd⟩ p, p.ke 2 rfl i2, p.ke 8 rfl i8, p.ke 9 rfl i9, p.ke 10 rfl i10, (by rw [p.old 10 rfl]; exact n10), ((p.old 31 rfl).trans (i31.trans (p.old 10 rfl).symm)), p.ke 32 rfl i32, p.ou 1 33 rfl, trivial⟩)
   rintro a k ⟨⟨hg, hs, hd⟩, i2, i8, i9, i10, n10, i31, i32, i33, _⟩
   exact hgo1162 _ _ _ (Option.some.inj hr).symm ⟨⟨hg, hs, hd⟩, i2, i8, i9, i10, n10, i31, i32, i33, trivial⟩
  rw [if_neg (by rw [hc1176]; decide)] at hr
  refine wp_exit ?_
  obtain ⟨kk, sh1175, ii10⟩ := i10.give
  replace i10 := ii10
  replace hg := hg.hand sh1175 n10.wr
  rw [← sh1175.w]
  clear sh1175
  obtain ⟨k, hkk⟩ : ∃ k, k = kk := ⟨kk, rfl⟩
  subst hkk
  exact hex1163 _ _ _ _ (Option.some.inj hr).symm ⟨rfl, ⟨hg, hs, hd⟩, i10, trivial⟩
 ·rintro r1184 a k rfl hR
  dsimp only at hr
  obtain rfl := Option.some.inj hr
  exact hR
 ·rintro _ _ _ rfl _
  simp at hr
 clear hf1179
 rintro _ s1180 a k rfl ⟨rfl, ⟨hg, hs, hd⟩, i10, _⟩
 dsimp only at hr
 refine wp_seq ?_
 obtain ⟨x1181_1, hx1181_1, hr⟩ := bind_some hr
 obtain ⟨x1181_2, hx1181_2, hr⟩ := bind_some hr
 refine cut (fun a' k' => Bs noF k0 58 a' k' ∧ (IsV x1181_2.1) (a'.get 6) k' ∧ (IsV x1181_2.2) (a'.get 7) k' ∧ True) ?_ hQ ?_
 ·intro Q1182 hQQ1182 hp1183
  refine gS 7 (_ :: _ :: _ :: _ :: _ :: _ :: _ :: []) hs (by kernel_rfl) ⟨mu rfl i10, o1 [(53, some 0)] rfl fun _ _ h n => ok_call rfl Try.call45 (region_write_ok n.1 hx1181_1), o1 [(54, some 1)] rfl fun _ _ h n => ok_call rfl Try.call44 (region_limited_ok n.1 hx1181_2), o1 [(55, some 2)] rfl fun _ _ h n => ok_ext2_0 rfl n.1, o1 [(55, some 2)] rfl fun _ _ h n => ok_ext2_1 rfl n.1, cp 3 rfl rfl, cp 4 rfl rfl, trivial⟩ hQQ1182 fun b q p => ?_
  exact tail_done (k := q) (hp1183 _ _ ⟨Bs.post ⟨hg, hs, hd⟩ p, p.ou 5 6 rfl, p.ou 6 7 rfl, trivial⟩)
 rintro a k ⟨⟨hg, hs, hd⟩, i6, i7, _⟩
 refine wp_ret ?_
 obtain rfl := Option.some.inj hr
 exact retC2 rfl hd hg i6 i7
def region_Minus_1 (a_ : Bool) (b_ : Bool) : Option (Bool) :=
 some (a_ && (!b_))
theorem region_Minus_1_ok {k0 : K} {v0 v1 : Value} {a_ : Bool} {b_ : Bool} {r : Bool} (i0 : (IsV a_) v0 k0) (i1 : (IsV b_) v1 k0) (hr : region_Minus_1 a_ b_ = some r) :
  Calls Try.prog 58 #[v0, v1] k0.w (Ret k0 (IsV r)) := by
 unfold region_Minus_1 at hr
 refine Ret.ofC ?_
 refine enterK Try.func58 rfl Try.ntmps58 (show 2 ≤ 10 by decide) fun a k hk0 hs hd ha => ?_
 obtain ⟨e0, e1, _⟩ := ha
 replace i0 : (IsV a_) (a.get 0) k := by rw [e0, hk0]; exact i0
 replace i1 : (IsV b_) (a.get 1) k := by rw [e1, hk0]; exact i1
 have hQ : Gb.LetsOut (bodyPost Try.prog Try.f58 (RetC noF k0 (IsV r))) := letsOutC
 have hg : Chg noF k0 k := by rw [hk0]; exact Chg.refl _ k0
 refine stepL 1 (⟨some (IsV false), []⟩ :: []) rfl ⟨hg, hs, hd⟩ (by kernel_rfl) ⟨ob1 rfl fun _ _ h n => ok_assign rfl (isV_bool.2 rfl), trivial⟩ [⟨_, _⟩, ⟨_, _⟩] (fun b q p => ⟨p.ke 0 rfl i0, p.ke 1 rfl i1, trivial⟩) ?_
 rintro a k ⟨⟨hg, hs, hd⟩, i0, i1, _⟩
 refine stepL 6 (_ :: _ :: _ :: _ :: _ :: _ :: []) rfl ⟨hg, hs, hd⟩ (by kernel_rfl) ⟨mu rfl i0, cm 0 rfl rfl, mT rfl rfl i1, gT [(7, some 2)] rfl rfl fun hp _ _ h n => ok_not rfl (Gd.get n.1 hp), o1 [(6, some 1), (8, some 3)] rfl fun _ _ h n => ok_pickAnd rfl n.1 (Gd.get n.2.1) (cB rfl), cp 4 rfl rfl, trivial⟩ [⟨_, _⟩] (fun b q p => ⟨p.ou 5 4 rfl, trivial⟩) ?_
 rintro a k ⟨⟨hg, hs, hd⟩, i4, _⟩
 refine wp_ret ?_
 obtain rfl := Option.some.inj hr
 exact retC1 rfl hd hg i4
def region_Minus (a_ : (List Rect)) (b_ : (List Rect)) : Option ((List Rect) × Int) :=
 (region_combine a_ b_ region_Minus_1).bind fun x1204_2 =>
 some (x1204_2.1, x1204_2.2)
theorem region_Minus_ok {k0 : K} {v0 v1 : Value} {a_ : (List Rect)} {b_ : (List Rect)} {r : (List Rect) × Int} (i0 : (IsV a_) v0 k0) (i1 : (IsV b_) v1 k0) (hr : region_Minus a_ b_ = some r) :
  Calls Try.prog 40 #[v0, v1] k0.w (Ret k0 (IsTup2 (IsV r.1) (IsV r.2))) := by
 unfold region_Minus at hr
 refine Ret.ofC ?_
 refine enterK Try.func40 rfl Try.ntmps40 (show 2 ≤ 11 by decide) fun a k hk0 hs hd ha => ?_
 obtain ⟨e0, e1, _⟩ := ha
 replace i0 : (IsV a_) (a.get 0) k := by rw [e0, hk0]; exact i0
 replace i1 : (IsV b_) (a.get 1) k := by rw [e1, hk0]; exact i1
 have hQ : Gb.LetsOut (bodyPost Try.prog Try.f40 (RetC noF k0 (IsTup2 (IsV r.1) (IsV r.2)))) := letsOutC
 have hg : Chg noF k0 k := by rw [hk0]; exact Chg.refl _ k0
 refine stepL 2 (⟨some IsE0, []⟩ :: ⟨some (IsI 0), []⟩ :: []) rfl ⟨hg, hs, hd⟩ (by kernel_rfl) ⟨ob1 rfl fun b q h n => ok_assign rfl isE0_nil, aI rfl rfl, trivial⟩ [⟨_, _⟩, ⟨_, _⟩] (fun b q p => ⟨p.ke 0 rfl i0, p.ke 1 rfl i1, trivial⟩) ?_
 rintro a k ⟨⟨hg, hs, hd⟩, i0, i1, _⟩
 refine wp_seq ?_
 obtain ⟨x1204_2, hx1204_2, hr⟩ := bind_some hr
 refine cut (fun a' k' => Bs noF k0 11 a' k' ∧ (IsV x1204_2.1) (a'.get 4) k' ∧ (IsV x1204_2.2) (a'.get 5) k' ∧ True) ?_ hQ ?_
 ·intro Q1205 hQQ1205 hp1206
  refine gS 7 (_ :: _ :: _ :: _ :: _ :: _ :: _ :: []) hs (by kernel_rfl) ⟨mu rfl i0, mu rfl i1, o1 [(6, some 0), (7, some 1)] rfl fun _ _ h n => ok_call rfl Try.call55 (region_combine_ok n.1 n.2.1 ⟨58, _, _, rfl, Try.call58, fun k9 hk9 _ _ _ _ _ hx0 hx1 hy9 => by simpa [evalT] using region_Minus_1_ok hx0 hx1 hy9⟩ hx1204_2), o1 [(8, some 2)] rfl fun _ _ h n => ok_ext2_0 rfl n.1, o1 [(8, some 2)] rfl fun _ _ h n => ok_ext2_1 rfl n.1, cp 3 rfl rfl, cp 4 rfl rfl, trivial⟩ hQQ1205 fun b q p => ?_
  exact tail_done (k := q) (hp1206 _ _ ⟨Bs.post ⟨hg, hs, hd⟩ p, p.ou 5 4 rfl, p.ou 6 5 rfl, trivial⟩)
 rintro a k ⟨⟨hg, hs, hd⟩, i4, i5, _⟩
 refine wp_ret ?_
 obtain rfl := Option.some.inj hr
 exact retC2 rfl hd hg i4 i5
def solid_Minus (a_ : (List Slab)) (b_ : (List Slab)) : Option ((List Slab) × Int) :=
 (solid_combine a_ b_ region_Minus).bind fun x1210_2 =>
 some (x1210_2.1, x1210_2.2)
theorem solid_Minus_ok {k0 : K} {v0 v1 : Value} {a_ : (List Slab)} {b_ : (List Slab)} {r : (List Slab) × Int} (i0 : (IsV a_) v0 k0) (i1 : (IsV b_) v1 k0) (hr : solid_Minus a_ b_ = some r) :
  Calls Try.prog 16 #[v0, v1] k0.w (Ret k0 (IsTup2 (IsV r.1) (IsV r.2))) := by
 unfold solid_Minus at hr
 refine Ret.ofC ?_
 refine enterK Try.func16 rfl Try.ntmps16 (show 2 ≤ 11 by decide) fun a k hk0 hs hd ha => ?_
 obtain ⟨e0, e1, _⟩ := ha
 replace i0 : (IsV a_) (a.get 0) k := by rw [e0, hk0]; exact i0
 replace i1 : (IsV b_) (a.get 1) k := by rw [e1, hk0]; exact i1
 have hQ : Gb.LetsOut (bodyPost Try.prog Try.f16 (RetC noF k0 (IsTup2 (IsV r.1) (IsV r.2)))) := letsOutC
 have hg : Chg noF k0 k := by rw [hk0]; exact Chg.refl _ k0
 refine stepL 2 (⟨some IsE0, []⟩ :: ⟨some (IsI 0), []⟩ :: []) rfl ⟨hg, hs, hd⟩ (by kernel_rfl) ⟨ob1 rfl fun b q h n => ok_assign rfl isE0_nil, aI rfl rfl, trivial⟩ [⟨_, _⟩, ⟨_, _⟩] (fun b q p => ⟨p.ke 0 rfl i0, p.ke 1 rfl i1, trivial⟩) ?_
 rintro a k ⟨⟨hg, hs, hd⟩, i0, i1, _⟩
 refine wp_seq ?_
 obtain ⟨x1210_2, hx1210_2, hr⟩ := bind_some hr
 refine cut (fun a' k' => Bs noF k0 11 a' k' ∧ (IsV x1210_2.1) (a'.get 4) k' ∧ (IsV x1210_2.2) (a'.get 5) k' ∧ True) ?_ hQ ?_
 ·intro Q1211 hQQ1211 hp1212
  refine gS 7 (_ :: _ :: _ :: _ :: _ :: _ :: _ :: []) hs (by kernel_rfl) ⟨mu rfl i0, mu rfl i1, o1 [(6, some 0), (7, some 1)] rfl fun _ _ h n => ok_call rfl Try.call37 (solid_combine_ok n.1 n.2.1 ⟨40, _, _, rfl, Try.call40, fun k9 hk9 _ _ _ _ _ hx0 hx1 hy9 => by simpa [evalT] using region_Minus_ok hx0 hx1 hy9⟩ hx1210_2), o1 [(8, some 2)] rfl fun _ _ h n => ok_ext2_0 rfl n.1, o1 [(8, some 2)] rfl fun _ _ h n => ok_ext2_1 rfl n.1, cp 3 rfl rfl, cp 4 rfl rfl, trivial⟩ hQQ1211 fun b q p => ?_
  exact tail_done (k := q) (hp1212 _ _ ⟨Bs.post ⟨hg, hs, hd⟩ p, p.ou 5 4 rfl, p.ou 6 5 rfl, trivial⟩)
 rintro a k ⟨⟨hg, hs, hd⟩, i4, i5, _⟩
 refine wp_ret ?_
 obtain rfl := Option.some.inj hr
 exact retC2 rfl hd hg i4 i5
def law09_square (x0_ : Int) (y0_ : Int) (x1_ : Int) (y1_ : Int) : Option ((List Rect)) :=
 some ([(⟨x0_, y0_, x1_, y1_⟩ : Rect)])
theorem law09_square_ok {k0 : K} {v0 v1 v2 v3 : Value} {x0_ : Int} {y0_ : Int} {x1_ : Int} {y1_ : Int} {r : (List Rect)} (i0 : (IsV x0_) v0 k0) (i1 : (IsV y0_) v1 k0) (i2 : (IsV x1_) v2 k0) (i3 : (IsV y1_) v3 k0) (hr : law09_square x0_ y0_ x1_ y1_ = some r) :
  Calls Try.prog 21 #[v0, v1, v2, v3] k0.w (Ret k0 (IsV r)) := by
 unfold law09_square at hr
 refine Ret.ofC ?_
 refine enterK Try.func21 rfl Try.ntmps21 (show 4 ≤ 15 by decide) fun a k hk0 hs hd ha => ?_
 obtain ⟨e0, e1, e2, e3, _⟩ := ha
 replace i0 : (IsV x0_) (a.get 0) k := by rw [e0, hk0]; exact i0
 replace i1 : (IsV y0_) (a.get 1) k := by rw [e1, hk0]; exact i1
 replace i2 : (IsV x1_) (a.get 2) k := by rw [e2, hk0]; exact i2
 replace i3 : (IsV y1_) (a.get 3) k := by rw [e3, hk0]; exact i3
 have hQ : Gb.LetsOut (bodyPost Try.prog Try.f21 (RetC noF k0 (IsV r))) := letsOutC
 have hg : Chg noF k0 k := by rw [hk0]; exact Chg.refl _ k0
 refine stepL 1 (⟨some IsE0, []⟩ :: []) rfl ⟨hg, hs, hd⟩ (by kernel_rfl) ⟨ob1 rfl fun b q h n => ok_assign rfl isE0_nil, trivial⟩ [⟨_, _⟩, ⟨_, _⟩, ⟨_, _⟩, ⟨_, _⟩] (fun b q p => ⟨p.ke 0 rfl i0, p.ke 1 rfl i1, p.ke 2 rfl i2, p.ke 3 rfl i3, trivial⟩) ?_
 rintro a k ⟨⟨hg, hs, hd⟩, i0, i1, i2, i3, _⟩
 refine stepL 7 (_ :: _ :: _ :: _ :: ⟨some (IsV (⟨x0_, y0_, x1_, y1_⟩ : Rect)), [(9, some 0), (10, some 1), (11, some 2), (12, some 3)]⟩ :: ⟨some (IsV (α := (List Rect)) ([(⟨x0_, y0_, x1_, y1_⟩ : Rect)])), [(13, some 4)]⟩ :: _ :: []) rfl ⟨hg, hs, hd⟩ (by kernel_rfl) ⟨mu rfl i0, mu rfl i1, mu rfl i2, mu rfl i3, ob1 rfl fun _ _ h n => ok_build rfl (bld30_0_1_2_3 n.1 n.2.1 n.2.2.1 n.2.2.2.1), ob1 rfl fun _ _ h n => ok_buildSlice rfl Try.underlying44 eo30 rfl (by decide) (by decide) ⟨rfl, n.1, trivial⟩, cp 5 rfl rfl, trivial⟩ [⟨_, _⟩] (fun b q p => ⟨p.ou 6 8 rfl, trivial⟩) ?_
 rintro a k ⟨⟨hg, hs, hd⟩, i8, _⟩
 refine wp_ret ?_
 obtain rfl := Option.some.inj hr
 exact retC1 rfl hd hg i8
def ref06_Same_L0 (a_ : (List Rect)) (b_ : (List Rect)) (s1227 : Int) : Option (Flow (Int) (Bool)) :=
 if (decide (s1227 < (a_.length : Int))) then
  (getI a_ s1227).bind fun x1232_2 =>
  (getI b_ s1227).bind fun x1232_6 =>
  if (!decide (x1232_2 = x1232_6)) then
   some (.ret false)
  else
   (addI s1227 1).bind fun x1236_1 =>
   some (.go x1236_1)
 else
  some (.ex 0 s1227)
def ref06_Same (a_ : (List Rect)) (b_ : (List Rect)) : Option (Bool) :=
 if ((a_.length : Int) != (b_.length : Int)) then
  some false
 else
  (iterL (ref06_Same_L0 a_ b_) (a_.length + b_.length + 1) 0).bind fun f1245 => match f1245 with
   | .go _ => none
   | .ex _ _ =>
    some true
   | .ret r1250 => some r1250
theorem ref06_Same_ok {k0 : K} {v0 v1 : Value} {a_ : (List Rect)} {b_ : (List Rect)} {r : Bool} (i0 : (IsV a_) v0 k0) (i1 : (IsV b_) v1 k0) (hr : ref06_Same a_ b_ = some r) :
  Calls Try.prog 50 #[v0, v1] k0.w (Ret k0 (IsV r)) := by
 unfold ref06_Same at hr
 refine Ret.ofC ?_
 refine enterK Try.func50 rfl Try.ntmps50 (show 2 ≤ 26 by decide) fun a k hk0 hs hd ha => ?_
 obtain ⟨e0, e1, _⟩ := ha
 replace i0 : (IsV a_) (a.get 0) k := by rw [e0, hk0]; exact i0
 replace i1 : (IsV b_) (a.get 1) k := by rw [e1, hk0]; exact i1
 have hQ : Gb.LetsOut (bodyPost Try.prog Try.f50 (RetC noF k0 (IsV r))) := letsOutC
 have hg : Chg noF k0 k := by rw [hk0]; exact Chg.refl _ k0
 refine stepL 1 (⟨some (IsV false), []⟩ :: []) rfl ⟨hg, hs, hd⟩ (by kernel_rfl) ⟨ob1 rfl fun _ _ h n => ok_assign rfl (isV_bool.2 rfl), trivial⟩ [⟨_, _⟩, ⟨_, _⟩] (fun b q p => ⟨p.ke 0 rfl i0, p.ke 1 rfl i1, trivial⟩) ?_
 rintro a k ⟨⟨hg, hs, hd⟩, i0, i1, _⟩
 refine wp_seq ?_
 refine stepL 5 (_ :: _ :: _ :: _ :: ⟨some (IsV ((a_.length : Int) != (b_.length : Int))), [(7, some 1), (9, some 3)]⟩ :: []) rfl ⟨hg, hs, hd⟩ (by kernel_rfl) ⟨mu rfl i0, o1 [(6, some 0)] rfl fun _ _ h n => ok_len rfl rfl Try.underlying44 (IsV.rd n.1), mu rfl i1, o1 [(8, some 2)] rfl fun _ _ h n => ok_len rfl rfl Try.underlying44 (IsV.rd n.1), ob1 rfl fun _ _ h n => ok_neI rfl n.1 n.2.1, trivial⟩ [⟨_, _⟩, ⟨_, _⟩, ⟨_, _⟩] (fun b q p => ⟨p.ke 0 rfl i0, p.ke 1 rfl i1, p.ou 4 10 rfl, trivial⟩) ?_
 rintro a k ⟨⟨hg, hs, hd⟩, i0, i1, i10, _⟩
 refine wp_cond_split (isBool i10) (fun hc1254 => ?_) (fun hc1254 => ?_)
 ·rw [if_pos hc1254] at hr
  refine stepL 1 (⟨some (IsV false), []⟩ :: []) rfl ⟨hg, hs, hd⟩ (by kernel_rfl) ⟨ob1 rfl fun _ _ h n => ok_assign rfl (isV_bool.2 rfl), trivial⟩ [⟨_, _⟩] (fun b q p => ⟨p.ou 0 4 rfl, trivial⟩) ?_
  rintro a k ⟨⟨hg, hs, hd⟩, i4, _⟩
  refine wp_ret ?_
  obtain rfl := Option.some.inj hr
  exact retC1 rfl hd hg i4
 rw [if_neg (by rw [hc1254]; decide)] at hr
 refine wp_skip ?_
 refine wp_seq ?_
 refine stepL 1 (⟨some (IsI 0), []⟩ :: []) rfl ⟨hg, hs, hd⟩ (by kernel_rfl) ⟨aI rfl rfl, trivial⟩ [⟨_, _⟩, ⟨_, _⟩, ⟨_, _⟩] (fun b q p => ⟨p.ke 0 rfl i0, p.ke 1 rfl i1, p.ou 0 5 rfl, trivial⟩) ?_
 rintro a k ⟨⟨hg, hs, hd⟩, i0, i1, i5, _⟩
 refine wp_block ?_
 obtain ⟨f1245, hf1245, hr⟩ := bind_some hr
 refine cutFe f1245 (fun s' a' k' => Bs noF k0 26 a' k' ∧ (IsV a_) (a'.get 0) k' ∧ (IsV b_) (a'.get 1) k' ∧ (IsV s') (a'.get 5) k' ∧ True) (fun i' s' a' k' => (i' = 0 ∧ Bs noF k0 26 a' k' ∧ True)) (fun r' a' k' => bodyPost Try.prog Try.f50 (RetC noF k0 (IsV r')) .ret a' k'.w) ?_ hQ ?_ ?_ ?_
 ·intro Q1251 hQQ1251 hgo hex hret
  refine sim_loop ?_ _ _ _ _ _ hf1245 ⟨⟨hg, hs, hd⟩, i0, i1, i5, trivial⟩ Q1251 hQQ1251 hgo hex hret
  clear hr hf1245 hgo hex hret hQQ1251 hQ hg hs hd i0 i1 i5
  intro s1227 fl_ a k hr hS Q hQ hgo1228 hex1229 hret1230
  obtain ⟨⟨hg, hs, hd⟩, i0, i1, i5, _⟩ := hS
  unfold ref06_Same_L0 at hr
  refine wp_seq ?_
  refine stepL 4 (_ :: _ :: _ :: _ :: []) rfl ⟨hg, hs, hd⟩ (by kernel_rfl) ⟨mu rfl i5, mu rfl i0, o1 [(12, some 1)] rfl fun _ _ h n => ok_len rfl rfl Try.underlying44 (IsV.rd n.1), o1 [(11, some 0), (13, some 2)] rfl fun _ _ h n => ok_lss rfl n.1 n.2.1, trivial⟩ [⟨_, _⟩, ⟨_, _⟩, ⟨_, _⟩, ⟨_, _⟩] (fun b q p => ⟨p.ke 0 rfl i0, p.ke 1 rfl i1, p.ke 5 rfl i5, p.ou 3 14 rfl, trivial⟩) ?_
  rintro a k ⟨⟨hg, hs, hd⟩, i0, i1, i5, i14, _⟩
  refine wp_cond_split (isBool i14) (fun hc1242 => ?_) (fun hc1242 => ?_)
  ·rw [if_pos hc1242] at hr
   refine wp_skip ?_
   refine wp_seq ?_
   refine wp_block ?_
   refine wp_seq ?_
   obtain ⟨x1232_2, hx1232_2, hr⟩ := bind_some hr
   obtain ⟨x1232_6, hx1232_6, hr⟩ := bind_some hr
   refine cut (fun a' k' => Bs noF k0 26 a' k' ∧ (IsV a_) (a'.get 0) k' ∧ (IsV b_) (a'.get 1) k' ∧ (IsV s1227) (a'.get 5) k' ∧ (IsV (!decide (x1232_2 = x1232_6))) (a'.get 25) k' ∧ True) ?_ hQ ?_
   ·intro Q1240 hQQ1240 hp1241
    refine region (a0 := a) (k0 := k) (n := 26) (m := 9) (⟨some (IsV a_), [(0, none)]⟩ :: ⟨some (IsV s1227), [(5, none)]⟩ :: ⟨some (IsPtr x1232_2), [(17, some 0), (18, some 1)]⟩ :: ⟨some (IsV x1232_2), [(19, some 2)]⟩ :: ⟨some (IsV b_), [(1, none)]⟩ :: ⟨some (IsV s1227), [(5, none)]⟩ :: ⟨some (IsPtr x1232_6), [(21, some 4), (22, some 5)]⟩ :: ⟨some (IsV x1232_6), [(23, some 6)]⟩ :: ⟨some (IsV (!decide (x1232_2 = x1232_6))), [(20, some 3), (24, some 7)]⟩ :: []) hmix hs (by kernel_rfl) ⟨ob1 rfl fun b q hk hn => ok_move rfl (up i0 hk hn.1), ob1 rfl fun b q hk hn => ok_move rfl (up i5 hk hn.1), ob1 rfl fun b q hk hn => ok_indexAddr rfl Try.underlying44 ty30 (IsV.rd hn.1) hn.2.1 hx1232_2, ob1 rfl fun b q hk hn => ok_load rfl ty30 hn.1, ob1 rfl fun b q hk hn => ok_move rfl (up i1 hk hn.1), ob1 rfl fun b q hk hn => ok_move rfl (up i5 hk hn.1), ob1 rfl fun b q hk hn => ok_indexAddr rfl Try.underlying44 ty30 (IsV.rd hn.1) hn.2.1 hx1232_6, ob1 rfl fun b q hk hn => ok_load rfl ty30 hn.1, ob1 rfl fun b q hk hn => ok_neA rfl eq30 hn.1 hn.2.1, trivial⟩ hQQ1240 fun b q p => ?_
    exact tail_done (k := q) (hp1241 _ _ ⟨Bs.post ⟨hg, hs, hd⟩ p, p.ke 0 rfl i0, p.ke 1 rfl i1, p.ke 5 rfl i5, p.ou 8 25 rfl, trivial⟩)
   rintro a k ⟨⟨hg, hs, hd⟩, i0, i1, i5, i25, _⟩
   refine wp_cond_split (isBool i25) (fun hc1239 => ?_) (fun hc1239 => ?_)
   ·rw [if_pos hc1239] at hr
    refine stepL 1 (⟨some (IsV false), []⟩ :: []) rfl ⟨hg, hs, hd⟩ (by kernel_rfl) ⟨ob1 rfl fun _ _ h n => ok_assign rfl (isV_bool.2 rfl), trivial⟩ [⟨_, _⟩] (fun b q p => ⟨p.ou 0 4 rfl, trivial⟩) ?_
    rintro a k ⟨⟨hg, hs, hd⟩, i4, _⟩
    refine wp_ret ?_
    exact hret1230 _ _ _ (Option.some.inj hr).symm (retC1 rfl hd hg i4)
   rw [if_neg (by rw [hc1239]; decide)] at hr
   refine wp_skip ?_
   obtain ⟨x1236_1, hx1236_1, hr⟩ := bind_some hr
   refine cut (fun a' k' => Bs noF k0 26 a' k' ∧ (IsV a_) (a'.get 0) k' ∧ (IsV b_) (a'.get 1) k' ∧ (IsV x1236_1) (a'.get 5) k' ∧ True) ?_ hQ ?_
   ·intro Q1237 hQQ1237 hp1238
    refine gS 3 (_ :: _ :: _ :: []) hs (by kernel_rfl) ⟨mu rfl i5, o1 [(15, some 0)] rfl fun _ _ h n => ok_add rfl n.1 (cI rfl) hx1236_1, cp 1 rfl rfl, trivial⟩ hQQ1237 fun b q p => ?_
    exact tail_done (k := q) (hp1238 _ _ ⟨Bs.post ⟨hg, hs, hd⟩ p, p.ke 0 rfl i0, p.ke 1 rfl i1, p.ou 2 5 rfl, trivial⟩)
   rintro a k ⟨⟨hg, hs, hd⟩, i0, i1, i5, _⟩
   exact hgo1228 _ _ _ (Option.some.inj hr).symm ⟨⟨hg, hs, hd⟩, i0, i1, i5, trivial⟩
  rw [if_neg (by rw [hc1242]; decide)] at hr
  refine wp_exit ?_
  exact hex1229 _ _ _ _ (Option.some.inj hr).symm ⟨rfl, ⟨hg, hs, hd⟩, trivial⟩
 ·rintro r1250 a k rfl hR
  dsimp only at hr
  obtain rfl := Option.some.inj hr
  exact hR
 ·rintro _ _ _ rfl _
  simp at hr
 clear hf1245
 rintro _ s1246 a k rfl ⟨rfl, ⟨hg, hs, hd⟩, _⟩
 dsimp only at hr
 refine stepL 1 (⟨some (IsV true), []⟩ :: []) rfl ⟨hg, hs, hd⟩ (by kernel_rfl) ⟨ob1 rfl fun _ _ h n => ok_assign rfl (isV_bool.2 rfl), trivial⟩ [⟨_, _⟩] (fun b q p => ⟨p.ou 0 4 rfl, trivial⟩) ?_
 rintro a k ⟨⟨hg, hs, hd⟩, i4, _⟩
 refine wp_ret ?_
 obtain rfl := Option.some.inj hr
 exact retC1 rfl hd hg i4
def ref09_Same_L0 (a_ : (List Slab)) (b_ : (List Slab)) (s1265 : Int) : Option (Flow (Int) (Bool)) :=
 if (decide (s1265 < (a_.length : Int))) then
  (getI a_ s1265).bind fun x1270_2 =>
  (getI b_ s1265).bind fun x1270_7 =>
  (if (x1270_2.Z0 != x1270_7.Z0) then
   some true
  else
   (getI a_ s1265).bind fun x1270_14 =>
   (getI b_ s1265).bind fun x1270_19 =>
   some (x1270_14.Z1 != x1270_19.Z1)).bind fun x1270_23 =>
  (if x1270_23 then
   some true
  else
   (getI a_ s1265).bind fun x1270_27 =>
   (getI b_ s1265).bind fun x1270_32 =>
   (ref06_Same x1270_27.Area x1270_32.Area).bind fun x1270_35 =>
   some (!x1270_35)).bind fun x1270_37 =>
  if x1270_37 then
   some (.ret false)
  else
   (addI s1265 1).bind fun x1274_1 =>
   some (.go x1274_1)
 else
  some (.ex 0 s1265)
def ref09_Same (a_ : (List Slab)) (b_ : (List Slab)) : Option (Bool) :=
 if ((a_.length : Int) != (b_.length : Int)) then
  some false
 else
  (iterL (ref09_Same_L0 a_ b_) (a_.length + b_.length + 1) 0).bind fun f1283 => match f1283 with
   | .go _ => none
   | .ex _ _ =>
    some true
   | .ret r1288 => some r1288
theorem ref09_Same_ok {k0 : K} {v0 v1 : Value} {a_ : (List Slab)} {b_ : (List Slab)} {r : Bool} (i0 : (IsV a_) v0 k0) (i1 : (IsV b_) v1 k0) (hr : ref09_Same a_ b_ = some r) :
  Calls Try.prog 28 #[v0, v1] k0.w (Ret k0 (IsV r)) := by
 unfold ref09_Same at hr
 refine Ret.ofC ?_
 refine enterK Try.func28 rfl Try.ntmps28 (show 2 ≤ 55 by decide) fun a k hk0 hs hd ha => ?_
 obtain ⟨e0, e1, _⟩ := ha
 replace i0 : (IsV a_) (a.get 0) k := by rw [e0, hk0]; exact i0
 replace i1 : (IsV b_) (a.get 1) k := by rw [e1, hk0]; exact i1
 have hQ : Gb.LetsOut (bodyPost Try.prog Try.f28 (RetC noF k0 (IsV r))) := letsOutC
 have hg : Chg noF k0 k := by rw [hk0]; exact Chg.refl _ k0
 refine stepL 1 (⟨some (IsV false), []⟩ :: []) rfl ⟨hg, hs, hd⟩ (by kernel_rfl) ⟨ob1 rfl fun _ _ h n => ok_assign rfl (isV_bool.2 rfl), trivial⟩ [⟨_, _⟩, ⟨_, _⟩] (fun b q p => ⟨p.ke 0 rfl i0, p.ke 1 rfl i1, trivial⟩) ?_
 rintro a k ⟨⟨hg, hs, hd⟩, i0, i1, _⟩
 refine wp_seq ?_
 refine stepL 5 (_ :: _ :: _ :: _ :: ⟨some (IsV ((a_.length : Int) != (b_.length : Int))), [(7, some 1), (9, some 3)]⟩ :: []) rfl ⟨hg, hs, hd⟩ (by kernel_rfl) ⟨mu rfl i0, o1 [(6, some 0)] rfl fun _ _ h n => ok_len rfl rfl Try.underlying24 (IsV.rd n.1), mu rfl i1, o1 [(8, some 2)] rfl fun _ _ h n => ok_len rfl rfl Try.underlying24 (IsV.rd n.1), ob1 rfl fun _ _ h n => ok_neI rfl n.1 n.2.1, trivial⟩ [⟨_, _⟩, ⟨_, _⟩, ⟨_, _⟩] (fun b q p => ⟨p.ke 0 rfl i0, p.ke 1 rfl i1, p.ou 4 10 rfl, trivial⟩) ?_
 rintro a k ⟨⟨hg, hs, hd⟩, i0, i1, i10, _⟩
 refine wp_cond_split (isBool i10) (fun hc1292 => ?_) (fun hc1292 => ?_)
 ·rw [if_pos hc1292] at hr
  refine stepL 1 (⟨some (IsV false), []⟩ :: []) rfl ⟨hg, hs, hd⟩ (by kernel_rfl) ⟨ob1 rfl fun _ _ h n => ok_assign rfl (isV_bool.2 rfl), trivial⟩ [⟨_, _⟩] (fun b q p => ⟨p.ou 0 4 rfl, trivial⟩) ?_
  rintro a k ⟨⟨hg, hs, hd⟩, i4, _⟩
  refine wp_ret ?_
  obtain rfl := Option.some.inj hr
  exact retC1 rfl hd hg i4
 rw [if_neg (by rw [hc1292]; decide)] at hr
 refine wp_skip ?_
 refine wp_seq ?_
 refine stepL 1 (⟨some (IsI 0), []⟩ :: []) rfl ⟨hg, hs, hd⟩ (by kernel_rfl) ⟨aI rfl rfl, trivial⟩ [⟨_, _⟩, ⟨_, _⟩, ⟨_, _⟩] (fun b q p => ⟨p.ke 0 rfl i0, p.ke 1 rfl i1, p.ou 0 5 rfl, trivial⟩) ?_
 rintro a k ⟨⟨hg, hs, hd⟩, i0, i1, i5, _⟩
 refine wp_block ?_
 obtain ⟨f1283, hf1283, hr⟩ := bind_some hr
 refine cutFe f1283 (fun s' a' k' => Bs noF k0 55 a' k' ∧ (IsV a_) (a'.get 0) k' ∧ (IsV b_) (a'.get 1) k' ∧ (IsV s') (a'.get 5) k' ∧ True) (fun i' s' a' k' => (i' = 0 ∧ Bs noF k0 55 a' k' ∧ True)) (fun r' a' k' => bodyPost Try.prog Try.f28 (RetC noF k0 (IsV r')) .ret a' k'.w) ?_ hQ ?_ ?_ ?_
 ·intro Q1289 hQQ1289 hgo hex hret
  refine sim_loop ?_ _ _ _ _ _ hf1283 ⟨⟨hg, hs, hd⟩, i0, i1, i5, trivial⟩ Q1289 hQQ1289 hgo hex hret
  clear hr hf1283 hgo hex hret hQQ1289 hQ hg hs hd i0 i1 i5
  intro s1265 fl_ a k hr hS Q hQ hgo1266 hex1267 hret1268
  obtain ⟨⟨hg, hs, hd⟩, i0, i1, i5, _⟩ := hS
  unfold ref09_Same_L0 at hr
  refine wp_seq ?_
  refine stepL 4 (_ :: _ :: _ :: _ :: []) rfl ⟨hg, hs, hd⟩ (by kernel_rfl) ⟨mu rfl i5, mu rfl i0, o1 [(12, some 1)] rfl fun _ _ h n => ok_len rfl rfl Try.underlying24 (IsV.rd n.1), o1 [(11, some 0), (13, some 2)] rfl fun _ _ h n => ok_lss rfl n.1 n.2.1, trivial⟩ [⟨_, _⟩, ⟨_, _⟩, ⟨_, _⟩, ⟨_, _⟩] (fun b q p => ⟨p.ke 0 rfl i0, p.ke 1 rfl i1, p.ke 5 rfl i5, p.ou 3 14 rfl, trivial⟩) ?_
  rintro a k ⟨⟨hg, hs, hd⟩, i0, i1, i5, i14, _⟩
  refine wp_cond_split (isBool i14) (fun hc1280 => ?_) (fun hc1280 => ?_)
  ·rw [if_pos hc1280] at hr
   refine wp_skip ?_
   refine wp_seq ?_
   refine wp_block ?_
   refine wp_seq ?_
   obtain ⟨x1270_2, hx1270_2, hr⟩ := bind_some hr
   obtain ⟨x1270_7, hx1270_7, hr⟩ := bind_some hr
   obtain ⟨x1270_23, hx1270_23, hr⟩ := bind_some hr
   obtain ⟨x1270_14, hx1270_14, hx1270_23⟩ := ite_bindF hx1270_23
   obtain ⟨x1270_19, hx1270_19, hx1270_23⟩ := ite_bindF hx1270_23
   obtain ⟨x1270_37, hx1270_37, hr⟩ := bind_some hr
   obtain ⟨x1270_27, hx1270_27, hx1270_37⟩ := ite_bindF hx1270_37
   obtain ⟨x1270_32, hx1270_32, hx1270_37⟩ := ite_bindF hx1270_37
   obtain ⟨x1270_35, hx1270_35, hx1270_37⟩ := ite_bindF hx1270_37
   refine cut (fun a' k' => Bs noF k0 55 a' k' ∧ (IsV a_) (a'.get 0) k' ∧ (IsV b_) (a'.get 1) k' ∧ (IsV s1265) (a'.get 5) k' ∧ (IsV x1270_37) (a'.get 54) k' ∧ True) ?_ hQ ?_
   ·intro Q1278 hQQ1278 hp1279
    refine region (a0 := a) (k0 := k) (n := 55) (m := 38) (⟨some (IsV a_), [(0, none)]⟩ :: ⟨some (IsV s1265), [(5, none)]⟩ :: ⟨some (IsPtr x1270_2), [(17, some 0), (18, some 1)]⟩ :: ⟨some (IsPtr x1270_2.Z0), [(19, some 2)]⟩ :: ⟨some (IsV x1270_2.Z0), [(20, some 3)]⟩ :: ⟨some (IsV b_), [(1, none)]⟩ :: ⟨some (IsV s1265), [(5, none)]⟩ :: ⟨some (IsPtr x1270_7), [(22, some 5), (23, some 6)]⟩ :: ⟨some (IsPtr x1270_7.Z0), [(24, some 7)]⟩ :: ⟨some (IsV x1270_7.Z0), [(25, some 8)]⟩ :: ⟨some (IsV (x1270_2.Z0 != x1270_7.Z0)), [(21, some 4), (26, some 9)]⟩ :: ⟨some (IsV (x1270_2.Z0 != x1270_7.Z0)), [(27, some 10)]⟩ :: ⟨some (Gd ((x1270_2.Z0 != x1270_7.Z0) = false) (IsV a_)), [(0, none)]⟩ :: ⟨some (Gd ((x1270_2.Z0 != x1270_7.Z0) = false) (IsV s1265)), [(5, none)]⟩ :: ⟨some (Gd ((x1270_2.Z0 != x1270_7.Z0) = false) (IsPtr x1270_14)), [(29, some 12), (30, some 13)]⟩ :: ⟨some (Gd ((x1270_2.Z0 != x1270_7.Z0) = false) (IsPtr x1270_14.Z1)), [(31, some 14)]⟩ :: ⟨some (Gd ((x1270_2.Z0 != x1270_7.Z0) = false) (IsV x1270_14.Z1)), [(32, some 15)]⟩ :: ⟨some (Gd ((x1270_2.Z0 != x1270_7.Z0) = false) (IsV b_)), [(1, none)]⟩ :: ⟨some (Gd ((x1270_2.Z0 != x1270_7.Z0) = false) (IsV s1265)), [(5, none)]⟩ :: ⟨some (Gd ((x1270_2.Z0 != x1270_7.Z0) = false) (IsPtr x1270_19)), [(34, some 17), (35, some 18)]⟩ :: ⟨some (Gd ((x1270_2.Z0 != x1270_7.Z0) = false) (IsPtr x1270_19.Z1)), [(36, some 19)]⟩ :: ⟨some (Gd ((x1270_2.Z0 != x1270_7.Z0) = false) (IsV x1270_19.Z1)), [(37, some 20)]⟩ :: ⟨some (Gd ((x1270_2.Z0 != x1270_7.Z0) = false) (IsV (x1270_14.Z1 != x1270_19.Z1))), [(33, some 16), (38, some 21)]⟩ :: ⟨some (IsV x1270_23), [(28, some 11), (39, some 22)]⟩ :: ⟨some (IsV x1270_23), [(40, some 23)]⟩ :: ⟨some (Gd (x1270_23 = false) (IsV a_)), [(0, none)]⟩ :: ⟨some (Gd (x1270_23 = false) (IsV s1265)), [(5, none)]⟩ :: ⟨some (Gd (x1270_23 = false) (IsPtr x1270_27)), [(42, some 25), (43, some 26)]⟩ :: ⟨some (Gd (x1270_23 = false) (IsPtr x1270_27.Area)), [(44, some 27)]⟩ :: ⟨some (Gd (x1270_23 = false) (IsV x1270_27.Area)), [(45, some 28)]⟩ :: ⟨some (Gd (x1270_23 = false) (IsV b_)), [(1, none)]⟩ :: ⟨some (Gd (x1270_23 = false) (IsV s1265)), [(5, none)]⟩ :: ⟨some (Gd (x1270_23 = false) (IsPtr x1270_32)), [(47, some 30), (48, some 31)]⟩ :: ⟨some (Gd (x1270_23 = false) (IsPtr x1270_32.Area)), [(49, some 32)]⟩ :: ⟨some (Gd (x1270_23 = false) (IsV x1270_32.Area)), [(50, some 33)]⟩ :: ⟨some (Gd (x1270_23 = false) (IsV x1270_35)), [(46, some 29), (51, some 34)]⟩ :: ⟨some (Gd (x1270_23 = false) (IsV (!x1270_35))), [(52, some 35)]⟩ :: ⟨some (IsV x1270_37), [(41, some 24), (53, some 36)]⟩ :: []) hmix hs (by kernel_rfl) ⟨ob1 rfl fun b q hk hn => ok_move rfl (up i0 hk hn.1), ob1 rfl fun b q hk hn => ok_move rfl (up i5 hk hn.1), ob1 rfl fun b q hk hn => ok_indexAddr rfl Try.underlying24 ty47 (IsV.rd hn.1) hn.2.1 hx1270_2, ob1 rfl fun b q hk hn => ok_fieldAddr rfl fo47_0 (at_Slab_0 _) hn.1, ob1 rfl fun b q hk hn => ok_load rfl ty3 hn.1, ob1 rfl fun b q hk hn => ok_move rfl (up i1 hk hn.1), ob1 rfl fun b q hk hn => ok_move rfl (up i5 hk hn.1), ob1 rfl fun b q hk hn => ok_indexAddr rfl Try.underlying24 ty47 (IsV.rd hn.1) hn.2.1 hx1270_7, ob1 rfl fun b q hk hn => ok_fieldAddr rfl fo47_0 (at_Slab_0 _) hn.1, ob1 rfl fun b q hk hn => ok_load rfl ty3 hn.1, ob1 rfl fun b q hk hn => ok_neI rfl hn.1 hn.2.1, ob1 rfl fun b q hk hn => ok_move rfl hn.1, gdF rfl rfl fun hp b q hk hn => ok_move rfl (up i0 hk hn.1), gdF rfl rfl fun hp b q hk hn => ok_move rfl (up i5 hk hn.1), gdF rfl rfl fun hp b q hk hn => ok_indexAddr rfl Try.underlying24 ty47 (IsV.rd (Gd.get hn.1 hp)) (Gd.get hn.2.1 hp) (hx1270_14 hp), gdF rfl rfl fun hp b q hk hn => ok_fieldAddr rfl fo47_1 (at_Slab_1 _) (Gd.get hn.1 hp), gdF rfl rfl fun hp b q hk hn => ok_load rfl ty3 (Gd.get hn.1 hp), gdF rfl rfl fun hp b q hk hn => ok_move rfl (up i1 hk hn.1), gdF rfl rfl fun hp b q hk hn => ok_move rfl (up i5 hk hn.1), gdF rfl rfl fun hp b q hk hn => ok_indexAddr rfl Try.underlying24 ty47 (IsV.rd (Gd.get hn.1 hp)) (Gd.get hn.2.1 hp) (hx1270_19 hp), gdF rfl rfl fun hp b q hk hn => ok_fieldAddr rfl fo47_1 (at_Slab_1 _) (Gd.get hn.1 hp), gdF rfl rfl fun hp b q hk hn => ok_load rfl ty3 (Gd.get hn.1 hp), gdF rfl rfl fun hp b q hk hn => ok_neI rfl (Gd.get hn.1 hp) (Gd.get hn.2.1 hp), ob1 rfl fun b q hk hn => ok_pickM rfl hn.1 hx1270_23 (fun _ => (isV_bool.2 rfl)) (fun hm => (Gd.get hn.2.1 hm)), ob1 rfl fun b q hk hn => ok_move rfl hn.1, gdF rfl rfl fun hp b q hk hn => ok_move rfl (up i0 hk hn.1), gdF rfl rfl fun hp b q hk hn => ok_move rfl (up i5 hk hn.1), gdF rfl rfl fun hp b q hk hn => ok_indexAddr rfl Try.underlying24 ty47 (IsV.rd (Gd.get hn.1 hp)) (Gd.get hn.2.1 hp) (hx1270_27 hp), gdF rfl rfl fun hp b q hk hn => ok_fieldAddr rfl fo47_2 (at_Slab_2 _) (Gd.get hn.1 hp), gdF rfl rfl fun hp b q hk hn => ok_load rfl ty44 (Gd.get hn.1 hp), gdF rfl rfl fun hp b q hk hn => ok_move rfl (up i1 hk hn.1), gdF rfl rfl fun hp b q hk hn => ok_move rfl (up i5 hk hn.1), gdF rfl rfl fun hp b q hk hn => ok_indexAddr rfl Try.underlying24 ty47 (IsV.rd (Gd.get hn.1 hp)) (Gd.get hn.2.1 hp) (hx1270_32 hp), gdF rfl rfl fun hp b q hk hn => ok_fieldAddr rfl fo47_2 (at_Slab_2 _) (Gd.get hn.1 hp), gdF rfl rfl fun hp b q hk hn => ok_load rfl ty44 (Gd.get hn.1 hp), gdF rfl rfl fun hp b q hk hn => ok_call rfl Try.call50 (ref06_Same_ok (Gd.get hn.1 hp) (Gd.get hn.2.1 hp) (hx1270_35 hp)), gdF rfl rfl fun hp b q hk hn => ok_not rfl (Gd.get hn.1 hp), ob1 rfl fun b q hk hn => ok_pickM rfl hn.1 hx1270_37 (fun _ => (isV_bool.2 rfl)) (fun hm => (Gd.get hn.2.1 hm)), trivial⟩ hQQ1278 fun b q p => ?_
    exact tail_done (k := q) (hp1279 _ _ ⟨Bs.post ⟨hg, hs, hd⟩ p, p.ke 0 rfl i0, p.ke 1 rfl i1, p.ke 5 rfl i5, p.ou 37 54 rfl, trivial⟩)
   rintro a k ⟨⟨hg, hs, hd⟩, i0, i1, i5, i54, _⟩
   refine wp_cond_split (isBool i54) (fun hc1277 => ?_) (fun hc1277 => ?_)
   ·rw [if_pos hc1277] at hr
    refine stepL 1 (⟨some (IsV false), []⟩ :: []) rfl ⟨hg, hs, hd⟩ (by kernel_rfl) ⟨ob1 rfl fun _ _ h n => ok_assign rfl (isV_bool.2 rfl), trivial⟩ [⟨_, _⟩] (fun b q p => ⟨p.ou 0 4 rfl, trivial⟩) ?_
    rintro a k ⟨⟨hg, hs, hd⟩, i4, _⟩
    refine wp_ret ?_
    exact hret1268 _ _ _ (Option.some.inj hr).symm (retC1 rfl hd hg i4)
   rw [if_neg (by rw [hc1277]; decide)] at hr
   refine wp_skip ?_
   obtain ⟨x1274_1, hx1274_1, hr⟩ := bind_some hr
   refine cut (fun a' k' => Bs noF k0 55 a' k' ∧ (IsV a_) (a'.get 0) k' ∧ (IsV b_) (a'.get 1) k' ∧ (IsV x1274_1) (a'.get 5) k' ∧ True) ?_ hQ ?_
   ·intro Q1275 hQQ1275 hp1276
    refine gS 3 (_ :: _ :: _ :: []) hs (by kernel_rfl) ⟨mu rfl i5, o1 [(15, some 0)] rfl fun _ _ h n => ok_add rfl n.1 (cI rfl) hx1274_1, cp 1 rfl rfl, trivial⟩ hQQ1275 fun b q p => ?_
    exact tail_done (k := q) (hp1276 _ _ ⟨Bs.post ⟨hg, hs, hd⟩ p, p.ke 0 rfl i0, p.ke 1 rfl i1, p.ou 2 5 rfl, trivial⟩)
   rintro a k ⟨⟨hg, hs, hd⟩, i0, i1, i5, _⟩
   exact hgo1266 _ _ _ (Option.some.inj hr).symm ⟨⟨hg, hs, hd⟩, i0, i1, i5, trivial⟩
  rw [if_neg (by rw [hc1280]; decide)] at hr
  refine wp_exit ?_
  exact hex1267 _ _ _ _ (Option.some.inj hr).symm ⟨rfl, ⟨hg, hs, hd⟩, trivial⟩
 ·rintro r1288 a k rfl hR
  dsimp only at hr
  obtain rfl := Option.some.inj hr
  exact hR
 ·rintro _ _ _ rfl _
  simp at hr
 clear hf1283
 rintro _ s1284 a k rfl ⟨rfl, ⟨hg, hs, hd⟩, _⟩
 dsimp only at hr
 refine stepL 1 (⟨some (IsV true), []⟩ :: []) rfl ⟨hg, hs, hd⟩ (by kernel_rfl) ⟨ob1 rfl fun _ _ h n => ok_assign rfl (isV_bool.2 rfl), trivial⟩ [⟨_, _⟩] (fun b q p => ⟨p.ou 0 4 rfl, trivial⟩) ?_
 rintro a k ⟨⟨hg, hs, hd⟩, i4, _⟩
 refine wp_ret ?_
 obtain rfl := Option.some.inj hr
 exact retC1 rfl hd hg i4
def slices_EqualFunc_Slab_Slab_Slab_L0 (s1_ : (List Slab)) (s2_ : (List Slab)) (eq_ : (Slab → Slab → Option (Bool))) (s1303 : Int) : Option (Flow (Int) (Bool)) :=
 if (decide (s1303 < (s1_.length : Int))) then
  (getI s1_ s1303).bind fun x1308_1 =>
  (getI s2_ s1303).bind fun x1309_2 =>
  (eq_ x1308_1 x1309_2).bind fun x1310_3 =>
  if (!x1310_3) then
   some (.ret false)
  else
   (addI s1303 1).bind fun x1314_0 =>
   some (.go x1314_0)
 else
  some (.ex 0 s1303)
def slices_EqualFunc_Slab_Slab_Slab (s1_ : (List Slab)) (s2_ : (List Slab)) (eq_ : (Slab → Slab → Option (Bool))) : Option (Bool) :=
 if ((s1_.length : Int) != (s2_.length : Int)) then
  some false
 else
  (iterL (slices_EqualFunc_Slab_Slab_Slab_L0 s1_ s2_ eq_) (s1_.length + 1) 0).bind fun f1327 => match f1327 with
   | .go _ => none
   | .ex _ _ =>
    some true
   | .ret r1332 => some r1332
theorem slices_EqualFunc_Slab_Slab_Slab_ok {k0 : K} {v0 v1 v2 : Value} {s1_ : (List Slab)} {s2_ : (List Slab)} {eq_ : (Slab → Slab → Option (Bool))} {r : Bool} (i0 : (IsV s1_) v0 k0) (i1 : (IsV s2_) v1 k0) (i2 : (IsFn2 Try.prog eq_) v2 k0) (hr : slices_EqualFunc_Slab_Slab_Slab s1_ s2_ eq_ = some r) :
  Calls Try.prog 33 #[v0, v1, v2] k0.w (Ret k0 (IsV r)) := by
 unfold slices_EqualFunc_Slab_Slab_Slab at hr
 refine Ret.ofC ?_
 refine enterK Try.func33 rfl Try.ntmps33 (show 3 ≤ 32 by decide) fun a k hk0 hs hd ha => ?_
 obtain ⟨e0, e1, e2, _⟩ := ha
 replace i0 : (IsV s1_) (a.get 0) k := by rw [e0, hk0]; exact i0
 replace i1 : (IsV s2_) (a.get 1) k := by rw [e1, hk0]; exact i1
 replace i2 : (IsFn2 Try.prog eq_) (a.get 2) k := by rw [e2, hk0]; exact i2
 have hQ : Gb.LetsOut (bodyPost Try.prog Try.f33 (RetC noF k0 (IsV r))) := letsOutC
 have hg : Chg noF k0 k := by rw [hk0]; exact Chg.refl _ k0
 refine stepL 1 (⟨some (IsV false), []⟩ :: []) rfl ⟨hg, hs, hd⟩ (by kernel_rfl) ⟨ob1 rfl fun _ _ h n => ok_assign rfl (isV_bool.2 rfl), trivial⟩ [⟨_, _⟩, ⟨_, _⟩, ⟨_, _⟩] (fun b q p => ⟨p.ke 0 rfl i0, p.ke 1 rfl i1, p.ke 2 rfl i2, trivial⟩) ?_
 rintro a k ⟨⟨hg, hs, hd⟩, i0, i1, i2, _⟩
 refine wp_seq ?_
 refine stepL 5 (_ :: _ :: _ :: _ :: ⟨some (IsV ((s1_.length : Int) != (s2_.length : Int))), [(11, some 1), (13, some 3)]⟩ :: []) rfl ⟨hg, hs, hd⟩ (by kernel_rfl) ⟨mu rfl i0, o1 [(10, some 0)] rfl fun _ _ h n => ok_len rfl rfl Try.underlying24 (IsV.rd n.1), mu rfl i1, o1 [(12, some 2)] rfl fun _ _ h n => ok_len rfl rfl Try.underlying24 (IsV.rd n.1), ob1 rfl fun _ _ h n => ok_neI rfl n.1 n.2.1, trivial⟩ [⟨_, _⟩, ⟨_, _⟩, ⟨_, _⟩, ⟨_, _⟩] (fun b q p => ⟨p.ke 0 rfl i0, p.ke 1 rfl i1, p.ke 2 rfl i2, p.ou 4 14 rfl, trivial⟩) ?_
 rintro a k ⟨⟨hg, hs, hd⟩, i0, i1, i2, i14, _⟩
 refine wp_cond_split (isBool i14) (fun hc1336 => ?_) (fun hc1336 => ?_)
 ·rw [if_pos hc1336] at hr
  refine stepL 1 (⟨some (IsV false), []⟩ :: []) rfl ⟨hg, hs, hd⟩ (by kernel_rfl) ⟨ob1 rfl fun _ _ h n => ok_assign rfl (isV_bool.2 rfl), trivial⟩ [⟨_, _⟩] (fun b q p => ⟨p.ou 0 6 rfl, trivial⟩) ?_
  rintro a k ⟨⟨hg, hs, hd⟩, i6, _⟩
  refine wp_ret ?_
  obtain rfl := Option.some.inj hr
  exact retC1 rfl hd hg i6
 rw [if_neg (by rw [hc1336]; decide)] at hr
 refine wp_skip ?_
 refine wp_seq ?_
 refine stepL 3 (_ :: _ :: ⟨some (IsI 0), []⟩ :: []) rfl ⟨hg, hs, hd⟩ (by kernel_rfl) ⟨mu rfl i0, o1 [(15, some 0)] rfl fun _ _ h n => ok_len rfl rfl Try.underlying24 (IsV.rd n.1), ob1 rfl fun _ _ h n => ok_move rfl (cI rfl), trivial⟩ [⟨_, _⟩, ⟨_, _⟩, ⟨_, _⟩, ⟨_, _⟩, ⟨_, _⟩] (fun b q p => ⟨p.ke 1 rfl i1, p.ke 2 rfl i2, p.ou 0 15 rfl, p.ou 1 16 rfl, p.ou 2 17 rfl, trivial⟩) ?_
 rintro a k ⟨⟨hg, hs, hd⟩, i1, i2, i15, i16, i17, _⟩
 refine wp_block ?_
 obtain ⟨f1327, hf1327, hr⟩ := bind_some hr
 refine cutFe f1327 (fun s' a' k' => Bs noF k0 32 a' k' ∧ (IsV s2_) (a'.get 1) k' ∧ (IsFn2 Try.prog eq_) (a'.get 2) k' ∧ (IsV s1_) (a'.get 15) k' ∧ (IsL s1_) (a'.get 16) k' ∧ (IsV s') (a'.get 17) k' ∧ True) (fun i' s' a' k' => (i' = 0 ∧ Bs noF k0 32 a' k' ∧ True)) (fun r' a' k' => bodyPost Try.prog Try.f33 (RetC noF k0 (IsV r')) .ret a' k'.w) ?_ hQ ?_ ?_ ?_
 ·intro Q1333 hQQ1333 hgo hex hret
  refine sim_loop ?_ _ _ _ _ _ hf1327 ⟨⟨hg, hs, hd⟩, i1, i2, i15, i16, i17, trivial⟩ Q1333 hQQ1333 hgo hex hret
  clear hr hf1327 hgo hex hret hQQ1333 hQ hg hs hd i1 i15 i16 i17 i2
  intro s1303 fl_ a k hr hS Q hQ hgo1304 hex1305 hret1306
  obtain ⟨⟨hg, hs, hd⟩, i1, i2, i15, i16, i17, _⟩ := hS
  unfold slices_EqualFunc_Slab_Slab_Slab_L0 at hr
  refine stepL 1 (_ :: []) rfl ⟨hg, hs, hd⟩ (by kernel_rfl) ⟨o1 [(17, none), (16, none)] rfl fun _ _ h n => ok_lss rfl (up i17 h n.1) (up i16 h n.2.1), trivial⟩ [⟨_, _⟩, ⟨_, _⟩, ⟨_, _⟩, ⟨_, _⟩, ⟨_, _⟩, ⟨_, _⟩] (fun b q p => ⟨p.ke 1 rfl i1, p.ke 2 rfl i2, p.ke 15 rfl i15, p.ke 16 rfl i16, p.ke 17 rfl i17, p.ou 0 18 rfl, trivial⟩) ?_
  rintro a k ⟨⟨hg, hs, hd⟩, i1, i2, i15, i16, i17, i18, _⟩
  refine wp_seq ?_
  refine wp_cond_split (isBool i18) (fun hc1324 => ?_) (fun hc1324 => ?_)
  ·rw [if_pos hc1324] at hr
   refine wp_skip ?_
   refine wp_seq ?_
   refine wp_block ?_
   refine wp_seq ?_
   obtain ⟨x1308_1, hx1308_1, hr⟩ := bind_some hr
   refine cut (fun a' k' => Bs noF k0 32 a' k' ∧ (IsV s2_) (a'.get 1) k' ∧ (IsFn2 Try.prog eq_) (a'.get 2) k' ∧ (IsV s1303) (a'.get 7) k' ∧ (IsRef x1308_1) (a'.get 8) k' ∧ (IsV s1_) (a'.get 15) k' ∧ (IsL s1_) (a'.get 16) k' ∧ (IsV s1303) (a'.get 17) k' ∧ True) ?_ hQ ?_
   ·intro Q1322 hQQ1322 hp1323
    refine gS 5 (_ :: _ :: _ :: ⟨some (IsBox k.w.heap.size (⟨0, 0, []⟩ : Slab)), []⟩ :: _ :: []) hs (by kernel_rfl) ⟨mu rfl i17, o1 [(15, none), (17, none)] rfl fun _ _ h n => ok_indexAddr rfl Try.underlying24 ty47 (IsV.rd (up i15 h n.1)) (up i17 h n.2.1) hx1308_1, o1 [(20, some 1)] rfl fun _ _ h n => ok_load rfl ty47 n.1, ob1 rfl fun _ _ h n => ok_alloc _ h.size rfl z47, cp 0 rfl rfl, trivial⟩ hQQ1322 fun b q p => ?_
    have hgq := hg.then p.grow
    have hsb := p.size.trans hs
    have hdb := p.defers.trans hd
    have j1 := p.ke 1 rfl i1
    have j2 := p.ke 2 rfl i2
    have j7 : (IsV s1303) (b.get 7) q := p.ou 4 7 rfl
    obtain ⟨b8, j8, x8, z8⟩ : (IsBox k.w.heap.size (⟨0, 0, []⟩ : Slab)) (b.get 8) q := p.ou 3 8 rfl
    replace x8 : Lo k (Eq b8) := Lo.eq x8
    have y8 : Lo k0 (Eq b8) := x8.chg hg
    have j15 := p.ke 15 rfl i15
    have j16 := p.ke 16 rfl i16
    have j17 := p.ke 17 rfl i17
    have j21 : (IsV x1308_1) (b.get 21) q := p.ou 2 21 rfl
    have hns := z8.nshF
    refine tail_storeB (i := 5) rfl rfl rfl rfl szf47 (Upd.self (α := Slab)) j8 z8 j21 fun q2 hch hz => ?_
    replace hgq := hgq.step hch y8.wr
    have hle := hch.le hns
    replace j1 := Pers.pers hle j1
    replace j2 := Pers.pers hle j2
    replace j7 := Pers.pers hle j7
    replace j15 := Pers.pers hle j15
    replace j16 := Pers.pers hle j16
    replace j17 := Pers.pers hle j17
    replace j21 := Pers.pers hle j21
    replace z8 := hz
    clear hns hle hch
    obtain ⟨q, hqq⟩ : ∃ q, q = q2 := ⟨q2, rfl⟩
    subst hqq
    obtain ⟨q2, hsh, jn⟩ := z8.give
    replace j1 := Pers.pers hsh.le j1
    replace j2 := Pers.pers hsh.le j2
    replace j7 := Pers.pers hsh.le j7
    replace j15 := Pers.pers hsh.le j15
    replace j16 := Pers.pers hsh.le j16
    replace j17 := Pers.pers hsh.le j17
    rw [← j8] at jn
    replace j8 := jn
    replace hgq := hgq.hand hsh y8.wr
    rw [← hsh.w]
    clear hsh
    obtain ⟨q, hqq⟩ : ∃ q, q = q2 := ⟨q2, rfl⟩
    subst hqq
    exact tail_done (k := q) (hp1323 _ _ ⟨⟨hgq, hsb, hdb⟩, j1, j2, j7, j8, j15, j16, j17, trivial⟩)
   rintro a k ⟨⟨hg, hs, hd⟩, i1, i2, i7, i8, i15, i16, i17, _⟩
   refine wp_seq ?_
   obtain ⟨x1309_2, hx1309_2, hr⟩ := bind_some hr
   refine cut (fun a' k' => Bs noF k0 32 a' k' ∧ (IsV s2_) (a'.get 1) k' ∧ (IsFn2 Try.prog eq_) (a'.get 2) k' ∧ (IsRef x1308_1) (a'.get 8) k' ∧ (IsRef x1309_2) (a'.get 9) k' ∧ (IsV s1_) (a'.get 15) k' ∧ (IsL s1_) (a'.get 16) k' ∧ (IsV s1303) (a'.get 17) k' ∧ True) ?_ hQ ?_
   ·intro Q1320 hQQ1320 hp1321
    refine gS 5 (_ :: _ :: _ :: _ :: ⟨some (IsBox k.w.heap.size (⟨0, 0, []⟩ : Slab)), []⟩ :: []) hs (by kernel_rfl) ⟨mu rfl i1, mu rfl i7, o1 [(22, some 0), (23, some 1)] rfl fun _ _ h n => ok_indexAddr rfl Try.underlying24 ty47 (IsV.rd n.1) n.2.1 hx1309_2, o1 [(24, some 2)] rfl fun _ _ h n => ok_load rfl ty47 n.1, ob1 rfl fun _ _ h n => ok_alloc _ h.size rfl z47, trivial⟩ hQQ1320 fun b q p => ?_
    have hgq := hg.then p.grow
    have hsb := p.size.trans hs
    have hdb := p.defers.trans hd
    have j1 := p.ke 1 rfl i1
    have j2 := p.ke 2 rfl i2
    have j8 := p.ke 8 rfl i8
    obtain ⟨b9, j9, x9, z9⟩ : (IsBox k.w.heap.size (⟨0, 0, []⟩ : Slab)) (b.get 9) q := p.ou 4 9 rfl
    replace x9 : Lo k (Eq b9) := Lo.eq x9
    have y9 : Lo k0 (Eq b9) := x9.chg hg
    have j15 := p.ke 15 rfl i15
    have j16 := p.ke 16 rfl i16
    have j17 := p.ke 17 rfl i17
    have j25 : (IsV x1309_2) (b.get 25) q := p.ou 3 25 rfl
    have hns := z9.nshF
    refine tail_storeB (i := 5) rfl rfl rfl rfl szf47 (Upd.self (α := Slab)) j9 z9 j25 fun q2 hch hz => ?_
    replace hgq := hgq.step hch y9.wr
    have hle := hch.le hns
    replace j1 := Pers.pers hle j1
    replace j2 := Pers.pers hle j2
    replace j8 := Pers.pers hle j8
    replace j15 := Pers.pers hle j15
    replace j16 := Pers.pers hle j16
    replace j17 := Pers.pers hle j17
    replace j25 := Pers.pers hle j25
    replace z9 := hz
    clear hns hle hch
    obtain ⟨q, hqq⟩ : ∃ q, q = q2 := ⟨q2, rfl⟩
    subst hqq
    obtain ⟨q2, hsh, jn⟩ := z9.give
    replace j1 := Pers.pers hsh.le j1
    replace j2 := Pers.pers hsh.le j2
    replace j8 := Pers.pers hsh.le j8
    replace j15 := Pers.pers hsh.le j15
    replace j16 := Pers.pers hsh.le j16
    replace j17 := Pers.pers hsh.le j17
    rw [← j9] at jn
    replace j9 := jn
    replace hgq := hgq.hand hsh y9.wr
    rw [← hsh.w]
    clear hsh
    obtain ⟨q, hqq⟩ : ∃ q, q = q2 := ⟨q2, rfl⟩
    subst hqq
    exact tail_done (k := q) (hp1321 _ _ ⟨⟨hgq, hsb, hdb⟩, j1, j2, j8, j9, j15, j16, j17, trivial⟩)
   rintro a k ⟨⟨hg, hs, hd⟩, i1, i2, i8, i9, i15, i16, i17, _⟩
   refine wp_seq ?_
   obtain ⟨x1310_3, hx1310_3, hr⟩ := bind_some hr
   refine cut (fun a' k' => Bs noF k0 32 a' k' ∧ (IsV s2_) (a'.get 1) k' ∧ (IsFn2 Try.prog eq_) (a'.get 2) k' ∧ (IsV s1_) (a'.get 15) k' ∧ (IsL s1_) (a'.get 16) k' ∧ (IsV s1303) (a'.get 17) k' ∧ (IsV (!x1310_3)) (a'.get 30) k' ∧ True) ?_ hQ ?_
   ·intro Q1318 hQQ1318 hp1319
    refine gS 5 (_ :: _ :: _ :: ⟨some (IsV x1310_3), [(26, some 0), (27, some 1), (28, some 2)]⟩ :: _ :: []) hs (by kernel_rfl) ⟨mu rfl i2, o1 [(8, none)] rfl fun _ _ h n => ok_load rfl ty47 ((up i8 h n.1)).ptr, o1 [(9, none)] rfl fun _ _ h n => ok_load rfl ty47 ((up i9 h n.1)).ptr, ob1 rfl fun _ _ h n => ok_callF2 rfl n.1 n.2.1 n.2.2.1 hx1310_3, o1 [(29, some 3)] rfl fun _ _ h n => ok_not rfl n.1, trivial⟩ hQQ1318 fun b q p => ?_
    exact tail_done (k := q) (hp1319 _ _ ⟨Bs.post ⟨hg, hs, hd⟩ p, p.ke 1 rfl i1, p.ke 2 rfl i2, p.ke 15 rfl i15, p.ke 16 rfl i16, p.ke 17 rfl i17, p.ou 4 30 rfl, trivial⟩)
   rintro a k ⟨⟨hg, hs, hd⟩, i1, i2, i15, i16, i17, i30, _⟩
   refine wp_cond_split (isBool i30) (fun hc1317 => ?_) (fun hc1317 => ?_)
   ·rw [if_pos hc1317] at hr
    refine stepL 1 (⟨some (IsV false), []⟩ :: []) rfl ⟨hg, hs, hd⟩ (by kernel_rfl) ⟨ob1 rfl fun _ _ h n => ok_assign rfl (isV_bool.2 rfl), trivial⟩ [⟨_, _⟩] (fun b q p => ⟨p.ou 0 6 rfl, trivial⟩) ?_
    rintro a k ⟨⟨hg, hs, hd⟩, i6, _⟩
    refine wp_ret ?_
    exact hret1306 _ _ _ (Option.some.inj hr).symm (retC1 rfl hd hg i6)
   rw [if_neg (by rw [hc1317]; decide)] at hr
   refine wp_skip ?_
   obtain ⟨x1314_0, hx1314_0, hr⟩ := bind_some hr
   refine cut (fun a' k' => Bs noF k0 32 a' k' ∧ (IsV s2_) (a'.get 1) k' ∧ (IsFn2 Try.prog eq_) (a'.get 2) k' ∧ (IsV s1_) (a'.get 15) k' ∧ (IsL s1_) (a'.get 16) k' ∧ (IsV x1314_0) (a'.get 17) k' ∧ True) ?_ hQ ?_
   ·intro Q1315 hQQ1315 hp1316
    refine gS 2 (_ :: _ :: []) hs (by kernel_rfl) ⟨o1 [(17, none)] rfl fun _ _ h n => ok_add rfl (up i17 h n.1) (cI rfl) hx1314_0, cm 0 rfl rfl, trivial⟩ hQQ1315 fun b q p => ?_
    exact tail_done (k := q) (hp1316 _ _ ⟨Bs.post ⟨hg, hs, hd⟩ p, p.ke 1 rfl i1, p.ke 2 rfl i2, p.ke 15 rfl i15, p.ke 16 rfl i16, p.ou 1 17 rfl, trivial⟩)
   rintro a k ⟨⟨hg, hs, hd⟩, i1, i2, i15, i16, i17, _⟩
   exact hgo1304 _ _ _ (Option.some.inj hr).symm ⟨⟨hg, hs, hd⟩, i1, i2, i15, i16, i17, trivial⟩
  rw [if_neg (by rw [hc1324]; decide)] at hr
  refine wp_exit ?_
  exact hex1305 _ _ _ _ (Option.some.inj hr).symm ⟨rfl, ⟨hg, hs, hd⟩, trivial⟩
 ·rintro r1332 a k rfl hR
  dsimp only at hr
  obtain rfl := Option.some.inj hr
  exact hR
 ·rintro _ _ _ rfl _
  simp at hr
 clear hf1327
 rintro _ s1328 a k rfl ⟨rfl, ⟨hg, hs, hd⟩, _⟩
 dsimp only at hr
 refine stepL 1 (⟨some (IsV true), []⟩ :: []) rfl ⟨hg, hs, hd⟩ (by kernel_rfl) ⟨ob1 rfl fun _ _ h n => ok_assign rfl (isV_bool.2 rfl), trivial⟩ [⟨_, _⟩] (fun b q p => ⟨p.ou 0 6 rfl, trivial⟩) ?_
 rintro a k ⟨⟨hg, hs, hd⟩, i6, _⟩
 refine wp_ret ?_
 obtain rfl := Option.some.inj hr
 exact retC1 rfl hd hg i6
def solid_Same_1 (x_ : Slab) (y_ : Slab) : Option (Bool) :=
 (if ((x_.Z0 == y_.Z0) && (x_.Z1 == y_.Z1)) then
  (region_Same x_.Area y_.Area).bind fun x1342_17 =>
  some x1342_17
 else
  some false).bind fun x1342_18 =>
 some x1342_18
theorem solid_Same_1_ok {k0 : K} {v0 v1 : Value} {x_ : Slab} {y_ : Slab} {r : Bool} (i0 : (IsV x_) v0 k0) (i1 : (IsV y_) v1 k0) (hr : solid_Same_1 x_ y_ = some r) :
  Calls Try.prog 34 #[v0, v1] k0.w (Ret k0 (IsV r)) := by
 unfold solid_Same_1 at hr
 refine Ret.ofC ?_
 refine enterK Try.func34 rfl Try.ntmps34 (show 2 ≤ 24 by decide) fun a k hk0 hs hd ha => ?_
 obtain ⟨e0, e1, _⟩ := ha
 replace i0 : (IsV x_) (a.get 0) k := by rw [e0, hk0]; exact i0
 replace i1 : (IsV y_) (a.get 1) k := by rw [e1, hk0]; exact i1
 have hQ : Gb.LetsOut (bodyPost Try.prog Try.f34 (RetC noF k0 (IsV r))) := letsOutC
 have hg : Chg noF k0 k := by rw [hk0]; exact Chg.refl _ k0
 refine stepL 3 (⟨some (IsRef x_), [(0, none)]⟩ :: ⟨some (IsRef y_), [(1, none)]⟩ :: ⟨some (IsV false), []⟩ :: []) rfl ⟨hg, hs, hd⟩ (by kernel_rfl) ⟨ob1 rfl fun _ _ h n => ok_boxR rfl (up i0 h n.1), ob1 rfl fun _ _ h n => ok_boxR rfl (up i1 h n.1), ob1 rfl fun _ _ h n => ok_assign rfl (isV_bool.2 rfl), trivial⟩ [⟨_, _⟩, ⟨_, _⟩] (fun b q p => ⟨p.ou 0 2 rfl, p.ou 1 3 rfl, trivial⟩) ?_
 rintro a k ⟨⟨hg, hs, hd⟩, i2, i3, _⟩
 refine wp_seq ?_
 obtain ⟨x1342_18, hx1342_18, hr⟩ := bind_some hr
 obtain ⟨x1342_17, hx1342_17, hx1342_18⟩ := ite_bind hx1342_18
 refine cut (fun a' k' => Bs noF k0 24 a' k' ∧ (IsV x1342_18) (a'.get 4) k' ∧ True) ?_ hQ ?_
 ·intro Q1343 hQQ1343 hp1344
  refine gS 20 (_ :: _ :: _ :: _ :: _ :: _ :: _ :: _ :: _ :: _ :: _ :: _ :: _ :: _ :: _ :: _ :: _ :: _ :: _ :: _ :: []) hs (by kernel_rfl) ⟨o1 [(2, none)] rfl fun _ _ h n => ok_fieldAddr rfl fo47_0 (at_Slab_0 _) ((up i2 h n.1)).ptr, o1 [(5, some 0)] rfl fun _ _ h n => ok_load rfl ty3 n.1, o1 [(3, none)] rfl fun _ _ h n => ok_fieldAddr rfl fo47_0 (at_Slab_0 _) ((up i3 h n.1)).ptr, o1 [(7, some 2)] rfl fun _ _ h n => ok_load rfl ty3 n.1, o1 [(6, some 1), (8, some 3)] rfl fun _ _ h n => ok_eqI rfl n.1 n.2.1, cm 4 rfl rfl, gT [(2, none)] rfl rfl fun hp _ _ h n => ok_fieldAddr rfl fo47_1 (at_Slab_1 _) ((up i2 h n.1)).ptr, gT [(11, some 6)] rfl rfl fun hp _ _ h n => ok_load rfl ty3 (Gd.get n.1 hp), gT [(3, none)] rfl rfl fun hp _ _ h n => ok_fieldAddr rfl fo47_1 (at_Slab_1 _) ((up i3 h n.1)).ptr, gT [(13, some 8)] rfl rfl fun hp _ _ h n => ok_load rfl ty3 (Gd.get n.1 hp), gT [(12, some 7), (14, some 9)] rfl rfl fun hp _ _ h n => ok_eqI rfl (Gd.get n.1 hp) (Gd.get n.2.1 hp), o1 [(10, some 5), (15, some 10)] rfl fun _ _ h n => ok_pickAnd rfl n.1 (Gd.get n.2.1) (cB rfl), cm 11 rfl rfl, gT [(2, none)] rfl rfl fun hp _ _ h n => ok_fieldAddr rfl fo47_2 (at_Slab_2 _) ((up i2 h n.1)).ptr, gT [(18, some 13)] rfl rfl fun hp _ _ h n => ok_load rfl ty44 (Gd.get n.1 hp), gT [(3, none)] rfl rfl fun hp _ _ h n => ok_fieldAddr rfl fo47_2 (at_Slab_2 _) ((up i3 h n.1)).ptr, gT [(20, some 15)] rfl rfl fun hp _ _ h n => ok_load rfl ty44 (Gd.get n.1 hp), gT [(19, some 14), (21, some 16)] rfl rfl fun hp _ _ h n => ok_call rfl Try.call35 (region_Same_ok (Gd.get n.1 hp) (Gd.get n.2.1 hp) (hx1342_17 hp)), o1 [(17, some 12), (22, some 17)] rfl fun _ _ h n => ok_pickM rfl n.1 hx1342_18 (Gd.get n.2.1) (cB rfl), cp 18 rfl rfl, trivial⟩ hQQ1343 fun b q p => ?_
  exact tail_done (k := q) (hp1344 _ _ ⟨Bs.post ⟨hg, hs, hd⟩ p, p.ou 19 4 rfl, trivial⟩)
 rintro a k ⟨⟨hg, hs, hd⟩, i4, _⟩
 refine wp_ret ?_
 obtain rfl := Option.some.inj hr
 exact retC1 rfl hd hg i4
def solid_Same (a_ : (List Slab)) (b_ : (List Slab)) : Option (Bool) :=
 (slices_EqualFunc_Slab_Slab_Slab a_ b_ solid_Same_1).bind fun x1348_2 =>
 some x1348_2
theorem solid_Same_ok {k0 : K} {v0 v1 : Value} {a_ : (List Slab)} {b_ : (List Slab)} {r : Bool} (i0 : (IsV a_) v0 k0) (i1 : (IsV b_) v1 k0) (hr : solid_Same a_ b_ = some r) :
  Calls Try.prog 11 #[v0, v1] k0.w (Ret k0 (IsV r)) := by
 unfold solid_Same at hr
 refine Ret.ofC ?_
 refine enterK Try.func11 rfl Try.ntmps11 (show 2 ≤ 8 by decide) fun a k hk0 hs hd ha => ?_
 obtain ⟨e0, e1, _⟩ := ha
 replace i0 : (IsV a_) (a.get 0) k := by rw [e0, hk0]; exact i0
 replace i1 : (IsV b_) (a.get 1) k := by rw [e1, hk0]; exact i1
 have hQ : Gb.LetsOut (bodyPost Try.prog Try.f11 (RetC noF k0 (IsV r))) := letsOutC
 have hg : Chg noF k0 k := by rw [hk0]; exact Chg.refl _ k0
 refine stepL 1 (⟨some (IsV false), []⟩ :: []) rfl ⟨hg, hs, hd⟩ (by kernel_rfl) ⟨ob1 rfl fun _ _ h n => ok_assign rfl (isV_bool.2 rfl), trivial⟩ [⟨_, _⟩, ⟨_, _⟩] (fun b q p => ⟨p.ke 0 rfl i0, p.ke 1 rfl i1, trivial⟩) ?_
 rintro a k ⟨⟨hg, hs, hd⟩, i0, i1, _⟩
 refine wp_seq ?_
 obtain ⟨x1348_2, hx1348_2, hr⟩ := bind_some hr
 refine cut (fun a' k' => Bs noF k0 8 a' k' ∧ (IsV x1348_2) (a'.get 4) k' ∧ True) ?_ hQ ?_
 ·intro Q1349 hQQ1349 hp1350
  refine gS 4 (_ :: _ :: _ :: _ :: []) hs (by kernel_rfl) ⟨mu rfl i0, mu rfl i1, o1 [(5, some 0), (6, some 1)] rfl fun _ _ h n => ok_call rfl Try.call33 (slices_EqualFunc_Slab_Slab_Slab_ok n.1 n.2.1 ⟨34, _, _, rfl, Try.call34, fun k9 hk9 _ _ _ _ _ hx0 hx1 hy9 => by simpa [evalT] using solid_Same_1_ok hx0 hx1 hy9⟩ hx1348_2), cp 2 rfl rfl, trivial⟩ hQQ1349 fun b q p => ?_
  exact tail_done (k := q) (hp1350 _ _ ⟨Bs.post ⟨hg, hs, hd⟩ p, p.ou 3 4 rfl, trivial⟩)
 rintro a k ⟨⟨hg, hs, hd⟩, i4, _⟩
 refine wp_ret ?_
 obtain rfl := Option.some.inj hr
 exact retC1 rfl hd hg i4
def solid_Boxes_L1 (x1365_0 : Slab) (s1367 : (List Box) × Int) : Option (Flow ((List Box) × Int) ((List Box))) :=
 if (decide (s1367.2 < (x1365_0.Area.length : Int))) then
  (getI x1365_0.Area s1367.2).bind fun x1372_0 =>
  (appI s1367.1 ([(⟨x1372_0, x1365_0.Z0, x1365_0.Z1⟩ : Box)])).bind fun x1373_8 =>
  (addI s1367.2 1).bind fun x1374_0 =>
  some (.go (x1373_8, x1374_0))
 else
  some (.ex 2 (s1367.1, s1367.2))
def solid_Boxes_L0 (s_ : (List Slab)) (s1360 : (List Box) × Int) : Option (Flow ((List Box) × Int) ((List Box))) :=
 if (decide (s1360.2 < (s_.length : Int))) then
  (getI s_ s1360.2).bind fun x1365_0 =>
  (iterL (solid_Boxes_L1 x1365_0) (x1365_0.Area.length + 1) (s1360.1, 0)).bind fun f1384 => match f1384 with
   | .go _ => none
   | .ex _ s1385 =>
    (addI s1360.2 1).bind fun x1386_0 =>
    some (.go (s1385.1, x1386_0))
   | .ret r1389 => some (.ret r1389)
 else
  some (.ex 0 (s1360.1, s1360.2))
def solid_Boxes (s_ : (List Slab)) : Option ((List Box)) :=
 (solid_Right s_).bind fun x1354_1 =>
 if (!x1354_1) then
  some ([] : List Box)
 else
  (iterL (solid_Boxes_L0 s_) (s_.length + 1) (([] : List Box), 0)).bind fun f1399 => match f1399 with
   | .go _ => none
   | .ex _ s1400 =>
    some s1400.1
   | .ret r1404 => some r1404
theorem solid_Boxes_ok {k0 : K} {v0 : Value} {s_ : (List Slab)} {r : (List Box)} (i0 : (IsV s_) v0 k0) (hr : solid_Boxes s_ = some r) :
  Calls Try.prog 10 #[v0] k0.w (Ret k0 (IsV r)) := by
 unfold solid_Boxes at hr
 refine Ret.ofC ?_
 refine enterK Try.func10 rfl Try.ntmps10 (show 1 ≤ 36 by decide) fun a k hk0 hs hd ha => ?_
 obtain ⟨e0, _⟩ := ha
 replace i0 : (IsV s_) (a.get 0) k := by rw [e0, hk0]; exact i0
 have hQ : Gb.LetsOut (bodyPost Try.prog Try.f10 (RetC noF k0 (IsV r))) := letsOutC
 have hg : Chg noF k0 k := by rw [hk0]; exact Chg.refl _ k0
 refine stepL 1 (⟨some IsE0, []⟩ :: []) rfl ⟨hg, hs, hd⟩ (by kernel_rfl) ⟨ob1 rfl fun b q h n => ok_assign rfl isE0_nil, trivial⟩ [⟨_, _⟩] (fun b q p => ⟨p.ke 0 rfl i0, trivial⟩) ?_
 rintro a k ⟨⟨hg, hs, hd⟩, i0, _⟩
 refine wp_seq ?_
 refine wp_seq ?_
 obtain ⟨x1354_1, hx1354_1, hr⟩ := bind_some hr
 refine cut (fun a' k' => Bs noF k0 36 a' k' ∧ (IsV s_) (a'.get 0) k' ∧ (IsV (!x1354_1)) (a'.get 10) k' ∧ True) ?_ hQ ?_
 ·intro Q1411 hQQ1411 hp1412
  refine gS 3 (_ :: _ :: _ :: []) hs (by kernel_rfl) ⟨mu rfl i0, o1 [(8, some 0)] rfl fun _ _ h n => ok_call rfl Try.call17 (solid_Right_ok n.1 hx1354_1), o1 [(9, some 1)] rfl fun _ _ h n => ok_not rfl n.1, trivial⟩ hQQ1411 fun b q p => ?_
  exact tail_done (k := q) (hp1412 _ _ ⟨Bs.post ⟨hg, hs, hd⟩ p, p.ke 0 rfl i0, p.ou 2 10 rfl, trivial⟩)
 rintro a k ⟨⟨hg, hs, hd⟩, i0, i10, _⟩
 refine wp_cond_split (isBool i10) (fun hc1410 => ?_) (fun hc1410 => ?_)
 ·rw [if_pos hc1410] at hr
  refine cutL noF k0 36 [⟨2, IsV ([] : List Box)⟩] ?_ ?_
  ·intro Q1356 hQQ1356 hp1357
   refine gS 1 (⟨some IsE0, []⟩ :: []) hs (by kernel_rfl) ⟨ob1 rfl fun b q h n => ok_assign rfl isE0_nil, trivial⟩ hQQ1356 fun b q p => ?_
   have hgq := hg.then p.grow
   have hsb := p.size.trans hs
   have hdb := p.defers.trans hd
   have j2 : IsE0 (b.get 2) q := p.ou 0 2 rfl
   replace j2 : IsV ([] : List Box) (b.get 2) q := j2.isV
   exact tail_done (k := q) (hp1357 _ _ ⟨⟨hgq, hsb, hdb⟩, j2, trivial⟩)
  rintro a k ⟨⟨hg, hs, hd⟩, i2, _⟩
  refine wp_ret ?_
  obtain rfl := Option.some.inj hr
  exact retC1 rfl hd hg i2
 rw [if_neg (by rw [hc1410]; decide)] at hr
 refine wp_skip ?_
 refine cutS (fun a' k' => Bs noF k0 36 a' k' ∧ (IsV s_) (a'.get 0) k' ∧ IsOwn 0 32 ([] : List Box) (a'.get 3) k' ∧ Lo k0 (obF (a'.get 3)) ∧ True) ?_ ?_
 ·intro Q1408 hQQ1408 hp1409
  refine gS 1 (⟨some IsE0, []⟩ :: []) hs (by kernel_rfl) ⟨ob1 rfl fun b q h n => ok_assign rfl isE0_nil, trivial⟩ hQQ1408 fun b q p => ?_
  have hgq := hg.then p.grow
  have hsb := p.size.trans hs
  have hdb := p.defers.trans hd
  have j0 := p.ke 0 rfl i0
  have j3 : IsE0 (b.get 3) q := p.ou 0 3 rfl
  have y3 : Lo k0 (obF (b.get 3)) := j3.lo
  replace j3 : IsOwn 0 32 ([] : List Box) (b.get 3) q := j3.own0
  exact tail_done (k := q) (hp1409 _ _ ⟨⟨hgq, hsb, hdb⟩, j0, j3, y3, trivial⟩)
 rintro a k ⟨⟨hg, hs, hd⟩, i0, i3, n3, _⟩
 refine wp_seq ?_
 refine cutS (fun a' k' => Bs noF k0 36 a' k' ∧ IsOwn 0 32 ([] : List Box) (a'.get 3) k' ∧ Lo k0 (obF (a'.get 3)) ∧ (IsV s_) (a'.get 11) k' ∧ (IsL s_) (a'.get 12) k' ∧ (IsI 0) (a'.get 13) k' ∧ True) ?_ ?_
 ·intro Q1406 hQQ1406 hp1407
  refine gS 3 (_ :: _ :: ⟨some (IsI 0), []⟩ :: []) hs (by kernel_rfl) ⟨mu rfl i0, o1 [(11, some 0)] rfl fun _ _ h n => ok_len rfl rfl Try.underlying24 (IsV.rd n.1), ob1 rfl fun _ _ h n => ok_move rfl (cI rfl), trivial⟩ hQQ1406 fun b q p => ?_
  exact tail_done (k := q) (hp1407 _ _ ⟨Bs.post ⟨hg, hs, hd⟩ p, p.ke 3 rfl i3, (by rw [p.old 3 rfl]; exact n3), p.ou 0 11 rfl, p.ou 1 12 rfl, p.ou 2 13 rfl, trivial⟩)
 rintro a k ⟨⟨hg, hs, hd⟩, i3, n3, i11, i12, i13, _⟩
 refine wp_block ?_
 obtain ⟨f1399, hf1399, hr⟩ := bind_some hr
 refine cutFe f1399 (fun s' a' k' => Bs noF k0 36 a' k' ∧ IsOwn 0 32 s'.1 (a'.get 3) k' ∧ Lo k0 (obF (a'.get 3)) ∧ (IsV s_) (a'.get 11) k' ∧ (IsL s_) (a'.get 12) k' ∧ (IsV s'.2) (a'.get 13) k' ∧ True) (fun i' s' a' k' => (i' = 0 ∧ Bs noF k0 36 a' k' ∧ (IsV s'.1) (a'.get 3) k' ∧ True)) (fun r' a' k' => bodyPost Try.prog Try.f10 (RetC noF k0 (IsV r')) .ret a' k'.w) ?_ hQ ?_ ?_ ?_
 ·intro Q1405 hQQ1405 hgo hex hret
  refine sim_loop ?_ _ _ _ _ _ hf1399 ⟨⟨hg, hs, hd⟩, i3, n3, i11, i12, i13, trivial⟩ Q1405 hQQ1405 hgo hex hret
  clear hr hf1399 hgo hex hret hQQ1405 hQ hg hs hd i11 i12 i13 i3 n3
  intro s1360 fl_ a k hr hS Q hQ hgo1361 hex1362 hret1363
  obtain ⟨⟨hg, hs, hd⟩, i3, n3, i11, i12, i13, _⟩ := hS
  unfold solid_Boxes_L0 at hr
  refine cutS (fun a' k' => Bs noF k0 36 a' k' ∧ IsOwn 0 32 s1360.1 (a'.get 3) k' ∧ Lo k0 (obF (a'.get 3)) ∧ (IsV s_) (a'.get 11) k' ∧ (IsL s_) (a'.get 12) k' ∧ (IsV s1360.2) (a'.get 13) k' ∧ (IsV (decide (s1360.2 < (s_.length : Int)))) (a'.get 14) k' ∧ True) ?_ ?_
  ·intro Q1397 hQQ1397 hp1398
   refine gS 1 (_ :: []) hs (by kernel_rfl) ⟨o1 [(13, none), (12, none)] rfl fun _ _ h n => ok_lss rfl (up i13 h n.1) (up i12 h n.2.1), trivial⟩ hQQ1397 fun b q p => ?_
   exact tail_done (k := q) (hp1398 _ _ ⟨Bs.post ⟨hg, hs, hd⟩ p, p.ke 3 rfl i3, (by rw [p.old 3 rfl]; exact n3), p.ke 11 rfl i11, p.ke 12 rfl i12, p.ke 13 rfl i13, p.ou 0 14 rfl, trivial⟩)
  rintro a k ⟨⟨hg, hs, hd⟩, i3, n3, i11, i12, i13, i14, _⟩
  refine wp_seq ?_
  refine wp_cond_split (isBool i14) (fun hc1396 => ?_) (fun hc1396 => ?_)
  ·rw [if_pos hc1396] at hr
   refine wp_skip ?_
   refine wp_seq ?_
   refine wp_block ?_
   refine wp_seq ?_
   obtain ⟨x1365_0, hx1365_0, hr⟩ := bind_some hr
   refine cut (fun a' k' => Bs noF k0 36 a' k' ∧ IsOwn 0 32 s1360.1 (a'.get 3) k' ∧ Lo k0 (obF (a'.get 3)) ∧ (IsRef x1365_0) (a'.get 5) k' ∧ (IsV s_) (a'.get 11) k' ∧ (IsL s_) (a'.get 12) k' ∧ (IsV s1360.2) (a'.get 13) k' ∧ True) ?_ hQ ?_
   ·intro Q1393 hQQ1393 hp1394
    refine gS 3 (_ :: _ :: ⟨some (IsBox k.w.heap.size (⟨0, 0, []⟩ : Slab)), []⟩ :: []) hs (by kernel_rfl) ⟨o1 [(11, none), (13, none)] rfl fun _ _ h n => ok_indexAddr rfl Try.underlying24 ty47 (IsV.rd (up i11 h n.1)) (up i13 h n.2.1) hx1365_0, o1 [(15, some 0)] rfl fun _ _ h n => ok_load rfl ty47 n.1, ob1 rfl fun _ _ h n => ok_alloc _ h.size rfl z47, trivial⟩ hQQ1393 fun b q p => ?_
    have hgq := hg.then p.grow
    have hsb := p.size.trans hs
    have hdb := p.defers.trans hd
    have j3 := p.ke 3 rfl i3
    have y3 : Lo k0 (obF (b.get 3)) := by rw [p.old 3 rfl]; exact n3
    obtain ⟨b5, j5, x5, z5⟩ : (IsBox k.w.heap.size (⟨0, 0, []⟩ : Slab)) (b.get 5) q := p.ou 2 5 rfl
    replace x5 : Lo k (Eq b5) := Lo.eq x5
    have y5 : Lo k0 (Eq b5) := x5.chg hg
    have j11 := p.ke 11 rfl i11
    have j12 := p.ke 12 rfl i12
    have j13 := p.ke 13 rfl i13
    have j16 : (IsV x1365_0) (b.get 16) q := p.ou 1 16 rfl
    have w3_5 : Apart (obF (b.get 3)) (Eq b5) := Apart.new (by rw [p.old 3 rfl]; exact i3.ltF) x5
    have hns := z5.nshF
    refine tail_storeB (i := 3) rfl rfl rfl rfl szf47 (Upd.self (α := Slab)) j5 z5 j16 fun q2 hch hz => ?_
    replace hgq := hgq.step hch y5.wr
    have hle := hch.le hns
    replace j3 := j3.keep hch w3_5 hns
    replace j11 := Pers.pers hle j11
    replace j12 := Pers.pers hle j12
    replace j13 := Pers.pers hle j13
    replace j16 := Pers.pers hle j16
    replace z5 := hz
    clear hns hle hch
    obtain ⟨q, hqq⟩ : ∃ q, q = q2 := ⟨q2, rfl⟩
    subst hqq
    obtain ⟨q2, hsh, jn⟩ := z5.give
    replace j3 := j3.handed hsh w3_5
    replace j11 := Pers.pers hsh.le j11
    replace j12 := Pers.pers hsh.le j12
    replace j13 := Pers.pers hsh.le j13
    rw [← j5] at jn
    replace j5 := jn
    replace hgq := hgq.hand hsh y5.wr
    rw [← hsh.w]
    clear hsh
    obtain ⟨q, hqq⟩ : ∃ q, q = q2 := ⟨q2, rfl⟩
    subst hqq
    exact tail_done (k := q) (hp1394 _ _ ⟨⟨hgq, hsb, hdb⟩, j3, y3, j5, j11, j12, j13, trivial⟩)
   rintro a k ⟨⟨hg, hs, hd⟩, i3, n3, i5, i11, i12, i13, _⟩
   refine cutS (fun a' k' => Bs noF k0 36 a' k' ∧ IsOwn 0 32 s1360.1 (a'.get 3) k' ∧ Lo k0 (obF (a'.get 3)) ∧ (IsRef x1365_0) (a'.get 5) k' ∧ (IsV s_) (a'.get 11) k' ∧ (IsL s_) (a'.get 12) k' ∧ (IsV s1360.2) (a'.get 13) k' ∧ (IsV x1365_0.Area) (a'.get 18) k' ∧ (IsI (x1365_0.Area.length : Int)) (a'.get 19) k' ∧ (IsI 0) (a'.get 20) k' ∧ True) ?_ ?_
   ·intro Q1391 hQQ1391 hp1392
    refine gS 4 (_ :: _ :: _ :: ⟨some (IsI 0), []⟩ :: []) hs (by kernel_rfl) ⟨o1 [(5, none)] rfl fun _ _ h n => ok_fieldAddr rfl fo47_2 (at_Slab_2 _) ((up i5 h n.1)).ptr, o1 [(17, some 0)] rfl fun _ _ h n => ok_load rfl ty44 n.1, o1 [(18, some 1)] rfl fun _ _ h n => ok_len rfl rfl Try.underlying44 (IsV.rd n.1), ob1 rfl fun _ _ h n => ok_move rfl (cI rfl), trivial⟩ hQQ1391 fun b q p => ?_
    exact tail_done (k := q) (hp1392 _ _ ⟨Bs.post ⟨hg, hs, hd⟩ p, p.ke 3 rfl i3, (by rw [p.old 3 rfl]; exact n3), p.ke 5 rfl i5, p.ke 11 rfl i11, p.ke 12 rfl i12, p.ke 13 rfl i13, p.ou 1 18 rfl, p.ou 2 19 rfl, p.ou 3 20 rfl, trivial⟩)
   rintro a k ⟨⟨hg, hs, hd⟩, i3, n3, i5, i11, i12, i13, i18, i19, i20, _⟩
   refine wp_block ?_
   obtain ⟨f1384, hf1384, hr⟩ := bind_some hr
   refine cutFe f1384 (fun s' a' k' => Bs noF k0 36 a' k' ∧ IsOwn 0 32 s'.1 (a'.get 3) k' ∧ Lo k0 (obF (a'.get 3)) ∧ (IsRef x1365_0) (a'.get 5) k' ∧ (IsV s_) (a'.get 11) k' ∧ (IsL s_) (a'.get 12) k' ∧ (IsV s1360.2) (a'.get 13) k' ∧ (IsV x1365_0.Area) (a'.get 18) k' ∧ (IsI (x1365_0.Area.length : Int)) (a'.get 19) k' ∧ (IsV s'.2) (a'.get 20) k' ∧ True) (fun i' s' a' k' => (i' = 2 ∧ Bs noF k0 36 a' k' ∧ IsOwn 0 32 s'.1 (a'.get 3) k' ∧ Lo k0 (obF (a'.get 3)) ∧ (IsV s_) (a'.get 11) k' ∧ (IsL s_) (a'.get 12) k' ∧ (IsV s1360.2) (a'.get 13) k' ∧ True)) (fun r' a' k' => bodyPost Try.prog Try.f10 (RetC noF k0 (IsV r')) .ret a' k'.w) ?_ hQ ?_ ?_ ?_
   ·intro Q1390 hQQ1390 hgo hex hret
    refine sim_loop ?_ _ _ _ _ _ hf1384 ⟨⟨hg, hs, hd⟩, i3, n3, i5, i11, i12, i13, i18, i19, i20, trivial⟩ Q1390 hQQ1390 hgo hex hret
    clear hr hf1384 hgo hex hret hQQ1390 hQ hg hs hd i11 i12 i13 i18 i19 i20 i3 i5 n3
    intro s1367 fl_ a k hr hS Q hQ hgo1368 hex1369 hret1370
    obtain ⟨⟨hg, hs, hd⟩, i3, n3, i5, i11, i12, i13, i18, i19, i20, _⟩ := hS
    unfold solid_Boxes_L1 at hr
    refine cutS (fun a' k' => Bs noF k0 36 a' k' ∧ IsOwn 0 32 s1367.1 (a'.get 3) k' ∧ Lo k0 (obF (a'.get 3)) ∧ (IsRef x1365_0) (a'.get 5) k' ∧ (IsV s_) (a'.get 11) k' ∧ (IsL s_) (a'.get 12) k' ∧ (IsV s1360.2) (a'.get 13) k' ∧ (IsV x1365_0.Area) (a'.get 18) k' ∧ (IsI (x1365_0.Area.length : Int)) (a'.get 19) k' ∧ (IsV s1367.2) (a'.get 20) k' ∧ (IsV (decide (s1367.2 < (x1365_0.Area.length : Int)))) (a'.get 21) k' ∧ True) ?_ ?_
    ·intro Q1382 hQQ1382 hp1383
     refine gS 1 (_ :: []) hs (by kernel_rfl) ⟨o1 [(20, none), (19, none)] rfl fun _ _ h n => ok_lss rfl (up i20 h n.1) (up i19 h n.2.1), trivial⟩ hQQ1382 fun b q p => ?_
     exact tail_done (k := q) (hp1383 _ _ ⟨Bs.post ⟨hg, hs, hd⟩ p, p.ke 3 rfl i3, (by rw [p.old 3 rfl]; exact n3), p.ke 5 rfl i5, p.ke 11 rfl i11, p.ke 12 rfl i12, p.ke 13 rfl i13, p.ke 18 rfl i18, p.ke 19 rfl i19, p.ke 20 rfl i20, p.ou 0 21 rfl, trivial⟩)
    rintro a k ⟨⟨hg, hs, hd⟩, i3, n3, i5, i11, i12, i13, i18, i19, i20, i21, _⟩
    refine wp_seq ?_
    refine wp_cond_split (isBool i21) (fun hc1381 => ?_) (fun hc1381 => ?_)
    ·rw [if_pos hc1381] at hr
     refine wp_skip ?_
     refine wp_seq ?_
     refine wp_block ?_
     refine wp_seq ?_
     obtain ⟨x1372_0, hx1372_0, hr⟩ := bind_some hr
     refine cut (fun a' k' => Bs noF k0 36 a' k' ∧ IsOwn 0 32 s1367.1 (a'.get 3) k' ∧ Lo k0 (obF (a'.get 3)) ∧ (IsRef x1365_0) (a'.get 5) k' ∧ (IsRef x1372_0) (a'.get 7) k' ∧ (IsV s_) (a'.get 11) k' ∧ (IsL s_) (a'.get 12) k' ∧ (IsV s1360.2) (a'.get 13) k' ∧ (IsV x1365_0.Area) (a'.get 18) k' ∧ (IsI (x1365_0.Area.length : Int)) (a'.get 19) k' ∧ (IsV s1367.2) (a'.get 20) k' ∧ True) ?_ hQ ?_
     ·intro Q1379 hQQ1379 hp1380
      refine gS 3 (_ :: _ :: ⟨some (IsBox k.w.heap.size (⟨0, 0, 0, 0⟩ : Rect)), []⟩ :: []) hs (by kernel_rfl) ⟨o1 [(18, none), (20, none)] rfl fun _ _ h n => ok_indexAddr rfl Try.underlying44 ty30 (IsV.rd (up i18 h n.1)) (up i20 h n.2.1) hx1372_0, o1 [(22, some 0)] rfl fun _ _ h n => ok_load rfl ty30 n.1, ob1 rfl fun _ _ h n => ok_alloc _ h.size rfl z30, trivial⟩ hQQ1379 fun b q p => ?_
      have hgq := hg.then p.grow
      have hsb := p.size.trans hs
      have hdb := p.defers.trans hd
      have j3 := p.ke 3 rfl i3
      have y3 : Lo k0 (obF (b.get 3)) := by rw [p.old 3 rfl]; exact n3
      have j5 := p.ke 5 rfl i5
      obtain ⟨b7, j7, x7, z7⟩ : (IsBox k.w.heap.size (⟨0, 0, 0, 0⟩ : Rect)) (b.get 7) q := p.ou 2 7 rfl
      replace x7 : Lo k (Eq b7) := Lo.eq x7
      have y7 : Lo k0 (Eq b7) := x7.chg hg
      have j11 := p.ke 11 rfl i11
      have j12 := p.ke 12 rfl i12
      have j13 := p.ke 13 rfl i13
      have j18 := p.ke 18 rfl i18
      have j19 := p.ke 19 rfl i19
      have j20 := p.ke 20 rfl i20
      have j23 : (IsV x1372_0) (b.get 23) q := p.ou 1 23 rfl
      have w3_7 : Apart (obF (b.get 3)) (Eq b7) := Apart.new (by rw [p.old 3 rfl]; exact i3.ltF) x7
      have hns := z7.nshF
      refine tail_storeB (i := 3) rfl rfl rfl rfl szf30 (Upd.self (α := Rect)) j7 z7 j23 fun q2 hch hz => ?_
      replace hgq := hgq.step hch y7.wr
      have hle := hch.le hns
      replace j3 := j3.keep hch w3_7 hns
      replace j5 := Pers.pers hle j5
      replace j11 := Pers.pers hle j11
      replace j12 := Pers.pers hle j12
      replace j13 := Pers.pers hle j13
      replace j18 := Pers.pers hle j18
      replace j19 := Pers.pers hle j19
      replace j20 := Pers.pers hle j20
      replace j23 := Pers.pers hle j23
      replace z7 := hz
      clear hns hle hch
      obtain ⟨q, hqq⟩ : ∃ q, q = q2 := ⟨q2, rfl⟩
      subst hqq
      obtain ⟨q2, hsh, jn⟩ := z7.give
      replace j3 := j3.handed hsh w3_7
      replace j5 := Pers.pers hsh.le j5
      replace j11 := Pers.pers hsh.le j11
      replace j12 := Pers.pers hsh.le j12
      replace j13 := Pers.pers hsh.le j13
      replace j18 := Pers.pers hsh.le j18
      replace j19 := Pers.pers hsh.le j19
      replace j20 := Pers.pers hsh.le j20
      rw [← j7] at jn
      replace j7 := jn
      replace hgq := hgq.hand hsh y7.wr
      rw [← hsh.w]
      clear hsh
      obtain ⟨q, hqq⟩ : ∃ q, q = q2 := ⟨q2, rfl⟩
      subst hqq
      exact tail_done (k := q) (hp1380 _ _ ⟨⟨hgq, hsb, hdb⟩, j3, y3, j5, j7, j11, j12, j13, j18, j19, j20, trivial⟩)
     rintro a k ⟨⟨hg, hs, hd⟩, i3, n3, i5, i7, i11, i12, i13, i18, i19, i20, _⟩
     obtain ⟨x1373_8, hx1373_8, hr⟩ := bind_some hr
     refine cut (fun a' k' => Bs noF k0 36 a' k' ∧ IsOwn 0 32 x1373_8 (a'.get 3) k' ∧ Lo k0 (obF (a'.get 3)) ∧ (IsRef x1365_0) (a'.get 5) k' ∧ (IsV s_) (a'.get 11) k' ∧ (IsL s_) (a'.get 12) k' ∧ (IsV s1360.2) (a'.get 13) k' ∧ (IsV x1365_0.Area) (a'.get 18) k' ∧ (IsI (x1365_0.Area.length : Int)) (a'.get 19) k' ∧ (IsV s1367.2) (a'.get 20) k' ∧ True) ?_ hQ ?_
     ·intro Q1377 hQQ1377 hp1378
      refine gS 8 (⟨some (OwnAt (a.get 3) 0 32 s1367.1), [(3, none)]⟩ :: _ :: _ :: _ :: _ :: _ :: ⟨some (IsV (⟨x1372_0, x1365_0.Z0, x1365_0.Z1⟩ : Box)), [(25, some 1), (27, some 3), (29, some 5)]⟩ :: ⟨some (IsV (α := (List Box)) ([(⟨x1372_0, x1365_0.Z0, x1365_0.Z1⟩ : Box)])), [(30, some 6)]⟩ :: []) hs (by kernel_rfl) ⟨ob1 rfl fun _ _ h n => ok_moveOA (.inl rfl) (ownAt n.1 (up i3 h n.1)), o1 [(7, none)] rfl fun _ _ h n => ok_load rfl ty30 ((up i7 h n.1)).ptr, o1 [(5, none)] rfl fun _ _ h n => ok_fieldAddr rfl fo47_0 (at_Slab_0 _) ((up i5 h n.1)).ptr, o1 [(26, some 2)] rfl fun _ _ h n => ok_load rfl ty3 n.1, o1 [(5, none)] rfl fun _ _ h n => ok_fieldAddr rfl fo47_1 (at_Slab_1 _) ((up i5 h n.1)).ptr, o1 [(28, some 4)] rfl fun _ _ h n => ok_load rfl ty3 n.1, ob1 rfl fun _ _ h n => ok_build rfl (bld32_0_1_2 n.1 n.2.1 n.2.2.1), ob1 rfl fun _ _ h n => ok_buildSlice rfl Try.underlying22 eo32 rfl (by decide) (by decide) ⟨rfl, n.1, trivial⟩, trivial⟩ hQQ1377 fun b q p => ?_
      have hgq := hg.then p.grow
      have hsb := p.size.trans hs
      have hdb := p.defers.trans hd
      have j5 := p.ke 5 rfl i5
      have j11 := p.ke 11 rfl i11
      have j12 := p.ke 12 rfl i12
      have j13 := p.ke 13 rfl i13
      have j18 := p.ke 18 rfl i18
      have j19 := p.ke 19 rfl i19
      have j20 := p.ke 20 rfl i20
      have e24 : b.get 24 = a.get 3 := (p.ou 0 24 rfl).1
      have j24 : IsOwn 0 32 s1367.1 (b.get 24) q := (p.ou 0 24 rfl).2
      have y24 : Lo k0 (obF (b.get 24)) := by rw [e24]; exact n3
      have j31 : (IsV (α := (List Box)) ([(⟨x1372_0, x1365_0.Z0, x1365_0.Z1⟩ : Box)])) (b.get 31) q := p.ou 7 31 rfl
      have hns := j24.nshF
      refine tail_appendS (i := 8) (d := 32) rfl rfl rfl rfl (by rw [hsb]; decide) (e := 32) Try.underlying22 eo32 j24 (IsV.rd j31) hx1373_8 fun b2 q2 hsz hdf hoth hch hown hob => ?_
      have hle := hch.le hns
      have yn : Lo k0 (obF (b2.get 32)) := y24.app hgq hob
      replace j5 := Pers.pers hle j5
      replace j11 := Pers.pers hle j11
      replace j12 := Pers.pers hle j12
      replace j13 := Pers.pers hle j13
      replace j18 := Pers.pers hle j18
      replace j19 := Pers.pers hle j19
      replace j20 := Pers.pers hle j20
      replace j31 := Pers.pers hle j31
      replace hgq := hgq.step hch y24.wr
      rw [← hoth 5 (by decide)] at j5
      rw [← hoth 11 (by decide)] at j11
      rw [← hoth 12 (by decide)] at j12
      rw [← hoth 13 (by decide)] at j13
      rw [← hoth 18 (by decide)] at j18
      rw [← hoth 19 (by decide)] at j19
      rw [← hoth 20 (by decide)] at j20
      rw [← hoth 31 (by decide)] at j31
      have j32 := hown
      have y32 := yn
      replace hsb := hsz.trans hsb
      replace hdb := hdf.trans hdb
      clear hle hch hown hob hns yn hsz hdf hoth
      obtain ⟨b, hbb⟩ : ∃ b, b = b2 := ⟨b2, rfl⟩
      subst hbb
      obtain ⟨q, hqq⟩ : ∃ q, q = q2 := ⟨q2, rfl⟩
      subst hqq
      refine tail_assign (i := 9) (d := 3) rfl rfl (.inl rfl) rfl (by rw [hsb]; decide) fun b2 hsz hdf hnew hoth => ?_
      have jn : (IsOwn 0 32 x1373_8) (b2.get 3) q := by rw [hnew]; exact j32
      have yn : Lo k0 (obF (b2.get 3)) := by rw [hnew]; exact y32
      rw [← hoth 5 (by decide)] at j5
      rw [← hoth 11 (by decide)] at j11
      rw [← hoth 12 (by decide)] at j12
      rw [← hoth 13 (by decide)] at j13
      rw [← hoth 18 (by decide)] at j18
      rw [← hoth 19 (by decide)] at j19
      rw [← hoth 20 (by decide)] at j20
      rw [← hoth 31 (by decide)] at j31
      have j3 := jn
      have y3 := yn
      replace hsb := hsz.trans hsb
      replace hdb := hdf.trans hdb
      clear hsz hdf hoth
      obtain ⟨b, hbb⟩ : ∃ b, b = b2 := ⟨b2, rfl⟩
      subst hbb
      exact tail_done (k := q) (hp1378 _ _ ⟨⟨hgq, hsb, hdb⟩, j3, y3, j5, j11, j12, j13, j18, j19, j20, trivial⟩)
     rintro a k ⟨⟨hg, hs, hd⟩, i3, n3, i5, i11, i12, i13, i18, i19, i20, _⟩
     obtain ⟨x1374_0, hx1374_0, hr⟩ := bind_some hr
     refine cut (fun a' k' => Bs noF k0 36 a' k' ∧ IsOwn 0 32 x1373_8 (a'.get 3) k' ∧ Lo k0 (obF (a'.get 3)) ∧ (IsRef x1365_0) (a'.get 5) k' ∧ (IsV s_) (a'.get 11) k' ∧ (IsL s_) (a'.get 12) k' ∧ (IsV s1360.2) (a'.get 13) k' ∧ (IsV x1365_0.Area) (a'.get 18) k' ∧ (IsI (x1365_0.Area.length : Int)) (a'.get 19) k' ∧ (IsV x1374_0) (a'.get 20) k' ∧ True) ?_ hQ ?_
     ·intro Q1375 hQQ1375 hp1376
      refine gS 2 (_ :: _ :: []) hs (by kernel_rfl) ⟨o1 [(20, none)] rfl fun _ _ h n => ok_add rfl (up i20 h n.1) (cI rfl) hx1374_0, cm 0 rfl rfl, trivial⟩ hQQ1375 fun b q p => ?_
      exact tail_done (k := q) (hp1376 _ _ ⟨Bs.post ⟨hg, hs, hd⟩ p, p.ke 3 rfl i3, (by rw [p.old 3 rfl]; exact n3), p.ke 5 rfl i5, p.ke 11 rfl i11, p.ke 12 rfl i12, p.ke 13 rfl i13, p.ke 18 rfl i18, p.ke 19 rfl i19, p.ou 1 20 rfl, trivial⟩)
     rintro a k ⟨⟨hg, hs, hd⟩, i3, n3, i5, i11, i12, i13, i18, i19, i20, _⟩
     exact hgo1368 _ _ _ (Option.some.inj hr).symm ⟨⟨hg, hs, hd⟩, i3, n3, i5, i11, i12, i13, i18, i19, i20, trivial⟩
    rw [if_neg (by rw [hc1381]; decide)] at hr
    refine wp_exit ?_
    exact hex1369 _ _ _ _ (Option.some.inj hr).symm ⟨rfl, ⟨hg, hs, hd⟩, i3, n3, i11, i12, i13, trivial⟩
   ·rintro r1389 a k rfl hR
    dsimp only at hr
    exact hret1363 _ _ _ (Option.some.inj hr).symm hR
   ·rintro _ _ _ rfl _
    simp at hr
   clear hf1384
   rintro _ s1385 a k rfl ⟨rfl, ⟨hg, hs, hd⟩, i3, n3, i11, i12, i13, _⟩
   dsimp only at hr
   obtain ⟨x1386_0, hx1386_0, hr⟩ := bind_some hr
   refine cut (fun a' k' => Bs noF k0 36 a' k' ∧ IsOwn 0 32 s1385.1 (a'.get 3) k' ∧ Lo k0 (obF (a'.get 3)) ∧ (IsV s_) (a'.get 11) k' ∧ (IsL s_) (a'.get 12) k' ∧ (IsV x1386_0) (a'.get 13) k' ∧ True) ?_ hQ ?_
   ·intro Q1387 hQQ1387 hp1388
    refine gS 2 (_ :: _ :: []) hs (by kernel_rfl) ⟨o1 [(13, none)] rfl fun _ _ h n => ok_add rfl (up i13 h n.1) (cI rfl) hx1386_0, cm 0 rfl rfl, trivial⟩ hQQ1387 fun b q p => ?_
    exact tail_done (k := q) (hp1388 _ _ ⟨Bs.post ⟨hg, hs, hd⟩ p, p.ke 3 rfl i3, (by rw [p.old 3 rfl]; exact n3), p.ke 11 rfl i11, p.ke 12 rfl i12, p.ou 1 13 rfl, trivial⟩)
   rintro a k ⟨⟨hg, hs, hd⟩, i3, n3, i11, i12, i13, _⟩
   exact hgo1361 _ _ _ (Option.some.inj hr).symm ⟨⟨hg, hs, hd⟩, i3, n3, i11, i12, i13, trivial⟩
  rw [if_neg (by rw [hc1396]; decide)] at hr
  refine wp_exit ?_
  obtain ⟨kk, sh1395, ii3⟩ := i3.give
  replace i3 := ii3
  replace hg := hg.hand sh1395 n3.wr
  rw [← sh1395.w]
  clear sh1395
  obtain ⟨k, hkk⟩ : ∃ k, k = kk := ⟨kk, rfl⟩
  subst hkk
  exact hex1362 _ _ _ _ (Option.some.inj hr).symm ⟨rfl, ⟨hg, hs, hd⟩, i3, trivial⟩
 ·rintro r1404 a k rfl hR
  dsimp only at hr
  obtain rfl := Option.some.inj hr
  exact hR
 ·rintro _ _ _ rfl _
  simp at hr
 clear hf1399
 rintro _ s1400 a k rfl ⟨rfl, ⟨hg, hs, hd⟩, i3, _⟩
 dsimp only at hr
 refine stepL 2 (_ :: _ :: []) rfl ⟨hg, hs, hd⟩ (by kernel_rfl) ⟨mu rfl i3, cp 0 rfl rfl, trivial⟩ [⟨_, _⟩] (fun b q p => ⟨p.ou 1 2 rfl, trivial⟩) ?_
 rintro a k ⟨⟨hg, hs, hd⟩, i2, _⟩
 refine wp_ret ?_
 obtain rfl := Option.some.inj hr
 exact retC1 rfl hd hg i2
def rect_checked (r_ : Rect) : Option (Rect × Bool) :=
 (rect_Right r_).bind fun x1416_1 =>
 if x1416_1 then
  some (r_, true)
 else
  some ((⟨0, 0, 0, 0⟩ : Rect), false)
theorem rect_checked_ok {k0 : K} {v0 : Value} {r_ : Rect} {r : Rect × Bool} (i0 : (IsV r_) v0 k0) (hr : rect_checked r_ = some r) :
  Calls Try.prog 54 #[v0] k0.w (Ret k0 (IsTup2 (IsV r.1) (IsV r.2))) := by
 unfold rect_checked at hr
 refine Ret.ofC ?_
 refine enterK Try.func54 rfl Try.ntmps54 (show 1 ≤ 8 by decide) fun a k hk0 hs hd ha => ?_
 obtain ⟨e0, _⟩ := ha
 replace i0 : (IsV r_) (a.get 0) k := by rw [e0, hk0]; exact i0
 have hQ : Gb.LetsOut (bodyPost Try.prog Try.f54 (RetC noF k0 (IsTup2 (IsV r.1) (IsV r.2)))) := letsOutC
 have hg : Chg noF k0 k := by rw [hk0]; exact Chg.refl _ k0
 refine cutS (fun a' k' => Bs noF k0 8 a' k' ∧ (IsRef r_) (a'.get 1) k' ∧ (∃ b2, a'.get 2 = .pointer (some ⟨b2, 0, none⟩) ∧ Lo k0 (Eq b2) ∧ Gb.Box b2 (⟨0, 0, 0, 0⟩ : Rect) k' ∧ True)) ?_ ?_
 ·intro Q1426 hQQ1426 hp1427
  refine gS 3 (⟨some (IsRef r_), [(0, none)]⟩ :: ⟨some (IsBox k.w.heap.size (⟨0, 0, 0, 0⟩ : Rect)), []⟩ :: ⟨some (IsV false), []⟩ :: []) hs (by kernel_rfl) ⟨ob1 rfl fun _ _ h n => ok_boxR rfl (up i0 h n.1), ob1 rfl fun _ _ h n => ok_alloc _ h.size rfl z30, ob1 rfl fun _ _ h n => ok_assign rfl (isV_bool.2 rfl), trivial⟩ hQQ1426 fun b q p => ?_
  have hgq := hg.then p.grow
  have hsb := p.size.trans hs
  have hdb := p.defers.trans hd
  have j1 : (IsRef r_) (b.get 1) q := p.ou 0 1 rfl
  obtain ⟨b2, j2, x2, z2⟩ : (IsBox k.w.heap.size (⟨0, 0, 0, 0⟩ : Rect)) (b.get 2) q := p.ou 1 2 rfl
  replace x2 : Lo k (Eq b2) := Lo.eq x2
  have y2 : Lo k0 (Eq b2) := x2.chg hg
  exact tail_done (k := q) (hp1427 _ _ ⟨⟨hgq, hsb, hdb⟩, j1, b2, j2, y2, z2, trivial⟩)
 rintro a k ⟨⟨hg, hs, hd⟩, i1, b2, i2, n2, c2, _⟩
 refine wp_seq ?_
 refine wp_seq ?_
 obtain ⟨x1416_1, hx1416_1, hr⟩ := bind_some hr
 refine cut (fun a' k' => Bs noF k0 8 a' k' ∧ (IsRef r_) (a'.get 1) k' ∧ a'.get 2 = .pointer (some ⟨b2, 0, none⟩) ∧ Lo k0 (Eq b2) ∧ Gb.Box b2 (⟨0, 0, 0, 0⟩ : Rect) k' ∧ (IsV x1416_1) (a'.get 5) k' ∧ True) ?_ hQ ?_
 ·intro Q1424 hQQ1424 hp1425
  refine gS 2 (_ :: _ :: []) hs (by kernel_rfl) ⟨o1 [(1, none)] rfl fun _ _ h n => ok_load rfl ty30 ((up i1 h n.1)).ptr, o1 [(4, some 0)] rfl fun _ _ h n => ok_call rfl Try.call29 (rect_Right_ok n.1 hx1416_1), trivial⟩ hQQ1424 fun b q p => ?_
  exact tail_done (k := q) (hp1425 _ _ ⟨Bs.post ⟨hg, hs, hd⟩ p, p.ke 1 rfl i1, upE i2 (p.old 2 rfl), n2, Gb.Box.grow c2 p.grow, p.ou 1 5 rfl, trivial⟩)
 rintro a k ⟨⟨hg, hs, hd⟩, i1, i2, n2, c2, i5, _⟩
 refine wp_cond_split (isBool i5) (fun hc1423 => ?_) (fun hc1423 => ?_)
 ·rw [if_pos hc1423] at hr
  refine cutS (fun a' k' => Bs noF k0 8 a' k' ∧ a'.get 2 = .pointer (some ⟨b2, 0, none⟩) ∧ Lo k0 (Eq b2) ∧ Gb.Box b2 r_ k' ∧ (IsV true) (a'.get 3) k' ∧ True) ?_ ?_
  ·intro Q1418 hQQ1418 hp1419
   refine gS 1 (_ :: []) hs (by kernel_rfl) ⟨o1 [(1, none)] rfl fun _ _ h n => ok_load rfl ty30 ((up i1 h n.1)).ptr, trivial⟩ hQQ1418 fun b q p => ?_
   have hgq := hg.then p.grow
   have hsb := p.size.trans hs
   have hdb := p.defers.trans hd
   have j2 := upE i2 (p.old 2 rfl)
   have z2 := Gb.Box.grow c2 p.grow
   have y2 := n2
   have j6 : (IsV r_) (b.get 6) q := p.ou 0 6 rfl
   have hns := z2.nshF
   refine tail_storeB (i := 1) rfl rfl rfl rfl szf30 (Upd.self (α := Rect)) j2 z2 j6 fun q2 hch hz => ?_
   replace hgq := hgq.step hch y2.wr
   have hle := hch.le hns
   replace j6 := Pers.pers hle j6
   replace z2 := hz
   clear hns hle hch
   obtain ⟨q, hqq⟩ : ∃ q, q = q2 := ⟨q2, rfl⟩
   subst hqq
   refine tail_assign (i := 2) (d := 3) rfl rfl (.inl rfl) rfl (by rw [hsb]; decide) fun b2 hsz hdf hnew hoth => ?_
   have jn : (IsV true) (b2.get 3) q := by rw [hnew]; exact (isV_bool.2 rfl)
   rw [← hoth 2 (by decide)] at j2
   rw [← hoth 6 (by decide)] at j6
   have j3 := jn
   replace hsb := hsz.trans hsb
   replace hdb := hdf.trans hdb
   clear hsz hdf hoth
   obtain ⟨b, hbb⟩ : ∃ b, b = b2 := ⟨b2, rfl⟩
   subst hbb
   exact tail_done (k := q) (hp1419 _ _ ⟨⟨hgq, hsb, hdb⟩, j2, y2, z2, j3, trivial⟩)
  rintro a k ⟨⟨hg, hs, hd⟩, i2, n2, c2, i3, _⟩
  refine wp_ret ?_
  obtain rfl := Option.some.inj hr
  exact retC2 rfl hd hg (resCell ty30 i2 c2) i3
 rw [if_neg (by rw [hc1423]; decide)] at hr
 refine wp_skip ?_
 refine cutS (fun a' k' => Bs noF k0 8 a' k' ∧ a'.get 2 = .pointer (some ⟨b2, 0, none⟩) ∧ Lo k0 (Eq b2) ∧ Gb.Box b2 (⟨0, 0, 0, 0⟩ : Rect) k' ∧ (IsV false) (a'.get 3) k' ∧ True) ?_ ?_
 ·intro Q1421 hQQ1421 hp1422
  refine gS 1 (⟨some (IsV (⟨0, 0, 0, 0⟩ : Rect)), []⟩ :: []) hs (by kernel_rfl) ⟨ob1 rfl fun _ _ h n => ok_build rfl (bld30_ ), trivial⟩ hQQ1421 fun b q p => ?_
  have hgq := hg.then p.grow
  have hsb := p.size.trans hs
  have hdb := p.defers.trans hd
  have j2 := upE i2 (p.old 2 rfl)
  have z2 := Gb.Box.grow c2 p.grow
  have y2 := n2
  have j7 : (IsV (⟨0, 0, 0, 0⟩ : Rect)) (b.get 7) q := p.ou 0 7 rfl
  have hns := z2.nshF
  refine tail_storeB (i := 1) rfl rfl rfl rfl szf30 (Upd.self (α := Rect)) j2 z2 j7 fun q2 hch hz => ?_
  replace hgq := hgq.step hch y2.wr
  have hle := hch.le hns
  replace j7 := Pers.pers hle j7
  replace z2 := hz
  clear hns hle hch
  obtain ⟨q, hqq⟩ : ∃ q, q = q2 := ⟨q2, rfl⟩
  subst hqq
  refine tail_assign (i := 2) (d := 3) rfl rfl (.inl rfl) rfl (by rw [hsb]; decide) fun b2 hsz hdf hnew hoth => ?_
  have jn : (IsV false) (b2.get 3) q := by rw [hnew]; exact (isV_bool.2 rfl)
  rw [← hoth 2 (by decide)] at j2
  rw [← hoth 7 (by decide)] at j7
  have j3 := jn
  replace hsb := hsz.trans hsb
  replace hdb := hdf.trans hdb
  clear hsz hdf hoth
  obtain ⟨b, hbb⟩ : ∃ b, b = b2 := ⟨b2, rfl⟩
  subst hbb
  exact tail_done (k := q) (hp1422 _ _ ⟨⟨hgq, hsb, hdb⟩, j2, y2, z2, j3, trivial⟩)
 rintro a k ⟨⟨hg, hs, hd⟩, i2, n2, c2, i3, _⟩
 refine wp_ret ?_
 obtain rfl := Option.some.inj hr
 exact retC2 rfl hd hg (resCell ty30 i2 c2) i3
def rect_Area (r_ : Rect) : Option (Int) :=
 (rect_checked r_).bind fun x1429_1 =>
 (subI x1429_1.1.X1 x1429_1.1.X0).bind fun x1430_4 =>
 (subI x1429_1.1.Y1 x1429_1.1.Y0).bind fun x1430_9 =>
 (mulI x1430_4 x1430_9).bind fun x1430_10 =>
 some x1430_10
theorem rect_Area_ok {k0 : K} {v0 : Value} {r_ : Rect} {r : Int} (i0 : (IsV r_) v0 k0) (hr : rect_Area r_ = some r) :
  Calls Try.prog 36 #[v0] k0.w (Ret k0 (IsV r)) := by
 unfold rect_Area at hr
 refine Ret.ofC ?_
 refine enterK Try.func36 rfl Try.ntmps36 (show 1 ≤ 19 by decide) fun a k hk0 hs hd ha => ?_
 obtain ⟨e0, _⟩ := ha
 replace i0 : (IsV r_) (a.get 0) k := by rw [e0, hk0]; exact i0
 have hQ : Gb.LetsOut (bodyPost Try.prog Try.f36 (RetC noF k0 (IsV r))) := letsOutC
 have hg : Chg noF k0 k := by rw [hk0]; exact Chg.refl _ k0
 refine cutS (fun a' k' => Bs noF k0 19 a' k' ∧ (∃ b1, a'.get 1 = .pointer (some ⟨b1, 0, none⟩) ∧ Lo k0 (Eq b1) ∧ Gb.Box b1 r_ k' ∧ True)) ?_ ?_
 ·intro Q1435 hQQ1435 hp1436
  refine gS 2 (⟨some (IsBox k.w.heap.size r_), [(0, none)]⟩ :: ⟨some (IsI 0), []⟩ :: []) hs (by kernel_rfl) ⟨ob1 rfl fun _ _ h n => ok_box _ h.size rfl (up i0 h n.1), aI rfl rfl, trivial⟩ hQQ1435 fun b q p => ?_
  have hgq := hg.then p.grow
  have hsb := p.size.trans hs
  have hdb := p.defers.trans hd
  obtain ⟨b1, j1, x1, z1⟩ : (IsBox k.w.heap.size r_) (b.get 1) q := p.ou 0 1 rfl
  replace x1 : Lo k (Eq b1) := Lo.eq x1
  have y1 : Lo k0 (Eq b1) := x1.chg hg
  exact tail_done (k := q) (hp1436 _ _ ⟨⟨hgq, hsb, hdb⟩, b1, j1, y1, z1, trivial⟩)
 rintro a k ⟨⟨hg, hs, hd⟩, b1, i1, n1, c1, _⟩
 refine wp_seq ?_
 obtain ⟨x1429_1, hx1429_1, hr⟩ := bind_some hr
 refine cut (fun a' k' => Bs noF k0 19 a' k' ∧ a'.get 1 = .pointer (some ⟨b1, 0, none⟩) ∧ Lo k0 (Eq b1) ∧ Gb.Box b1 x1429_1.1 k' ∧ True) ?_ hQ ?_
 ·intro Q1433 hQQ1433 hp1434
  refine gS 5 (_ :: _ :: _ :: _ :: _ :: []) hs (by kernel_rfl) ⟨o1 [(1, none)] rfl fun _ _ h n => ok_load rfl ty30 ⟨_, (upE i1 n.1), (c1.grow h).at⟩, o1 [(4, some 0)] rfl fun _ _ h n => ok_call rfl Try.call54 (rect_checked_ok n.1 hx1429_1), cm 1 rfl rfl, o1 [(3, some 2)] rfl fun _ _ h n => ok_ext2_0 rfl n.1, o1 [(3, some 2)] rfl fun _ _ h n => ok_ext2_1 rfl n.1, trivial⟩ hQQ1433 fun b q p => ?_
  have hgq := hg.then p.grow
  have hsb := p.size.trans hs
  have hdb := p.defers.trans hd
  have j1 := upE i1 (p.old 1 rfl)
  have z1 := Gb.Box.grow c1 p.grow
  have y1 := n1
  have j6 : (IsV x1429_1.1) (b.get 6) q := p.ou 3 6 rfl
  have hns := z1.nshF
  refine tail_storeB (i := 5) rfl rfl rfl rfl szf30 (Upd.self (α := Rect)) j1 z1 j6 fun q2 hch hz => ?_
  replace hgq := hgq.step hch y1.wr
  have hle := hch.le hns
  replace j6 := Pers.pers hle j6
  replace z1 := hz
  clear hns hle hch
  obtain ⟨q, hqq⟩ : ∃ q, q = q2 := ⟨q2, rfl⟩
  subst hqq
  exact tail_done (k := q) (hp1434 _ _ ⟨⟨hgq, hsb, hdb⟩, j1, y1, z1, trivial⟩)
 rintro a k ⟨⟨hg, hs, hd⟩, i1, n1, c1, _⟩
 refine wp_seq ?_
 obtain ⟨x1430_4, hx1430_4, hr⟩ := bind_some hr
 obtain ⟨x1430_9, hx1430_9, hr⟩ := bind_some hr
 obtain ⟨x1430_10, hx1430_10, hr⟩ := bind_some hr
 refine cut (fun a' k' => Bs noF k0 19 a' k' ∧ (IsV x1430_10) (a'.get 2) k' ∧ True) ?_ hQ ?_
 ·intro Q1431 hQQ1431 hp1432
  refine gS 12 (_ :: _ :: _ :: _ :: _ :: _ :: _ :: _ :: _ :: _ :: _ :: _ :: []) hs (by kernel_rfl) ⟨o1 [(1, none)] rfl fun _ _ h n => ok_fieldAddr rfl fo30_2 (at_Rect_2 _) ⟨_, (upE i1 n.1), (c1.grow h).at⟩, o1 [(8, some 0)] rfl fun _ _ h n => ok_load rfl ty3 n.1, o1 [(1, none)] rfl fun _ _ h n => ok_fieldAddr rfl fo30_0 (at_Rect_0 _) ⟨_, (upE i1 n.1), (c1.grow h).at⟩, o1 [(10, some 2)] rfl fun _ _ h n => ok_load rfl ty3 n.1, o1 [(9, some 1), (11, some 3)] rfl fun _ _ h n => ok_sub rfl n.1 n.2.1 hx1430_4, o1 [(1, none)] rfl fun _ _ h n => ok_fieldAddr rfl fo30_3 (at_Rect_3 _) ⟨_, (upE i1 n.1), (c1.grow h).at⟩, o1 [(13, some 5)] rfl fun _ _ h n => ok_load rfl ty3 n.1, o1 [(1, none)] rfl fun _ _ h n => ok_fieldAddr rfl fo30_1 (at_Rect_1 _) ⟨_, (upE i1 n.1), (c1.grow h).at⟩, o1 [(15, some 7)] rfl fun _ _ h n => ok_load rfl ty3 n.1, o1 [(14, some 6), (16, some 8)] rfl fun _ _ h n => ok_sub rfl n.1 n.2.1 hx1430_9, o1 [(12, some 4), (17, some 9)] rfl fun _ _ h n => ok_mul rfl n.1 n.2.1 hx1430_10, cp 10 rfl rfl, trivial⟩ hQQ1431 fun b q p => ?_
  exact tail_done (k := q) (hp1432 _ _ ⟨Bs.post ⟨hg, hs, hd⟩ p, p.ou 11 2 rfl, trivial⟩)
 rintro a k ⟨⟨hg, hs, hd⟩, i2, _⟩
 refine wp_ret ?_
 obtain rfl := Option.some.inj hr
 exact retC1 rfl hd hg i2
def solid_Volume_L0 (x1439_1 : (List Box)) (s1440 : Int × Int) : Option (Flow (Int × Int) (Int)) :=
 if (decide (s1440.2 < (x1439_1.length : Int))) then
  (getI x1439_1 s1440.2).bind fun x1445_0 =>
  (subI x1445_0.Z1 x1445_0.Z0).bind fun x1446_5 =>
  (rect_Area x1445_0.Base).bind fun x1446_8 =>
  (mulI x1446_5 x1446_8).bind fun x1446_9 =>
  (addI s1440.1 x1446_9).bind fun x1446_10 =>
  (addI s1440.2 1).bind fun x1447_0 =>
  some (.go (x1446_10, x1447_0))
 else
  some (.ex 0 (s1440.1, s1440.2))
def solid_Volume (s_ : (List Slab)) : Option (Int) :=
 (solid_Boxes s_).bind fun x1439_1 =>
 (iterL (solid_Volume_L0 x1439_1) (x1439_1.length + 1) (0, 0)).bind fun f1457 => match f1457 with
  | .go _ => none
  | .ex _ s1458 =>
   some s1458.1
  | .ret r1462 => some r1462
theorem solid_Volume_ok {k0 : K} {v0 : Value} {s_ : (List Slab)} {r : Int} (i0 : (IsV s_) v0 k0) (hr : solid_Volume s_ = some r) :
  Calls Try.prog 12 #[v0] k0.w (Ret k0 (IsV r)) := by
 unfold solid_Volume at hr
 refine Ret.ofC ?_
 refine enterK Try.func12 rfl Try.ntmps12 (show 1 ≤ 26 by decide) fun a k hk0 hs hd ha => ?_
 obtain ⟨e0, _⟩ := ha
 replace i0 : (IsV s_) (a.get 0) k := by rw [e0, hk0]; exact i0
 have hQ : Gb.LetsOut (bodyPost Try.prog Try.f12 (RetC noF k0 (IsV r))) := letsOutC
 have hg : Chg noF k0 k := by rw [hk0]; exact Chg.refl _ k0
 refine stepL 1 (⟨some (IsI 0), []⟩ :: []) rfl ⟨hg, hs, hd⟩ (by kernel_rfl) ⟨aI rfl rfl, trivial⟩ [⟨_, _⟩] (fun b q p => ⟨p.ke 0 rfl i0, trivial⟩) ?_
 rintro a k ⟨⟨hg, hs, hd⟩, i0, _⟩
 refine stepL 1 (⟨some (IsI 0), []⟩ :: []) rfl ⟨hg, hs, hd⟩ (by kernel_rfl) ⟨aI rfl rfl, trivial⟩ [⟨_, _⟩, ⟨_, _⟩] (fun b q p => ⟨p.ke 0 rfl i0, p.ou 0 3 rfl, trivial⟩) ?_
 rintro a k ⟨⟨hg, hs, hd⟩, i0, i3, _⟩
 refine wp_seq ?_
 refine wp_seq ?_
 obtain ⟨x1439_1, hx1439_1, hr⟩ := bind_some hr
 refine cut (fun a' k' => Bs noF k0 26 a' k' ∧ (IsI 0) (a'.get 3) k' ∧ (IsV x1439_1) (a'.get 7) k' ∧ (IsL x1439_1) (a'.get 8) k' ∧ (IsI 0) (a'.get 9) k' ∧ True) ?_ hQ ?_
 ·intro Q1464 hQQ1464 hp1465
  refine gS 4 (_ :: _ :: _ :: ⟨some (IsI 0), []⟩ :: []) hs (by kernel_rfl) ⟨mu rfl i0, o1 [(6, some 0)] rfl fun _ _ h n => ok_call rfl Try.call10 (solid_Boxes_ok n.1 hx1439_1), o1 [(7, some 1)] rfl fun _ _ h n => ok_len rfl rfl Try.underlying22 (IsV.rd n.1), ob1 rfl fun _ _ h n => ok_move rfl (cI rfl), trivial⟩ hQQ1464 fun b q p => ?_
  exact tail_done (k := q) (hp1465 _ _ ⟨Bs.post ⟨hg, hs, hd⟩ p, p.ke 3 rfl i3, p.ou 1 7 rfl, p.ou 2 8 rfl, p.ou 3 9 rfl, trivial⟩)
 rintro a k ⟨⟨hg, hs, hd⟩, i3, i7, i8, i9, _⟩
 refine wp_block ?_
 obtain ⟨f1457, hf1457, hr⟩ := bind_some hr
 refine cutFe f1457 (fun s' a' k' => Bs noF k0 26 a' k' ∧ (IsV s'.1) (a'.get 3) k' ∧ (IsV x1439_1) (a'.get 7) k' ∧ (IsL x1439_1) (a'.get 8) k' ∧ (IsV s'.2) (a'.get 9) k' ∧ True) (fun i' s' a' k' => (i' = 0 ∧ Bs noF k0 26 a' k' ∧ (IsV s'.1) (a'.get 3) k' ∧ True)) (fun r' a' k' => bodyPost Try.prog Try.f12 (RetC noF k0 (IsV r')) .ret a' k'.w) ?_ hQ ?_ ?_ ?_
 ·intro Q1463 hQQ1463 hgo hex hret
  refine sim_loop ?_ _ _ _ _ _ hf1457 ⟨⟨hg, hs, hd⟩, i3, i7, i8, i9, trivial⟩ Q1463 hQQ1463 hgo hex hret
  clear hr hf1457 hgo hex hret hQQ1463 hQ hg hs hd i3 i7 i8 i9
  intro s1440 fl_ a k hr hS Q hQ hgo1441 hex1442 hret1443
  obtain ⟨⟨hg, hs, hd⟩, i3, i7, i8, i9, _⟩ := hS
  unfold solid_Volume_L0 at hr
  refine stepL 1 (_ :: []) rfl ⟨hg, hs, hd⟩ (by kernel_rfl) ⟨o1 [(9, none), (8, none)] rfl fun _ _ h n => ok_lss rfl (up i9 h n.1) (up i8 h n.2.1), trivial⟩ [⟨_, _⟩, ⟨_, _⟩, ⟨_, _⟩, ⟨_, _⟩, ⟨_, _⟩] (fun b q p => ⟨p.ke 3 rfl i3, p.ke 7 rfl i7, p.ke 8 rfl i8, p.ke 9 rfl i9, p.ou 0 10 rfl, trivial⟩) ?_
  rintro a k ⟨⟨hg, hs, hd⟩, i3, i7, i8, i9, i10, _⟩
  refine wp_seq ?_
  refine wp_cond_split (isBool i10) (fun hc1454 => ?_) (fun hc1454 => ?_)
  ·rw [if_pos hc1454] at hr
   refine wp_skip ?_
   refine wp_seq ?_
   refine wp_block ?_
   refine wp_seq ?_
   obtain ⟨x1445_0, hx1445_0, hr⟩ := bind_some hr
   refine cut (fun a' k' => Bs noF k0 26 a' k' ∧ (IsV s1440.1) (a'.get 3) k' ∧ (IsRef x1445_0) (a'.get 5) k' ∧ (IsV x1439_1) (a'.get 7) k' ∧ (IsL x1439_1) (a'.get 8) k' ∧ (IsV s1440.2) (a'.get 9) k' ∧ True) ?_ hQ ?_
   ·intro Q1452 hQQ1452 hp1453
    refine gS 3 (_ :: _ :: ⟨some (IsBox k.w.heap.size (⟨(⟨0, 0, 0, 0⟩ : Rect), 0, 0⟩ : Box)), []⟩ :: []) hs (by kernel_rfl) ⟨o1 [(7, none), (9, none)] rfl fun _ _ h n => ok_indexAddr rfl Try.underlying22 ty32 (IsV.rd (up i7 h n.1)) (up i9 h n.2.1) hx1445_0, o1 [(11, some 0)] rfl fun _ _ h n => ok_load rfl ty32 n.1, ob1 rfl fun _ _ h n => ok_alloc _ h.size rfl z32, trivial⟩ hQQ1452 fun b q p => ?_
    have hgq := hg.then p.grow
    have hsb := p.size.trans hs
    have hdb := p.defers.trans hd
    have j3 := p.ke 3 rfl i3
    obtain ⟨b5, j5, x5, z5⟩ : (IsBox k.w.heap.size (⟨(⟨0, 0, 0, 0⟩ : Rect), 0, 0⟩ : Box)) (b.get 5) q := p.ou 2 5 rfl
    replace x5 : Lo k (Eq b5) := Lo.eq x5
    have y5 : Lo k0 (Eq b5) := x5.chg hg
    have j7 := p.ke 7 rfl i7
    have j8 := p.ke 8 rfl i8
    have j9 := p.ke 9 rfl i9
    have j12 : (IsV x1445_0) (b.get 12) q := p.ou 1 12 rfl
    have hns := z5.nshF
    refine tail_storeB (i := 3) rfl rfl rfl rfl szf32 (Upd.self (α := Box)) j5 z5 j12 fun q2 hch hz => ?_
    replace hgq := hgq.step hch y5.wr
    have hle := hch.le hns
    replace j3 := Pers.pers hle j3
    replace j7 := Pers.pers hle j7
    replace j8 := Pers.pers hle j8
    replace j9 := Pers.pers hle j9
    replace j12 := Pers.pers hle j12
    replace z5 := hz
    clear hns hle hch
    obtain ⟨q, hqq⟩ : ∃ q, q = q2 := ⟨q2, rfl⟩
    subst hqq
    obtain ⟨q2, hsh, jn⟩ := z5.give
    replace j3 := Pers.pers hsh.le j3
    replace j7 := Pers.pers hsh.le j7
    replace j8 := Pers.pers hsh.le j8
    replace j9 := Pers.pers hsh.le j9
    rw [← j5] at jn
    replace j5 := jn
    replace hgq := hgq.hand hsh y5.wr
    rw [← hsh.w]
    clear hsh
    obtain ⟨q, hqq⟩ : ∃ q, q = q2 := ⟨q2, rfl⟩
    subst hqq
    exact tail_done (k := q) (hp1453 _ _ ⟨⟨hgq, hsb, hdb⟩, j3, j5, j7, j8, j9, trivial⟩)
   rintro a k ⟨⟨hg, hs, hd⟩, i3, i5, i7, i8, i9, _⟩
   obtain ⟨x1446_5, hx1446_5, hr⟩ := bind_some hr
   obtain ⟨x1446_8, hx1446_8, hr⟩ := bind_some hr
   obtain ⟨x1446_9, hx1446_9, hr⟩ := bind_some hr
   obtain ⟨x1446_10, hx1446_10, hr⟩ := bind_some hr
   refine cut (fun a' k' => Bs noF k0 26 a' k' ∧ (IsV x1446_10) (a'.get 3) k' ∧ (IsV x1439_1) (a'.get 7) k' ∧ (IsL x1439_1) (a'.get 8) k' ∧ (IsV s1440.2) (a'.get 9) k' ∧ True) ?_ hQ ?_
   ·intro Q1450 hQQ1450 hp1451
    refine region (a0 := a) (k0 := k) (n := 26) (m := 12) (⟨some (IsV s1440.1), [(3, none)]⟩ :: ⟨some (IsPtr x1445_0.Z1), [(5, none)]⟩ :: ⟨some (IsV x1445_0.Z1), [(14, some 1)]⟩ :: ⟨some (IsPtr x1445_0.Z0), [(5, none)]⟩ :: ⟨some (IsV x1445_0.Z0), [(16, some 3)]⟩ :: ⟨some (IsV x1446_5), [(15, some 2), (17, some 4)]⟩ :: ⟨some (IsPtr x1445_0.Base), [(5, none)]⟩ :: ⟨some (IsV x1445_0.Base), [(19, some 6)]⟩ :: ⟨some (IsV x1446_8), [(20, some 7)]⟩ :: ⟨some (IsV x1446_9), [(18, some 5), (21, some 8)]⟩ :: ⟨some (IsV x1446_10), [(13, some 0), (22, some 9)]⟩ :: ⟨some (IsV x1446_10), [(23, some 10)]⟩ :: []) hmix hs (by kernel_rfl) ⟨ob1 rfl fun b q hk hn => ok_move rfl (up i3 hk hn.1), ob1 rfl fun b q hk hn => ok_fieldAddr rfl fo32_2 (at_Box_2 _) ((up i5 hk hn.1)).ptr, ob1 rfl fun b q hk hn => ok_load rfl ty3 hn.1, ob1 rfl fun b q hk hn => ok_fieldAddr rfl fo32_1 (at_Box_1 _) ((up i5 hk hn.1)).ptr, ob1 rfl fun b q hk hn => ok_load rfl ty3 hn.1, ob1 rfl fun b q hk hn => ok_sub rfl hn.1 hn.2.1 hx1446_5, ob1 rfl fun b q hk hn => ok_fieldAddr rfl fo32_0 (at_Box_0 _) ((up i5 hk hn.1)).ptr, ob1 rfl fun b q hk hn => ok_load rfl ty30 hn.1, ob1 rfl fun b q hk hn => ok_call rfl Try.call36 (rect_Area_ok hn.1 hx1446_8), ob1 rfl fun b q hk hn => ok_mul rfl hn.1 hn.2.1 hx1446_9, ob1 rfl fun b q hk hn => ok_add rfl hn.1 hn.2.1 hx1446_10, ob1 rfl fun b q hk hn => ok_assign rfl hn.1, trivial⟩ hQQ1450 fun b q p => ?_
    exact tail_done (k := q) (hp1451 _ _ ⟨Bs.post ⟨hg, hs, hd⟩ p, p.ou 11 3 rfl, p.ke 7 rfl i7, p.ke 8 rfl i8, p.ke 9 rfl i9, trivial⟩)
   rintro a k ⟨⟨hg, hs, hd⟩, i3, i7, i8, i9, _⟩
   obtain ⟨x1447_0, hx1447_0, hr⟩ := bind_some hr
   refine cut (fun a' k' => Bs noF k0 26 a' k' ∧ (IsV x1446_10) (a'.get 3) k' ∧ (IsV x1439_1) (a'.get 7) k' ∧ (IsL x1439_1) (a'.get 8) k' ∧ (IsV x1447_0) (a'.get 9) k' ∧ True) ?_ hQ ?_
   ·intro Q1448 hQQ1448 hp1449
    refine gS 2 (_ :: _ :: []) hs (by kernel_rfl) ⟨o1 [(9, none)] rfl fun _ _ h n => ok_add rfl (up i9 h n.1) (cI rfl) hx1447_0, cm 0 rfl rfl, trivial⟩ hQQ1448 fun b q p => ?_
    exact tail_done (k := q) (hp1449 _ _ ⟨Bs.post ⟨hg, hs, hd⟩ p, p.ke 3 rfl i3, p.ke 7 rfl i7, p.ke 8 rfl i8, p.ou 1 9 rfl, trivial⟩)
   rintro a k ⟨⟨hg, hs, hd⟩, i3, i7, i8, i9, _⟩
   exact hgo1441 _ _ _ (Option.some.inj hr).symm ⟨⟨hg, hs, hd⟩, i3, i7, i8, i9, trivial⟩
  rw [if_neg (by rw [hc1454]; decide)] at hr
  refine wp_exit ?_
  exact hex1442 _ _ _ _ (Option.some.inj hr).symm ⟨rfl, ⟨hg, hs, hd⟩, i3, trivial⟩
 ·rintro r1462 a k rfl hR
  dsimp only at hr
  obtain rfl := Option.some.inj hr
  exact hR
 ·rintro _ _ _ rfl _
  simp at hr
 clear hf1457
 rintro _ s1458 a k rfl ⟨rfl, ⟨hg, hs, hd⟩, i3, _⟩
 dsimp only at hr
 refine stepL 2 (_ :: _ :: []) rfl ⟨hg, hs, hd⟩ (by kernel_rfl) ⟨mu rfl i3, cp 0 rfl rfl, trivial⟩ [⟨_, _⟩] (fun b q p => ⟨p.ou 1 2 rfl, trivial⟩) ?_
 rintro a k ⟨⟨hg, hs, hd⟩, i2, _⟩
 refine wp_ret ?_
 obtain rfl := Option.some.inj hr
 exact retC1 rfl hd hg i2
def rect_Has (r_ : Rect) (x_ : Int) (y_ : Int) : Option (Bool) :=
 (rect_checked r_).bind fun x1471_1 =>
 some ((((decide (x1471_1.1.X0 ≤ x_)) && (decide (x_ < x1471_1.1.X1))) && (decide (x1471_1.1.Y0 ≤ y_))) && (decide (y_ < x1471_1.1.Y1)))
theorem rect_Has_ok {k0 : K} {v0 v1 v2 : Value} {r_ : Rect} {x_ : Int} {y_ : Int} {r : Bool} (i0 : (IsV r_) v0 k0) (i1 : (IsV x_) v1 k0) (i2 : (IsV y_) v2 k0) (hr : rect_Has r_ x_ y_ = some r) :
  Calls Try.prog 49 #[v0, v1, v2] k0.w (Ret k0 (IsV r)) := by
 unfold rect_Has at hr
 refine Ret.ofC ?_
 refine enterK Try.func49 rfl Try.ntmps49 (show 3 ≤ 34 by decide) fun a k hk0 hs hd ha => ?_
 obtain ⟨e0, e1, e2, _⟩ := ha
 replace i0 : (IsV r_) (a.get 0) k := by rw [e0, hk0]; exact i0
 replace i1 : (IsV x_) (a.get 1) k := by rw [e1, hk0]; exact i1
 replace i2 : (IsV y_) (a.get 2) k := by rw [e2, hk0]; exact i2
 have hQ : Gb.LetsOut (bodyPost Try.prog Try.f49 (RetC noF k0 (IsV r))) := letsOutC
 have hg : Chg noF k0 k := by rw [hk0]; exact Chg.refl _ k0
 refine cutS (fun a' k' => Bs noF k0 34 a' k' ∧ (IsV x_) (a'.get 1) k' ∧ (IsV y_) (a'.get 2) k' ∧ (∃ b3, a'.get 3 = .pointer (some ⟨b3, 0, none⟩) ∧ Lo k0 (Eq b3) ∧ Gb.Box b3 r_ k' ∧ True)) ?_ ?_
 ·intro Q1477 hQQ1477 hp1478
  refine gS 2 (⟨some (IsBox k.w.heap.size r_), [(0, none)]⟩ :: ⟨some (IsV false), []⟩ :: []) hs (by kernel_rfl) ⟨ob1 rfl fun _ _ h n => ok_box _ h.size rfl (up i0 h n.1), ob1 rfl fun _ _ h n => ok_assign rfl (isV_bool.2 rfl), trivial⟩ hQQ1477 fun b q p => ?_
  have hgq := hg.then p.grow
  have hsb := p.size.trans hs
  have hdb := p.defers.trans hd
  have j1 := p.ke 1 rfl i1
  have j2 := p.ke 2 rfl i2
  obtain ⟨b3, j3, x3, z3⟩ : (IsBox k.w.heap.size r_) (b.get 3) q := p.ou 0 3 rfl
  replace x3 : Lo k (Eq b3) := Lo.eq x3
  have y3 : Lo k0 (Eq b3) := x3.chg hg
  exact tail_done (k := q) (hp1478 _ _ ⟨⟨hgq, hsb, hdb⟩, j1, j2, b3, j3, y3, z3, trivial⟩)
 rintro a k ⟨⟨hg, hs, hd⟩, i1, i2, b3, i3, n3, c3, _⟩
 refine wp_seq ?_
 obtain ⟨x1471_1, hx1471_1, hr⟩ := bind_some hr
 refine cut (fun a' k' => Bs noF k0 34 a' k' ∧ (IsV x_) (a'.get 1) k' ∧ (IsV y_) (a'.get 2) k' ∧ a'.get 3 = .pointer (some ⟨b3, 0, none⟩) ∧ Lo k0 (Eq b3) ∧ Gb.Box b3 x1471_1.1 k' ∧ True) ?_ hQ ?_
 ·intro Q1475 hQQ1475 hp1476
  refine gS 5 (_ :: _ :: _ :: _ :: _ :: []) hs (by kernel_rfl) ⟨o1 [(3, none)] rfl fun _ _ h n => ok_load rfl ty30 ⟨_, (upE i3 n.1), (c3.grow h).at⟩, o1 [(8, some 0)] rfl fun _ _ h n => ok_call rfl Try.call54 (rect_checked_ok n.1 hx1471_1), cm 1 rfl rfl, o1 [(7, some 2)] rfl fun _ _ h n => ok_ext2_0 rfl n.1, o1 [(7, some 2)] rfl fun _ _ h n => ok_ext2_1 rfl n.1, trivial⟩ hQQ1475 fun b q p => ?_
  have hgq := hg.then p.grow
  have hsb := p.size.trans hs
  have hdb := p.defers.trans hd
  have j1 := p.ke 1 rfl i1
  have j2 := p.ke 2 rfl i2
  have j3 := upE i3 (p.old 3 rfl)
  have z3 := Gb.Box.grow c3 p.grow
  have y3 := n3
  have j10 : (IsV x1471_1.1) (b.get 10) q := p.ou 3 10 rfl
  have hns := z3.nshF
  refine tail_storeB (i := 5) rfl rfl rfl rfl szf30 (Upd.self (α := Rect)) j3 z3 j10 fun q2 hch hz => ?_
  replace hgq := hgq.step hch y3.wr
  have hle := hch.le hns
  replace j1 := Pers.pers hle j1
  replace j2 := Pers.pers hle j2
  replace j10 := Pers.pers hle j10
  replace z3 := hz
  clear hns hle hch
  obtain ⟨q, hqq⟩ : ∃ q, q = q2 := ⟨q2, rfl⟩
  subst hqq
  exact tail_done (k := q) (hp1476 _ _ ⟨⟨hgq, hsb, hdb⟩, j1, j2, j3, y3, z3, trivial⟩)
 rintro a k ⟨⟨hg, hs, hd⟩, i1, i2, i3, n3, c3, _⟩
 refine stepL 23 (_ :: _ :: _ :: _ :: _ :: _ :: _ :: _ :: _ :: _ :: _ :: _ :: _ :: _ :: _ :: _ :: _ :: _ :: _ :: _ :: _ :: _ :: _ :: []) rfl ⟨hg, hs, hd⟩ (by kernel_rfl) ⟨mu rfl i1, o1 [(3, none)] rfl fun _ _ h n => ok_fieldAddr rfl fo30_0 (at_Rect_0 _) ⟨_, (upE i3 n.1), (c3.grow h).at⟩, o1 [(13, some 1)] rfl fun _ _ h n => ok_load rfl ty3 n.1, o1 [(12, some 0), (14, some 2)] rfl fun _ _ h n => ok_geq rfl n.1 n.2.1, cm 3 rfl rfl, mT rfl rfl i1, gT [(3, none)] rfl rfl fun hp _ _ h n => ok_fieldAddr rfl fo30_2 (at_Rect_2 _) ⟨_, (upE i3 n.1), (c3.grow h).at⟩, gT [(18, some 6)] rfl rfl fun hp _ _ h n => ok_load rfl ty3 (Gd.get n.1 hp), gT [(17, some 5), (19, some 7)] rfl rfl fun hp _ _ h n => ok_lss rfl (Gd.get n.1 hp) (Gd.get n.2.1 hp), o1 [(16, some 4), (20, some 8)] rfl fun _ _ h n => ok_pickAnd rfl n.1 (Gd.get n.2.1) (cB rfl), cm 9 rfl rfl, mT rfl rfl i2, gT [(3, none)] rfl rfl fun hp _ _ h n => ok_fieldAddr rfl fo30_1 (at_Rect_1 _) ⟨_, (upE i3 n.1), (c3.grow h).at⟩, gT [(24, some 12)] rfl rfl fun hp _ _ h n => ok_load rfl ty3 (Gd.get n.1 hp), gT [(23, some 11), (25, some 13)] rfl rfl fun hp _ _ h n => ok_geq rfl (Gd.get n.1 hp) (Gd.get n.2.1 hp), o1 [(22, some 10), (26, some 14)] rfl fun _ _ h n => ok_pickAnd rfl n.1 (Gd.get n.2.1) (cB rfl), cm 15 rfl rfl, mT rfl rfl i2, gT [(3, none)] rfl rfl fun hp _ _ h n => ok_fieldAddr rfl fo30_3 (at_Rect_3 _) ⟨_, (upE i3 n.1), (c3.grow h).at⟩, gT [(30, some 18)] rfl rfl fun hp _ _ h n => ok_load rfl ty3 (Gd.get n.1 hp), gT [(29, some 17), (31, some 19)] rfl rfl fun hp _ _ h n => ok_lss rfl (Gd.get n.1 hp) (Gd.get n.2.1 hp), o1 [(28, some 16), (32, some 20)] rfl fun _ _ h n => ok_pickAnd rfl n.1 (Gd.get n.2.1) (cB rfl), cp 21 rfl rfl, trivial⟩ [⟨_, _⟩] (fun b q p => ⟨p.ou 22 6 rfl, trivial⟩) ?_
 rintro a k ⟨⟨hg, hs, hd⟩, i6, _⟩
 refine wp_ret ?_
 obtain rfl := Option.some.inj hr
 exact retC1 rfl hd hg i6
def slices_IndexFunc_Rect_L0 (s_ : (List Rect)) (f_ : (Rect → Option (Bool))) (s1481 : Int) : Option (Flow (Int) (Int)) :=
 if (decide (s1481 < (s_.length : Int))) then
  (getI s_ s1481).bind fun x1487_3 =>
  (f_ x1487_3).bind fun x1487_5 =>
  if x1487_5 then
   some (.ret s1481)
  else
   (addI s1481 1).bind fun x1491_0 =>
   some (.go x1491_0)
 else
  some (.ex 0 s1481)
def slices_IndexFunc_Rect (s_ : (List Rect)) (f_ : (Rect → Option (Bool))) : Option (Int) :=
 (iterL (slices_IndexFunc_Rect_L0 s_ f_) (s_.length + 1) 0).bind fun f1502 => match f1502 with
  | .go _ => none
  | .ex _ _ =>
   some (-1)
  | .ret r1507 => some r1507
theorem slices_IndexFunc_Rect_ok {k0 : K} {v0 v1 : Value} {s_ : (List Rect)} {f_ : (Rect → Option (Bool))} {r : Int} (i0 : (IsV s_) v0 k0) (i1 : (IsFn1 Try.prog f_) v1 k0) (hr : slices_IndexFunc_Rect s_ f_ = some r) :
  Calls Try.prog 62 #[v0, v1] k0.w (Ret k0 (IsV r)) := by
 unfold slices_IndexFunc_Rect at hr
 refine Ret.ofC ?_
 refine enterK Try.func62 rfl Try.ntmps62 (show 2 ≤ 19 by decide) fun a k hk0 hs hd ha => ?_
 obtain ⟨e0, e1, _⟩ := ha
 replace i0 : (IsV s_) (a.get 0) k := by rw [e0, hk0]; exact i0
 replace i1 : (IsFn1 Try.prog f_) (a.get 1) k := by rw [e1, hk0]; exact i1
 have hQ : Gb.LetsOut (bodyPost Try.prog Try.f62 (RetC noF k0 (IsV r))) := letsOutC
 have hg : Chg noF k0 k := by rw [hk0]; exact Chg.refl _ k0
 refine stepL 1 (⟨some (IsI 0), []⟩ :: []) rfl ⟨hg, hs, hd⟩ (by kernel_rfl) ⟨aI rfl rfl, trivial⟩ [⟨_, _⟩, ⟨_, _⟩] (fun b q p => ⟨p.ke 0 rfl i0, p.ke 1 rfl i1, trivial⟩) ?_
 rintro a k ⟨⟨hg, hs, hd⟩, i0, i1, _⟩
 refine wp_seq ?_
 refine stepL 3 (_ :: _ :: ⟨some (IsI 0), []⟩ :: []) rfl ⟨hg, hs, hd⟩ (by kernel_rfl) ⟨mu rfl i0, o1 [(6, some 0)] rfl fun _ _ h n => ok_len rfl rfl Try.underlying44 (IsV.rd n.1), ob1 rfl fun _ _ h n => ok_move rfl (cI rfl), trivial⟩ [⟨_, _⟩, ⟨_, _⟩, ⟨_, _⟩, ⟨_, _⟩] (fun b q p => ⟨p.ke 0 rfl i0, p.ke 1 rfl i1, p.ou 1 7 rfl, p.ou 2 8 rfl, trivial⟩) ?_
 rintro a k ⟨⟨hg, hs, hd⟩, i0, i1, i7, i8, _⟩
 refine wp_block ?_
 obtain ⟨f1502, hf1502, hr⟩ := bind_some hr
 refine cutFe f1502 (fun s' a' k' => Bs noF k0 19 a' k' ∧ (IsV s_) (a'.get 0) k' ∧ (IsFn1 Try.prog f_) (a'.get 1) k' ∧ (IsL s_) (a'.get 7) k' ∧ (IsV s') (a'.get 8) k' ∧ True) (fun i' s' a' k' => (i' = 0 ∧ Bs noF k0 19 a' k' ∧ True)) (fun r' a' k' => bodyPost Try.prog Try.f62 (RetC noF k0 (IsV r')) .ret a' k'.w) ?_ hQ ?_ ?_ ?_
 ·intro Q1508 hQQ1508 hgo hex hret
  refine sim_loop ?_ _ _ _ _ _ hf1502 ⟨⟨hg, hs, hd⟩, i0, i1, i7, i8, trivial⟩ Q1508 hQQ1508 hgo hex hret
  clear hr hf1502 hgo hex hret hQQ1508 hQ hg hs hd i0 i1 i7 i8
  intro s1481 fl_ a k hr hS Q hQ hgo1482 hex1483 hret1484
  obtain ⟨⟨hg, hs, hd⟩, i0, i1, i7, i8, _⟩ := hS
  unfold slices_IndexFunc_Rect_L0 at hr
  refine stepL 1 (_ :: []) rfl ⟨hg, hs, hd⟩ (by kernel_rfl) ⟨o1 [(8, none), (7, none)] rfl fun _ _ h n => ok_lss rfl (up i8 h n.1) (up i7 h n.2.1), trivial⟩ [⟨_, _⟩, ⟨_, _⟩, ⟨_, _⟩, ⟨_, _⟩, ⟨_, _⟩] (fun b q p => ⟨p.ke 0 rfl i0, p.ke 1 rfl i1, p.ke 7 rfl i7, p.ke 8 rfl i8, p.ou 0 9 rfl, trivial⟩) ?_
  rintro a k ⟨⟨hg, hs, hd⟩, i0, i1, i7, i8, i9, _⟩
  refine wp_seq ?_
  refine wp_cond_split (isBool i9) (fun hc1499 => ?_) (fun hc1499 => ?_)
  ·rw [if_pos hc1499] at hr
   refine wp_skip ?_
   refine wp_seq ?_
   refine wp_block ?_
   refine stepL 2 (_ :: _ :: []) rfl ⟨hg, hs, hd⟩ (by kernel_rfl) ⟨mu rfl i8, cp 0 rfl rfl, trivial⟩ [⟨_, _⟩, ⟨_, _⟩, ⟨_, _⟩, ⟨_, _⟩, ⟨_, _⟩] (fun b q p => ⟨p.ke 0 rfl i0, p.ke 1 rfl i1, p.ou 1 5 rfl, p.ke 7 rfl i7, p.ke 8 rfl i8, trivial⟩) ?_
   rintro a k ⟨⟨hg, hs, hd⟩, i0, i1, i5, i7, i8, _⟩
   refine wp_seq ?_
   obtain ⟨x1487_3, hx1487_3, hr⟩ := bind_some hr
   obtain ⟨x1487_5, hx1487_5, hr⟩ := bind_some hr
   refine cut (fun a' k' => Bs noF k0 19 a' k' ∧ (IsV s_) (a'.get 0) k' ∧ (IsFn1 Try.prog f_) (a'.get 1) k' ∧ (IsV s1481) (a'.get 5) k' ∧ (IsL s_) (a'.get 7) k' ∧ (IsV s1481) (a'.get 8) k' ∧ (IsV x1487_5) (a'.get 16) k' ∧ True) ?_ hQ ?_
   ·intro Q1495 hQQ1495 hp1496
    refine gS 6 (_ :: _ :: _ :: _ :: _ :: ⟨some (IsV x1487_5), [(11, some 0), (15, some 4)]⟩ :: []) hs (by kernel_rfl) ⟨mu rfl i1, mu rfl i0, mu rfl i5, o1 [(12, some 1), (13, some 2)] rfl fun _ _ h n => ok_indexAddr rfl Try.underlying44 ty30 (IsV.rd n.1) n.2.1 hx1487_3, o1 [(14, some 3)] rfl fun _ _ h n => ok_load rfl ty30 n.1, ob1 rfl fun _ _ h n => ok_callF1 rfl n.1 n.2.1 hx1487_5, trivial⟩ hQQ1495 fun b q p => ?_
    exact tail_done (k := q) (hp1496 _ _ ⟨Bs.post ⟨hg, hs, hd⟩ p, p.ke 0 rfl i0, p.ke 1 rfl i1, p.ke 5 rfl i5, p.ke 7 rfl i7, p.ke 8 rfl i8, p.ou 5 16 rfl, trivial⟩)
   rintro a k ⟨⟨hg, hs, hd⟩, i0, i1, i5, i7, i8, i16, _⟩
   refine wp_cond_split (isBool i16) (fun hc1494 => ?_) (fun hc1494 => ?_)
   ·rw [if_pos hc1494] at hr
    refine stepL 2 (_ :: _ :: []) rfl ⟨hg, hs, hd⟩ (by kernel_rfl) ⟨mu rfl i5, cp 0 rfl rfl, trivial⟩ [⟨_, _⟩] (fun b q p => ⟨p.ou 1 4 rfl, trivial⟩) ?_
    rintro a k ⟨⟨hg, hs, hd⟩, i4, _⟩
    refine wp_ret ?_
    exact hret1484 _ _ _ (Option.some.inj hr).symm (retC1 rfl hd hg i4)
   rw [if_neg (by rw [hc1494]; decide)] at hr
   refine wp_skip ?_
   obtain ⟨x1491_0, hx1491_0, hr⟩ := bind_some hr
   refine cut (fun a' k' => Bs noF k0 19 a' k' ∧ (IsV s_) (a'.get 0) k' ∧ (IsFn1 Try.prog f_) (a'.get 1) k' ∧ (IsL s_) (a'.get 7) k' ∧ (IsV x1491_0) (a'.get 8) k' ∧ True) ?_ hQ ?_
   ·intro Q1492 hQQ1492 hp1493
    refine gS 2 (_ :: _ :: []) hs (by kernel_rfl) ⟨o1 [(8, none)] rfl fun _ _ h n => ok_add rfl (up i8 h n.1) (cI rfl) hx1491_0, cm 0 rfl rfl, trivial⟩ hQQ1492 fun b q p => ?_
    exact tail_done (k := q) (hp1493 _ _ ⟨Bs.post ⟨hg, hs, hd⟩ p, p.ke 0 rfl i0, p.ke 1 rfl i1, p.ke 7 rfl i7, p.ou 1 8 rfl, trivial⟩)
   rintro a k ⟨⟨hg, hs, hd⟩, i0, i1, i7, i8, _⟩
   exact hgo1482 _ _ _ (Option.some.inj hr).symm ⟨⟨hg, hs, hd⟩, i0, i1, i7, i8, trivial⟩
  rw [if_neg (by rw [hc1499]; decide)] at hr
  refine wp_exit ?_
  exact hex1483 _ _ _ _ (Option.some.inj hr).symm ⟨rfl, ⟨hg, hs, hd⟩, trivial⟩
 ·rintro r1507 a k rfl hR
  dsimp only at hr
  obtain rfl := Option.some.inj hr
  exact hR
 ·rintro _ _ _ rfl _
  simp at hr
 clear hf1502
 rintro _ s1503 a k rfl ⟨rfl, ⟨hg, hs, hd⟩, _⟩
 dsimp only at hr
 refine stepL 1 (⟨some (IsI (-1)), []⟩ :: []) rfl ⟨hg, hs, hd⟩ (by kernel_rfl) ⟨aI rfl rfl, trivial⟩ [⟨_, _⟩] (fun b q p => ⟨p.ou 0 4 rfl, trivial⟩) ?_
 rintro a k ⟨⟨hg, hs, hd⟩, i4, _⟩
 refine wp_ret ?_
 obtain rfl := Option.some.inj hr
 exact retC1 rfl hd hg i4
def slices_ContainsFunc_Rect (s_ : (List Rect)) (f_ : (Rect → Option (Bool))) : Option (Bool) :=
 (slices_IndexFunc_Rect s_ f_).bind fun x1514_2 =>
 some (decide (0 ≤ x1514_2))
theorem slices_ContainsFunc_Rect_ok {k0 : K} {v0 v1 : Value} {s_ : (List Rect)} {f_ : (Rect → Option (Bool))} {r : Bool} (i0 : (IsV s_) v0 k0) (i1 : (IsFn1 Try.prog f_) v1 k0) (hr : slices_ContainsFunc_Rect s_ f_ = some r) :
  Calls Try.prog 47 #[v0, v1] k0.w (Ret k0 (IsV r)) := by
 unfold slices_ContainsFunc_Rect at hr
 refine Ret.ofC ?_
 refine enterK Try.func47 rfl Try.ntmps47 (show 2 ≤ 9 by decide) fun a k hk0 hs hd ha => ?_
 obtain ⟨e0, e1, _⟩ := ha
 replace i0 : (IsV s_) (a.get 0) k := by rw [e0, hk0]; exact i0
 replace i1 : (IsFn1 Try.prog f_) (a.get 1) k := by rw [e1, hk0]; exact i1
 have hQ : Gb.LetsOut (bodyPost Try.prog Try.f47 (RetC noF k0 (IsV r))) := letsOutC
 have hg : Chg noF k0 k := by rw [hk0]; exact Chg.refl _ k0
 refine stepL 1 (⟨some (IsV false), []⟩ :: []) rfl ⟨hg, hs, hd⟩ (by kernel_rfl) ⟨ob1 rfl fun _ _ h n => ok_assign rfl (isV_bool.2 rfl), trivial⟩ [⟨_, _⟩, ⟨_, _⟩] (fun b q p => ⟨p.ke 0 rfl i0, p.ke 1 rfl i1, trivial⟩) ?_
 rintro a k ⟨⟨hg, hs, hd⟩, i0, i1, _⟩
 refine wp_seq ?_
 obtain ⟨x1514_2, hx1514_2, hr⟩ := bind_some hr
 refine cut (fun a' k' => Bs noF k0 9 a' k' ∧ (IsV (decide (0 ≤ x1514_2))) (a'.get 4) k' ∧ True) ?_ hQ ?_
 ·intro Q1515 hQQ1515 hp1516
  refine gS 5 (_ :: _ :: _ :: _ :: _ :: []) hs (by kernel_rfl) ⟨mu rfl i0, mu rfl i1, o1 [(5, some 0), (6, some 1)] rfl fun _ _ h n => ok_call rfl Try.call62 (slices_IndexFunc_Rect_ok n.1 n.2.1 hx1514_2), o1 [(7, some 2)] rfl fun _ _ h n => ok_geq rfl n.1 (cI rfl), cp 3 rfl rfl, trivial⟩ hQQ1515 fun b q p => ?_
  exact tail_done (k := q) (hp1516 _ _ ⟨Bs.post ⟨hg, hs, hd⟩ p, p.ou 4 4 rfl, trivial⟩)
 rintro a k ⟨⟨hg, hs, hd⟩, i4, _⟩
 refine wp_ret ?_
 obtain rfl := Option.some.inj hr
 exact retC1 rfl hd hg i4
def region_Has_1 (r_ : Rect) (p1_ : Int) (p2_ : Int) : Option (Bool) :=
 (rect_Has r_ p1_ p2_).bind fun x1522_3 =>
 some x1522_3
theorem region_Has_1_ok {k0 : K} {v0 v1 v2 : Value} {r_ : Rect} {p1_ : Int} {p2_ : Int} {r : Bool} (i0 : (IsV r_) v0 k0) (i1 : (IsRef p1_) v1 k0) (i2 : (IsRef p2_) v2 k0) (hr : region_Has_1 r_ p1_ p2_ = some r) :
  Calls Try.prog 48 #[v0, v1, v2] k0.w (Ret k0 (IsV r)) := by
 unfold region_Has_1 at hr
 refine Ret.ofC ?_
 refine enterK Try.func48 rfl Try.ntmps48 (show 3 ≤ 9 by decide) fun a k hk0 hs hd ha => ?_
 obtain ⟨e0, e1, e2, _⟩ := ha
 replace i0 : (IsV r_) (a.get 0) k := by rw [e0, hk0]; exact i0
 replace i1 : (IsRef p1_) (a.get 1) k := by rw [e1, hk0]; exact i1
 replace i2 : (IsRef p2_) (a.get 2) k := by rw [e2, hk0]; exact i2
 have hQ : Gb.LetsOut (bodyPost Try.prog Try.f48 (RetC noF k0 (IsV r))) := letsOutC
 have hg : Chg noF k0 k := by rw [hk0]; exact Chg.refl _ k0
 refine stepL 2 (⟨some (IsRef r_), [(0, none)]⟩ :: ⟨some (IsV false), []⟩ :: []) rfl ⟨hg, hs, hd⟩ (by kernel_rfl) ⟨ob1 rfl fun _ _ h n => ok_boxR rfl (up i0 h n.1), ob1 rfl fun _ _ h n => ok_assign rfl (isV_bool.2 rfl), trivial⟩ [⟨_, _⟩, ⟨_, _⟩, ⟨_, _⟩] (fun b q p => ⟨p.ke 1 rfl i1, p.ke 2 rfl i2, p.ou 0 3 rfl, trivial⟩) ?_
 rintro a k ⟨⟨hg, hs, hd⟩, i1, i2, i3, _⟩
 refine wp_seq ?_
 obtain ⟨x1522_3, hx1522_3, hr⟩ := bind_some hr
 refine cut (fun a' k' => Bs noF k0 9 a' k' ∧ (IsV x1522_3) (a'.get 4) k' ∧ True) ?_ hQ ?_
 ·intro Q1523 hQQ1523 hp1524
  refine gS 5 (_ :: _ :: _ :: _ :: _ :: []) hs (by kernel_rfl) ⟨o1 [(3, none)] rfl fun _ _ h n => ok_load rfl ty30 ((up i3 h n.1)).ptr, o1 [(1, none)] rfl fun _ _ h n => ok_load rfl ty3 ((up i1 h n.1)).ptr, o1 [(2, none)] rfl fun _ _ h n => ok_load rfl ty3 ((up i2 h n.1)).ptr, o1 [(5, some 0), (6, some 1), (7, some 2)] rfl fun _ _ h n => ok_call rfl Try.call49 (rect_Has_ok n.1 n.2.1 n.2.2.1 hx1522_3), cp 3 rfl rfl, trivial⟩ hQQ1523 fun b q p => ?_
  exact tail_done (k := q) (hp1524 _ _ ⟨Bs.post ⟨hg, hs, hd⟩ p, p.ou 4 4 rfl, trivial⟩)
 rintro a k ⟨⟨hg, hs, hd⟩, i4, _⟩
 refine wp_ret ?_
 obtain rfl := Option.some.inj hr
 exact retC1 rfl hd hg i4
def region_Has (a_ : (List Rect)) (x_ : Int) (y_ : Int) : Option (Bool) :=
 (slices_ContainsFunc_Rect a_ (fun y0 => region_Has_1 y0 x_ y_)).bind fun x1520_2 =>
 (if x1520_2 then
  (region_Right a_).bind fun x1520_5 =>
  some x1520_5
 else
  some false).bind fun x1520_6 =>
 some x1520_6
theorem region_Has_ok {k0 : K} {v0 v1 v2 : Value} {a_ : (List Rect)} {x_ : Int} {y_ : Int} {r : Bool} (i0 : (IsV a_) v0 k0) (i1 : (IsV x_) v1 k0) (i2 : (IsV y_) v2 k0) (hr : region_Has a_ x_ y_ = some r) :
  Calls Try.prog 26 #[v0, v1, v2] k0.w (Ret k0 (IsV r)) := by
 unfold region_Has at hr
 refine Ret.ofC ?_
 refine enterK Try.func26 rfl Try.ntmps26 (show 3 ≤ 14 by decide) fun a k hk0 hs hd ha => ?_
 obtain ⟨e0, e1, e2, _⟩ := ha
 replace i0 : (IsV a_) (a.get 0) k := by rw [e0, hk0]; exact i0
 replace i1 : (IsV x_) (a.get 1) k := by rw [e1, hk0]; exact i1
 replace i2 : (IsV y_) (a.get 2) k := by rw [e2, hk0]; exact i2
 have hQ : Gb.LetsOut (bodyPost Try.prog Try.f26 (RetC noF k0 (IsV r))) := letsOutC
 have hg : Chg noF k0 k := by rw [hk0]; exact Chg.refl _ k0
 refine stepL 3 (⟨some (IsRef x_), [(1, none)]⟩ :: ⟨some (IsRef y_), [(2, none)]⟩ :: ⟨some (IsV false), []⟩ :: []) rfl ⟨hg, hs, hd⟩ (by kernel_rfl) ⟨ob1 rfl fun _ _ h n => ok_boxR rfl (up i1 h n.1), ob1 rfl fun _ _ h n => ok_boxR rfl (up i2 h n.1), ob1 rfl fun _ _ h n => ok_assign rfl (isV_bool.2 rfl), trivial⟩ [⟨_, _⟩, ⟨_, _⟩, ⟨_, _⟩] (fun b q p => ⟨p.ke 0 rfl i0, p.ou 0 4 rfl, p.ou 1 5 rfl, trivial⟩) ?_
 rintro a k ⟨⟨hg, hs, hd⟩, i0, i4, i5, _⟩
 refine wp_seq ?_
 obtain ⟨x1520_2, hx1520_2, hr⟩ := bind_some hr
 obtain ⟨x1520_6, hx1520_6, hr⟩ := bind_some hr
 obtain ⟨x1520_5, hx1520_5, hx1520_6⟩ := ite_bind hx1520_6
 refine cut (fun a' k' => Bs noF k0 14 a' k' ∧ (IsV x1520_6) (a'.get 6) k' ∧ True) ?_ hQ ?_
 ·intro Q1527 hQQ1527 hp1528
  refine gS 8 (_ :: ⟨some (IsFn1 Try.prog (fun y0 => region_Has_1 y0 x_ y_)), [(4, none), (5, none)]⟩ :: _ :: _ :: _ :: _ :: _ :: _ :: []) hs (by kernel_rfl) ⟨mu rfl i0, ob1 rfl fun _ _ h n => ok_makeFunc (first := []) (captured := [.tmp 4, .tmp 5]) rfl ⟨48, _, _, rfl, Try.call48, fun k9 hk9 _ _ _ hx0 hy9 => by simpa [evalT] using region_Has_1_ok hx0 (Pers.pers hk9 (up i4 h n.1)) (Pers.pers hk9 (up i5 h n.2.1)) hy9⟩, o1 [(7, some 0), (8, some 1)] rfl fun _ _ h n => ok_call rfl Try.call47 (slices_ContainsFunc_Rect_ok n.1 n.2.1 hx1520_2), cm 2 rfl rfl, mT rfl rfl i0, gT [(11, some 4)] rfl rfl fun hp _ _ h n => ok_call rfl Try.call41 (region_Right_ok (Gd.get n.1 hp) (hx1520_5 hp)), o1 [(10, some 3), (12, some 5)] rfl fun _ _ h n => ok_pickM rfl n.1 hx1520_6 (Gd.get n.2.1) (cB rfl), cp 6 rfl rfl, trivial⟩ hQQ1527 fun b q p => ?_
  exact tail_done (k := q) (hp1528 _ _ ⟨Bs.post ⟨hg, hs, hd⟩ p, p.ou 7 6 rfl, trivial⟩)
 rintro a k ⟨⟨hg, hs, hd⟩, i6, _⟩
 refine wp_ret ?_
 obtain rfl := Option.some.inj hr
 exact retC1 rfl hd hg i6
def solid_Top_L0 (s_ : (List Slab)) (x_ : Int) (y_ : Int) (s1537 : Int) : Option (Flow (Int) (Int)) :=
 if (decide (0 ≤ s1537)) then
  (getI s_ s1537).bind fun x1542_2 =>
  (region_Has x1542_2.Area x_ y_).bind fun x1542_7 =>
  if x1542_7 then
   (getI s_ s1537).bind fun x1543_2 =>
   some (.ret x1543_2.Z1)
  else
   (subI s1537 1).bind fun x1546_1 =>
   some (.go x1546_1)
 else
  some (.ex 0 s1537)
def solid_Top (s_ : (List Slab)) (x_ : Int) (y_ : Int) : Option (Int) :=
 (solid_Right s_).bind fun x1532_1 =>
 if (!x1532_1) then
  some 0
 else
  (subI (s_.length : Int) 1).bind fun x1536_2 =>
  (iterL (solid_Top_L0 s_ x_ y_) (s_.length + 1) x1536_2).bind fun f1555 => match f1555 with
   | .go _ => none
   | .ex _ _ =>
    some 0
   | .ret r1560 => some r1560
theorem solid_Top_ok {k0 : K} {v0 v1 v2 : Value} {s_ : (List Slab)} {x_ : Int} {y_ : Int} {r : Int} (i0 : (IsV s_) v0 k0) (i1 : (IsV x_) v1 k0) (i2 : (IsV y_) v2 k0) (hr : solid_Top s_ x_ y_ = some r) :
  Calls Try.prog 22 #[v0, v1, v2] k0.w (Ret k0 (IsV r)) := by
 unfold solid_Top at hr
 refine Ret.ofC ?_
 refine enterK Try.func22 rfl Try.ntmps22 (show 3 ≤ 31 by decide) fun a k hk0 hs hd ha => ?_
 obtain ⟨e0, e1, e2, _⟩ := ha
 replace i0 : (IsV s_) (a.get 0) k := by rw [e0, hk0]; exact i0
 replace i1 : (IsV x_) (a.get 1) k := by rw [e1, hk0]; exact i1
 replace i2 : (IsV y_) (a.get 2) k := by rw [e2, hk0]; exact i2
 have hQ : Gb.LetsOut (bodyPost Try.prog Try.f22 (RetC noF k0 (IsV r))) := letsOutC
 have hg : Chg noF k0 k := by rw [hk0]; exact Chg.refl _ k0
 refine stepL 1 (⟨some (IsI 0), []⟩ :: []) rfl ⟨hg, hs, hd⟩ (by kernel_rfl) ⟨aI rfl rfl, trivial⟩ [⟨_, _⟩, ⟨_, _⟩, ⟨_, _⟩] (fun b q p => ⟨p.ke 0 rfl i0, p.ke 1 rfl i1, p.ke 2 rfl i2, trivial⟩) ?_
 rintro a k ⟨⟨hg, hs, hd⟩, i0, i1, i2, _⟩
 refine wp_seq ?_
 refine wp_seq ?_
 obtain ⟨x1532_1, hx1532_1, hr⟩ := bind_some hr
 refine cut (fun a' k' => Bs noF k0 31 a' k' ∧ (IsV s_) (a'.get 0) k' ∧ (IsV x_) (a'.get 1) k' ∧ (IsV y_) (a'.get 2) k' ∧ (IsV (!x1532_1)) (a'.get 10) k' ∧ True) ?_ hQ ?_
 ·intro Q1565 hQQ1565 hp1566
  refine gS 3 (_ :: _ :: _ :: []) hs (by kernel_rfl) ⟨mu rfl i0, o1 [(8, some 0)] rfl fun _ _ h n => ok_call rfl Try.call17 (solid_Right_ok n.1 hx1532_1), o1 [(9, some 1)] rfl fun _ _ h n => ok_not rfl n.1, trivial⟩ hQQ1565 fun b q p => ?_
  exact tail_done (k := q) (hp1566 _ _ ⟨Bs.post ⟨hg, hs, hd⟩ p, p.ke 0 rfl i0, p.ke 1 rfl i1, p.ke 2 rfl i2, p.ou 2 10 rfl, trivial⟩)
 rintro a k ⟨⟨hg, hs, hd⟩, i0, i1, i2, i10, _⟩
 refine wp_cond_split (isBool i10) (fun hc1564 => ?_) (fun hc1564 => ?_)
 ·rw [if_pos hc1564] at hr
  refine stepL 1 (⟨some (IsI 0), []⟩ :: []) rfl ⟨hg, hs, hd⟩ (by kernel_rfl) ⟨aI rfl rfl, trivial⟩ [⟨_, _⟩] (fun b q p => ⟨p.ou 0 6 rfl, trivial⟩) ?_
  rintro a k ⟨⟨hg, hs, hd⟩, i6, _⟩
  refine wp_ret ?_
  obtain rfl := Option.some.inj hr
  exact retC1 rfl hd hg i6
 rw [if_neg (by rw [hc1564]; decide)] at hr
 refine wp_skip ?_
 refine wp_seq ?_
 refine wp_seq ?_
 obtain ⟨x1536_2, hx1536_2, hr⟩ := bind_some hr
 refine cut (fun a' k' => Bs noF k0 31 a' k' ∧ (IsV s_) (a'.get 0) k' ∧ (IsV x_) (a'.get 1) k' ∧ (IsV y_) (a'.get 2) k' ∧ (IsV x1536_2) (a'.get 7) k' ∧ True) ?_ hQ ?_
 ·intro Q1562 hQQ1562 hp1563
  refine gS 4 (_ :: _ :: _ :: _ :: []) hs (by kernel_rfl) ⟨mu rfl i0, o1 [(11, some 0)] rfl fun _ _ h n => ok_len rfl rfl Try.underlying24 (IsV.rd n.1), o1 [(12, some 1)] rfl fun _ _ h n => ok_sub rfl n.1 (cI rfl) hx1536_2, cp 2 rfl rfl, trivial⟩ hQQ1562 fun b q p => ?_
  exact tail_done (k := q) (hp1563 _ _ ⟨Bs.post ⟨hg, hs, hd⟩ p, p.ke 0 rfl i0, p.ke 1 rfl i1, p.ke 2 rfl i2, p.ou 3 7 rfl, trivial⟩)
 rintro a k ⟨⟨hg, hs, hd⟩, i0, i1, i2, i7, _⟩
 refine wp_block ?_
 obtain ⟨f1555, hf1555, hr⟩ := bind_some hr
 refine cutFe f1555 (fun s' a' k' => Bs noF k0 31 a' k' ∧ (IsV s_) (a'.get 0) k' ∧ (IsV x_) (a'.get 1) k' ∧ (IsV y_) (a'.get 2) k' ∧ (IsV s') (a'.get 7) k' ∧ True) (fun i' s' a' k' => (i' = 0 ∧ Bs noF k0 31 a' k' ∧ True)) (fun r' a' k' => bodyPost Try.prog Try.f22 (RetC noF k0 (IsV r')) .ret a' k'.w) ?_ hQ ?_ ?_ ?_
 ·intro Q1561 hQQ1561 hgo hex hret
  refine sim_loop ?_ _ _ _ _ _ hf1555 ⟨⟨hg, hs, hd⟩, i0, i1, i2, i7, trivial⟩ Q1561 hQQ1561 hgo hex hret
  clear hr hf1555 hgo hex hret hQQ1561 hQ hg hs hd i0 i1 i2 i7
  intro s1537 fl_ a k hr hS Q hQ hgo1538 hex1539 hret1540
  obtain ⟨⟨hg, hs, hd⟩, i0, i1, i2, i7, _⟩ := hS
  unfold solid_Top_L0 at hr
  refine wp_seq ?_
  refine stepL 2 (_ :: _ :: []) rfl ⟨hg, hs, hd⟩ (by kernel_rfl) ⟨mu rfl i7, o1 [(14, some 0)] rfl fun _ _ h n => ok_geq rfl n.1 (cI rfl), trivial⟩ [⟨_, _⟩, ⟨_, _⟩, ⟨_, _⟩, ⟨_, _⟩, ⟨_, _⟩] (fun b q p => ⟨p.ke 0 rfl i0, p.ke 1 rfl i1, p.ke 2 rfl i2, p.ke 7 rfl i7, p.ou 1 15 rfl, trivial⟩) ?_
  rintro a k ⟨⟨hg, hs, hd⟩, i0, i1, i2, i7, i15, _⟩
  refine wp_cond_split (isBool i15) (fun hc1552 => ?_) (fun hc1552 => ?_)
  ·rw [if_pos hc1552] at hr
   refine wp_skip ?_
   refine wp_seq ?_
   refine wp_block ?_
   refine wp_seq ?_
   obtain ⟨x1542_2, hx1542_2, hr⟩ := bind_some hr
   obtain ⟨x1542_7, hx1542_7, hr⟩ := bind_some hr
   refine cut (fun a' k' => Bs noF k0 31 a' k' ∧ (IsV s_) (a'.get 0) k' ∧ (IsV x_) (a'.get 1) k' ∧ (IsV y_) (a'.get 2) k' ∧ (IsV s1537) (a'.get 7) k' ∧ (IsV x1542_7) (a'.get 25) k' ∧ True) ?_ hQ ?_
   ·intro Q1550 hQQ1550 hp1551
    refine gS 8 (_ :: _ :: _ :: _ :: _ :: _ :: _ :: _ :: []) hs (by kernel_rfl) ⟨mu rfl i0, mu rfl i7, o1 [(18, some 0), (19, some 1)] rfl fun _ _ h n => ok_indexAddr rfl Try.underlying24 ty47 (IsV.rd n.1) n.2.1 hx1542_2, o1 [(20, some 2)] rfl fun _ _ h n => ok_fieldAddr rfl fo47_2 (at_Slab_2 _) n.1, o1 [(21, some 3)] rfl fun _ _ h n => ok_load rfl ty44 n.1, mu rfl i1, mu rfl i2, o1 [(22, some 4), (23, some 5), (24, some 6)] rfl fun _ _ h n => ok_call rfl Try.call26 (region_Has_ok n.1 n.2.1 n.2.2.1 hx1542_7), trivial⟩ hQQ1550 fun b q p => ?_
    exact tail_done (k := q) (hp1551 _ _ ⟨Bs.post ⟨hg, hs, hd⟩ p, p.ke 0 rfl i0, p.ke 1 rfl i1, p.ke 2 rfl i2, p.ke 7 rfl i7, p.ou 7 25 rfl, trivial⟩)
   rintro a k ⟨⟨hg, hs, hd⟩, i0, i1, i2, i7, i25, _⟩
   refine wp_cond_split (isBool i25) (fun hc1549 => ?_) (fun hc1549 => ?_)
   ·rw [if_pos hc1549] at hr
    refine wp_seq ?_
    obtain ⟨x1543_2, hx1543_2, hr⟩ := bind_some hr
    refine cut (fun a' k' => Bs noF k0 31 a' k' ∧ (IsV x1543_2.Z1) (a'.get 6) k' ∧ True) ?_ hQ ?_
    ·intro Q1544 hQQ1544 hp1545
     refine gS 6 (_ :: _ :: _ :: _ :: _ :: _ :: []) hs (by kernel_rfl) ⟨mu rfl i0, mu rfl i7, o1 [(26, some 0), (27, some 1)] rfl fun _ _ h n => ok_indexAddr rfl Try.underlying24 ty47 (IsV.rd n.1) n.2.1 hx1543_2, o1 [(28, some 2)] rfl fun _ _ h n => ok_fieldAddr rfl fo47_1 (at_Slab_1 _) n.1, o1 [(29, some 3)] rfl fun _ _ h n => ok_load rfl ty3 n.1, cp 4 rfl rfl, trivial⟩ hQQ1544 fun b q p => ?_
     exact tail_done (k := q) (hp1545 _ _ ⟨Bs.post ⟨hg, hs, hd⟩ p, p.ou 5 6 rfl, trivial⟩)
    rintro a k ⟨⟨hg, hs, hd⟩, i6, _⟩
    refine wp_ret ?_
    exact hret1540 _ _ _ (Option.some.inj hr).symm (retC1 rfl hd hg i6)
   rw [if_neg (by rw [hc1549]; decide)] at hr
   refine wp_skip ?_
   obtain ⟨x1546_1, hx1546_1, hr⟩ := bind_some hr
   refine cut (fun a' k' => Bs noF k0 31 a' k' ∧ (IsV s_) (a'.get 0) k' ∧ (IsV x_) (a'.get 1) k' ∧ (IsV y_) (a'.get 2) k' ∧ (IsV x1546_1) (a'.get 7) k' ∧ True) ?_ hQ ?_
   ·intro Q1547 hQQ1547 hp1548
    refine gS 3 (_ :: _ :: _ :: []) hs (by kernel_rfl) ⟨mu rfl i7, o1 [(16, some 0)] rfl fun _ _ h n => ok_sub rfl n.1 (cI rfl) hx1546_1, cp 1 rfl rfl, trivial⟩ hQQ1547 fun b q p => ?_
    exact tail_done (k := q) (hp1548 _ _ ⟨Bs.post ⟨hg, hs, hd⟩ p, p.ke 0 rfl i0, p.ke 1 rfl i1, p.ke 2 rfl i2, p.ou 2 7 rfl, trivial⟩)
   rintro a k ⟨⟨hg, hs, hd⟩, i0, i1, i2, i7, _⟩
   exact hgo1538 _ _ _ (Option.some.inj hr).symm ⟨⟨hg, hs, hd⟩, i0, i1, i2, i7, trivial⟩
  rw [if_neg (by rw [hc1552]; decide)] at hr
  refine wp_exit ?_
  exact hex1539 _ _ _ _ (Option.some.inj hr).symm ⟨rfl, ⟨hg, hs, hd⟩, trivial⟩
 ·rintro r1560 a k rfl hR
  dsimp only at hr
  obtain rfl := Option.some.inj hr
  exact hR
 ·rintro _ _ _ rfl _
  simp at hr
 clear hf1555
 rintro _ s1556 a k rfl ⟨rfl, ⟨hg, hs, hd⟩, _⟩
 dsimp only at hr
 refine stepL 1 (⟨some (IsI 0), []⟩ :: []) rfl ⟨hg, hs, hd⟩ (by kernel_rfl) ⟨aI rfl rfl, trivial⟩ [⟨_, _⟩] (fun b q p => ⟨p.ou 0 6 rfl, trivial⟩) ?_
 rintro a k ⟨⟨hg, hs, hd⟩, i6, _⟩
 refine wp_ret ?_
 obtain rfl := Option.some.inj hr
 exact retC1 rfl hd hg i6
def slices_Clone_Rect (s_ : (List Rect)) : Option ((List Rect)) :=
 (appI [] s_).bind fun x1574_2 =>
 some x1574_2
theorem slices_Clone_Rect_ok {k0 : K} {v0 : Value} {s_ : (List Rect)} {r : (List Rect)} (i0 : (IsV s_) v0 k0) (hr : slices_Clone_Rect s_ = some r) :
  Calls Try.prog 42 #[v0] k0.w (Ret k0 (IsV r)) := by
 unfold slices_Clone_Rect at hr
 refine Ret.ofC ?_
 refine enterK Try.func42 rfl Try.ntmps42 (show 1 ≤ 8 by decide) fun a k hk0 hs hd ha => ?_
 obtain ⟨e0, _⟩ := ha
 replace i0 : (IsV s_) (a.get 0) k := by rw [e0, hk0]; exact i0
 have hQ : Gb.LetsOut (bodyPost Try.prog Try.f42 (RetC noF k0 (IsV r))) := letsOutC
 have hg : Chg noF k0 k := by rw [hk0]; exact Chg.refl _ k0
 refine stepL 1 (⟨some IsE0, []⟩ :: []) rfl ⟨hg, hs, hd⟩ (by kernel_rfl) ⟨ob1 rfl fun b q h n => ok_assign rfl isE0_nil, trivial⟩ [⟨_, _⟩] (fun b q p => ⟨p.ke 0 rfl i0, trivial⟩) ?_
 rintro a k ⟨⟨hg, hs, hd⟩, i0, _⟩
 refine wp_seq ?_
 refine stepL 2 (_ :: ⟨some (IsNT s_), [(3, some 0)]⟩ :: []) rfl ⟨hg, hs, hd⟩ (by kernel_rfl) ⟨mu rfl i0, ob1 rfl fun _ _ h n => ok_eqNil rfl Try.underlying44 (IsV.rd n.1), trivial⟩ [⟨_, _⟩, ⟨_, _⟩] (fun b q p => ⟨p.ke 0 rfl i0, p.ou 1 4 rfl, trivial⟩) ?_
 rintro a k ⟨⟨hg, hs, hd⟩, i0, i4, _⟩
 obtain ⟨bb, hbb, hnil⟩ := i4
 refine wp_cond_split hbb (fun hc1577 => ?_) (fun hc1577 => ?_)
 ·replace hr : some ([] : List Rect) = some r := by rw [hnil hc1577] at hr; simpa [appI] using hr
  refine cutL noF k0 8 [⟨2, IsV ([] : List Rect)⟩] ?_ ?_
  ·intro Q1572 hQQ1572 hp1573
   refine gS 1 (⟨some IsE0, []⟩ :: []) hs (by kernel_rfl) ⟨ob1 rfl fun b q h n => ok_assign rfl isE0_nil, trivial⟩ hQQ1572 fun b q p => ?_
   have hgq := hg.then p.grow
   have hsb := p.size.trans hs
   have hdb := p.defers.trans hd
   have j2 : IsE0 (b.get 2) q := p.ou 0 2 rfl
   replace j2 : IsV ([] : List Rect) (b.get 2) q := j2.isV
   exact tail_done (k := q) (hp1573 _ _ ⟨⟨hgq, hsb, hdb⟩, j2, trivial⟩)
  rintro a k ⟨⟨hg, hs, hd⟩, i2, _⟩
  refine wp_ret ?_
  obtain rfl := Option.some.inj hr
  exact retC1 rfl hd hg i2
 ·skip
  refine wp_skip ?_
  refine wp_seq ?_
  obtain ⟨x1574_2, hx1574_2, hr⟩ := bind_some hr
  refine cut (fun a' k' => Bs noF k0 8 a' k' ∧ (IsV x1574_2) (a'.get 2) k' ∧ True) ?_ hQ ?_
  ·intro Q1575 hQQ1575 hp1576
   refine gS 4 (⟨some IsE0, []⟩ :: _ :: ⟨some (IsV x1574_2), [(5, some 0), (6, some 1)]⟩ :: _ :: []) hs (by kernel_rfl) ⟨ob1 rfl fun b q h n => ok_buildSlice0 rfl Try.underlying44 eo30, mu rfl i0, ob1 rfl fun _ _ h n => ok_append0V rfl Try.underlying44 eo30 n.1 (IsV.rd n.2.1) hx1574_2, cp 2 rfl rfl, trivial⟩ hQQ1575 fun b q p => ?_
   exact tail_done (k := q) (hp1576 _ _ ⟨Bs.post ⟨hg, hs, hd⟩ p, p.ou 3 2 rfl, trivial⟩)
  rintro a k ⟨⟨hg, hs, hd⟩, i2, _⟩
  refine wp_ret ?_
  obtain rfl := Option.some.inj hr
  exact retC1 rfl hd hg i2
def solid_Section (s_ : (List Slab)) (z_ : Int) : Option ((List Rect)) :=
 (solid_Right s_).bind fun x1583_1 =>
 if (!x1583_1) then
  some ([] : List Rect)
 else
  (solid_at s_ z_).bind fun x1587_2 =>
  (slices_Clone_Rect x1587_2).bind fun x1587_3 =>
  some x1587_3
theorem solid_Section_ok {k0 : K} {v0 v1 : Value} {s_ : (List Slab)} {z_ : Int} {r : (List Rect)} (i0 : (IsV s_) v0 k0) (i1 : (IsV z_) v1 k0) (hr : solid_Section s_ z_ = some r) :
  Calls Try.prog 23 #[v0, v1] k0.w (Ret k0 (IsV r)) := by
 unfold solid_Section at hr
 refine Ret.ofC ?_
 refine enterK Try.func23 rfl Try.ntmps23 (show 2 ≤ 12 by decide) fun a k hk0 hs hd ha => ?_
 obtain ⟨e0, e1, _⟩ := ha
 replace i0 : (IsV s_) (a.get 0) k := by rw [e0, hk0]; exact i0
 replace i1 : (IsV z_) (a.get 1) k := by rw [e1, hk0]; exact i1
 have hQ : Gb.LetsOut (bodyPost Try.prog Try.f23 (RetC noF k0 (IsV r))) := letsOutC
 have hg : Chg noF k0 k := by rw [hk0]; exact Chg.refl _ k0
 refine stepL 1 (⟨some IsE0, []⟩ :: []) rfl ⟨hg, hs, hd⟩ (by kernel_rfl) ⟨ob1 rfl fun b q h n => ok_assign rfl isE0_nil, trivial⟩ [⟨_, _⟩, ⟨_, _⟩] (fun b q p => ⟨p.ke 0 rfl i0, p.ke 1 rfl i1, trivial⟩) ?_
 rintro a k ⟨⟨hg, hs, hd⟩, i0, i1, _⟩
 refine wp_seq ?_
 refine wp_seq ?_
 obtain ⟨x1583_1, hx1583_1, hr⟩ := bind_some hr
 refine cut (fun a' k' => Bs noF k0 12 a' k' ∧ (IsV s_) (a'.get 0) k' ∧ (IsV z_) (a'.get 1) k' ∧ (IsV (!x1583_1)) (a'.get 7) k' ∧ True) ?_ hQ ?_
 ·intro Q1591 hQQ1591 hp1592
  refine gS 3 (_ :: _ :: _ :: []) hs (by kernel_rfl) ⟨mu rfl i0, o1 [(5, some 0)] rfl fun _ _ h n => ok_call rfl Try.call17 (solid_Right_ok n.1 hx1583_1), o1 [(6, some 1)] rfl fun _ _ h n => ok_not rfl n.1, trivial⟩ hQQ1591 fun b q p => ?_
  exact tail_done (k := q) (hp1592 _ _ ⟨Bs.post ⟨hg, hs, hd⟩ p, p.ke 0 rfl i0, p.ke 1 rfl i1, p.ou 2 7 rfl, trivial⟩)
 rintro a k ⟨⟨hg, hs, hd⟩, i0, i1, i7, _⟩
 refine wp_cond_split (isBool i7) (fun hc1590 => ?_) (fun hc1590 => ?_)
 ·rw [if_pos hc1590] at hr
  refine cutL noF k0 12 [⟨4, IsV ([] : List Rect)⟩] ?_ ?_
  ·intro Q1585 hQQ1585 hp1586
   refine gS 1 (⟨some IsE0, []⟩ :: []) hs (by kernel_rfl) ⟨ob1 rfl fun b q h n => ok_assign rfl isE0_nil, trivial⟩ hQQ1585 fun b q p => ?_
   have hgq := hg.then p.grow
   have hsb := p.size.trans hs
   have hdb := p.defers.trans hd
   have j4 : IsE0 (b.get 4) q := p.ou 0 4 rfl
   replace j4 : IsV ([] : List Rect) (b.get 4) q := j4.isV
   exact tail_done (k := q) (hp1586 _ _ ⟨⟨hgq, hsb, hdb⟩, j4, trivial⟩)
  rintro a k ⟨⟨hg, hs, hd⟩, i4, _⟩
  refine wp_ret ?_
  obtain rfl := Option.some.inj hr
  exact retC1 rfl hd hg i4
 rw [if_neg (by rw [hc1590]; decide)] at hr
 refine wp_skip ?_
 refine wp_seq ?_
 obtain ⟨x1587_2, hx1587_2, hr⟩ := bind_some hr
 obtain ⟨x1587_3, hx1587_3, hr⟩ := bind_some hr
 refine cut (fun a' k' => Bs noF k0 12 a' k' ∧ (IsV x1587_3) (a'.get 4) k' ∧ True) ?_ hQ ?_
 ·intro Q1588 hQQ1588 hp1589
  refine gS 5 (_ :: _ :: _ :: _ :: _ :: []) hs (by kernel_rfl) ⟨mu rfl i0, mu rfl i1, o1 [(8, some 0), (9, some 1)] rfl fun _ _ h n => ok_call rfl Try.call43 (solid_at_ok n.1 n.2.1 hx1587_2), o1 [(10, some 2)] rfl fun _ _ h n => ok_call rfl Try.call42 (slices_Clone_Rect_ok n.1 hx1587_3), cp 3 rfl rfl, trivial⟩ hQQ1588 fun b q p => ?_
  exact tail_done (k := q) (hp1589 _ _ ⟨Bs.post ⟨hg, hs, hd⟩ p, p.ou 4 4 rfl, trivial⟩)
 rintro a k ⟨⟨hg, hs, hd⟩, i4, _⟩
 refine wp_ret ?_
 obtain rfl := Option.some.inj hr
 exact retC1 rfl hd hg i4
def solid_Has (s_ : (List Slab)) (x_ : Int) (y_ : Int) (z_ : Int) : Option (Bool) :=
 (solid_Section s_ z_).bind fun x1596_2 =>
 (region_Has x1596_2 x_ y_).bind fun x1596_5 =>
 some x1596_5
theorem solid_Has_ok {k0 : K} {v0 v1 v2 v3 : Value} {s_ : (List Slab)} {x_ : Int} {y_ : Int} {z_ : Int} {r : Bool} (i0 : (IsV s_) v0 k0) (i1 : (IsV x_) v1 k0) (i2 : (IsV y_) v2 k0) (i3 : (IsV z_) v3 k0) (hr : solid_Has s_ x_ y_ z_ = some r) :
  Calls Try.prog 19 #[v0, v1, v2, v3] k0.w (Ret k0 (IsV r)) := by
 unfold solid_Has at hr
 refine Ret.ofC ?_
 refine enterK Try.func19 rfl Try.ntmps19 (show 4 ≤ 15 by decide) fun a k hk0 hs hd ha => ?_
 obtain ⟨e0, e1, e2, e3, _⟩ := ha
 replace i0 : (IsV s_) (a.get 0) k := by rw [e0, hk0]; exact i0
 replace i1 : (IsV x_) (a.get 1) k := by rw [e1, hk0]; exact i1
 replace i2 : (IsV y_) (a.get 2) k := by rw [e2, hk0]; exact i2
 replace i3 : (IsV z_) (a.get 3) k := by rw [e3, hk0]; exact i3
 have hQ : Gb.LetsOut (bodyPost Try.prog Try.f19 (RetC noF k0 (IsV r))) := letsOutC
 have hg : Chg noF k0 k := by rw [hk0]; exact Chg.refl _ k0
 refine stepL 1 (⟨some (IsV false), []⟩ :: []) rfl ⟨hg, hs, hd⟩ (by kernel_rfl) ⟨ob1 rfl fun _ _ h n => ok_assign rfl (isV_bool.2 rfl), trivial⟩ [⟨_, _⟩, ⟨_, _⟩, ⟨_, _⟩, ⟨_, _⟩] (fun b q p => ⟨p.ke 0 rfl i0, p.ke 1 rfl i1, p.ke 2 rfl i2, p.ke 3 rfl i3, trivial⟩) ?_
 rintro a k ⟨⟨hg, hs, hd⟩, i0, i1, i2, i3, _⟩
 refine wp_seq ?_
 obtain ⟨x1596_2, hx1596_2, hr⟩ := bind_some hr
 obtain ⟨x1596_5, hx1596_5, hr⟩ := bind_some hr
 refine cut (fun a' k' => Bs noF k0 15 a' k' ∧ (IsV x1596_5) (a'.get 8) k' ∧ True) ?_ hQ ?_
 ·intro Q1597 hQQ1597 hp1598
  refine gS 7 (_ :: _ :: _ :: _ :: _ :: _ :: _ :: []) hs (by kernel_rfl) ⟨mu rfl i0, mu rfl i3, o1 [(9, some 0), (10, some 1)] rfl fun _ _ h n => ok_call rfl Try.call23 (solid_Section_ok n.1 n.2.1 hx1596_2), mu rfl i1, mu rfl i2, o1 [(11, some 2), (12, some 3), (13, some 4)] rfl fun _ _ h n => ok_call rfl Try.call26 (region_Has_ok n.1 n.2.1 n.2.2.1 hx1596_5), cp 5 rfl rfl, trivial⟩ hQQ1597 fun b q p => ?_
  exact tail_done (k := q) (hp1598 _ _ ⟨Bs.post ⟨hg, hs, hd⟩ p, p.ou 6 8 rfl, trivial⟩)
 rintro a k ⟨⟨hg, hs, hd⟩, i8, _⟩
 refine wp_ret ?_
 obtain rfl := Option.some.inj hr
 exact retC1 rfl hd hg i8
end Go.Proofs.Ytmniloampanhfaa
