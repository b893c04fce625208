/- What the functions compute that the law reaches, part 2 -/
import Derived.Test.YtachpkjjlebadaaGreatT1
namespace Go.Proofs.YtachpkjjlebadaaGreat
open Go.Gb
set_option linter.unusedVariables false
set_option linter.unusedSimpArgs false
set_option maxRecDepth 100000
def law30_box (high_ : Int) : Option ((List Drawing)) :=
 some ([(⟨1, [(⟨[(⟨(⟨(⟨0, 0, 4, 4⟩ : Rect), 0, high_⟩ : Box), 2, 0, false⟩ : Volume)], []⟩ : Phase)]⟩ : Drawing)])
noncomputable def k23 := mk 23 [.int] [.list (.st 3)] (fun x => law30_box x) [] [] Tryz.f23 (.n) Tryz.func23 Tryz.call23 rfl rfl fun x => by kernel_rfl
def slices_IndexFunc_Drawing_L0 (s_ : (List Drawing)) (f_ : (Drawing → Option (Bool))) (s1 : Int) : Option (Flow (Int) (Int)) :=
 if (decide (s1 < (s_.length : Int))) then
  (getI s_ s1).bind fun x1 =>
  (f_ x1).bind fun x2 =>
  if x2 then
   some (.ret s1)
  else
   (addI s1 1).bind fun x3 =>
   some (.go x3)
 else
  some (.ex 0 s1)
def slices_IndexFunc_Drawing (s_ : (List Drawing)) (f_ : (Drawing → Option (Bool))) : Option (Int) :=
 (iterL (slices_IndexFunc_Drawing_L0 s_ f_) (s_.length + 1) 0).bind fun f1 => match f1 with
  | .go _ => none
  | .ex _ _ =>
   some (-1)
  | .ret r1 => some r1
theorem slices_IndexFunc_Drawing_ok {k0 : K} {v0 v1 : Value} {s_ : (List Drawing)} {f_ : (Drawing → Option (Bool))} {r : Int} (i0 : (IsV s_) v0 k0) (i1 : (IsFn1 Tryz.prog f_) v1 k0) (hr : slices_IndexFunc_Drawing s_ f_ = some r) :
  Calls Tryz.prog 76 #[v0, v1] k0.w (Ret k0 (IsV r)) := by
 unfold slices_IndexFunc_Drawing at hr
 refine Ret.ofC ?_
 refine enterK Tryz.func76 rfl Tryz.ntmps76 (show 2 ≤ 19 by decide) fun a k hk0 hs hd ha => ?_
 obtain ⟨e0, e1, _⟩ := ha
 replace i0 : (IsV s_) (a.get 0) k := by rw [e0, hk0]; exact i0
 replace i1 : (IsFn1 Tryz.prog f_) (a.get 1) k := by rw [e1, hk0]; exact i1
 have hQ : Gb.LetsOut (bodyPost Tryz.prog Tryz.f76 (RetC noF k0 (IsV r))) := letsOutC
 have hg : Chg noF k0 k := by rw [hk0]; exact Chg.refl _ k0
 refine stepL 1 (⟨some (IsI 0), []⟩ :: []) rfl ⟨hg, hs, hd⟩ (by kernel_rfl) ⟨aI rfl rfl, trivial⟩ [⟨_, _⟩, ⟨_, _⟩] (fun b q p => ⟨p.ke 0 rfl i0, p.ke 1 rfl i1, trivial⟩) ?_
 rintro a k ⟨⟨hg, hs, hd⟩, i0, i1, _⟩
 refine wp_seq ?_
 refine stepL 3 (_ :: _ :: ⟨some (IsI 0), []⟩ :: []) rfl ⟨hg, hs, hd⟩ (by kernel_rfl) ⟨mu rfl i0, o1 [(6, some 0)] rfl fun _ _ h n => ok_len rfl rfl Tryz.underlying31 (IsV.rd n.1), ob1 rfl fun _ _ h n => ok_move rfl (cI rfl), trivial⟩ [⟨_, _⟩, ⟨_, _⟩, ⟨_, _⟩, ⟨_, _⟩] (fun b q p => ⟨p.ke 0 rfl i0, p.ke 1 rfl i1, p.ou 1 7 rfl, p.ou 2 8 rfl, trivial⟩) ?_
 rintro a k ⟨⟨hg, hs, hd⟩, i0, i1, i7, i8, _⟩
 refine wp_block ?_
 obtain ⟨f1, hf1, hr⟩ := bind_some hr
 refine cutFe f1 (fun s' c l => Bs noF k0 19 c l ∧ IsV s_ (c.get 0) l ∧ IsFn1 Tryz.prog f_ (c.get 1) l ∧ IsL s_ (c.get 7) l ∧ IsV s' (c.get 8) l ∧ True) (fun i' s' c l => (i' = 0 ∧ Bs noF k0 19 c l ∧ True)) (fun r' c l => bodyPost Tryz.prog Tryz.f76 (RetC noF k0 (IsV r')) .ret c l.w) ?_ hQ ?_ ?_ ?_
 ·intro Q1 W1 hgo hex hret
  refine sim_loop ?_ _ _ _ _ _ hf1 ⟨⟨hg, hs, hd⟩, i0, i1, i7, i8, trivial⟩ Q1 W1 hgo hex hret
  clear hr hf1 hgo hex hret W1 hQ hg hs hd i0 i1 i7 i8
  intro s1 fl_ a k hr hS Q hQ hgo13 hex14 hret15
  obtain ⟨⟨hg, hs, hd⟩, i0, i1, i7, i8, _⟩ := hS
  unfold slices_IndexFunc_Drawing_L0 at hr
  refine stepL 1 (_ :: []) rfl ⟨hg, hs, hd⟩ (by kernel_rfl) ⟨o1 [(8, none), (7, none)] rfl fun _ _ h n => ok_lss rfl (up i8 h n.1) (up i7 h n.2.1), trivial⟩ [⟨_, _⟩, ⟨_, _⟩, ⟨_, _⟩, ⟨_, _⟩, ⟨_, _⟩] (fun b q p => ⟨p.ke 0 rfl i0, p.ke 1 rfl i1, p.ke 7 rfl i7, p.ke 8 rfl i8, p.ou 0 9 rfl, trivial⟩) ?_
  rintro a k ⟨⟨hg, hs, hd⟩, i0, i1, i7, i8, i9, _⟩
  refine wp_seq ?_
  refine wp_cond_split (isBool i9) (fun hc30 => ?_) (fun hc30 => ?_)
  ·rw [if_pos hc30] at hr
   refine wp_skip ?_
   refine wp_seq ?_
   refine wp_block ?_
   refine stepL 2 (_ :: _ :: []) rfl ⟨hg, hs, hd⟩ (by kernel_rfl) ⟨mu rfl i8, cp 0 rfl rfl, trivial⟩ [⟨_, _⟩, ⟨_, _⟩, ⟨_, _⟩, ⟨_, _⟩, ⟨_, _⟩] (fun b q p => ⟨p.ke 0 rfl i0, p.ke 1 rfl i1, p.ou 1 5 rfl, p.ke 7 rfl i7, p.ke 8 rfl i8, trivial⟩) ?_
   rintro a k ⟨⟨hg, hs, hd⟩, i0, i1, i5, i7, i8, _⟩
   refine wp_seq ?_
   obtain ⟨x1, hx1, hr⟩ := bind_some hr
   obtain ⟨x2, hx2, hr⟩ := bind_some hr
   refine cut (fun a' k' => Bs noF k0 19 a' k' ∧ (IsV s_) (a'.get 0) k' ∧ (IsFn1 Tryz.prog f_) (a'.get 1) k' ∧ (IsV s1) (a'.get 5) k' ∧ (IsL s_) (a'.get 7) k' ∧ (IsV s1) (a'.get 8) k' ∧ (IsV x2) (a'.get 16) k' ∧ True) ?_ hQ ?_
   ·intro Q2 W2 w1
    refine gS 6 (_ :: _ :: _ :: _ :: _ :: ⟨some (IsV x2), [(11, some 0), (15, some 4)]⟩ :: []) hs (by kernel_rfl) ⟨mu rfl i1, mu rfl i0, mu rfl i5, o1 [(12, some 1), (13, some 2)] rfl fun _ _ h n => ok_indexAddr rfl Tryz.underlying31 ty54 (IsV.rd n.1) n.2.1 hx1, o1 [(14, some 3)] rfl fun _ _ h n => ok_load rfl ty54 n.1, ob1 rfl fun _ _ h n => ok_callF1 rfl n.1 n.2.1 hx2, trivial⟩ W2 fun b q p => ?_
    exact tail_done (k := q) (w1 _ _ ⟨Bs.post ⟨hg, hs, hd⟩ p, p.ke 0 rfl i0, p.ke 1 rfl i1, p.ke 5 rfl i5, p.ke 7 rfl i7, p.ke 8 rfl i8, p.ou 5 16 rfl, trivial⟩)
   rintro a k ⟨⟨hg, hs, hd⟩, i0, i1, i5, i7, i8, i16, _⟩
   refine wp_cond_split (isBool i16) (fun hc25 => ?_) (fun hc25 => ?_)
   ·rw [if_pos hc25] at hr
    refine stepL 2 (_ :: _ :: []) rfl ⟨hg, hs, hd⟩ (by kernel_rfl) ⟨mu rfl i5, cp 0 rfl rfl, trivial⟩ [⟨_, _⟩] (fun b q p => ⟨p.ou 1 4 rfl, trivial⟩) ?_
    rintro a k ⟨⟨hg, hs, hd⟩, i4, _⟩
    refine wp_ret ?_
    exact hret15 _ _ _ (Option.some.inj hr).symm (retC1 rfl hd hg i4)
   rw [if_neg (by rw [hc25]; decide)] at hr
   refine wp_skip ?_
   obtain ⟨x3, hx3, hr⟩ := bind_some hr
   refine cut (fun a' k' => Bs noF k0 19 a' k' ∧ (IsV s_) (a'.get 0) k' ∧ (IsFn1 Tryz.prog f_) (a'.get 1) k' ∧ (IsL s_) (a'.get 7) k' ∧ (IsV x3) (a'.get 8) k' ∧ True) ?_ hQ ?_
   ·intro Q3 W3 w2
    refine gS 2 (_ :: _ :: []) hs (by kernel_rfl) ⟨o1 [(8, none)] rfl fun _ _ h n => ok_add rfl (up i8 h n.1) (cI rfl) hx3, cm 0 rfl rfl, trivial⟩ W3 fun b q p => ?_
    exact tail_done (k := q) (w2 _ _ ⟨Bs.post ⟨hg, hs, hd⟩ p, p.ke 0 rfl i0, p.ke 1 rfl i1, p.ke 7 rfl i7, p.ou 1 8 rfl, trivial⟩)
   rintro a k ⟨⟨hg, hs, hd⟩, i0, i1, i7, i8, _⟩
   exact hgo13 _ _ _ (Option.some.inj hr).symm ⟨⟨hg, hs, hd⟩, i0, i1, i7, i8, trivial⟩
  rw [if_neg (by rw [hc30]; decide)] at hr
  refine wp_exit ?_
  exact hex14 _ _ _ _ (Option.some.inj hr).symm ⟨rfl, ⟨hg, hs, hd⟩, trivial⟩
 ·rintro r1 a k rfl hR
  dsimp only at hr
  obtain rfl := Option.some.inj hr
  exact hR
 ·rintro _ _ _ rfl _
  simp at hr
 clear hf1
 rintro _ s2 a k rfl ⟨rfl, ⟨hg, hs, hd⟩, _⟩
 dsimp only at hr
 refine stepL 1 (⟨some (IsI (-1)), []⟩ :: []) rfl ⟨hg, hs, hd⟩ (by kernel_rfl) ⟨aI rfl rfl, trivial⟩ [⟨_, _⟩] (fun b q p => ⟨p.ou 0 4 rfl, trivial⟩) ?_
 rintro a k ⟨⟨hg, hs, hd⟩, i4, _⟩
 refine wp_ret ?_
 obtain rfl := Option.some.inj hr
 exact retC1 rfl hd hg i4
def slices_ContainsFunc_Drawing (s_ : (List Drawing)) (f_ : (Drawing → Option (Bool))) : Option (Bool) :=
 (slices_IndexFunc_Drawing s_ f_).bind fun x1 =>
 some (decide (0 ≤ x1))
theorem slices_ContainsFunc_Drawing_ok {k0 : K} {v0 v1 : Value} {s_ : (List Drawing)} {f_ : (Drawing → Option (Bool))} {r : Bool} (i0 : (IsV s_) v0 k0) (i1 : (IsFn1 Tryz.prog f_) v1 k0) (hr : slices_ContainsFunc_Drawing s_ f_ = some r) :
  Calls Tryz.prog 53 #[v0, v1] k0.w (Ret k0 (IsV r)) := by
 unfold slices_ContainsFunc_Drawing at hr
 refine Ret.ofC ?_
 refine enterK Tryz.func53 rfl Tryz.ntmps53 (show 2 ≤ 9 by decide) fun a k hk0 hs hd ha => ?_
 obtain ⟨e0, e1, _⟩ := ha
 replace i0 : (IsV s_) (a.get 0) k := by rw [e0, hk0]; exact i0
 replace i1 : (IsFn1 Tryz.prog f_) (a.get 1) k := by rw [e1, hk0]; exact i1
 have hQ : Gb.LetsOut (bodyPost Tryz.prog Tryz.f53 (RetC noF k0 (IsV r))) := letsOutC
 have hg : Chg noF k0 k := by rw [hk0]; exact Chg.refl _ k0
 refine stepL 1 (⟨some (IsV false), []⟩ :: []) rfl ⟨hg, hs, hd⟩ (by kernel_rfl) ⟨ob1 rfl fun _ _ h n => ok_assign rfl (isV_bool.2 rfl), trivial⟩ [⟨_, _⟩, ⟨_, _⟩] (fun b q p => ⟨p.ke 0 rfl i0, p.ke 1 rfl i1, trivial⟩) ?_
 rintro a k ⟨⟨hg, hs, hd⟩, i0, i1, _⟩
 refine wp_seq ?_
 obtain ⟨x1, hx1, hr⟩ := bind_some hr
 refine cut (fun a' k' => Bs noF k0 9 a' k' ∧ (IsV (decide (0 ≤ x1))) (a'.get 4) k' ∧ True) ?_ hQ ?_
 ·intro Q1 W1 w1
  refine gS 5 (_ :: _ :: _ :: _ :: _ :: []) hs (by kernel_rfl) ⟨mu rfl i0, mu rfl i1, o1 [(5, some 0), (6, some 1)] rfl fun _ _ h n => ok_call rfl Tryz.call76 (slices_IndexFunc_Drawing_ok n.1 n.2.1 hx1), o1 [(7, some 2)] rfl fun _ _ h n => ok_geq rfl n.1 (cI rfl), cp 3 rfl rfl, trivial⟩ W1 fun b q p => ?_
  exact tail_done (k := q) (w1 _ _ ⟨Bs.post ⟨hg, hs, hd⟩ p, p.ou 4 4 rfl, trivial⟩)
 rintro a k ⟨⟨hg, hs, hd⟩, i4, _⟩
 refine wp_ret ?_
 obtain rfl := Option.some.inj hr
 exact retC1 rfl hd hg i4
def drawing_Volumes_L0 (d_ : Drawing) (from_ : Int) (to_ : Int) (s1 : (List Volume) × Int) : Option (Flow ((List Volume) × Int) ((List Volume))) :=
 if (decide (s1.2 < (d_.Phases.length : Int))) then
  (getI d_.Phases s1.2).bind fun x1 =>
  (if ((decide (from_ ≤ s1.2)) && (decide (s1.2 < to_))) then
   (appI s1.1 x1.Volumes).bind fun x2 =>
   some x2
  else
   some s1.1).bind fun s2 =>
  (addI s1.2 1).bind fun x3 =>
  some (.go (s2, x3))
 else
  some (.ex 0 (s1.1, s1.2))
def drawing_Volumes (d_ : Drawing) (from_ : Int) (to_ : Int) : Option ((List Volume)) :=
 (iterL (drawing_Volumes_L0 d_ from_ to_) (d_.Phases.length + 1) (([] : List Volume), 0)).bind fun f1 => match f1 with
  | .go _ => none
  | .ex _ s1 =>
   some s1.1
  | .ret r1 => some r1
noncomputable def k43 := mk 43 [.st 3, .int, .int] [.list (.st 0)] (fun x => drawing_Volumes x.1 x.2.1 x.2.2) [] [7, 26, 29] Tryz.f43 (.s .n (.s .n (.s (.s .n (.l [] [(7, .o 81 (.st 0)), (13, .v .int)] [(0, [13], [])] (fI 12) (.s .n (.s .n (.s (.s .n (.s .n (.j [] [(7, .o 81 (.st 0))] ([], []) (.s .n .n)))) .n))))) (.s (.f [7] .n) .n)))) Tryz.func43 Tryz.call43 rfl rfl fun x => by kernel_rfl
def drawing_all (d_ : Drawing) : Option ((List Volume)) :=
 (drawing_Volumes d_ 0 (d_.Phases.length : Int)).bind fun x1 =>
 some x1
noncomputable def k37 := mk 37 [.st 3] [.list (.st 0)] (fun x => drawing_all x) [k43] [] Tryz.f37 (.n) Tryz.func37 Tryz.call37 rfl rfl fun x => by kernel_rfl
theorem drawing_all_ok {k0 : K} {v0 : Value} {x0 : Drawing} {r : (List Volume)} (i0 : IsV x0 v0 k0) (hr : drawing_all x0 = some r) : Calls Tryz.prog 37 #[v0] k0.w (Ret k0 (IsV r)) := (k37.ok.ok k0 [v0] x0 r (GOk.none (fun _ => rfl) fun _ e => by cases e) i0 hr)
def rect_Right (r_ : Rect) : Option (Bool) :=
 some ((((((decide (0 ≤ r_.X0)) && (decide (r_.X0 < r_.X1))) && (decide (r_.X1 ≤ 1048576))) && (decide (0 ≤ r_.Y0))) && (decide (r_.Y0 < r_.Y1))) && (decide (r_.Y1 ≤ 1048576)))
noncomputable def k63 := mk 63 [.st 2] [.bool] (fun x => rect_Right x) [] [] Tryz.f63 (.n) Tryz.func63 Tryz.call63 rfl rfl fun x => by kernel_rfl
def drawing_RightVolume (v_ : Volume) : Option (Bool) :=
 (rect_Right v_.Box.Base).bind fun x1 =>
 if ((((!x1) || (decide (v_.Box.Z0 < 0))) || (decide (v_.Box.Z1 ≤ v_.Box.Z0))) || (decide (4096 < v_.Box.Z1))) then
  some false
 else
  if ((v_.Use != 0) && (v_.Units != 0)) then
   some false
  else
   some ((((decide (0 ≤ v_.Use)) && (decide (v_.Use < 6))) && (decide (0 ≤ v_.Units))) && (decide (v_.Units ≤ 1048576)))
noncomputable def k38 := mk 38 [.st 0] [.bool] (fun x => drawing_RightVolume x) [k63] [] Tryz.f38 (.n) Tryz.func38 Tryz.call38 rfl rfl fun x => by kernel_rfl
theorem drawing_RightVolume_ok {k0 : K} {v0 : Value} {x0 : Volume} {r : Bool} (i0 : IsV x0 v0 k0) (hr : drawing_RightVolume x0 = some r) : Calls Tryz.prog 38 #[v0] k0.w (Ret k0 (IsV r)) := (k38.ok.ok k0 [v0] x0 r (GOk.none (fun _ => rfl) fun _ e => by cases e) i0 hr)
def rect_checked (r_ : Rect) : Option (Rect × Bool) :=
 (rect_Right r_).bind fun x1 =>
 if x1 then
  some (r_, true)
 else
  some ((⟨0, 0, 0, 0⟩ : Rect), false)
noncomputable def k85 := mk 85 [.st 2] [.st 2, .bool] (fun x => rect_checked x) [k63] [2] Tryz.f85 (.n) Tryz.func85 Tryz.call85 rfl rfl fun x => by kernel_rfl
def rect_Intersect (a_ : Rect) (b_ : Rect) : Option (Rect × Bool) :=
 (rect_Right a_).bind fun x1 =>
 (if (!x1) then
  some true
 else
  (rect_Right b_).bind fun x2 =>
  some (!x2)).bind fun x3 =>
 if x3 then
  some ((⟨0, 0, 0, 0⟩ : Rect), false)
 else
  (rect_checked (⟨(max a_.X0 b_.X0), (max a_.Y0 b_.Y0), (min a_.X1 b_.X1), (min a_.Y1 b_.Y1)⟩ : Rect)).bind fun x4 =>
  some (x4.1, x4.2)
noncomputable def k65 := mk 65 [.st 2, .st 2] [.st 2, .bool] (fun x => rect_Intersect x.1 x.2) [k63, k85] [4] Tryz.f65 (.n) Tryz.func65 Tryz.call65 rfl rfl fun x => by kernel_rfl
def drawing_meet (a_ : Box) (b_ : Box) : Option (Bool) :=
 (rect_Intersect a_.Base b_.Base).bind fun x1 =>
 some ((x1.2 && (decide (a_.Z0 < b_.Z1))) && (decide (b_.Z0 < a_.Z1)))
noncomputable def k41 := mk 41 [.st 1, .st 1] [.bool] (fun x => drawing_meet x.1 x.2) [k65] [] Tryz.f41 (.n) Tryz.func41 Tryz.call41 rfl rfl fun x => by kernel_rfl
theorem drawing_meet_ok {k0 : K} {v0 v1 : Value} {x0 : Box} {x1 : Box} {r : Bool} (i0 : IsV x0 v0 k0) (i1 : IsV x1 v1 k0) (hr : drawing_meet x0 x1 = some r) : Calls Tryz.prog 41 #[v0, v1] k0.w (Ret k0 (IsV r)) := (k41.ok.ok k0 [v0, v1] (x0, x1) r (GOk.none (fun _ => rfl) fun _ e => by cases e) ⟨i0, i1⟩ hr)
def slices_IndexFunc_Volume_L0 (s_ : (List Volume)) (f_ : (Volume → Option (Bool))) (s1 : Int) : Option (Flow (Int) (Int)) :=
 if (decide (s1 < (s_.length : Int))) then
  (getI s_ s1).bind fun x1 =>
  (f_ x1).bind fun x2 =>
  if x2 then
   some (.ret s1)
  else
   (addI s1 1).bind fun x3 =>
   some (.go x3)
 else
  some (.ex 0 s1)
def slices_IndexFunc_Volume (s_ : (List Volume)) (f_ : (Volume → Option (Bool))) : Option (Int) :=
 (iterL (slices_IndexFunc_Volume_L0 s_ f_) (s_.length + 1) 0).bind fun f1 => match f1 with
  | .go _ => none
  | .ex _ _ =>
   some (-1)
  | .ret r1 => some r1
theorem slices_IndexFunc_Volume_ok {k0 : K} {v0 v1 : Value} {s_ : (List Volume)} {f_ : (Volume → Option (Bool))} {r : Int} (i0 : (IsV s_) v0 k0) (i1 : (IsFn1 Tryz.prog f_) v1 k0) (hr : slices_IndexFunc_Volume s_ f_ = some r) :
  Calls Tryz.prog 64 #[v0, v1] k0.w (Ret k0 (IsV r)) := by
 unfold slices_IndexFunc_Volume at hr
 refine Ret.ofC ?_
 refine enterK Tryz.func64 rfl Tryz.ntmps64 (show 2 ≤ 19 by decide) fun a k hk0 hs hd ha => ?_
 obtain ⟨e0, e1, _⟩ := ha
 replace i0 : (IsV s_) (a.get 0) k := by rw [e0, hk0]; exact i0
 replace i1 : (IsFn1 Tryz.prog f_) (a.get 1) k := by rw [e1, hk0]; exact i1
 have hQ : Gb.LetsOut (bodyPost Tryz.prog Tryz.f64 (RetC noF k0 (IsV r))) := letsOutC
 have hg : Chg noF k0 k := by rw [hk0]; exact Chg.refl _ k0
 refine stepL 1 (⟨some (IsI 0), []⟩ :: []) rfl ⟨hg, hs, hd⟩ (by kernel_rfl) ⟨aI rfl rfl, trivial⟩ [⟨_, _⟩, ⟨_, _⟩] (fun b q p => ⟨p.ke 0 rfl i0, p.ke 1 rfl i1, trivial⟩) ?_
 rintro a k ⟨⟨hg, hs, hd⟩, i0, i1, _⟩
 refine wp_seq ?_
 refine stepL 3 (_ :: _ :: ⟨some (IsI 0), []⟩ :: []) rfl ⟨hg, hs, hd⟩ (by kernel_rfl) ⟨mu rfl i0, o1 [(6, some 0)] rfl fun _ _ h n => ok_len rfl rfl Tryz.underlying70 (IsV.rd n.1), ob1 rfl fun _ _ h n => ok_move rfl (cI rfl), trivial⟩ [⟨_, _⟩, ⟨_, _⟩, ⟨_, _⟩, ⟨_, _⟩] (fun b q p => ⟨p.ke 0 rfl i0, p.ke 1 rfl i1, p.ou 1 7 rfl, p.ou 2 8 rfl, trivial⟩) ?_
 rintro a k ⟨⟨hg, hs, hd⟩, i0, i1, i7, i8, _⟩
 refine wp_block ?_
 obtain ⟨f1, hf1, hr⟩ := bind_some hr
 refine cutFe f1 (fun s' c l => Bs noF k0 19 c l ∧ IsV s_ (c.get 0) l ∧ IsFn1 Tryz.prog f_ (c.get 1) l ∧ IsL s_ (c.get 7) l ∧ IsV s' (c.get 8) l ∧ True) (fun i' s' c l => (i' = 0 ∧ Bs noF k0 19 c l ∧ True)) (fun r' c l => bodyPost Tryz.prog Tryz.f64 (RetC noF k0 (IsV r')) .ret c l.w) ?_ hQ ?_ ?_ ?_
 ·intro Q1 W1 hgo hex hret
  refine sim_loop ?_ _ _ _ _ _ hf1 ⟨⟨hg, hs, hd⟩, i0, i1, i7, i8, trivial⟩ Q1 W1 hgo hex hret
  clear hr hf1 hgo hex hret W1 hQ hg hs hd i0 i1 i7 i8
  intro s1 fl_ a k hr hS Q hQ hgo164 hex165 hret166
  obtain ⟨⟨hg, hs, hd⟩, i0, i1, i7, i8, _⟩ := hS
  unfold slices_IndexFunc_Volume_L0 at hr
  refine stepL 1 (_ :: []) rfl ⟨hg, hs, hd⟩ (by kernel_rfl) ⟨o1 [(8, none), (7, none)] rfl fun _ _ h n => ok_lss rfl (up i8 h n.1) (up i7 h n.2.1), trivial⟩ [⟨_, _⟩, ⟨_, _⟩, ⟨_, _⟩, ⟨_, _⟩, ⟨_, _⟩] (fun b q p => ⟨p.ke 0 rfl i0, p.ke 1 rfl i1, p.ke 7 rfl i7, p.ke 8 rfl i8, p.ou 0 9 rfl, trivial⟩) ?_
  rintro a k ⟨⟨hg, hs, hd⟩, i0, i1, i7, i8, i9, _⟩
  refine wp_seq ?_
  refine wp_cond_split (isBool i9) (fun hc181 => ?_) (fun hc181 => ?_)
  ·rw [if_pos hc181] at hr
   refine wp_skip ?_
   refine wp_seq ?_
   refine wp_block ?_
   refine stepL 2 (_ :: _ :: []) rfl ⟨hg, hs, hd⟩ (by kernel_rfl) ⟨mu rfl i8, cp 0 rfl rfl, trivial⟩ [⟨_, _⟩, ⟨_, _⟩, ⟨_, _⟩, ⟨_, _⟩, ⟨_, _⟩] (fun b q p => ⟨p.ke 0 rfl i0, p.ke 1 rfl i1, p.ou 1 5 rfl, p.ke 7 rfl i7, p.ke 8 rfl i8, trivial⟩) ?_
   rintro a k ⟨⟨hg, hs, hd⟩, i0, i1, i5, i7, i8, _⟩
   refine wp_seq ?_
   obtain ⟨x1, hx1, hr⟩ := bind_some hr
   obtain ⟨x2, hx2, hr⟩ := bind_some hr
   refine cut (fun a' k' => Bs noF k0 19 a' k' ∧ (IsV s_) (a'.get 0) k' ∧ (IsFn1 Tryz.prog f_) (a'.get 1) k' ∧ (IsV s1) (a'.get 5) k' ∧ (IsL s_) (a'.get 7) k' ∧ (IsV s1) (a'.get 8) k' ∧ (IsV x2) (a'.get 16) k' ∧ True) ?_ hQ ?_
   ·intro Q2 W2 w1
    refine gS 6 (_ :: _ :: _ :: _ :: _ :: ⟨some (IsV x2), [(11, some 0), (15, some 4)]⟩ :: []) hs (by kernel_rfl) ⟨mu rfl i1, mu rfl i0, mu rfl i5, o1 [(12, some 1), (13, some 2)] rfl fun _ _ h n => ok_indexAddr rfl Tryz.underlying70 ty81 (IsV.rd n.1) n.2.1 hx1, o1 [(14, some 3)] rfl fun _ _ h n => ok_load rfl ty81 n.1, ob1 rfl fun _ _ h n => ok_callF1 rfl n.1 n.2.1 hx2, trivial⟩ W2 fun b q p => ?_
    exact tail_done (k := q) (w1 _ _ ⟨Bs.post ⟨hg, hs, hd⟩ p, p.ke 0 rfl i0, p.ke 1 rfl i1, p.ke 5 rfl i5, p.ke 7 rfl i7, p.ke 8 rfl i8, p.ou 5 16 rfl, trivial⟩)
   rintro a k ⟨⟨hg, hs, hd⟩, i0, i1, i5, i7, i8, i16, _⟩
   refine wp_cond_split (isBool i16) (fun hc176 => ?_) (fun hc176 => ?_)
   ·rw [if_pos hc176] at hr
    refine stepL 2 (_ :: _ :: []) rfl ⟨hg, hs, hd⟩ (by kernel_rfl) ⟨mu rfl i5, cp 0 rfl rfl, trivial⟩ [⟨_, _⟩] (fun b q p => ⟨p.ou 1 4 rfl, trivial⟩) ?_
    rintro a k ⟨⟨hg, hs, hd⟩, i4, _⟩
    refine wp_ret ?_
    exact hret166 _ _ _ (Option.some.inj hr).symm (retC1 rfl hd hg i4)
   rw [if_neg (by rw [hc176]; decide)] at hr
   refine wp_skip ?_
   obtain ⟨x3, hx3, hr⟩ := bind_some hr
   refine cut (fun a' k' => Bs noF k0 19 a' k' ∧ (IsV s_) (a'.get 0) k' ∧ (IsFn1 Tryz.prog f_) (a'.get 1) k' ∧ (IsL s_) (a'.get 7) k' ∧ (IsV x3) (a'.get 8) k' ∧ True) ?_ hQ ?_
   ·intro Q3 W3 w2
    refine gS 2 (_ :: _ :: []) hs (by kernel_rfl) ⟨o1 [(8, none)] rfl fun _ _ h n => ok_add rfl (up i8 h n.1) (cI rfl) hx3, cm 0 rfl rfl, trivial⟩ W3 fun b q p => ?_
    exact tail_done (k := q) (w2 _ _ ⟨Bs.post ⟨hg, hs, hd⟩ p, p.ke 0 rfl i0, p.ke 1 rfl i1, p.ke 7 rfl i7, p.ou 1 8 rfl, trivial⟩)
   rintro a k ⟨⟨hg, hs, hd⟩, i0, i1, i7, i8, _⟩
   exact hgo164 _ _ _ (Option.some.inj hr).symm ⟨⟨hg, hs, hd⟩, i0, i1, i7, i8, trivial⟩
  rw [if_neg (by rw [hc181]; decide)] at hr
  refine wp_exit ?_
  exact hex165 _ _ _ _ (Option.some.inj hr).symm ⟨rfl, ⟨hg, hs, hd⟩, trivial⟩
 ·rintro r1 a k rfl hR
  dsimp only at hr
  obtain rfl := Option.some.inj hr
  exact hR
 ·rintro _ _ _ rfl _
  simp at hr
 clear hf1
 rintro _ s2 a k rfl ⟨rfl, ⟨hg, hs, hd⟩, _⟩
 dsimp only at hr
 refine stepL 1 (⟨some (IsI (-1)), []⟩ :: []) rfl ⟨hg, hs, hd⟩ (by kernel_rfl) ⟨aI rfl rfl, trivial⟩ [⟨_, _⟩] (fun b q p => ⟨p.ou 0 4 rfl, trivial⟩) ?_
 rintro a k ⟨⟨hg, hs, hd⟩, i4, _⟩
 refine wp_ret ?_
 obtain rfl := Option.some.inj hr
 exact retC1 rfl hd hg i4
def slices_ContainsFunc_Volume (s_ : (List Volume)) (f_ : (Volume → Option (Bool))) : Option (Bool) :=
 (slices_IndexFunc_Volume s_ f_).bind fun x1 =>
 some (decide (0 ≤ x1))
theorem slices_ContainsFunc_Volume_ok {k0 : K} {v0 v1 : Value} {s_ : (List Volume)} {f_ : (Volume → Option (Bool))} {r : Bool} (i0 : (IsV s_) v0 k0) (i1 : (IsFn1 Tryz.prog f_) v1 k0) (hr : slices_ContainsFunc_Volume s_ f_ = some r) :
  Calls Tryz.prog 39 #[v0, v1] k0.w (Ret k0 (IsV r)) := by
 unfold slices_ContainsFunc_Volume at hr
 refine Ret.ofC ?_
 refine enterK Tryz.func39 rfl Tryz.ntmps39 (show 2 ≤ 9 by decide) fun a k hk0 hs hd ha => ?_
 obtain ⟨e0, e1, _⟩ := ha
 replace i0 : (IsV s_) (a.get 0) k := by rw [e0, hk0]; exact i0
 replace i1 : (IsFn1 Tryz.prog f_) (a.get 1) k := by rw [e1, hk0]; exact i1
 have hQ : Gb.LetsOut (bodyPost Tryz.prog Tryz.f39 (RetC noF k0 (IsV r))) := letsOutC
 have hg : Chg noF k0 k := by rw [hk0]; exact Chg.refl _ k0
 refine stepL 1 (⟨some (IsV false), []⟩ :: []) rfl ⟨hg, hs, hd⟩ (by kernel_rfl) ⟨ob1 rfl fun _ _ h n => ok_assign rfl (isV_bool.2 rfl), trivial⟩ [⟨_, _⟩, ⟨_, _⟩] (fun b q p => ⟨p.ke 0 rfl i0, p.ke 1 rfl i1, trivial⟩) ?_
 rintro a k ⟨⟨hg, hs, hd⟩, i0, i1, _⟩
 refine wp_seq ?_
 obtain ⟨x1, hx1, hr⟩ := bind_some hr
 refine cut (fun a' k' => Bs noF k0 9 a' k' ∧ (IsV (decide (0 ≤ x1))) (a'.get 4) k' ∧ True) ?_ hQ ?_
 ·intro Q1 W1 w1
  refine gS 5 (_ :: _ :: _ :: _ :: _ :: []) hs (by kernel_rfl) ⟨mu rfl i0, mu rfl i1, o1 [(5, some 0), (6, some 1)] rfl fun _ _ h n => ok_call rfl Tryz.call64 (slices_IndexFunc_Volume_ok n.1 n.2.1 hx1), o1 [(7, some 2)] rfl fun _ _ h n => ok_geq rfl n.1 (cI rfl), cp 3 rfl rfl, trivial⟩ W1 fun b q p => ?_
  exact tail_done (k := q) (w1 _ _ ⟨Bs.post ⟨hg, hs, hd⟩ p, p.ou 4 4 rfl, trivial⟩)
 rintro a k ⟨⟨hg, hs, hd⟩, i4, _⟩
 refine wp_ret ?_
 obtain rfl := Option.some.inj hr
 exact retC1 rfl hd hg i4
def lex_letter (c_ : (IK .u8)) : Option (Bool) :=
 some ((decide ((IK.mk 97 : IK .u8).n ≤ c_.n)) && (decide (c_.n ≤ (IK.mk 122 : IK .u8).n)))
theorem lex_letter_ok {k0 : K} {v0 : Value} {c_ : (IK .u8)} {r : Bool} (i0 : (IsV c_) v0 k0) (hr : lex_letter c_ = some r) :
  Calls Tryz.prog 86 #[v0] k0.w (Ret k0 (IsV r)) := by
 unfold lex_letter at hr
 refine Ret.ofC ?_
 refine enterK Tryz.func86 rfl Tryz.ntmps86 (show 1 ≤ 9 by decide) fun a k hk0 hs hd ha => ?_
 obtain ⟨e0, _⟩ := ha
 replace i0 : (IsV c_) (a.get 0) k := by rw [e0, hk0]; exact i0
 have hQ : Gb.LetsOut (bodyPost Tryz.prog Tryz.f86 (RetC noF k0 (IsV r))) := letsOutC
 have hg : Chg noF k0 k := by rw [hk0]; exact Chg.refl _ k0
 refine stepL 1 (⟨some (IsV false), []⟩ :: []) rfl ⟨hg, hs, hd⟩ (by kernel_rfl) ⟨ob1 rfl fun _ _ h n => ok_assign rfl (isV_bool.2 rfl), trivial⟩ [⟨_, _⟩] (fun b q p => ⟨p.ke 0 rfl i0, trivial⟩) ?_
 rintro a k ⟨⟨hg, hs, hd⟩, i0, _⟩
 refine stepL 7 (_ :: ⟨some (IsV (decide ((IK.mk 97 : IK .u8).n ≤ c_.n))), [(3, some 0)]⟩ :: _ :: _ :: ⟨some (Gd ((decide ((IK.mk 97 : IK .u8).n ≤ c_.n)) = true) (IsV (decide (c_.n ≤ (IK.mk 122 : IK .u8).n)))), [(6, some 3)]⟩ :: _ :: _ :: []) rfl ⟨hg, hs, hd⟩ (by kernel_rfl) ⟨mu rfl i0, ob1 rfl fun _ _ h n => ok_geqK rfl n.1 (isV_ik.2 rfl), cm 1 rfl rfl, mT rfl rfl i0, gdT rfl rfl fun hp _ _ h n => ok_leqK rfl (Gd.get n.1 hp) (isV_ik.2 rfl), o1 [(5, some 2), (7, some 4)] rfl fun _ _ h n => ok_pickAnd rfl n.1 (Gd.get n.2.1) (cB rfl), cp 5 rfl rfl, trivial⟩ [⟨_, _⟩] (fun b q p => ⟨p.ou 6 2 rfl, trivial⟩) ?_
 rintro a k ⟨⟨hg, hs, hd⟩, i2, _⟩
 refine wp_ret ?_
 obtain rfl := Option.some.inj hr
 exact retC1 rfl hd hg i2
noncomputable def k86 := mkO 86 [.ik .u8] [.bool] (fun x => lex_letter x) Tryz.call86 fun k0 vs x r hG h hr => by obtain ⟨v0, rfl, i0⟩ := h.one; exact lex_letter_ok i0 hr
def lex_span_L0 (s_ : ByteArray) (is_ : ((IK .u8) → Option (Bool))) (s1 : Int) : Option (Flow (Int) (Int)) :=
 (if (decide (s1 < (s_.size : Int))) then
  (strI s_ s1).bind fun x1 =>
  (is_ x1).bind fun x2 =>
  some x2
 else
  some false).bind fun x3 =>
 if x3 then
  (addI s1 1).bind fun x4 =>
  some (.go x4)
 else
  some (.ex 0 s1)
def lex_span (s_ : ByteArray) (is_ : ((IK .u8) → Option (Bool))) : Option (Int) :=
 (iterL (lex_span_L0 s_ is_) (s_.size + 1) 0).bind fun f1 => match f1 with
  | .go _ => none
  | .ex _ s1 =>
   some s1
  | .ret r1 => some r1
theorem lex_span_ok {k0 : K} {v0 v1 : Value} {s_ : ByteArray} {is_ : ((IK .u8) → Option (Bool))} {r : Int} (i0 : (IsV s_) v0 k0) (i1 : (IsFn1 Tryz.prog is_) v1 k0) (hr : lex_span s_ is_ = some r) :
  Calls Tryz.prog 87 #[v0, v1] k0.w (Ret k0 (IsV r)) := by
 unfold lex_span at hr
 refine Ret.ofC ?_
 refine enterK Tryz.func87 rfl Tryz.ntmps87 (show 2 ≤ 20 by decide) fun a k hk0 hs hd ha => ?_
 obtain ⟨e0, e1, _⟩ := ha
 replace i0 : (IsV s_) (a.get 0) k := by rw [e0, hk0]; exact i0
 replace i1 : (IsFn1 Tryz.prog is_) (a.get 1) k := by rw [e1, hk0]; exact i1
 have hQ : Gb.LetsOut (bodyPost Tryz.prog Tryz.f87 (RetC noF k0 (IsV r))) := letsOutC
 have hg : Chg noF k0 k := by rw [hk0]; exact Chg.refl _ k0
 refine stepL 1 (⟨some (IsI 0), []⟩ :: []) rfl ⟨hg, hs, hd⟩ (by kernel_rfl) ⟨aI rfl rfl, trivial⟩ [⟨_, _⟩, ⟨_, _⟩] (fun b q p => ⟨p.ke 0 rfl i0, p.ke 1 rfl i1, trivial⟩) ?_
 rintro a k ⟨⟨hg, hs, hd⟩, i0, i1, _⟩
 refine stepL 1 (⟨some (IsI 0), []⟩ :: []) rfl ⟨hg, hs, hd⟩ (by kernel_rfl) ⟨aI rfl rfl, trivial⟩ [⟨_, _⟩, ⟨_, _⟩, ⟨_, _⟩] (fun b q p => ⟨p.ke 0 rfl i0, p.ke 1 rfl i1, p.ou 0 5 rfl, trivial⟩) ?_
 rintro a k ⟨⟨hg, hs, hd⟩, i0, i1, i5, _⟩
 refine wp_seq ?_
 refine wp_block ?_
 obtain ⟨f1, hf1, hr⟩ := bind_some hr
 refine cutFe f1 (fun s' c l => Bs noF k0 20 c l ∧ IsV s_ (c.get 0) l ∧ IsFn1 Tryz.prog is_ (c.get 1) l ∧ IsV s' (c.get 5) l ∧ True) (fun i' s' c l => (i' = 0 ∧ Bs noF k0 20 c l ∧ IsV s' (c.get 5) l ∧ True)) (fun r' c l => bodyPost Tryz.prog Tryz.f87 (RetC noF k0 (IsV r')) .ret c l.w) ?_ hQ ?_ ?_ ?_
 ·intro Q1 W1 hgo hex hret
  refine sim_loop ?_ _ _ _ _ _ hf1 ⟨⟨hg, hs, hd⟩, i0, i1, i5, trivial⟩ Q1 W1 hgo hex hret
  clear hr hf1 hgo hex hret W1 hQ hg hs hd i0 i1 i5
  intro s1 fl_ a k hr hS Q hQ hgo210 hex211 hret212
  obtain ⟨⟨hg, hs, hd⟩, i0, i1, i5, _⟩ := hS
  unfold lex_span_L0 at hr
  refine wp_seq ?_
  refine wp_seq ?_
  obtain ⟨x1, hx1, hr⟩ := bind_some hr
  obtain ⟨x2, hx2, hx1⟩ := ite_bind hx1
  obtain ⟨x3, hx3, hx1⟩ := ite_bind hx1
  refine cut (fun a' k' => Bs noF k0 20 a' k' ∧ (IsV s_) (a'.get 0) k' ∧ (IsFn1 Tryz.prog is_) (a'.get 1) k' ∧ (IsV s1) (a'.get 5) k' ∧ (IsV x1) (a'.get 16) k' ∧ True) ?_ hQ ?_
  ·intro Q2 W2 w1
   refine gS 11 (_ :: _ :: ⟨some (IsI (s_.size : Int)), [(7, some 1)]⟩ :: _ :: _ :: _ :: _ :: _ :: ⟨some (Gd ((decide (s1 < (s_.size : Int))) = true) (IsV x2)), [(12, some 6), (13, some 7)]⟩ :: ⟨some (Gd ((decide (s1 < (s_.size : Int))) = true) (IsV x3)), [(11, some 5), (14, some 8)]⟩ :: _ :: []) hs (by kernel_rfl) ⟨mu rfl i5, mu rfl i0, ob1 rfl fun _ _ h n => ok_lenS rfl rfl Tryz.underlying9 n.1, o1 [(6, some 0), (8, some 2)] rfl fun _ _ h n => ok_lss rfl n.1 n.2.1, cm 3 rfl rfl, mT rfl rfl i1, mT rfl rfl i0, mT rfl rfl i5, gdT rfl rfl fun hp _ _ h n => ok_strI rfl Tryz.underlying9 (Gd.get n.1 hp) (Gd.get n.2.1 hp) (hx2 hp), gdT rfl rfl fun hp _ _ h n => ok_callF1 rfl (Gd.get n.1 hp) (Gd.get n.2.1 hp) (hx3 hp), o1 [(10, some 4), (15, some 9)] rfl fun _ _ h n => ok_pickM rfl n.1 hx1 (Gd.get n.2.1) (cB rfl), trivial⟩ W2 fun b q p => ?_
   exact tail_done (k := q) (w1 _ _ ⟨Bs.post ⟨hg, hs, hd⟩ p, p.ke 0 rfl i0, p.ke 1 rfl i1, p.ke 5 rfl i5, p.ou 10 16 rfl, trivial⟩)
  rintro a k ⟨⟨hg, hs, hd⟩, i0, i1, i5, i16, _⟩
  refine wp_cond_split (isBool i16) (fun hc217 => ?_) (fun hc217 => ?_)
  ·rw [if_pos hc217] at hr
   refine wp_skip ?_
   refine wp_block ?_
   obtain ⟨x4, hx4, hr⟩ := bind_some hr
   refine cut (fun a' k' => Bs noF k0 20 a' k' ∧ (IsV s_) (a'.get 0) k' ∧ (IsFn1 Tryz.prog is_) (a'.get 1) k' ∧ (IsV x4) (a'.get 5) k' ∧ True) ?_ hQ ?_
   ·intro Q3 W3 w2
    refine gS 3 (_ :: _ :: _ :: []) hs (by kernel_rfl) ⟨mu rfl i5, o1 [(17, some 0)] rfl fun _ _ h n => ok_add rfl n.1 (cI rfl) hx4, cp 1 rfl rfl, trivial⟩ W3 fun b q p => ?_
    exact tail_done (k := q) (w2 _ _ ⟨Bs.post ⟨hg, hs, hd⟩ p, p.ke 0 rfl i0, p.ke 1 rfl i1, p.ou 2 5 rfl, trivial⟩)
   rintro a k ⟨⟨hg, hs, hd⟩, i0, i1, i5, _⟩
   exact hgo210 _ _ _ (Option.some.inj hr).symm ⟨⟨hg, hs, hd⟩, i0, i1, i5, trivial⟩
  rw [if_neg (by rw [hc217]; decide)] at hr
  refine wp_exit ?_
  exact hex211 _ _ _ _ (Option.some.inj hr).symm ⟨rfl, ⟨hg, hs, hd⟩, i5, trivial⟩
 ·rintro r1 a k rfl hR
  dsimp only at hr
  obtain rfl := Option.some.inj hr
  exact hR
 ·rintro _ _ _ rfl _
  simp at hr
 clear hf1
 rintro _ s2 a k rfl ⟨rfl, ⟨hg, hs, hd⟩, i5, _⟩
 dsimp only at hr
 refine stepL 2 (_ :: _ :: []) rfl ⟨hg, hs, hd⟩ (by kernel_rfl) ⟨mu rfl i5, cp 0 rfl rfl, trivial⟩ [⟨_, _⟩] (fun b q p => ⟨p.ou 1 4 rfl, trivial⟩) ?_
 rintro a k ⟨⟨hg, hs, hd⟩, i4, _⟩
 refine wp_ret ?_
 obtain rfl := Option.some.inj hr
 exact retC1 rfl hd hg i4
def lex_digit (c_ : (IK .u8)) : Option (Bool) :=
 some ((decide ((IK.mk 48 : IK .u8).n ≤ c_.n)) && (decide (c_.n ≤ (IK.mk 57 : IK .u8).n)))
theorem lex_digit_ok {k0 : K} {v0 : Value} {c_ : (IK .u8)} {r : Bool} (i0 : (IsV c_) v0 k0) (hr : lex_digit c_ = some r) :
  Calls Tryz.prog 89 #[v0] k0.w (Ret k0 (IsV r)) := by
 unfold lex_digit at hr
 refine Ret.ofC ?_
 refine enterK Tryz.func89 rfl Tryz.ntmps89 (show 1 ≤ 9 by decide) fun a k hk0 hs hd ha => ?_
 obtain ⟨e0, _⟩ := ha
 replace i0 : (IsV c_) (a.get 0) k := by rw [e0, hk0]; exact i0
 have hQ : Gb.LetsOut (bodyPost Tryz.prog Tryz.f89 (RetC noF k0 (IsV r))) := letsOutC
 have hg : Chg noF k0 k := by rw [hk0]; exact Chg.refl _ k0
 refine stepL 1 (⟨some (IsV false), []⟩ :: []) rfl ⟨hg, hs, hd⟩ (by kernel_rfl) ⟨ob1 rfl fun _ _ h n => ok_assign rfl (isV_bool.2 rfl), trivial⟩ [⟨_, _⟩] (fun b q p => ⟨p.ke 0 rfl i0, trivial⟩) ?_
 rintro a k ⟨⟨hg, hs, hd⟩, i0, _⟩
 refine stepL 7 (_ :: ⟨some (IsV (decide ((IK.mk 48 : IK .u8).n ≤ c_.n))), [(3, some 0)]⟩ :: _ :: _ :: ⟨some (Gd ((decide ((IK.mk 48 : IK .u8).n ≤ c_.n)) = true) (IsV (decide (c_.n ≤ (IK.mk 57 : IK .u8).n)))), [(6, some 3)]⟩ :: _ :: _ :: []) rfl ⟨hg, hs, hd⟩ (by kernel_rfl) ⟨mu rfl i0, ob1 rfl fun _ _ h n => ok_geqK rfl n.1 (isV_ik.2 rfl), cm 1 rfl rfl, mT rfl rfl i0, gdT rfl rfl fun hp _ _ h n => ok_leqK rfl (Gd.get n.1 hp) (isV_ik.2 rfl), o1 [(5, some 2), (7, some 4)] rfl fun _ _ h n => ok_pickAnd rfl n.1 (Gd.get n.2.1) (cB rfl), cp 5 rfl rfl, trivial⟩ [⟨_, _⟩] (fun b q p => ⟨p.ou 6 2 rfl, trivial⟩) ?_
 rintro a k ⟨⟨hg, hs, hd⟩, i2, _⟩
 refine wp_ret ?_
 obtain rfl := Option.some.inj hr
 exact retC1 rfl hd hg i2
noncomputable def k89 := mkO 89 [.ik .u8] [.bool] (fun x => lex_digit x) Tryz.call89 fun k0 vs x r hG h hr => by obtain ⟨v0, rfl, i0⟩ := h.one; exact lex_digit_ok i0 hr
def lex_Word_1 (c_ : (IK .u8)) : Option (Bool) :=
 (lex_letter c_).bind fun x1 =>
 (if x1 then
  some true
 else
  (lex_digit c_).bind fun x2 =>
  some x2).bind fun x3 =>
 some x3
noncomputable def k88 := mk 88 [.ik .u8] [.bool] (fun x => lex_Word_1 x) [k86, k89] [] Tryz.f88 (.n) Tryz.func88 Tryz.call88 rfl rfl fun x => by kernel_rfl
theorem lex_Word_1_ok {k0 : K} {v0 : Value} {x0 : (IK .u8)} {r : Bool} (i0 : IsV x0 v0 k0) (hr : lex_Word_1 x0 = some r) : Calls Tryz.prog 88 #[v0] k0.w (Ret k0 (IsV r)) := (k88.ok.ok k0 [v0] x0 r (GOk.none (fun _ => rfl) fun _ e => by cases e) i0 hr)
def lex_Word (s_ : ByteArray) : Option (Bool) :=
 (if ((s_.toList == (⟨#[]⟩ : ByteArray).toList)) then
  some true
 else
  (strI s_ 0).bind fun x1 =>
  (lex_letter x1).bind fun x2 =>
  some (!x2)).bind fun x3 =>
 if (x3 || (decide (20 < (s_.size : Int)))) then
  some false
 else
  (lex_span s_ lex_Word_1).bind fun x4 =>
  some (x4 == (s_.size : Int))
theorem lex_Word_ok {k0 : K} {v0 : Value} {s_ : ByteArray} {r : Bool} (i0 : (IsV s_) v0 k0) (hr : lex_Word s_ = some r) :
  Calls Tryz.prog 66 #[v0] k0.w (Ret k0 (IsV r)) := by
 unfold lex_Word at hr
 refine Ret.ofC ?_
 refine enterK Tryz.func66 rfl Tryz.ntmps66 (show 1 ≤ 21 by decide) fun a k hk0 hs hd ha => ?_
 obtain ⟨e0, _⟩ := ha
 replace i0 : (IsV s_) (a.get 0) k := by rw [e0, hk0]; exact i0
 have hQ : Gb.LetsOut (bodyPost Tryz.prog Tryz.f66 (RetC noF k0 (IsV r))) := letsOutC
 have hg : Chg noF k0 k := by rw [hk0]; exact Chg.refl _ k0
 refine stepL 1 (⟨some (IsV false), []⟩ :: []) rfl ⟨hg, hs, hd⟩ (by kernel_rfl) ⟨ob1 rfl fun _ _ h n => ok_assign rfl (isV_bool.2 rfl), trivial⟩ [⟨_, _⟩] (fun b q p => ⟨p.ke 0 rfl i0, trivial⟩) ?_
 rintro a k ⟨⟨hg, hs, hd⟩, i0, _⟩
 refine wp_seq ?_
 refine wp_seq ?_
 obtain ⟨x1, hx1, hr⟩ := bind_some hr
 obtain ⟨x2, hx2, hx1⟩ := ite_bindF hx1
 obtain ⟨x3, hx3, hx1⟩ := ite_bindF hx1
 refine cut (fun a' k' => Bs noF k0 21 a' k' ∧ (IsV s_) (a'.get 0) k' ∧ (IsV (x1 || (decide (20 < (s_.size : Int))))) (a'.get 15) k' ∧ True) ?_ hQ ?_
 ·intro Q1 W1 w1
  refine gS 13 (_ :: ⟨some (IsV ((s_.toList == (⟨#[]⟩ : ByteArray).toList))), [(3, some 0)]⟩ :: _ :: _ :: ⟨some (Gd (((s_.toList == (⟨#[]⟩ : ByteArray).toList)) = false) (IsV x2)), [(6, some 3)]⟩ :: _ :: _ :: _ :: _ :: _ :: ⟨some (Gd (x1 = false) (IsI (s_.size : Int))), [(12, some 9)]⟩ :: _ :: _ :: []) hs (by kernel_rfl) ⟨mu rfl i0, ob1 rfl fun _ _ h n => ok_eqS rfl n.1 (isV_str.2 rfl), cm 1 rfl rfl, mF rfl rfl i0, gdF rfl rfl fun hp _ _ h n => ok_strI rfl Tryz.underlying9 (Gd.get n.1 hp) (cI rfl) (hx2 hp), gF [(7, some 4)] rfl rfl fun hp _ _ h n => ok_call rfl Tryz.call86 (lex_letter_ok (Gd.get n.1 hp) (hx3 hp)), gF [(8, some 5)] rfl rfl fun hp _ _ h n => ok_not rfl (Gd.get n.1 hp), o1 [(5, some 2), (9, some 6)] rfl fun _ _ h n => ok_pickM rfl n.1 hx1 (cB rfl) (Gd.get n.2.1), cm 7 rfl rfl, mF rfl rfl i0, gdF rfl rfl fun hp _ _ h n => ok_lenS rfl rfl Tryz.underlying9 (Gd.get n.1 hp), gF [(13, some 10)] rfl rfl fun hp _ _ h n => ok_gtr rfl (Gd.get n.1 hp) (cI rfl), o1 [(11, some 8), (14, some 11)] rfl fun _ _ h n => ok_pickOr rfl n.1 (cB rfl) (Gd.get n.2.1), trivial⟩ W1 fun b q p => ?_
  exact tail_done (k := q) (w1 _ _ ⟨Bs.post ⟨hg, hs, hd⟩ p, p.ke 0 rfl i0, p.ou 12 15 rfl, trivial⟩)
 rintro a k ⟨⟨hg, hs, hd⟩, i0, i15, _⟩
 refine wp_cond_split (isBool i15) (fun hc251 => ?_) (fun hc251 => ?_)
 ·rw [if_pos hc251] at hr
  refine stepL 1 (⟨some (IsV false), []⟩ :: []) rfl ⟨hg, hs, hd⟩ (by kernel_rfl) ⟨ob1 rfl fun _ _ h n => ok_assign rfl (isV_bool.2 rfl), trivial⟩ [⟨_, _⟩] (fun b q p => ⟨p.ou 0 2 rfl, trivial⟩) ?_
  rintro a k ⟨⟨hg, hs, hd⟩, i2, _⟩
  refine wp_ret ?_
  obtain rfl := Option.some.inj hr
  exact retC1 rfl hd hg i2
 rw [if_neg (by rw [hc251]; decide)] at hr
 refine wp_skip ?_
 refine wp_seq ?_
 obtain ⟨x4, hx4, hr⟩ := bind_some hr
 refine cut (fun a' k' => Bs noF k0 21 a' k' ∧ (IsV (x4 == (s_.size : Int))) (a'.get 2) k' ∧ True) ?_ hQ ?_
 ·intro Q2 W2 w2
  refine gS 6 (_ :: _ :: _ :: ⟨some (IsI (s_.size : Int)), [(18, some 2)]⟩ :: _ :: _ :: []) hs (by kernel_rfl) ⟨mu rfl i0, o1 [(16, some 0)] rfl fun _ _ h n => ok_call rfl Tryz.call87 (lex_span_ok n.1 ⟨88, _, _, rfl, Tryz.call88, fun k9 hk9 _ _ _ hx0 hy9 => by simpa [evalT] using lex_Word_1_ok hx0 hy9⟩ hx4), mu rfl i0, ob1 rfl fun _ _ h n => ok_lenS rfl rfl Tryz.underlying9 n.1, o1 [(17, some 1), (19, some 3)] rfl fun _ _ h n => ok_eqI rfl n.1 n.2.1, cp 4 rfl rfl, trivial⟩ W2 fun b q p => ?_
  exact tail_done (k := q) (w2 _ _ ⟨Bs.post ⟨hg, hs, hd⟩ p, p.ou 5 2 rfl, trivial⟩)
 rintro a k ⟨⟨hg, hs, hd⟩, i2, _⟩
 refine wp_ret ?_
 obtain rfl := Option.some.inj hr
 exact retC1 rfl hd hg i2
section
open Go.Proofs Go.RowKit Go.Lib Go.Sort Go.Shelf
def Tryz.containsL_ren : Go.Shelf.Ren := ⟨fun | 144 => 67 | 143 => 90 | 219 => 103 | 217 => 118 | 225 => 119 | 224 => 120 | 267 => 121 | 266 => 142 | 314 => 143 | n => n, fun | 9 => 9 | 4 => 4 | 3 => 3 | 5 => 5 | 46 => 154 | 146 => 189 | 51 => 178 | n => n, fun | 1 => 0 | n => n⟩
theorem Tryz.containsL : Go.Proofs.LaysM.n144 Tryz.prog Tryz.containsL_ren := {
 mixed := by kernel_rfl,
 f143 := Tryz.func90.trans (congrArg some (by kernel_rfl)),
 f144 := Tryz.func67.trans (congrArg some (by kernel_rfl)),
 f217 := Tryz.func118.trans (congrArg some (by kernel_rfl)),
 f219 := Tryz.func103.trans (congrArg some (by kernel_rfl)),
 f224 := Tryz.func120.trans (congrArg some (by kernel_rfl)),
 f225 := Tryz.func119.trans (congrArg some (by kernel_rfl)),
 f266 := Tryz.func142.trans (congrArg some (by kernel_rfl)),
 f267 := Tryz.func121.trans (congrArg some (by kernel_rfl)),
 f314 := Tryz.func143.trans (congrArg some (by kernel_rfl)),
 t3 := Tryz.underlying3,
 a3 := Tryz.isAgg3,
 z3 := Tryz.sizeOf3,
 v3 := Tryz.zeroValue3,
 t4 := Tryz.underlying4,
 a4 := Tryz.isAgg4,
 z4 := Tryz.sizeOf4,
 v4 := Tryz.zeroValue4,
 t5 := Tryz.underlying5,
 a5 := Tryz.isAgg5,
 z5 := Tryz.sizeOf5,
 v5 := Tryz.zeroValue5,
 t9 := Tryz.underlying9,
 a9 := Tryz.isAgg9,
 z9 := Tryz.sizeOf9,
 v9 := Tryz.zeroValue9,
 t46 := Tryz.underlying154,
 a46 := Tryz.isAgg154,
 z46 := Tryz.sizeOf154,
 v46 := Tryz.zeroValue154,
 t51 := Tryz.underlying178,
 a51 := Tryz.isAgg178,
 z51 := Tryz.sizeOf178,
 v51 := Tryz.zeroValue178,
 t146 := Tryz.underlying189,
 a146 := Tryz.isAgg189,
 z146 := Tryz.sizeOf189,
 v146 := Tryz.zeroValue189,
 g1 := by kernel_rfl,
 i3 := by kernel_rfl,
 i4 := by kernel_rfl,
 i5 := by kernel_rfl,
 i9 := by kernel_rfl,
 i46 := by kernel_rfl,
 i51 := by kernel_rfl,
 i146 := by kernel_rfl,
 m1 := by kernel_rfl,
 s1_3 := fun w h => Go.Proofs.cell_of_shapedOpen_int (zero := #[.int .i64 0]) (t := 3) h (of_decide_eq_true (by kernel_rfl)) (by kernel_rfl) rfl (by kernel_rfl) (by kernel_rfl) Tryz.underlying3 }
def strings_Contains (s sub : ByteArray) : Option Bool := if s.size < 4294967281 then some (Lib.contains s.data.toList sub.data.toList) else none
theorem strings_Contains_ok {k0 : K} {v0 v1 : Value} {s sub : ByteArray} {r : Bool} (hG : GOk tbg k0) (i0 : IsV s v0 k0) (i1 : IsV sub v1 k0) (hr : strings_Contains s sub = some r) : Calls Tryz.prog 67 #[v0, v1] k0.w (Ret k0 (IsV r)) := by
 unfold strings_Contains at hr
 split at hr
 ·rename_i hs
  obtain rfl := Option.some.inj hr
  obtain rfl := isV_str.1 i0; obtain rfl := isV_str.1 i1
  obtain ⟨m, hm⟩ := hG.2 0 rfl
  have hcon := Any.strings_Contains Tryz.containsL.ton144 s sub m k0.w hs (ref_cell hm)
  change Calls Tryz.prog 67 _ _ _ at hcon
  refine hcon.mono fun e w' h => ?_
  obtain ⟨rfl, rfl⟩ := h
  exact ⟨k0, rfl, Grow.refl k0, isV_bool.2 rfl⟩
 ·simp at hr
end
def syntax_Name (s_ : ByteArray) : Option (Bool) :=
 (lex_Word s_).bind fun x1 =>
 (if x1 then
  (catI (⟨#[32]⟩ : ByteArray) s_).bind fun x2 =>
  (catI x2 (⟨#[32]⟩ : ByteArray)).bind fun x3 =>
  (strings_Contains (⟨#[32, 97, 110, 100, 32, 97, 112, 97, 114, 116, 32, 98, 97, 115, 101, 32, 99, 97, 112, 32, 100, 101, 102, 105, 110, 101, 32, 101, 108, 115, 101, 32, 101, 120, 99, 101, 112, 116, 32, 102, 114, 111, 109, 32, 103, 114, 97, 99, 101, 32, 104, 111, 117, 114, 115, 32, 105, 102, 32, 105, 110, 32, 108, 101, 97, 115, 116, 32, 110, 111, 116, 32, 111, 114, 32, 111, 118, 101, 114, 108, 97, 121, 32, 112, 108, 97, 110, 101, 32, 114, 117, 108, 101, 32, 115, 108, 111, 112, 101, 32, 115, 117, 110, 32, 116, 97, 98, 108, 101, 32, 116, 104, 101, 110, 32, 117, 110, 116, 105, 108, 32, 117, 115, 101, 115, 32, 118, 97, 114, 121, 32, 118, 105, 101, 119, 32, 122, 111, 110, 101, 32]⟩ : ByteArray) x3).bind fun x4 =>
  some (!x4)
 else
  some false).bind fun x5 =>
 some x5
theorem syntax_Name_ok {k0 : K} {v0 : Value} {s_ : ByteArray} {r : Bool} (hG : GOk tbg k0) (i0 : (IsV s_) v0 k0) (hr : syntax_Name s_ = some r) :
  Calls Tryz.prog 42 #[v0] k0.w (Ret k0 (IsV r)) := by
 unfold syntax_Name at hr
 refine Ret.ofC ?_
 refine enterK Tryz.func42 rfl Tryz.ntmps42 (show 1 ≤ 12 by decide) fun a k hk0 hs hd ha => ?_
 obtain ⟨e0, _⟩ := ha
 replace i0 : (IsV s_) (a.get 0) k := by rw [e0, hk0]; exact i0
 have hQ : Gb.LetsOut (bodyPost Tryz.prog Tryz.f42 (RetC noF k0 (IsV r))) := letsOutC
 have hg : Chg noF k0 k := by rw [hk0]; exact Chg.refl _ k0
 refine stepL 1 (⟨some (IsV false), []⟩ :: []) rfl ⟨hg, hs, hd⟩ (by kernel_rfl) ⟨ob1 rfl fun _ _ h n => ok_assign rfl (isV_bool.2 rfl), trivial⟩ [⟨_, _⟩] (fun b q p => ⟨p.ke 0 rfl i0, trivial⟩) ?_
 rintro a k ⟨⟨hg, hs, hd⟩, i0, _⟩
 refine wp_seq ?_
 obtain ⟨x1, hx1, hr⟩ := bind_some hr
 obtain ⟨x2, hx2, hr⟩ := bind_some hr
 obtain ⟨x3, hx3, hx2⟩ := ite_bind hx2
 obtain ⟨x4, hx4, hx2⟩ := ite_bind hx2
 obtain ⟨x5, hx5, hx2⟩ := ite_bind hx2
 refine cut (fun a' k' => Bs noF k0 12 a' k' ∧ (IsV x2) (a'.get 2) k' ∧ True) ?_ hQ ?_
 ·intro Q1 W1 w1
  refine gS 10 (_ :: _ :: _ :: _ :: ⟨some (Gd (x1 = true) (IsV x3)), [(6, some 3)]⟩ :: ⟨some (Gd (x1 = true) (IsV x4)), [(7, some 4)]⟩ :: _ :: _ :: _ :: _ :: []) hs (by kernel_rfl) ⟨mu rfl i0, o1 [(3, some 0)] rfl fun _ _ h n => ok_call rfl Tryz.call66 (lex_Word_ok n.1 hx1), cm 1 rfl rfl, mT rfl rfl i0, gdT rfl rfl fun hp _ _ h n => ok_catS rfl (isV_str.2 rfl) (Gd.get n.1 hp) (hx3 hp), gdT rfl rfl fun hp _ _ h n => ok_catS rfl (Gd.get n.1 hp) (isV_str.2 rfl) (hx4 hp), gT [(8, some 5)] rfl rfl fun hp _ _ h n => ok_call rfl Tryz.call67 (strings_Contains_ok (hG.at hg h) (isV_str.2 rfl) (Gd.get n.1 hp) (hx5 hp)), gT [(9, some 6)] rfl rfl fun hp _ _ h n => ok_not rfl (Gd.get n.1 hp), o1 [(5, some 2), (10, some 7)] rfl fun _ _ h n => ok_pickM rfl n.1 hx2 (Gd.get n.2.1) (cB rfl), cp 8 rfl rfl, trivial⟩ W1 fun b q p => ?_
  exact tail_done (k := q) (w1 _ _ ⟨Bs.post ⟨hg, hs, hd⟩ p, p.ou 9 2 rfl, trivial⟩)
 rintro a k ⟨⟨hg, hs, hd⟩, i2, _⟩
 refine wp_ret ?_
 obtain rfl := Option.some.inj hr
 exact retC1 rfl hd hg i2
def drawing_Form_1 (w_ : Volume) (p1_ : Volume) : Option (Bool) :=
 (drawing_meet p1_.Box w_.Box).bind fun x1 =>
 some x1
theorem drawing_Form_1_ok {k0 : K} {v0 v1 : Value} {w_ : Volume} {p1_ : Volume} {r : Bool} (i0 : (IsV w_) v0 k0) (i1 : (IsRef p1_) v1 k0) (hr : drawing_Form_1 w_ p1_ = some r) :
  Calls Tryz.prog 40 #[v0, v1] k0.w (Ret k0 (IsV r)) := by
 unfold drawing_Form_1 at hr
 refine Ret.ofC ?_
 refine enterK Tryz.func40 rfl Tryz.ntmps40 (show 2 ≤ 9 by decide) fun a k hk0 hs hd ha => ?_
 obtain ⟨e0, e1, _⟩ := ha
 replace i0 : (IsV w_) (a.get 0) k := by rw [e0, hk0]; exact i0
 replace i1 : (IsRef p1_) (a.get 1) k := by rw [e1, hk0]; exact i1
 have hQ : Gb.LetsOut (bodyPost Tryz.prog Tryz.f40 (RetC noF k0 (IsV r))) := letsOutC
 have hg : Chg noF k0 k := by rw [hk0]; exact Chg.refl _ k0
 refine stepL 2 (⟨some (IsRef w_), [(0, none)]⟩ :: ⟨some (IsV false), []⟩ :: []) rfl ⟨hg, hs, hd⟩ (by kernel_rfl) ⟨ob1 rfl fun _ _ h n => ok_boxR rfl (up i0 h n.1), ob1 rfl fun _ _ h n => ok_assign rfl (isV_bool.2 rfl), trivial⟩ [⟨_, _⟩, ⟨_, _⟩] (fun b q p => ⟨p.ke 1 rfl i1, p.ou 0 2 rfl, trivial⟩) ?_
 rintro a k ⟨⟨hg, hs, hd⟩, i1, i2, _⟩
 refine wp_seq ?_
 obtain ⟨x1, hx1, hr⟩ := bind_some hr
 refine cut (fun a' k' => Bs noF k0 9 a' k' ∧ (IsV x1) (a'.get 3) k' ∧ True) ?_ hQ ?_
 ·intro Q1 W1 w1
  refine gS 6 (_ :: _ :: _ :: _ :: _ :: _ :: []) hs (by kernel_rfl) ⟨o1 [(1, none)] rfl fun _ _ h n => ok_fieldAddr rfl fo81_0 (at_Volume_0 _) ((up i1 h n.1)).ptr, o1 [(4, some 0)] rfl fun _ _ h n => ok_load rfl ty79 n.1, o1 [(2, none)] rfl fun _ _ h n => ok_fieldAddr rfl fo81_0 (at_Volume_0 _) ((up i2 h n.1)).ptr, o1 [(6, some 2)] rfl fun _ _ h n => ok_load rfl ty79 n.1, o1 [(5, some 1), (7, some 3)] rfl fun _ _ h n => ok_call rfl Tryz.call41 (drawing_meet_ok n.1 n.2.1 hx1), cp 4 rfl rfl, trivial⟩ W1 fun b q p => ?_
  exact tail_done (k := q) (w1 _ _ ⟨Bs.post ⟨hg, hs, hd⟩ p, p.ou 5 3 rfl, trivial⟩)
 rintro a k ⟨⟨hg, hs, hd⟩, i3, _⟩
 refine wp_ret ?_
 obtain rfl := Option.some.inj hr
 exact retC1 rfl hd hg i3
def drawing_Form_L0 (x1 : (List Volume)) (s1 : Int) : Option (Flow (Int) (Bool)) :=
 if (decide (s1 < (x1.length : Int))) then
  (getI x1 s1).bind fun x2 =>
  (drawing_RightVolume x2).bind fun x3 =>
  (if (!x3) then
   some true
  else
   (sliceI x1 0 s1).bind fun x4 =>
   (slices_ContainsFunc_Volume x4 (fun y0 => drawing_Form_1 y0 x2)).bind fun x5 =>
   some x5).bind fun x6 =>
  if x6 then
   some (.ret false)
  else
   (addI s1 1).bind fun x7 =>
   some (.go x7)
 else
  some (.ex 0 s1)
def drawing_Form_L2 (x1 : Phase) (s1 : (GMap ByteArray Bool) × Int) : Option (Flow ((GMap ByteArray Bool) × Int) (Bool)) :=
 if (decide (s1.2 < (x1.Gives.length : Int))) then
  (getI x1.Gives s1.2).bind fun x2 =>
  (if ((getK (s1.1).l x2.Name).getD false) then
   some true
  else
   (syntax_Name x2.Name).bind fun x3 =>
   some (!x3)).bind fun x4 =>
  if ((x4 || (decide (x2.N < 0))) || (decide (1073741824 < x2.N))) then
   some (.ret false)
  else
   (addI s1.2 1).bind fun x5 =>
   some (.go ((GMap.mk (setK (s1.1).l x2.Name true) : (GMap ByteArray Bool)), x5))
 else
  some (.ex 4 (s1.1, s1.2))
def drawing_Form_L1 (d_ : Drawing) (s1 : Int) : Option (Flow (Int) (Bool)) :=
 if (decide (s1 < (d_.Phases.length : Int))) then
  (getI d_.Phases s1).bind fun x1 =>
  (iterL (drawing_Form_L2 x1) (x1.Gives.length + 1) ((⟨[]⟩ : (GMap ByteArray Bool)), 0)).bind fun f1 => match f1 with
   | .go _ => none
   | .ex _ _ =>
    if (decide (30 < (x1.Gives.length : Int))) then
     some (.ret false)
    else
     (addI s1 1).bind fun x2 =>
     some (.go x2)
   | .ret r1 => some (.ret r1)
 else
  some (.ex 2 s1)
def drawing_Form (d_ : Drawing) : Option (Bool) :=
 (drawing_all d_).bind fun x1 =>
 if ((((((decide (d_.Lot < 0)) || (decide (1073741824 < d_.Lot))) || (decide ((d_.Phases.length : Int) < 1))) || (decide (8 < (d_.Phases.length : Int)))) || (decide ((x1.length : Int) < 1))) || (decide (40 < (x1.length : Int)))) then
  some false
 else
  (iterL (drawing_Form_L0 x1) (x1.length + 1) 0).bind fun f1 => match f1 with
   | .go _ => none
   | .ex _ _ =>
    (iterL (drawing_Form_L1 d_) (d_.Phases.length + 1) 0).bind fun f2 => match f2 with
     | .go _ => none
     | .ex _ _ =>
      some true
     | .ret r1 => some r1
   | .ret r2 => some r2
theorem drawing_Form_ok {k0 : K} {v0 : Value} {d_ : Drawing} {r : Bool} (hG : GOk tbg k0) (i0 : (IsV d_) v0 k0) (hr : drawing_Form d_ = some r) :
  Calls Tryz.prog 19 #[v0] k0.w (Ret k0 (IsV r)) := by
 unfold drawing_Form at hr
 refine Ret.ofC ?_
 refine enterK Tryz.func19 rfl Tryz.ntmps19 (show 1 ≤ 105 by decide) fun a k hk0 hs hd ha => ?_
 obtain ⟨e0, _⟩ := ha
 replace i0 : (IsV d_) (a.get 0) k := by rw [e0, hk0]; exact i0
 have hQ : Gb.LetsOut (bodyPost Tryz.prog Tryz.f19 (RetC noF k0 (IsV r))) := letsOutC
 have hg : Chg noF k0 k := by rw [hk0]; exact Chg.refl _ k0
 refine stepL 2 (⟨some (IsRef d_), [(0, none)]⟩ :: ⟨some (IsV false), []⟩ :: []) rfl ⟨hg, hs, hd⟩ (by kernel_rfl) ⟨ob1 rfl fun _ _ h n => ok_boxR rfl (up i0 h n.1), ob1 rfl fun _ _ h n => ok_assign rfl (isV_bool.2 rfl), trivial⟩ [⟨_, _⟩] (fun b q p => ⟨p.ou 0 1 rfl, trivial⟩) ?_
 rintro a k ⟨⟨hg, hs, hd⟩, i1, _⟩
 refine wp_seq ?_
 obtain ⟨x1, hx1, hr⟩ := bind_some hr
 refine cut (fun a' k' => Bs noF k0 105 a' k' ∧ (IsRef d_) (a'.get 1) k' ∧ (IsV x1) (a'.get 3) k' ∧ True) ?_ hQ ?_
 ·intro Q1 W1 w1
  refine gS 3 (_ :: _ :: _ :: []) hs (by kernel_rfl) ⟨o1 [(1, none)] rfl fun _ _ h n => ok_load rfl ty54 ((up i1 h n.1)).ptr, o1 [(11, some 0)] rfl fun _ _ h n => ok_call rfl Tryz.call37 (drawing_all_ok n.1 hx1), cp 1 rfl rfl, trivial⟩ W1 fun b q p => ?_
  exact tail_done (k := q) (w1 _ _ ⟨Bs.post ⟨hg, hs, hd⟩ p, p.ke 1 rfl i1, p.ou 2 3 rfl, trivial⟩)
 rintro a k ⟨⟨hg, hs, hd⟩, i1, i3, _⟩
 refine wp_seq ?_
 refine stepL 30 (_ :: _ :: _ :: _ :: _ :: _ :: _ :: _ :: _ :: _ :: _ :: _ :: _ :: _ :: _ :: _ :: _ :: _ :: _ :: _ :: _ :: _ :: _ :: _ :: _ :: _ :: _ :: _ :: _ :: _ :: []) rfl ⟨hg, hs, hd⟩ (by kernel_rfl) ⟨o1 [(1, none)] rfl fun _ _ h n => ok_fieldAddr rfl fo54_0 (at_Drawing_0 _) ((up i1 h n.1)).ptr, o1 [(13, some 0)] rfl fun _ _ h n => ok_load rfl ty3 n.1, o1 [(14, some 1)] rfl fun _ _ h n => ok_lss rfl n.1 (cI rfl), cm 2 rfl rfl, gF [(1, none)] rfl rfl fun hp _ _ h n => ok_fieldAddr rfl fo54_0 (at_Drawing_0 _) ((up i1 h n.1)).ptr, gF [(17, some 4)] rfl rfl fun hp _ _ h n => ok_load rfl ty3 (Gd.get n.1 hp), gF [(18, some 5)] rfl rfl fun hp _ _ h n => ok_gtr rfl (Gd.get n.1 hp) (cI rfl), o1 [(16, some 3), (19, some 6)] rfl fun _ _ h n => ok_pickOr rfl n.1 (cB rfl) (Gd.get n.2.1), cm 7 rfl rfl, gF [(1, none)] rfl rfl fun hp _ _ h n => ok_fieldAddr rfl fo54_1 (at_Drawing_1 _) ((up i1 h n.1)).ptr, gF [(22, some 9)] rfl rfl fun hp _ _ h n => ok_load rfl ty52 (Gd.get n.1 hp), gF [(23, some 10)] rfl rfl fun hp _ _ h n => ok_len rfl rfl Tryz.underlying52 (IsV.rd (Gd.get n.1 hp)), gF [(24, some 11)] rfl rfl fun hp _ _ h n => ok_lss rfl (Gd.get n.1 hp) (cI rfl), o1 [(21, some 8), (25, some 12)] rfl fun _ _ h n => ok_pickOr rfl n.1 (cB rfl) (Gd.get n.2.1), cm 13 rfl rfl, gF [(1, none)] rfl rfl fun hp _ _ h n => ok_fieldAddr rfl fo54_1 (at_Drawing_1 _) ((up i1 h n.1)).ptr, gF [(28, some 15)] rfl rfl fun hp _ _ h n => ok_load rfl ty52 (Gd.get n.1 hp), gF [(29, some 16)] rfl rfl fun hp _ _ h n => ok_len rfl rfl Tryz.underlying52 (IsV.rd (Gd.get n.1 hp)), gF [(30, some 17)] rfl rfl fun hp _ _ h n => ok_gtr rfl (Gd.get n.1 hp) (cI rfl), o1 [(27, some 14), (31, some 18)] rfl fun _ _ h n => ok_pickOr rfl n.1 (cB rfl) (Gd.get n.2.1), cm 19 rfl rfl, mF rfl rfl i3, gF [(34, some 21)] rfl rfl fun hp _ _ h n => ok_len rfl rfl Tryz.underlying70 (IsV.rd (Gd.get n.1 hp)), gF [(35, some 22)] rfl rfl fun hp _ _ h n => ok_lss rfl (Gd.get n.1 hp) (cI rfl), o1 [(33, some 20), (36, some 23)] rfl fun _ _ h n => ok_pickOr rfl n.1 (cB rfl) (Gd.get n.2.1), cm 24 rfl rfl, mF rfl rfl i3, gF [(39, some 26)] rfl rfl fun hp _ _ h n => ok_len rfl rfl Tryz.underlying70 (IsV.rd (Gd.get n.1 hp)), gF [(40, some 27)] rfl rfl fun hp _ _ h n => ok_gtr rfl (Gd.get n.1 hp) (cI rfl), o1 [(38, some 25), (41, some 28)] rfl fun _ _ h n => ok_pickOr rfl n.1 (cB rfl) (Gd.get n.2.1), trivial⟩ [⟨_, _⟩, ⟨_, _⟩, ⟨_, _⟩] (fun b q p => ⟨p.ke 1 rfl i1, p.ke 3 rfl i3, p.ou 29 42 rfl, trivial⟩) ?_
 rintro a k ⟨⟨hg, hs, hd⟩, i1, i3, i42, _⟩
 refine wp_cond_split (isBool i42) (fun hc367 => ?_) (fun hc367 => ?_)
 ·rw [if_pos hc367] at hr
  refine stepL 1 (⟨some (IsV false), []⟩ :: []) rfl ⟨hg, hs, hd⟩ (by kernel_rfl) ⟨ob1 rfl fun _ _ h n => ok_assign rfl (isV_bool.2 rfl), trivial⟩ [⟨_, _⟩] (fun b q p => ⟨p.ou 0 2 rfl, trivial⟩) ?_
  rintro a k ⟨⟨hg, hs, hd⟩, i2, _⟩
  refine wp_ret ?_
  obtain rfl := Option.some.inj hr
  exact retC1 rfl hd hg i2
 rw [if_neg (by rw [hc367]; decide)] at hr
 refine wp_skip ?_
 refine wp_seq ?_
 refine stepL 3 (_ :: _ :: ⟨some (IsI 0), []⟩ :: []) rfl ⟨hg, hs, hd⟩ (by kernel_rfl) ⟨mu rfl i3, o1 [(43, some 0)] rfl fun _ _ h n => ok_len rfl rfl Tryz.underlying70 (IsV.rd n.1), ob1 rfl fun _ _ h n => ok_move rfl (cI rfl), trivial⟩ [⟨_, _⟩, ⟨_, _⟩, ⟨_, _⟩, ⟨_, _⟩, ⟨_, _⟩] (fun b q p => ⟨p.ke 1 rfl i1, p.ke 3 rfl i3, p.ou 0 43 rfl, p.ou 1 44 rfl, p.ou 2 45 rfl, trivial⟩) ?_
 rintro a k ⟨⟨hg, hs, hd⟩, i1, i3, i43, i44, i45, _⟩
 refine wp_block ?_
 obtain ⟨f1, hf1, hr⟩ := bind_some hr
 refine cutFe f1 (fun s' c l => Bs noF k0 105 c l ∧ IsRef d_ (c.get 1) l ∧ IsV x1 (c.get 3) l ∧ IsV x1 (c.get 43) l ∧ IsL x1 (c.get 44) l ∧ IsV s' (c.get 45) l ∧ True) (fun i' s' c l => (i' = 0 ∧ Bs noF k0 105 c l ∧ IsRef d_ (c.get 1) l ∧ True)) (fun r' c l => bodyPost Tryz.prog Tryz.f19 (RetC noF k0 (IsV r')) .ret c l.w) ?_ hQ ?_ ?_ ?_
 ·intro Q2 W2 hgo hex hret
  refine sim_loop ?_ _ _ _ _ _ hf1 ⟨⟨hg, hs, hd⟩, i1, i3, i43, i44, i45, trivial⟩ Q2 W2 hgo hex hret
  clear hr hf1 hgo hex hret W2 hQ hg hs hd i1 i3 i43 i44 i45
  intro s1 fl_ a k hr hS Q hQ hgo270 hex271 hret272
  obtain ⟨⟨hg, hs, hd⟩, i1, i3, i43, i44, i45, _⟩ := hS
  unfold drawing_Form_L0 at hr
  refine stepL 1 (_ :: []) rfl ⟨hg, hs, hd⟩ (by kernel_rfl) ⟨o1 [(45, none), (44, none)] rfl fun _ _ h n => ok_lss rfl (up i45 h n.1) (up i44 h n.2.1), trivial⟩ [⟨_, _⟩, ⟨_, _⟩, ⟨_, _⟩, ⟨_, _⟩, ⟨_, _⟩, ⟨_, _⟩] (fun b q p => ⟨p.ke 1 rfl i1, p.ke 3 rfl i3, p.ke 43 rfl i43, p.ke 44 rfl i44, p.ke 45 rfl i45, p.ou 0 46 rfl, trivial⟩) ?_
  rintro a k ⟨⟨hg, hs, hd⟩, i1, i3, i43, i44, i45, i46, _⟩
  refine wp_seq ?_
  refine wp_cond_split (isBool i46) (fun hc293 => ?_) (fun hc293 => ?_)
  ·rw [if_pos hc293] at hr
   refine wp_skip ?_
   refine wp_seq ?_
   refine wp_block ?_
   refine wp_seq ?_
   obtain ⟨x2, hx2, hr⟩ := bind_some hr
   refine cut (fun a' k' => Bs noF k0 105 a' k' ∧ (IsRef d_) (a'.get 1) k' ∧ (IsV x1) (a'.get 3) k' ∧ (IsV s1) (a'.get 4) k' ∧ (IsRef x2) (a'.get 5) k' ∧ (IsV x1) (a'.get 43) k' ∧ (IsL x1) (a'.get 44) k' ∧ (IsV s1) (a'.get 45) k' ∧ True) ?_ hQ ?_
   ·intro Q3 W3 w2
    refine gS 5 (_ :: _ :: _ :: ⟨some (IsBox k.w.heap.size (⟨(⟨(⟨0, 0, 0, 0⟩ : Rect), 0, 0⟩ : Box), 0, 0, false⟩ : Volume)), []⟩ :: _ :: []) hs (by kernel_rfl) ⟨mu rfl i45, o1 [(43, none), (45, none)] rfl fun _ _ h n => ok_indexAddr rfl Tryz.underlying70 ty81 (IsV.rd (up i43 h n.1)) (up i45 h n.2.1) hx2, o1 [(48, some 1)] rfl fun _ _ h n => ok_load rfl ty81 n.1, ob1 rfl fun _ _ h n => ok_alloc _ h.size rfl z81, cp 0 rfl rfl, trivial⟩ W3 fun b q p => ?_
    have hgq := hg.then p.grow
    have hsb := p.size.trans hs
    have hdb := p.defers.trans hd
    have j1 := p.ke 1 rfl i1
    have j3 := p.ke 3 rfl i3
    have j4 : (IsV s1) (b.get 4) q := p.ou 4 4 rfl
    obtain ⟨b5, j5, x5, z5⟩ : (IsBox k.w.heap.size (⟨(⟨(⟨0, 0, 0, 0⟩ : Rect), 0, 0⟩ : Box), 0, 0, false⟩ : Volume)) (b.get 5) q := p.ou 3 5 rfl
    replace x5 : Lo k (Eq b5) := Lo.eq x5
    have y5 : Lo k0 (Eq b5) := x5.chg hg
    have j43 := p.ke 43 rfl i43
    have j44 := p.ke 44 rfl i44
    have j45 := p.ke 45 rfl i45
    have j49 : (IsV x2) (b.get 49) q := p.ou 2 49 rfl
    have hns := z5.nshF
    refine tail_storeB (i := 5) rfl rfl rfl rfl szf81 (Upd.self (α := Volume)) j5 z5 j49 fun q2 hch hz => ?_
    replace hgq := hgq.step hch y5.wr
    have hle := hch.le hns
    replace j1 := Pers.pers hle j1
    replace j3 := Pers.pers hle j3
    replace j4 := Pers.pers hle j4
    replace j43 := Pers.pers hle j43
    replace j44 := Pers.pers hle j44
    replace j45 := Pers.pers hle j45
    replace j49 := Pers.pers hle j49
    replace z5 := hz
    clear hns hle hch
    obtain ⟨q, hqq⟩ : ∃ q, q = q2 := ⟨q2, rfl⟩
    subst hqq
    obtain ⟨q2, hsh, jn⟩ := z5.give
    replace j1 := Pers.pers hsh.le j1
    replace j3 := Pers.pers hsh.le j3
    replace j4 := Pers.pers hsh.le j4
    replace j43 := Pers.pers hsh.le j43
    replace j44 := Pers.pers hsh.le j44
    replace j45 := Pers.pers hsh.le j45
    rw [← j5] at jn
    replace j5 := jn
    replace hgq := hgq.hand hsh y5.wr
    rw [← hsh.w]
    clear hsh
    obtain ⟨q, hqq⟩ : ∃ q, q = q2 := ⟨q2, rfl⟩
    subst hqq
    exact tail_done (k := q) (w2 _ _ ⟨⟨hgq, hsb, hdb⟩, j1, j3, j4, j5, j43, j44, j45, trivial⟩)
   rintro a k ⟨⟨hg, hs, hd⟩, i1, i3, i4, i5, i43, i44, i45, _⟩
   refine wp_seq ?_
   obtain ⟨x3, hx3, hr⟩ := bind_some hr
   obtain ⟨x4, hx4, hr⟩ := bind_some hr
   obtain ⟨x6, hx6, hx4⟩ := ite_bindF hx4
   obtain ⟨x9, hx9, hx4⟩ := ite_bindF hx4
   refine cut (fun a' k' => Bs noF k0 105 a' k' ∧ (IsRef d_) (a'.get 1) k' ∧ (IsV x1) (a'.get 3) k' ∧ (IsV x1) (a'.get 43) k' ∧ (IsL x1) (a'.get 44) k' ∧ (IsV s1) (a'.get 45) k' ∧ (IsV x4) (a'.get 59) k' ∧ True) ?_ hQ ?_
   ·intro Q4 W4 w3
    refine gS 10 (_ :: _ :: _ :: _ :: _ :: _ :: ⟨some (Gd ((!x3) = false) (IsV x6)), [(54, some 4), (55, some 5)]⟩ :: ⟨some (Gd ((!x3) = false) (IsFn1 Tryz.prog (fun y0 => drawing_Form_1 y0 x2))), [(5, none)]⟩ :: _ :: _ :: []) hs (by kernel_rfl) ⟨o1 [(5, none)] rfl fun _ _ h n => ok_load rfl ty81 ((up i5 h n.1)).ptr, o1 [(50, some 0)] rfl fun _ _ h n => ok_call rfl Tryz.call38 (drawing_RightVolume_ok n.1 hx3), o1 [(51, some 1)] rfl fun _ _ h n => ok_not rfl n.1, cm 2 rfl rfl, mF rfl rfl i3, mF rfl rfl i4, gdF rfl rfl fun hp _ _ h n => ok_slice_hi rfl Tryz.underlying70 szf81 (Gd.get n.1 hp) (Gd.get n.2.1 hp) (hx6 hp), gdF rfl rfl fun hp _ _ h n => ok_makeFunc (first := []) (captured := [.tmp 5]) rfl ⟨40, _, _, rfl, Tryz.call40, fun k9 hk9 _ _ _ hx0 hy9 => by simpa [evalT] using drawing_Form_1_ok hx0 (Pers.pers hk9 (up i5 h n.1)) hy9⟩, gF [(56, some 6), (57, some 7)] rfl rfl fun hp _ _ h n => ok_call rfl Tryz.call39 (slices_ContainsFunc_Volume_ok (Gd.get n.1 hp) (Gd.get n.2.1 hp) (hx9 hp)), o1 [(53, some 3), (58, some 8)] rfl fun _ _ h n => ok_pickM rfl n.1 hx4 (cB rfl) (Gd.get n.2.1), trivial⟩ W4 fun b q p => ?_
    exact tail_done (k := q) (w3 _ _ ⟨Bs.post ⟨hg, hs, hd⟩ p, p.ke 1 rfl i1, p.ke 3 rfl i3, p.ke 43 rfl i43, p.ke 44 rfl i44, p.ke 45 rfl i45, p.ou 9 59 rfl, trivial⟩)
   rintro a k ⟨⟨hg, hs, hd⟩, i1, i3, i43, i44, i45, i59, _⟩
   refine wp_cond_split (isBool i59) (fun hc288 => ?_) (fun hc288 => ?_)
   ·rw [if_pos hc288] at hr
    refine stepL 1 (⟨some (IsV false), []⟩ :: []) rfl ⟨hg, hs, hd⟩ (by kernel_rfl) ⟨ob1 rfl fun _ _ h n => ok_assign rfl (isV_bool.2 rfl), trivial⟩ [⟨_, _⟩] (fun b q p => ⟨p.ou 0 2 rfl, trivial⟩) ?_
    rintro a k ⟨⟨hg, hs, hd⟩, i2, _⟩
    refine wp_ret ?_
    exact hret272 _ _ _ (Option.some.inj hr).symm (retC1 rfl hd hg i2)
   rw [if_neg (by rw [hc288]; decide)] at hr
   refine wp_skip ?_
   obtain ⟨x11, hx11, hr⟩ := bind_some hr
   refine cut (fun a' k' => Bs noF k0 105 a' k' ∧ (IsRef d_) (a'.get 1) k' ∧ (IsV x1) (a'.get 3) k' ∧ (IsV x1) (a'.get 43) k' ∧ (IsL x1) (a'.get 44) k' ∧ (IsV x11) (a'.get 45) k' ∧ True) ?_ hQ ?_
   ·intro Q5 W5 w4
    refine gS 2 (_ :: _ :: []) hs (by kernel_rfl) ⟨o1 [(45, none)] rfl fun _ _ h n => ok_add rfl (up i45 h n.1) (cI rfl) hx11, cm 0 rfl rfl, trivial⟩ W5 fun b q p => ?_
    exact tail_done (k := q) (w4 _ _ ⟨Bs.post ⟨hg, hs, hd⟩ p, p.ke 1 rfl i1, p.ke 3 rfl i3, p.ke 43 rfl i43, p.ke 44 rfl i44, p.ou 1 45 rfl, trivial⟩)
   rintro a k ⟨⟨hg, hs, hd⟩, i1, i3, i43, i44, i45, _⟩
   exact hgo270 _ _ _ (Option.some.inj hr).symm ⟨⟨hg, hs, hd⟩, i1, i3, i43, i44, i45, trivial⟩
  rw [if_neg (by rw [hc293]; decide)] at hr
  refine wp_exit ?_
  exact hex271 _ _ _ _ (Option.some.inj hr).symm ⟨rfl, ⟨hg, hs, hd⟩, i1, trivial⟩
 ·rintro r1 a k rfl hR
  dsimp only at hr
  obtain rfl := Option.some.inj hr
  exact hR
 ·rintro _ _ _ rfl _
  simp at hr
 clear hf1
 rintro _ s2 a k rfl ⟨rfl, ⟨hg, hs, hd⟩, i1, _⟩
 dsimp only at hr
 refine wp_seq ?_
 refine stepL 4 (_ :: _ :: _ :: ⟨some (IsI 0), []⟩ :: []) rfl ⟨hg, hs, hd⟩ (by kernel_rfl) ⟨o1 [(1, none)] rfl fun _ _ h n => ok_fieldAddr rfl fo54_1 (at_Drawing_1 _) ((up i1 h n.1)).ptr, o1 [(61, some 0)] rfl fun _ _ h n => ok_load rfl ty52 n.1, o1 [(62, some 1)] rfl fun _ _ h n => ok_len rfl rfl Tryz.underlying52 (IsV.rd n.1), ob1 rfl fun _ _ h n => ok_move rfl (cI rfl), trivial⟩ [⟨_, _⟩, ⟨_, _⟩, ⟨_, _⟩] (fun b q p => ⟨p.ou 1 62 rfl, p.ou 2 63 rfl, p.ou 3 64 rfl, trivial⟩) ?_
 rintro a k ⟨⟨hg, hs, hd⟩, i62, i63, i64, _⟩
 refine wp_block ?_
 obtain ⟨f2, hf2, hr⟩ := bind_some hr
 refine cutFe f2 (fun s' c l => Bs noF k0 105 c l ∧ IsV d_.Phases (c.get 62) l ∧ IsI (d_.Phases.length : Int) (c.get 63) l ∧ IsV s' (c.get 64) l ∧ True) (fun i' s' c l => (i' = 2 ∧ Bs noF k0 105 c l ∧ True)) (fun r' c l => bodyPost Tryz.prog Tryz.f19 (RetC noF k0 (IsV r')) .ret c l.w) ?_ hQ ?_ ?_ ?_
 ·intro Q6 W6 hgo hex hret
  refine sim_loop ?_ _ _ _ _ _ hf2 ⟨⟨hg, hs, hd⟩, i62, i63, i64, trivial⟩ Q6 W6 hgo hex hret
  clear hr hf2 hgo hex hret W6 hQ hg hs hd i62 i63 i64
  intro s3 fl_ a k hr hS Q hQ hgo300 hex301 hret302
  obtain ⟨⟨hg, hs, hd⟩, i62, i63, i64, _⟩ := hS
  unfold drawing_Form_L1 at hr
  refine stepL 1 (_ :: []) rfl ⟨hg, hs, hd⟩ (by kernel_rfl) ⟨o1 [(64, none), (63, none)] rfl fun _ _ h n => ok_lss rfl (up i64 h n.1) (up i63 h n.2.1), trivial⟩ [⟨_, _⟩, ⟨_, _⟩, ⟨_, _⟩, ⟨_, _⟩] (fun b q p => ⟨p.ke 62 rfl i62, p.ke 63 rfl i63, p.ke 64 rfl i64, p.ou 0 65 rfl, trivial⟩) ?_
  rintro a k ⟨⟨hg, hs, hd⟩, i62, i63, i64, i65, _⟩
  refine wp_seq ?_
  refine wp_cond_split (isBool i65) (fun hc351 => ?_) (fun hc351 => ?_)
  ·rw [if_pos hc351] at hr
   refine wp_skip ?_
   refine wp_seq ?_
   refine wp_block ?_
   refine wp_seq ?_
   obtain ⟨x12, hx12, hr⟩ := bind_some hr
   refine cut (fun a' k' => Bs noF k0 105 a' k' ∧ (IsRef x12) (a'.get 7) k' ∧ (IsV d_.Phases) (a'.get 62) k' ∧ (IsI (d_.Phases.length : Int)) (a'.get 63) k' ∧ (IsV s3) (a'.get 64) k' ∧ True) ?_ hQ ?_
   ·intro Q7 W7 w5
    refine gS 3 (_ :: _ :: ⟨some (IsBox k.w.heap.size (⟨[], []⟩ : Phase)), []⟩ :: []) hs (by kernel_rfl) ⟨o1 [(62, none), (64, none)] rfl fun _ _ h n => ok_indexAddr rfl Tryz.underlying52 ty73 (IsV.rd (up i62 h n.1)) (up i64 h n.2.1) hx12, o1 [(66, some 0)] rfl fun _ _ h n => ok_load rfl ty73 n.1, ob1 rfl fun _ _ h n => ok_alloc _ h.size rfl z73, trivial⟩ W7 fun b q p => ?_
    have hgq := hg.then p.grow
    have hsb := p.size.trans hs
    have hdb := p.defers.trans hd
    obtain ⟨b7, j7, x7, z7⟩ : (IsBox k.w.heap.size (⟨[], []⟩ : Phase)) (b.get 7) q := p.ou 2 7 rfl
    replace x7 : Lo k (Eq b7) := Lo.eq x7
    have y7 : Lo k0 (Eq b7) := x7.chg hg
    have j62 := p.ke 62 rfl i62
    have j63 := p.ke 63 rfl i63
    have j64 := p.ke 64 rfl i64
    have j67 : (IsV x12) (b.get 67) q := p.ou 1 67 rfl
    have hns := z7.nshF
    refine tail_storeB (i := 3) rfl rfl rfl rfl szf73 (Upd.self (α := Phase)) j7 z7 j67 fun q2 hch hz => ?_
    replace hgq := hgq.step hch y7.wr
    have hle := hch.le hns
    replace j62 := Pers.pers hle j62
    replace j63 := Pers.pers hle j63
    replace j64 := Pers.pers hle j64
    replace j67 := Pers.pers hle j67
    replace z7 := hz
    clear hns hle hch
    obtain ⟨q, hqq⟩ : ∃ q, q = q2 := ⟨q2, rfl⟩
    subst hqq
    obtain ⟨q2, hsh, jn⟩ := z7.give
    replace j62 := Pers.pers hsh.le j62
    replace j63 := Pers.pers hsh.le j63
    replace j64 := Pers.pers hsh.le j64
    rw [← j7] at jn
    replace j7 := jn
    replace hgq := hgq.hand hsh y7.wr
    rw [← hsh.w]
    clear hsh
    obtain ⟨q, hqq⟩ : ∃ q, q = q2 := ⟨q2, rfl⟩
    subst hqq
    exact tail_done (k := q) (w5 _ _ ⟨⟨hgq, hsb, hdb⟩, j7, j62, j63, j64, trivial⟩)
   rintro a k ⟨⟨hg, hs, hd⟩, i7, i62, i63, i64, _⟩
   refine cutS (fun c l => ∃ F8, Bs noF k0 105 c l ∧ IsRef x12 (c.get 7) l ∧ (MpR (KeyV.kv (κ := ByteArray)) ((⟨[]⟩ : (GMap ByteArray Bool))).l) F8 (c.get 8) l ∧ Lo k0 F8 ∧ IsV d_.Phases (c.get 62) l ∧ IsI (d_.Phases.length : Int) (c.get 63) l ∧ IsV s3 (c.get 64) l ∧ True) ?_ ?_
   ·intro Q8 W8 w6
    refine gS 2 (⟨some (IsNewMap (KeyV.kv (κ := ByteArray)) k.w.heap.size), []⟩ :: _ :: []) hs (by kernel_rfl) ⟨ob1 rfl fun _ _ h n => ok_makeMap h.size rfl, cp 0 rfl rfl, trivial⟩ W8 fun b q p => ?_
    have hgq := hg.then p.grow
    have hsb := p.size.trans hs
    have hdb := p.defers.trans hd
    have j7 := p.ke 7 rfl i7
    obtain ⟨F8, j8, x8⟩ : ∃ F, (MpR (KeyV.kv (κ := ByteArray)) ((⟨[]⟩ : (GMap ByteArray Bool))).l) F (b.get 8) q ∧ Lo k F := MpR.new (p.ou 1 8 rfl)
    have y8 : Lo k0 F8 := x8.chg hg
    have j62 := p.ke 62 rfl i62
    have j63 := p.ke 63 rfl i63
    have j64 := p.ke 64 rfl i64
    exact tail_done (k := q) (w6 _ _ ⟨F8, ⟨hgq, hsb, hdb⟩, j7, j8, y8, j62, j63, j64, trivial⟩)
   rintro a k ⟨F8, ⟨hg, hs, hd⟩, i7, i8, n8, i62, i63, i64, _⟩
   refine wp_seq ?_
   refine cutS (fun c l => ∃ F8, Bs noF k0 105 c l ∧ IsRef x12 (c.get 7) l ∧ (MpR (KeyV.kv (κ := ByteArray)) ((⟨[]⟩ : (GMap ByteArray Bool))).l) F8 (c.get 8) l ∧ Lo k0 F8 ∧ IsV d_.Phases (c.get 62) l ∧ IsI (d_.Phases.length : Int) (c.get 63) l ∧ IsV s3 (c.get 64) l ∧ IsV x12.Gives (c.get 70) l ∧ IsI (x12.Gives.length : Int) (c.get 71) l ∧ IsI 0 (c.get 72) l ∧ True) ?_ ?_
   ·intro Q9 W9 w7
    refine gS 4 (_ :: _ :: _ :: ⟨some (IsI 0), []⟩ :: []) hs (by kernel_rfl) ⟨o1 [(7, none)] rfl fun _ _ h n => ok_fieldAddr rfl fo73_1 (at_Phase_1 _) ((up i7 h n.1)).ptr, o1 [(69, some 0)] rfl fun _ _ h n => ok_load rfl ty71 n.1, o1 [(70, some 1)] rfl fun _ _ h n => ok_len rfl rfl Tryz.underlying71 (IsV.rd n.1), ob1 rfl fun _ _ h n => ok_move rfl (cI rfl), trivial⟩ W9 fun b q p => ?_
    exact tail_done (k := q) (w7 _ _ ⟨F8, Bs.post ⟨hg, hs, hd⟩ p, p.ke 7 rfl i7, p.ke 8 rfl i8, n8, p.ke 62 rfl i62, p.ke 63 rfl i63, p.ke 64 rfl i64, p.ou 1 70 rfl, p.ou 2 71 rfl, p.ou 3 72 rfl, trivial⟩)
   rintro a k ⟨F8, ⟨hg, hs, hd⟩, i7, i8, n8, i62, i63, i64, i70, i71, i72, _⟩
   refine wp_block ?_
   obtain ⟨f3, hf3, hr⟩ := bind_some hr
   refine cutFe f3 (fun s' c l => ∃ F8, Bs noF k0 105 c l ∧ IsRef x12 (c.get 7) l ∧ (MpR (KeyV.kv (κ := ByteArray)) (s'.1).l) F8 (c.get 8) l ∧ Lo k0 F8 ∧ IsV d_.Phases (c.get 62) l ∧ IsI (d_.Phases.length : Int) (c.get 63) l ∧ IsV s3 (c.get 64) l ∧ IsV x12.Gives (c.get 70) l ∧ IsI (x12.Gives.length : Int) (c.get 71) l ∧ IsV s'.2 (c.get 72) l ∧ True) (fun i' s' c l => (i' = 4 ∧ Bs noF k0 105 c l ∧ IsRef x12 (c.get 7) l ∧ IsV d_.Phases (c.get 62) l ∧ IsI (d_.Phases.length : Int) (c.get 63) l ∧ IsV s3 (c.get 64) l ∧ True)) (fun r' c l => bodyPost Tryz.prog Tryz.f19 (RetC noF k0 (IsV r')) .ret c l.w) ?_ hQ ?_ ?_ ?_
   ·intro Q10 W10 hgo hex hret
    refine sim_loop ?_ _ _ _ _ _ hf3 ⟨F8, ⟨hg, hs, hd⟩, i7, i8, n8, i62, i63, i64, i70, i71, i72, trivial⟩ Q10 W10 hgo hex hret
    clear hr hf3 hgo hex hret W10 hQ hg hs hd F8 i62 i63 i64 i7 i70 i71 i72 i8 n8
    intro s4 fl_ a k hr hS Q hQ hgo308 hex309 hret310
    obtain ⟨F8, ⟨hg, hs, hd⟩, i7, i8, n8, i62, i63, i64, i70, i71, i72, _⟩ := hS
    unfold drawing_Form_L2 at hr
    refine cutS (fun c l => ∃ F8, Bs noF k0 105 c l ∧ IsRef x12 (c.get 7) l ∧ (MpR (KeyV.kv (κ := ByteArray)) (s4.1).l) F8 (c.get 8) l ∧ Lo k0 F8 ∧ IsV d_.Phases (c.get 62) l ∧ IsI (d_.Phases.length : Int) (c.get 63) l ∧ IsV s3 (c.get 64) l ∧ IsV x12.Gives (c.get 70) l ∧ IsI (x12.Gives.length : Int) (c.get 71) l ∧ IsV s4.2 (c.get 72) l ∧ (IsV (decide (s4.2 < (x12.Gives.length : Int)))) (c.get 73) l ∧ True) ?_ ?_
    ·intro Q11 W11 w8
     refine gS 1 (_ :: []) hs (by kernel_rfl) ⟨o1 [(72, none), (71, none)] rfl fun _ _ h n => ok_lss rfl (up i72 h n.1) (up i71 h n.2.1), trivial⟩ W11 fun b q p => ?_
     exact tail_done (k := q) (w8 _ _ ⟨F8, Bs.post ⟨hg, hs, hd⟩ p, p.ke 7 rfl i7, p.ke 8 rfl i8, n8, p.ke 62 rfl i62, p.ke 63 rfl i63, p.ke 64 rfl i64, p.ke 70 rfl i70, p.ke 71 rfl i71, p.ke 72 rfl i72, p.ou 0 73 rfl, trivial⟩)
    rintro a k ⟨F8, ⟨hg, hs, hd⟩, i7, i8, n8, i62, i63, i64, i70, i71, i72, i73, _⟩
    refine wp_seq ?_
    refine wp_cond_split (isBool i73) (fun hc328 => ?_) (fun hc328 => ?_)
    ·rw [if_pos hc328] at hr
     refine wp_skip ?_
     refine wp_seq ?_
     refine wp_block ?_
     refine wp_seq ?_
     obtain ⟨x13, hx13, hr⟩ := bind_some hr
     refine cut (fun a' k' => ∃ F8, Bs noF k0 105 a' k' ∧ (IsRef x12) (a'.get 7) k' ∧ (MpR (KeyV.kv (κ := ByteArray)) (s4.1).l) F8 (a'.get 8) k' ∧ Lo k0 F8 ∧ (IsRef x13) (a'.get 10) k' ∧ (IsV d_.Phases) (a'.get 62) k' ∧ (IsI (d_.Phases.length : Int)) (a'.get 63) k' ∧ (IsV s3) (a'.get 64) k' ∧ (IsV x12.Gives) (a'.get 70) k' ∧ (IsI (x12.Gives.length : Int)) (a'.get 71) k' ∧ (IsV s4.2) (a'.get 72) k' ∧ True) ?_ hQ ?_
     ·intro Q12 W12 w9
      refine gS 3 (_ :: _ :: ⟨some (IsBox k.w.heap.size (⟨(⟨#[]⟩ : ByteArray), 0⟩ : Entry)), []⟩ :: []) hs (by kernel_rfl) ⟨o1 [(70, none), (72, none)] rfl fun _ _ h n => ok_indexAddr rfl Tryz.underlying71 ty87 (IsV.rd (up i70 h n.1)) (up i72 h n.2.1) hx13, o1 [(74, some 0)] rfl fun _ _ h n => ok_load rfl ty87 n.1, ob1 rfl fun _ _ h n => ok_alloc _ h.size rfl z87, trivial⟩ W12 fun b q p => ?_
      have hgq := hg.then p.grow
      have hsb := p.size.trans hs
      have hdb := p.defers.trans hd
      have j7 := p.ke 7 rfl i7
      have j8 : (MpR (KeyV.kv (κ := ByteArray)) (s4.1).l) F8 (b.get 8) q := p.ke 8 rfl i8
      have y8 := n8
      obtain ⟨b10, j10, x10, z10⟩ : (IsBox k.w.heap.size (⟨(⟨#[]⟩ : ByteArray), 0⟩ : Entry)) (b.get 10) q := p.ou 2 10 rfl
      replace x10 : Lo k (Eq b10) := Lo.eq x10
      have y10 : Lo k0 (Eq b10) := x10.chg hg
      have j62 := p.ke 62 rfl i62
      have j63 := p.ke 63 rfl i63
      have j64 := p.ke 64 rfl i64
      have j70 := p.ke 70 rfl i70
      have j71 := p.ke 71 rfl i71
      have j72 := p.ke 72 rfl i72
      have j75 : (IsV x13) (b.get 75) q := p.ou 1 75 rfl
      have w8_10 : Apart F8 (Eq b10) := Apart.new (Rsc.lt i8) x10
      have hns := z10.nshF
      refine tail_storeB (i := 3) rfl rfl rfl rfl szf87 (Upd.self (α := Entry)) j10 z10 j75 fun q2 hch hz => ?_
      replace hgq := hgq.step hch y10.wr
      have hle := hch.le hns
      replace j7 := Pers.pers hle j7
      replace j8 := Rsc.keep j8 hch w8_10 hns
      replace j62 := Pers.pers hle j62
      replace j63 := Pers.pers hle j63
      replace j64 := Pers.pers hle j64
      replace j70 := Pers.pers hle j70
      replace j71 := Pers.pers hle j71
      replace j72 := Pers.pers hle j72
      replace j75 := Pers.pers hle j75
      replace z10 := hz
      clear hns hle hch
      obtain ⟨q, hqq⟩ : ∃ q, q = q2 := ⟨q2, rfl⟩
      subst hqq
      obtain ⟨q2, hsh, jn⟩ := z10.give
      replace j7 := Pers.pers hsh.le j7
      replace j8 := Rsc.handed j8 hsh w8_10
      replace j62 := Pers.pers hsh.le j62
      replace j63 := Pers.pers hsh.le j63
      replace j64 := Pers.pers hsh.le j64
      replace j70 := Pers.pers hsh.le j70
      replace j71 := Pers.pers hsh.le j71
      replace j72 := Pers.pers hsh.le j72
      rw [← j10] at jn
      replace j10 := jn
      replace hgq := hgq.hand hsh y10.wr
      rw [← hsh.w]
      clear hsh
      obtain ⟨q, hqq⟩ : ∃ q, q = q2 := ⟨q2, rfl⟩
      subst hqq
      exact tail_done (k := q) (w9 _ _ ⟨F8, ⟨hgq, hsb, hdb⟩, j7, j8, y8, j10, j62, j63, j64, j70, j71, j72, trivial⟩)
     rintro a k ⟨F8, ⟨hg, hs, hd⟩, i7, i8, n8, i10, i62, i63, i64, i70, i71, i72, _⟩
     refine wp_seq ?_
     refine wp_seq ?_
     obtain ⟨x14, hx14, hr⟩ := bind_some hr
     obtain ⟨x15, hx15, hx14⟩ := ite_bindF hx14
     refine cut (fun a' k' => ∃ F8, Bs noF k0 105 a' k' ∧ (IsRef x12) (a'.get 7) k' ∧ (MpR (KeyV.kv (κ := ByteArray)) (s4.1).l) F8 (a'.get 8) k' ∧ Lo k0 F8 ∧ (IsRef x13) (a'.get 10) k' ∧ (IsV d_.Phases) (a'.get 62) k' ∧ (IsI (d_.Phases.length : Int)) (a'.get 63) k' ∧ (IsV s3) (a'.get 64) k' ∧ (IsV x12.Gives) (a'.get 70) k' ∧ (IsI (x12.Gives.length : Int)) (a'.get 71) k' ∧ (IsV s4.2) (a'.get 72) k' ∧ (IsV ((x14 || (decide (x13.N < 0))) || (decide (1073741824 < x13.N)))) (a'.get 95) k' ∧ True) ?_ hQ ?_
     ·intro Q13 W13 w10
      refine gS 20 (⟨some (Is (a.get 8)), [(8, none)]⟩ :: _ :: _ :: ⟨some (IsV ((getK (s4.1).l x13.Name).getD false)), [(76, some 0), (78, some 2)]⟩ :: _ :: _ :: _ :: _ :: _ :: _ :: _ :: _ :: _ :: _ :: _ :: _ :: _ :: _ :: _ :: _ :: []) hs (by kernel_rfl) ⟨ob1 rfl fun _ _ h n => ok_move rfl n.1, o1 [(10, none)] rfl fun _ _ h n => ok_fieldAddr rfl fo87_0 (at_Entry_0 _) ((up i10 h n.1)).ptr, o1 [(77, some 1)] rfl fun _ _ h n => ok_load rfl ty9 n.1, ob1 rfl fun _ _ h n => ok_lookupX rfl key9 Tryz.underlying85 z4 (Mono.mono h i8) n.1 (isV_str.1 n.2.1), cm 3 rfl rfl, gF [(10, none)] rfl rfl fun hp _ _ h n => ok_fieldAddr rfl fo87_0 (at_Entry_0 _) ((up i10 h n.1)).ptr, gF [(81, some 5)] rfl rfl fun hp _ _ h n => ok_load rfl ty9 (Gd.get n.1 hp), gF [(82, some 6)] rfl rfl fun hp _ _ h n => ok_call rfl Tryz.call42 (syntax_Name_ok (hG.at hg h) (Gd.get n.1 hp) (hx15 hp)), gF [(83, some 7)] rfl rfl fun hp _ _ h n => ok_not rfl (Gd.get n.1 hp), o1 [(80, some 4), (84, some 8)] rfl fun _ _ h n => ok_pickM rfl n.1 hx14 (cB rfl) (Gd.get n.2.1), cm 9 rfl rfl, gF [(10, none)] rfl rfl fun hp _ _ h n => ok_fieldAddr rfl fo87_1 (at_Entry_1 _) ((up i10 h n.1)).ptr, gF [(87, some 11)] rfl rfl fun hp _ _ h n => ok_load rfl ty3 (Gd.get n.1 hp), gF [(88, some 12)] rfl rfl fun hp _ _ h n => ok_lss rfl (Gd.get n.1 hp) (cI rfl), o1 [(86, some 10), (89, some 13)] rfl fun _ _ h n => ok_pickOr rfl n.1 (cB rfl) (Gd.get n.2.1), cm 14 rfl rfl, gF [(10, none)] rfl rfl fun hp _ _ h n => ok_fieldAddr rfl fo87_1 (at_Entry_1 _) ((up i10 h n.1)).ptr, gF [(92, some 16)] rfl rfl fun hp _ _ h n => ok_load rfl ty3 (Gd.get n.1 hp), gF [(93, some 17)] rfl rfl fun hp _ _ h n => ok_gtr rfl (Gd.get n.1 hp) (cI rfl), o1 [(91, some 15), (94, some 18)] rfl fun _ _ h n => ok_pickOr rfl n.1 (cB rfl) (Gd.get n.2.1), trivial⟩ W13 fun b q p => ?_
      exact tail_done (k := q) (w10 _ _ ⟨F8, Bs.post ⟨hg, hs, hd⟩ p, p.ke 7 rfl i7, p.ke 8 rfl i8, n8, p.ke 10 rfl i10, p.ke 62 rfl i62, p.ke 63 rfl i63, p.ke 64 rfl i64, p.ke 70 rfl i70, p.ke 71 rfl i71, p.ke 72 rfl i72, p.ou 19 95 rfl, trivial⟩)
     rintro a k ⟨F8, ⟨hg, hs, hd⟩, i7, i8, n8, i10, i62, i63, i64, i70, i71, i72, i95, _⟩
     refine wp_cond_split (isBool i95) (fun hc323 => ?_) (fun hc323 => ?_)
     ·rw [if_pos hc323] at hr
      refine stepL 1 (⟨some (IsV false), []⟩ :: []) rfl ⟨hg, hs, hd⟩ (by kernel_rfl) ⟨ob1 rfl fun _ _ h n => ok_assign rfl (isV_bool.2 rfl), trivial⟩ [⟨_, _⟩] (fun b q p => ⟨p.ou 0 2 rfl, trivial⟩) ?_
      rintro a k ⟨⟨hg, hs, hd⟩, i2, _⟩
      refine wp_ret ?_
      exact hret310 _ _ _ (Option.some.inj hr).symm (retC1 rfl hd hg i2)
     rw [if_neg (by rw [hc323]; decide)] at hr
     refine wp_skip ?_
     refine cut (fun a' k' => ∃ F8, Bs noF k0 105 a' k' ∧ (IsRef x12) (a'.get 7) k' ∧ (MpR (KeyV.kv (κ := ByteArray)) ((GMap.mk (setK (s4.1).l x13.Name true) : (GMap ByteArray Bool))).l) F8 (a'.get 8) k' ∧ Lo k0 F8 ∧ (IsV d_.Phases) (a'.get 62) k' ∧ (IsI (d_.Phases.length : Int)) (a'.get 63) k' ∧ (IsV s3) (a'.get 64) k' ∧ (IsV x12.Gives) (a'.get 70) k' ∧ (IsI (x12.Gives.length : Int)) (a'.get 71) k' ∧ (IsV s4.2) (a'.get 72) k' ∧ True) ?_ hQ ?_
     ·intro Q14 W14 w11
      refine gS 3 (⟨some (Is (a.get 8)), [(8, none)]⟩ :: _ :: _ :: []) hs (by kernel_rfl) ⟨ob1 rfl fun _ _ h n => ok_move rfl n.1, o1 [(10, none)] rfl fun _ _ h n => ok_fieldAddr rfl fo87_0 (at_Entry_0 _) ((up i10 h n.1)).ptr, o1 [(97, some 1)] rfl fun _ _ h n => ok_load rfl ty9 n.1, trivial⟩ W14 fun b q p => ?_
      have hgq := hg.then p.grow
      have hsb := p.size.trans hs
      have hdb := p.defers.trans hd
      have j7 := p.ke 7 rfl i7
      have j8 : (MpR (KeyV.kv (κ := ByteArray)) (s4.1).l) F8 (b.get 8) q := p.ke 8 rfl i8
      have y8 := n8
      have j62 := p.ke 62 rfl i62
      have j63 := p.ke 63 rfl i63
      have j64 := p.ke 64 rfl i64
      have j70 := p.ke 70 rfl i70
      have j71 := p.ke 71 rfl i71
      have j72 := p.ke 72 rfl i72
      have j96 : b.get 96 = b.get 8 := (show b.get 96 = a.get 8 from p.ou 0 96 rfl).trans (p.old 8 rfl).symm
      have j98 : (IsV x13.Name) (b.get 98) q := p.ou 2 98 rfl
      have hns := Rsc.nsh j8
      refine tail_mapX (i := 3) (u := b.get 8) rfl rfl rfl rfl key9 Tryz.underlying85 j8 j96 (isV_str.1 j98) (isV_bool.2 rfl) fun q2 hch hz => ?_
      replace hgq := hgq.step hch y8.wr
      have hle := hch.le hns
      replace j7 := Pers.pers hle j7
      replace j62 := Pers.pers hle j62
      replace j63 := Pers.pers hle j63
      replace j64 := Pers.pers hle j64
      replace j70 := Pers.pers hle j70
      replace j71 := Pers.pers hle j71
      replace j72 := Pers.pers hle j72
      replace j98 := Pers.pers hle j98
      replace j8 := hz
      clear hns hle hch hz
      obtain ⟨q, hqq⟩ : ∃ q, q = q2 := ⟨q2, rfl⟩
      subst hqq
      exact tail_done (k := q) (w11 _ _ ⟨F8, ⟨hgq, hsb, hdb⟩, j7, j8, y8, j62, j63, j64, j70, j71, j72, trivial⟩)
     rintro a k ⟨F8, ⟨hg, hs, hd⟩, i7, i8, n8, i62, i63, i64, i70, i71, i72, _⟩
     obtain ⟨x16, hx16, hr⟩ := bind_some hr
     refine cut (fun a' k' => ∃ F8, Bs noF k0 105 a' k' ∧ (IsRef x12) (a'.get 7) k' ∧ (MpR (KeyV.kv (κ := ByteArray)) ((GMap.mk (setK (s4.1).l x13.Name true) : (GMap ByteArray Bool))).l) F8 (a'.get 8) k' ∧ Lo k0 F8 ∧ (IsV d_.Phases) (a'.get 62) k' ∧ (IsI (d_.Phases.length : Int)) (a'.get 63) k' ∧ (IsV s3) (a'.get 64) k' ∧ (IsV x12.Gives) (a'.get 70) k' ∧ (IsI (x12.Gives.length : Int)) (a'.get 71) k' ∧ (IsV x16) (a'.get 72) k' ∧ True) ?_ hQ ?_
     ·intro Q15 W15 w12
      refine gS 2 (_ :: _ :: []) hs (by kernel_rfl) ⟨o1 [(72, none)] rfl fun _ _ h n => ok_add rfl (up i72 h n.1) (cI rfl) hx16, cm 0 rfl rfl, trivial⟩ W15 fun b q p => ?_
      exact tail_done (k := q) (w12 _ _ ⟨F8, Bs.post ⟨hg, hs, hd⟩ p, p.ke 7 rfl i7, p.ke 8 rfl i8, n8, p.ke 62 rfl i62, p.ke 63 rfl i63, p.ke 64 rfl i64, p.ke 70 rfl i70, p.ke 71 rfl i71, p.ou 1 72 rfl, trivial⟩)
     rintro a k ⟨F8, ⟨hg, hs, hd⟩, i7, i8, n8, i62, i63, i64, i70, i71, i72, _⟩
     exact hgo308 _ _ _ (Option.some.inj hr).symm ⟨F8, ⟨hg, hs, hd⟩, i7, i8, n8, i62, i63, i64, i70, i71, i72, trivial⟩
    rw [if_neg (by rw [hc328]; decide)] at hr
    refine wp_exit ?_
    exact hex309 _ _ _ _ (Option.some.inj hr).symm ⟨rfl, ⟨hg, hs, hd⟩, i7, i62, i63, i64, trivial⟩
   ·rintro r2 a k rfl hR
    dsimp only at hr
    exact hret302 _ _ _ (Option.some.inj hr).symm hR
   ·rintro _ _ _ rfl _
    simp at hr
   clear hf3
   rintro _ s5 a k rfl ⟨rfl, ⟨hg, hs, hd⟩, i7, i62, i63, i64, _⟩
   dsimp only at hr
   refine stepL 4 (_ :: _ :: _ :: _ :: []) rfl ⟨hg, hs, hd⟩ (by kernel_rfl) ⟨o1 [(7, none)] rfl fun _ _ h n => ok_fieldAddr rfl fo73_1 (at_Phase_1 _) ((up i7 h n.1)).ptr, o1 [(100, some 0)] rfl fun _ _ h n => ok_load rfl ty71 n.1, o1 [(101, some 1)] rfl fun _ _ h n => ok_len rfl rfl Tryz.underlying71 (IsV.rd n.1), o1 [(102, some 2)] rfl fun _ _ h n => ok_gtr rfl n.1 (cI rfl), trivial⟩ [⟨_, _⟩, ⟨_, _⟩, ⟨_, _⟩, ⟨_, _⟩] (fun b q p => ⟨p.ke 62 rfl i62, p.ke 63 rfl i63, p.ke 64 rfl i64, p.ou 3 103 rfl, trivial⟩) ?_
   rintro a k ⟨⟨hg, hs, hd⟩, i62, i63, i64, i103, _⟩
   refine wp_cond_split (isBool i103) (fun hc340 => ?_) (fun hc340 => ?_)
   ·rw [if_pos hc340] at hr
    refine stepL 1 (⟨some (IsV false), []⟩ :: []) rfl ⟨hg, hs, hd⟩ (by kernel_rfl) ⟨ob1 rfl fun _ _ h n => ok_assign rfl (isV_bool.2 rfl), trivial⟩ [⟨_, _⟩] (fun b q p => ⟨p.ou 0 2 rfl, trivial⟩) ?_
    rintro a k ⟨⟨hg, hs, hd⟩, i2, _⟩
    refine wp_ret ?_
    exact hret302 _ _ _ (Option.some.inj hr).symm (retC1 rfl hd hg i2)
   rw [if_neg (by rw [hc340]; decide)] at hr
   refine wp_skip ?_
   obtain ⟨x17, hx17, hr⟩ := bind_some hr
   refine cut (fun a' k' => Bs noF k0 105 a' k' ∧ (IsV d_.Phases) (a'.get 62) k' ∧ (IsI (d_.Phases.length : Int)) (a'.get 63) k' ∧ (IsV x17) (a'.get 64) k' ∧ True) ?_ hQ ?_
   ·intro Q16 W16 w13
    refine gS 2 (_ :: _ :: []) hs (by kernel_rfl) ⟨o1 [(64, none)] rfl fun _ _ h n => ok_add rfl (up i64 h n.1) (cI rfl) hx17, cm 0 rfl rfl, trivial⟩ W16 fun b q p => ?_
    exact tail_done (k := q) (w13 _ _ ⟨Bs.post ⟨hg, hs, hd⟩ p, p.ke 62 rfl i62, p.ke 63 rfl i63, p.ou 1 64 rfl, trivial⟩)
   rintro a k ⟨⟨hg, hs, hd⟩, i62, i63, i64, _⟩
   exact hgo300 _ _ _ (Option.some.inj hr).symm ⟨⟨hg, hs, hd⟩, i62, i63, i64, trivial⟩
  rw [if_neg (by rw [hc351]; decide)] at hr
  refine wp_exit ?_
  exact hex301 _ _ _ _ (Option.some.inj hr).symm ⟨rfl, ⟨hg, hs, hd⟩, trivial⟩
 ·rintro r3 a k rfl hR
  dsimp only at hr
  obtain rfl := Option.some.inj hr
  exact hR
 ·rintro _ _ _ rfl _
  simp at hr
 clear hf2
 rintro _ s6 a k rfl ⟨rfl, ⟨hg, hs, hd⟩, _⟩
 dsimp only at hr
 refine stepL 1 (⟨some (IsV true), []⟩ :: []) rfl ⟨hg, hs, hd⟩ (by kernel_rfl) ⟨ob1 rfl fun _ _ h n => ok_assign rfl (isV_bool.2 rfl), trivial⟩ [⟨_, _⟩] (fun b q p => ⟨p.ou 0 2 rfl, trivial⟩) ?_
 rintro a k ⟨⟨hg, hs, hd⟩, i2, _⟩
 refine wp_ret ?_
 obtain rfl := Option.some.inj hr
 exact retC1 rfl hd hg i2
noncomputable def k19 := mkOg 19 [.st 3] [.bool] (fun x => drawing_Form x) Tryz.call19 fun k0 vs x r hG h hr => by obtain ⟨v0, rfl, i0⟩ := h.one; exact drawing_Form_ok hG i0 hr
def dossier_formed_1 (d_ : Drawing) : Option (Bool) :=
 (drawing_Form d_).bind fun x1 =>
 some (!x1)
noncomputable def k54 := mkg 54 [.st 3] [.bool] (fun x => dossier_formed_1 x) [k19] [] Tryz.f54 (.n) Tryz.func54 Tryz.call54 rfl rfl fun x => by kernel_rfl
theorem dossier_formed_1_ok {k0 : K} {v0 : Value} {x0 : Drawing} {r : Bool} (hG : GOk tbg k0) (i0 : IsV x0 v0 k0) (hr : dossier_formed_1 x0 = some r) : Calls Tryz.prog 54 #[v0] k0.w (Ret k0 (IsV r)) := (k54.ok.ok k0 [v0] x0 r hG i0 hr)
def dossier_formed (l_ : (List Drawing)) : Option (Bool) :=
 if ((decide ((l_.length : Int) < 1)) || (decide (8 < (l_.length : Int)))) then
  some false
 else
  (slices_ContainsFunc_Drawing l_ dossier_formed_1).bind fun x1 =>
  some (!x1)
theorem dossier_formed_ok {k0 : K} {v0 : Value} {l_ : (List Drawing)} {r : Bool} (hG : GOk tbg k0) (i0 : (IsV l_) v0 k0) (hr : dossier_formed l_ = some r) :
  Calls Tryz.prog 26 #[v0] k0.w (Ret k0 (IsV r)) := by
 unfold dossier_formed at hr
 refine Ret.ofC ?_
 refine enterK Tryz.func26 rfl Tryz.ntmps26 (show 1 ≤ 14 by decide) fun a k hk0 hs hd ha => ?_
 obtain ⟨e0, _⟩ := ha
 replace i0 : (IsV l_) (a.get 0) k := by rw [e0, hk0]; exact i0
 have hQ : Gb.LetsOut (bodyPost Tryz.prog Tryz.f26 (RetC noF k0 (IsV r))) := letsOutC
 have hg : Chg noF k0 k := by rw [hk0]; exact Chg.refl _ k0
 refine stepL 1 (⟨some (IsV false), []⟩ :: []) rfl ⟨hg, hs, hd⟩ (by kernel_rfl) ⟨ob1 rfl fun _ _ h n => ok_assign rfl (isV_bool.2 rfl), trivial⟩ [⟨_, _⟩] (fun b q p => ⟨p.ke 0 rfl i0, trivial⟩) ?_
 rintro a k ⟨⟨hg, hs, hd⟩, i0, _⟩
 refine wp_seq ?_
 refine stepL 8 (_ :: _ :: _ :: _ :: _ :: _ :: _ :: _ :: []) rfl ⟨hg, hs, hd⟩ (by kernel_rfl) ⟨mu rfl i0, o1 [(3, some 0)] rfl fun _ _ h n => ok_len rfl rfl Tryz.underlying31 (IsV.rd n.1), o1 [(4, some 1)] rfl fun _ _ h n => ok_lss rfl n.1 (cI rfl), cm 2 rfl rfl, mF rfl rfl i0, gF [(7, some 4)] rfl rfl fun hp _ _ h n => ok_len rfl rfl Tryz.underlying31 (IsV.rd (Gd.get n.1 hp)), gF [(8, some 5)] rfl rfl fun hp _ _ h n => ok_gtr rfl (Gd.get n.1 hp) (cI rfl), o1 [(6, some 3), (9, some 6)] rfl fun _ _ h n => ok_pickOr rfl n.1 (cB rfl) (Gd.get n.2.1), trivial⟩ [⟨_, _⟩, ⟨_, _⟩] (fun b q p => ⟨p.ke 0 rfl i0, p.ou 7 10 rfl, trivial⟩) ?_
 rintro a k ⟨⟨hg, hs, hd⟩, i0, i10, _⟩
 refine wp_cond_split (isBool i10) (fun hc388 => ?_) (fun hc388 => ?_)
 ·rw [if_pos hc388] at hr
  refine stepL 1 (⟨some (IsV false), []⟩ :: []) rfl ⟨hg, hs, hd⟩ (by kernel_rfl) ⟨ob1 rfl fun _ _ h n => ok_assign rfl (isV_bool.2 rfl), trivial⟩ [⟨_, _⟩] (fun b q p => ⟨p.ou 0 2 rfl, trivial⟩) ?_
  rintro a k ⟨⟨hg, hs, hd⟩, i2, _⟩
  refine wp_ret ?_
  obtain rfl := Option.some.inj hr
  exact retC1 rfl hd hg i2
 rw [if_neg (by rw [hc388]; decide)] at hr
 refine wp_skip ?_
 refine wp_seq ?_
 obtain ⟨x1, hx1, hr⟩ := bind_some hr
 refine cut (fun a' k' => Bs noF k0 14 a' k' ∧ (IsV (!x1)) (a'.get 2) k' ∧ True) ?_ hQ ?_
 ·intro Q1 W1 w1
  refine gS 4 (_ :: _ :: _ :: _ :: []) hs (by kernel_rfl) ⟨mu rfl i0, o1 [(11, some 0)] rfl fun _ _ h n => ok_call rfl Tryz.call53 (slices_ContainsFunc_Drawing_ok n.1 ⟨54, _, _, rfl, Tryz.call54, fun k9 hk9 _ _ _ hx0 hy9 => by simpa [evalT] using dossier_formed_1_ok (GOk.le hk9 (hG.at hg h)) hx0 hy9⟩ hx1), o1 [(12, some 1)] rfl fun _ _ h n => ok_not rfl n.1, cp 2 rfl rfl, trivial⟩ W1 fun b q p => ?_
  exact tail_done (k := q) (w1 _ _ ⟨Bs.post ⟨hg, hs, hd⟩ p, p.ou 3 2 rfl, trivial⟩)
 rintro a k ⟨⟨hg, hs, hd⟩, i2, _⟩
 refine wp_ret ?_
 obtain rfl := Option.some.inj hr
 exact retC1 rfl hd hg i2
noncomputable def k26 := mkOg 26 [.list (.st 3)] [.bool] (fun x => dossier_formed x) Tryz.call26 fun k0 vs x r hG h hr => by obtain ⟨v0, rfl, i0⟩ := h.one; exact dossier_formed_ok hG i0 hr
def dossier_Right (d_ : Dossier) : Option (Bool) :=
 (if (decide (d_.Id < 1)) then
  some (decide (d_.Id < 1))
 else
  (if (decide (d_.Holder < 0)) then
   some (decide (d_.Holder < 0))
  else
   (if (decide (d_.Into < 0)) then
    some (decide (d_.Into < 0))
   else
    (if (decide (d_.State < 0)) then
     some (decide (d_.State < 0))
    else
     (if (decide (9 < d_.State)) then
      some (decide (9 < d_.State))
     else
      (if (decide (d_.Day < 0)) then
       some (decide (d_.Day < 0))
      else
       some (decide (1073741824 < d_.Day))).bind fun s1 =>
      some s1).bind fun s2 =>
     some s2).bind fun s3 =>
    some s3).bind fun s4 =>
   some s4).bind fun s5 =>
  some s5).bind fun s6 =>
 if s6 then
  some false
 else
  (dossier_formed d_.Drawings).bind fun x1 =>
  some ((x1 && (decide (0 ≤ d_.Choice))) && (decide (d_.Choice < (d_.Drawings.length : Int))))
noncomputable def k10 := mkg 10 [.st 6] [.bool] (fun x => dossier_Right x) [k26] [] Tryz.f10 (.s .n (.s (.s (.s .n (.j [] [(3, .v .bool)] ([], []) (.s .n (.s .n (.j [] [(3, .v .bool)] ([], []) (.s .n (.s .n (.j [] [(3, .v .bool)] ([], []) (.s .n (.s .n (.j [] [(3, .v .bool)] ([], []) (.s .n (.s .n (.j [] [(3, .v .bool)] ([], []) (.s .n (.s .n (.j [] [(3, .v .bool)] ([], []) (.s .n .n)))))))))))))))))) .n) .n)) Tryz.func10 Tryz.call10 rfl rfl fun x => by kernel_rfl
def dossier_Acts (state_ : Int) : Option ((List Int)) :=
 if (state_ == 0) then
  some ([0, 1, 2, 7, 8, 9, 10])
 else
  if (state_ == 1) then
   some ([1, 2, 7, 8, 9, 10])
  else
   if (state_ == 2) then
    some ([2, 3, 7, 9, 10])
   else
    if (state_ == 3) then
     some ([2, 4, 7, 9])
    else
     if (state_ == 4) then
      some ([5, 6, 7, 9])
     else
      if (state_ == 5) then
       some ([9])
      else
       some ([] : List Int)
noncomputable def k13 := mk 13 [.int] [.list .int] (fun x => dossier_Acts x) [] [] Tryz.f13 (.n) Tryz.func13 Tryz.call13 rfl rfl fun x => by kernel_rfl
def slices_Index_int_L0 (s_ : (List Int)) (v_ : Int) (s1 : Int) : Option (Flow (Int) (Int)) :=
 if (decide (s1 < (s_.length : Int))) then
  (getI s_ s1).bind fun x1 =>
  if (v_ == x1) then
   some (.ret s1)
  else
   (addI s1 1).bind fun x2 =>
   some (.go x2)
 else
  some (.ex 0 s1)
def slices_Index_int (s_ : (List Int)) (v_ : Int) : Option (Int) :=
 (iterL (slices_Index_int_L0 s_ v_) (s_.length + 1) 0).bind fun f1 => match f1 with
  | .go _ => none
  | .ex _ _ =>
   some (-1)
  | .ret r1 => some r1
noncomputable def k56 := mk 56 [.list .int, .int] [.int] (fun x => slices_Index_int x.1 x.2) [] [] Tryz.f56 (.s .n (.s (.s .n (.l [] [(8, .v .int)] [(0, [8], [])] (fI 7) .n)) .n)) Tryz.func56 Tryz.call56 rfl rfl fun x => by kernel_rfl
def slices_Contains_int (s_ : (List Int)) (v_ : Int) : Option (Bool) :=
 (slices_Index_int s_ v_).bind fun x1 =>
 some (decide (0 ≤ x1))
noncomputable def k29 := mk 29 [.list .int, .int] [.bool] (fun x => slices_Contains_int x.1 x.2) [k56] [] Tryz.f29 (.n) Tryz.func29 Tryz.call29 rfl rfl fun x => by kernel_rfl
def slices_Clone_Drawing (s_ : (List Drawing)) : Option ((List Drawing)) :=
 (appI [] s_).bind fun x1 =>
 some x1
theorem slices_Clone_Drawing_okO {k0 : K} {v0 : Value} {s_ : (List Drawing)} {r : (List Drawing)} (i0 : (IsV s_) v0 k0) (hr : slices_Clone_Drawing s_ = some r) :
  Calls Tryz.prog 49 #[v0] k0.w (Ret k0 (IsOwn k0.w.heap.size 54 r)) := by
 unfold slices_Clone_Drawing at hr
 refine Ret.ofC ?_
 refine enterK Tryz.func49 rfl Tryz.ntmps49 (show 1 ≤ 8 by decide) fun a k hk0 hs hd ha => ?_
 obtain ⟨e0, _⟩ := ha
 replace i0 : (IsV s_) (a.get 0) k := by rw [e0, hk0]; exact i0
 have hQ : Gb.LetsOut (bodyPost Tryz.prog Tryz.f49 (RetC noF k0 (IsOwn k0.w.heap.size 54 r))) := letsOutC
 have hg : Chg noF k0 k := by rw [hk0]; exact Chg.refl _ k0
 refine stepL 1 (⟨some IsE0, []⟩ :: []) rfl ⟨hg, hs, hd⟩ (by kernel_rfl) ⟨ob1 rfl fun b q h n => ok_assign rfl isE0_nil, trivial⟩ [⟨_, _⟩] (fun b q p => ⟨p.ke 0 rfl i0, trivial⟩) ?_
 rintro a k ⟨⟨hg, hs, hd⟩, i0, _⟩
 refine wp_seq ?_
 refine stepL 2 (_ :: ⟨some (IsNT s_), [(3, some 0)]⟩ :: []) rfl ⟨hg, hs, hd⟩ (by kernel_rfl) ⟨mu rfl i0, ob1 rfl fun _ _ h n => ok_eqNil rfl Tryz.underlying31 (IsV.rd n.1), trivial⟩ [⟨_, _⟩, ⟨_, _⟩] (fun b q p => ⟨p.ke 0 rfl i0, p.ou 1 4 rfl, trivial⟩) ?_
 rintro a k ⟨⟨hg, hs, hd⟩, i0, i4, _⟩
 obtain ⟨bb, hbb, hnil⟩ := i4
 refine wp_cond_split hbb (fun hc547 => ?_) (fun hc547 => ?_)
 ·replace hr : some ([] : List Drawing) = some r := by rw [hnil hc547] at hr; simpa [appI] using hr
  refine cutS (fun c l => Bs noF k0 8 c l ∧ IsOwn 0 54 ([] : List Drawing) (c.get 2) l ∧ Lo k0 (obF (c.get 2)) ∧ True) ?_ ?_
  ·intro Q1 W1 w1
   refine gS 1 (⟨some IsE0, []⟩ :: []) hs (by kernel_rfl) ⟨ob1 rfl fun b q h n => ok_assign rfl isE0_nil, trivial⟩ W1 fun b q p => ?_
   have hgq := hg.then p.grow
   have hsb := p.size.trans hs
   have hdb := p.defers.trans hd
   have j2 : IsE0 (b.get 2) q := p.ou 0 2 rfl
   have y2 : Lo k0 (obF (b.get 2)) := j2.lo
   replace j2 : IsOwn 0 54 ([] : List Drawing) (b.get 2) q := j2.own0
   exact tail_done (k := q) (w1 _ _ ⟨⟨hgq, hsb, hdb⟩, j2, y2, trivial⟩)
  rintro a k ⟨⟨hg, hs, hd⟩, i2, n2, _⟩
  refine wp_ret ?_
  obtain rfl := Option.some.inj hr
  exact retC1 rfl hd hg (show ResOk _ _ _ (.tmp 2) _ from IsOwn.raise (k0 := k0) i2 n2)
 ·skip
  refine wp_skip ?_
  refine wp_seq ?_
  obtain ⟨x1, hx1, hr⟩ := bind_some hr
  refine cut (fun a' k' => Bs noF k0 8 a' k' ∧ IsOwn 0 54 x1 (a'.get 2) k' ∧ Lo k0 (obF (a'.get 2)) ∧ True) ?_ hQ ?_
  ·intro Q2 W2 w2
   refine gS 4 (⟨some IsE0, []⟩ :: _ :: ⟨some (IsOwn k.w.heap.size 54 x1), [(5, some 0), (6, some 1)]⟩ :: _ :: []) hs (by kernel_rfl) ⟨ob1 rfl fun b q h n => ok_buildSlice0 rfl Tryz.underlying31 eo54, mu rfl i0, ob1 rfl fun _ _ h n => ok_append0 rfl Tryz.underlying31 eo54 h.size n.1 (IsV.rd n.2.1) hx1, cp 2 rfl rfl, trivial⟩ W2 fun b q p => ?_
   have hgq := hg.then p.grow
   have hsb := p.size.trans hs
   have hdb := p.defers.trans hd
   have j2 : (IsOwn k.w.heap.size 54 x1) (b.get 2) q := p.ou 3 2 rfl
   have x2 : Lo k (obF (b.get 2)) := j2.loF
   have y2 := x2.chg hg
   replace j2 := j2.weaken (Nat.zero_le _)
   exact tail_done (k := q) (w2 _ _ ⟨⟨hgq, hsb, hdb⟩, j2, y2, trivial⟩)
  rintro a k ⟨⟨hg, hs, hd⟩, i2, n2, _⟩
  refine wp_ret ?_
  obtain rfl := Option.some.inj hr
  exact retC1 rfl hd hg (show ResOk _ _ _ (.tmp 2) _ from IsOwn.raise (k0 := k0) i2 n2)
theorem slices_Clone_Drawing_ok {k0 : K} {v0 : Value} {s_ : (List Drawing)} {r : (List Drawing)} (i0 : (IsV s_) v0 k0) (hr : slices_Clone_Drawing s_ = some r) :
  Calls Tryz.prog 49 #[v0] k0.w (Ret k0 (IsV r)) :=
 ret_give (slices_Clone_Drawing_okO i0 hr)
def slices_Clone_Phase (s_ : (List Phase)) : Option ((List Phase)) :=
 (appI [] s_).bind fun x1 =>
 some x1
theorem slices_Clone_Phase_okO {k0 : K} {v0 : Value} {s_ : (List Phase)} {r : (List Phase)} (i0 : (IsV s_) v0 k0) (hr : slices_Clone_Phase s_ = some r) :
  Calls Tryz.prog 50 #[v0] k0.w (Ret k0 (IsOwn k0.w.heap.size 73 r)) := by
 unfold slices_Clone_Phase at hr
 refine Ret.ofC ?_
 refine enterK Tryz.func50 rfl Tryz.ntmps50 (show 1 ≤ 8 by decide) fun a k hk0 hs hd ha => ?_
 obtain ⟨e0, _⟩ := ha
 replace i0 : (IsV s_) (a.get 0) k := by rw [e0, hk0]; exact i0
 have hQ : Gb.LetsOut (bodyPost Tryz.prog Tryz.f50 (RetC noF k0 (IsOwn k0.w.heap.size 73 r))) := letsOutC
 have hg : Chg noF k0 k := by rw [hk0]; exact Chg.refl _ k0
 refine stepL 1 (⟨some IsE0, []⟩ :: []) rfl ⟨hg, hs, hd⟩ (by kernel_rfl) ⟨ob1 rfl fun b q h n => ok_assign rfl isE0_nil, trivial⟩ [⟨_, _⟩] (fun b q p => ⟨p.ke 0 rfl i0, trivial⟩) ?_
 rintro a k ⟨⟨hg, hs, hd⟩, i0, _⟩
 refine wp_seq ?_
 refine stepL 2 (_ :: ⟨some (IsNT s_), [(3, some 0)]⟩ :: []) rfl ⟨hg, hs, hd⟩ (by kernel_rfl) ⟨mu rfl i0, ob1 rfl fun _ _ h n => ok_eqNil rfl Tryz.underlying52 (IsV.rd n.1), trivial⟩ [⟨_, _⟩, ⟨_, _⟩] (fun b q p => ⟨p.ke 0 rfl i0, p.ou 1 4 rfl, trivial⟩) ?_
 rintro a k ⟨⟨hg, hs, hd⟩, i0, i4, _⟩
 obtain ⟨bb, hbb, hnil⟩ := i4
 refine wp_cond_split hbb (fun hc560 => ?_) (fun hc560 => ?_)
 ·replace hr : some ([] : List Phase) = some r := by rw [hnil hc560] at hr; simpa [appI] using hr
  refine cutS (fun c l => Bs noF k0 8 c l ∧ IsOwn 0 73 ([] : List Phase) (c.get 2) l ∧ Lo k0 (obF (c.get 2)) ∧ True) ?_ ?_
  ·intro Q1 W1 w1
   refine gS 1 (⟨some IsE0, []⟩ :: []) hs (by kernel_rfl) ⟨ob1 rfl fun b q h n => ok_assign rfl isE0_nil, trivial⟩ W1 fun b q p => ?_
   have hgq := hg.then p.grow
   have hsb := p.size.trans hs
   have hdb := p.defers.trans hd
   have j2 : IsE0 (b.get 2) q := p.ou 0 2 rfl
   have y2 : Lo k0 (obF (b.get 2)) := j2.lo
   replace j2 : IsOwn 0 73 ([] : List Phase) (b.get 2) q := j2.own0
   exact tail_done (k := q) (w1 _ _ ⟨⟨hgq, hsb, hdb⟩, j2, y2, trivial⟩)
  rintro a k ⟨⟨hg, hs, hd⟩, i2, n2, _⟩
  refine wp_ret ?_
  obtain rfl := Option.some.inj hr
  exact retC1 rfl hd hg (show ResOk _ _ _ (.tmp 2) _ from IsOwn.raise (k0 := k0) i2 n2)
 ·skip
  refine wp_skip ?_
  refine wp_seq ?_
  obtain ⟨x1, hx1, hr⟩ := bind_some hr
  refine cut (fun a' k' => Bs noF k0 8 a' k' ∧ IsOwn 0 73 x1 (a'.get 2) k' ∧ Lo k0 (obF (a'.get 2)) ∧ True) ?_ hQ ?_
  ·intro Q2 W2 w2
   refine gS 4 (⟨some IsE0, []⟩ :: _ :: ⟨some (IsOwn k.w.heap.size 73 x1), [(5, some 0), (6, some 1)]⟩ :: _ :: []) hs (by kernel_rfl) ⟨ob1 rfl fun b q h n => ok_buildSlice0 rfl Tryz.underlying52 eo73, mu rfl i0, ob1 rfl fun _ _ h n => ok_append0 rfl Tryz.underlying52 eo73 h.size n.1 (IsV.rd n.2.1) hx1, cp 2 rfl rfl, trivial⟩ W2 fun b q p => ?_
   have hgq := hg.then p.grow
   have hsb := p.size.trans hs
   have hdb := p.defers.trans hd
   have j2 : (IsOwn k.w.heap.size 73 x1) (b.get 2) q := p.ou 3 2 rfl
   have x2 : Lo k (obF (b.get 2)) := j2.loF
   have y2 := x2.chg hg
   replace j2 := j2.weaken (Nat.zero_le _)
   exact tail_done (k := q) (w2 _ _ ⟨⟨hgq, hsb, hdb⟩, j2, y2, trivial⟩)
  rintro a k ⟨⟨hg, hs, hd⟩, i2, n2, _⟩
  refine wp_ret ?_
  obtain rfl := Option.some.inj hr
  exact retC1 rfl hd hg (show ResOk _ _ _ (.tmp 2) _ from IsOwn.raise (k0 := k0) i2 n2)
theorem slices_Clone_Phase_ok {k0 : K} {v0 : Value} {s_ : (List Phase)} {r : (List Phase)} (i0 : (IsV s_) v0 k0) (hr : slices_Clone_Phase s_ = some r) :
  Calls Tryz.prog 50 #[v0] k0.w (Ret k0 (IsV r)) :=
 ret_give (slices_Clone_Phase_okO i0 hr)
def slices_Clone_Volume (s_ : (List Volume)) : Option ((List Volume)) :=
 (appI [] s_).bind fun x1 =>
 some x1
theorem slices_Clone_Volume_ok {k0 : K} {v0 : Value} {s_ : (List Volume)} {r : (List Volume)} (i0 : (IsV s_) v0 k0) (hr : slices_Clone_Volume s_ = some r) :
  Calls Tryz.prog 51 #[v0] k0.w (Ret k0 (IsV r)) := by
 unfold slices_Clone_Volume at hr
 refine Ret.ofC ?_
 refine enterK Tryz.func51 rfl Tryz.ntmps51 (show 1 ≤ 8 by decide) fun a k hk0 hs hd ha => ?_
 obtain ⟨e0, _⟩ := ha
 replace i0 : (IsV s_) (a.get 0) k := by rw [e0, hk0]; exact i0
 have hQ : Gb.LetsOut (bodyPost Tryz.prog Tryz.f51 (RetC noF k0 (IsV r))) := letsOutC
 have hg : Chg noF k0 k := by rw [hk0]; exact Chg.refl _ k0
 refine stepL 1 (⟨some IsE0, []⟩ :: []) rfl ⟨hg, hs, hd⟩ (by kernel_rfl) ⟨ob1 rfl fun b q h n => ok_assign rfl isE0_nil, trivial⟩ [⟨_, _⟩] (fun b q p => ⟨p.ke 0 rfl i0, trivial⟩) ?_
 rintro a k ⟨⟨hg, hs, hd⟩, i0, _⟩
 refine wp_seq ?_
 refine stepL 2 (_ :: ⟨some (IsNT s_), [(3, some 0)]⟩ :: []) rfl ⟨hg, hs, hd⟩ (by kernel_rfl) ⟨mu rfl i0, ob1 rfl fun _ _ h n => ok_eqNil rfl Tryz.underlying70 (IsV.rd n.1), trivial⟩ [⟨_, _⟩, ⟨_, _⟩] (fun b q p => ⟨p.ke 0 rfl i0, p.ou 1 4 rfl, trivial⟩) ?_
 rintro a k ⟨⟨hg, hs, hd⟩, i0, i4, _⟩
 obtain ⟨bb, hbb, hnil⟩ := i4
 refine wp_cond_split hbb (fun hc573 => ?_) (fun hc573 => ?_)
 ·replace hr : some ([] : List Volume) = some r := by rw [hnil hc573] at hr; simpa [appI] using hr
  refine cutL noF k0 8 [⟨2, IsV ([] : List Volume)⟩] ?_ ?_
  ·intro Q1 W1 w1
   refine gS 1 (⟨some IsE0, []⟩ :: []) hs (by kernel_rfl) ⟨ob1 rfl fun b q h n => ok_assign rfl isE0_nil, trivial⟩ W1 fun b q p => ?_
   have hgq := hg.then p.grow
   have hsb := p.size.trans hs
   have hdb := p.defers.trans hd
   have j2 : IsE0 (b.get 2) q := p.ou 0 2 rfl
   replace j2 : IsV ([] : List Volume) (b.get 2) q := j2.isV
   exact tail_done (k := q) (w1 _ _ ⟨⟨hgq, hsb, hdb⟩, j2, trivial⟩)
  rintro a k ⟨⟨hg, hs, hd⟩, i2, _⟩
  refine wp_ret ?_
  obtain rfl := Option.some.inj hr
  exact retC1 rfl hd hg i2
 ·skip
  refine wp_skip ?_
  refine wp_seq ?_
  obtain ⟨x1, hx1, hr⟩ := bind_some hr
  refine cut (fun a' k' => Bs noF k0 8 a' k' ∧ (IsV x1) (a'.get 2) k' ∧ True) ?_ hQ ?_
  ·intro Q2 W2 w2
   refine gS 4 (⟨some IsE0, []⟩ :: _ :: ⟨some (IsV x1), [(5, some 0), (6, some 1)]⟩ :: _ :: []) hs (by kernel_rfl) ⟨ob1 rfl fun b q h n => ok_buildSlice0 rfl Tryz.underlying70 eo81, mu rfl i0, ob1 rfl fun _ _ h n => ok_append0V rfl Tryz.underlying70 eo81 n.1 (IsV.rd n.2.1) hx1, cp 2 rfl rfl, trivial⟩ W2 fun b q p => ?_
   exact tail_done (k := q) (w2 _ _ ⟨Bs.post ⟨hg, hs, hd⟩ p, p.ou 3 2 rfl, trivial⟩)
  rintro a k ⟨⟨hg, hs, hd⟩, i2, _⟩
  refine wp_ret ?_
  obtain rfl := Option.some.inj hr
  exact retC1 rfl hd hg i2
def slices_Clone_Entry (s_ : (List Entry)) : Option ((List Entry)) :=
 (appI [] s_).bind fun x1 =>
 some x1
theorem slices_Clone_Entry_ok {k0 : K} {v0 : Value} {s_ : (List Entry)} {r : (List Entry)} (i0 : (IsV s_) v0 k0) (hr : slices_Clone_Entry s_ = some r) :
  Calls Tryz.prog 52 #[v0] k0.w (Ret k0 (IsV r)) := by
 unfold slices_Clone_Entry at hr
 refine Ret.ofC ?_
 refine enterK Tryz.func52 rfl Tryz.ntmps52 (show 1 ≤ 8 by decide) fun a k hk0 hs hd ha => ?_
 obtain ⟨e0, _⟩ := ha
 replace i0 : (IsV s_) (a.get 0) k := by rw [e0, hk0]; exact i0
 have hQ : Gb.LetsOut (bodyPost Tryz.prog Tryz.f52 (RetC noF k0 (IsV r))) := letsOutC
 have hg : Chg noF k0 k := by rw [hk0]; exact Chg.refl _ k0
 refine stepL 1 (⟨some IsE0, []⟩ :: []) rfl ⟨hg, hs, hd⟩ (by kernel_rfl) ⟨ob1 rfl fun b q h n => ok_assign rfl isE0_nil, trivial⟩ [⟨_, _⟩] (fun b q p => ⟨p.ke 0 rfl i0, trivial⟩) ?_
 rintro a k ⟨⟨hg, hs, hd⟩, i0, _⟩
 refine wp_seq ?_
 refine stepL 2 (_ :: ⟨some (IsNT s_), [(3, some 0)]⟩ :: []) rfl ⟨hg, hs, hd⟩ (by kernel_rfl) ⟨mu rfl i0, ob1 rfl fun _ _ h n => ok_eqNil rfl Tryz.underlying71 (IsV.rd n.1), trivial⟩ [⟨_, _⟩, ⟨_, _⟩] (fun b q p => ⟨p.ke 0 rfl i0, p.ou 1 4 rfl, trivial⟩) ?_
 rintro a k ⟨⟨hg, hs, hd⟩, i0, i4, _⟩
 obtain ⟨bb, hbb, hnil⟩ := i4
 refine wp_cond_split hbb (fun hc586 => ?_) (fun hc586 => ?_)
 ·replace hr : some ([] : List Entry) = some r := by rw [hnil hc586] at hr; simpa [appI] using hr
  refine cutL noF k0 8 [⟨2, IsV ([] : List Entry)⟩] ?_ ?_
  ·intro Q1 W1 w1
   refine gS 1 (⟨some IsE0, []⟩ :: []) hs (by kernel_rfl) ⟨ob1 rfl fun b q h n => ok_assign rfl isE0_nil, trivial⟩ W1 fun b q p => ?_
   have hgq := hg.then p.grow
   have hsb := p.size.trans hs
   have hdb := p.defers.trans hd
   have j2 : IsE0 (b.get 2) q := p.ou 0 2 rfl
   replace j2 : IsV ([] : List Entry) (b.get 2) q := j2.isV
   exact tail_done (k := q) (w1 _ _ ⟨⟨hgq, hsb, hdb⟩, j2, trivial⟩)
  rintro a k ⟨⟨hg, hs, hd⟩, i2, _⟩
  refine wp_ret ?_
  obtain rfl := Option.some.inj hr
  exact retC1 rfl hd hg i2
 ·skip
  refine wp_skip ?_
  refine wp_seq ?_
  obtain ⟨x1, hx1, hr⟩ := bind_some hr
  refine cut (fun a' k' => Bs noF k0 8 a' k' ∧ (IsV x1) (a'.get 2) k' ∧ True) ?_ hQ ?_
  ·intro Q2 W2 w2
   refine gS 4 (⟨some IsE0, []⟩ :: _ :: ⟨some (IsV x1), [(5, some 0), (6, some 1)]⟩ :: _ :: []) hs (by kernel_rfl) ⟨ob1 rfl fun b q h n => ok_buildSlice0 rfl Tryz.underlying71 eo87, mu rfl i0, ob1 rfl fun _ _ h n => ok_append0V rfl Tryz.underlying71 eo87 n.1 (IsV.rd n.2.1) hx1, cp 2 rfl rfl, trivial⟩ W2 fun b q p => ?_
   exact tail_done (k := q) (w2 _ _ ⟨Bs.post ⟨hg, hs, hd⟩ p, p.ou 3 2 rfl, trivial⟩)
  rintro a k ⟨⟨hg, hs, hd⟩, i2, _⟩
  refine wp_ret ?_
  obtain rfl := Option.some.inj hr
  exact retC1 rfl hd hg i2
structure DrawingR where
 Lot : Int
 Phases : RawV
 deriving Inhabited
instance : Enc DrawingR := Enc.ofMap fun x => (x.Lot, x.Phases)
def sameDR (x : Drawing) (y : DrawingR) : Prop := y.Lot = x.Lot
theorem rawD : RawOf Drawing.Phases DrawingR.Phases sameDR where
 sz := rfl
 split {k cs x} h := by
  obtain ⟨hl, h1, v, hv, hr⟩ : cs.length = 2 ∧ Enc.rep k (cs.take 1) x.Lot ∧ Enc.rep k (cs.drop 1) x.Phases := h
  have hv' : cs.drop 1 = [v] := hv
  have hrp : Enc.rep (α := List Phase) k [v] x.Phases := ⟨v, rfl, hr⟩
  have ho : v.oneCell' = true := Enc.one hrp v (by simp)
  exact ⟨⟨x.Lot, ⟨v⟩⟩, ⟨hl, h1, hv', ho⟩, rfl, [v], rfl, v, rfl, hr⟩
 join {k cs x y} h hs hv := by
  obtain ⟨hl, h1, h2, ho⟩ : cs.length = 2 ∧ Enc.rep k (cs.take 1) y.Lot ∧ cs.drop 1 = [y.Phases.v] ∧ y.Phases.v.oneCell' = true := h
  obtain ⟨cs', e, u, hu, hr⟩ := hv
  subst hu
  have e' : y.Phases.v = u := e
  have hs' : y.Lot = x.Lot := hs
  rw [hs'] at h1
  exact ⟨hl, h1, u, by rw [← e']; exact h2, hr⟩
theorem tyR54 : Ty Tryz.prog 54 DrawingR := ⟨⟨_, Tryz.underlying54, rfl⟩, by kernel_rfl⟩
theorem tyR52 : Ty Tryz.prog 52 RawV := ⟨⟨_, Tryz.underlying52, rfl⟩, by kernel_rfl⟩
theorem szR52 : (Tryz.prog.info? 52).map (·.size) = some (Enc.sz RawV) := by kernel_rfl
theorem at_DrawingR_1 (y : DrawingR) (ad : Addr) (k : K) (h : At y ad k) : At y.Phases (ad.add 1) k :=
 have h0 : At (y.Lot, y.Phases) ad k := h
 At.snd' (At.zero h0)
theorem updR54_1 : Upd (α := DrawingR) (β := RawV) (0 + 1) (fun x y => { x with Phases := y }) := fun k cs cy x y hx hy => (Upd.snd Upd.self) k cs cy (x.Lot, x.Phases) y hx hy
def dossier_clone_L1 (x1 : (List Phase)) (s1 : (List Phase) × Int) : Option (Flow ((List Phase) × Int) ((List Drawing))) :=
 if (decide (s1.2 < (x1.length : Int))) then
  (getI s1.1 s1.2).bind fun x2 =>
  (slices_Clone_Volume x2.Volumes).bind fun x3 =>
  (slices_Clone_Entry x2.Gives).bind fun x4 =>
  (getI s1.1 s1.2).bind fun x5 =>
  (some (s1.1.set (s1.2).toNat (⟨x3, x4⟩ : Phase))).bind fun x6 =>
  (addI s1.2 1).bind fun x7 =>
  some (.go (x6, x7))
 else
  some (.ex 2 (s1.1, s1.2))
def dossier_clone_L0 (x1 : (List Drawing)) (s1 : (List Drawing) × Int) : Option (Flow ((List Drawing) × Int) ((List Drawing))) :=
 if (decide (s1.2 < (x1.length : Int))) then
  (getI s1.1 s1.2).bind fun x2 =>
  (slices_Clone_Phase x2.Phases).bind fun x3 =>
  (iterL (dossier_clone_L1 x3) (x3.length + 1) (x3, 0)).bind fun f1 => match f1 with
   | .go _ => none
   | .ex _ s2 =>
    (getI s1.1 s1.2).bind fun x4 =>
    (addI s1.2 1).bind fun x5 =>
    (some (s1.1.set (s1.2).toNat ({ x4 with Phases := s2.1 }))).bind fun x6 =>
    some (.go (x6, x5))
   | .ret r1 => some (.ret r1)
 else
  some (.ex 0 (s1.1, s1.2))
def dossier_clone (l_ : (List Drawing)) : Option ((List Drawing)) :=
 (slices_Clone_Drawing l_).bind fun x1 =>
 (iterL (dossier_clone_L0 x1) (x1.length + 1) (x1, 0)).bind fun f1 => match f1 with
  | .go _ => none
  | .ex _ s1 =>
   some s1.1
  | .ret r1 => some r1
theorem dossier_clone_ok {k0 : K} {v0 : Value} {l_ : (List Drawing)} {r : (List Drawing)} (i0 : (IsV l_) v0 k0) (hr : dossier_clone l_ = some r) :
  Calls Tryz.prog 25 #[v0] k0.w (Ret k0 (IsV r)) := by
 unfold dossier_clone at hr
 refine Ret.ofC ?_
 refine enterK Tryz.func25 rfl Tryz.ntmps25 (show 1 ≤ 52 by decide) fun a k hk0 hs hd ha => ?_
 obtain ⟨e0, _⟩ := ha
 replace i0 : (IsV l_) (a.get 0) k := by rw [e0, hk0]; exact i0
 have hQ : Gb.LetsOut (bodyPost Tryz.prog Tryz.f25 (RetC noF k0 (IsV r))) := letsOutC
 have hg : Chg noF k0 k := by rw [hk0]; exact Chg.refl _ k0
 refine stepL 1 (⟨some IsE0, []⟩ :: []) rfl ⟨hg, hs, hd⟩ (by kernel_rfl) ⟨ob1 rfl fun b q h n => ok_assign rfl isE0_nil, trivial⟩ [⟨_, _⟩] (fun b q p => ⟨p.ke 0 rfl i0, trivial⟩) ?_
 rintro a k ⟨⟨hg, hs, hd⟩, i0, _⟩
 refine wp_seq ?_
 obtain ⟨x1, hx1, hr⟩ := bind_some hr
 refine cut (fun a' k' => Bs noF k0 52 a' k' ∧ IsOwn 0 54 x1 (a'.get 3) k' ∧ Lo k0 (obF (a'.get 3)) ∧ True) ?_ hQ ?_
 ·intro Q1 W1 w1
  refine gS 3 (_ :: _ :: _ :: []) hs (by kernel_rfl) ⟨mu rfl i0, o1 [(7, some 0)] rfl fun _ _ h n => ok_call rfl Tryz.call49 (ret_weaken h.size (slices_Clone_Drawing_okO n.1 hx1)), cp 1 rfl rfl, trivial⟩ W1 fun b q p => ?_
  have hgq := hg.then p.grow
  have hsb := p.size.trans hs
  have hdb := p.defers.trans hd
  have j3 : (IsOwn k.w.heap.size 54 x1) (b.get 3) q := p.ou 2 3 rfl
  have x3 : Lo k (obF (b.get 3)) := j3.loF
  have y3 := x3.chg hg
  replace j3 := j3.weaken (Nat.zero_le _)
  exact tail_done (k := q) (w1 _ _ ⟨⟨hgq, hsb, hdb⟩, j3, y3, trivial⟩)
 rintro a k ⟨⟨hg, hs, hd⟩, i3, n3, _⟩
 refine wp_seq ?_
 refine cutS (fun c l => Bs noF k0 52 c l ∧ IsOwn 0 54 x1 (c.get 3) l ∧ Lo k0 (obF (c.get 3)) ∧ IsL x1 (c.get 10) l ∧ IsI 0 (c.get 11) l ∧ True) ?_ ?_
 ·intro Q2 W2 w2
  refine gS 3 (⟨some (OwnAt (a.get 3) 0 54 x1), [(3, none)]⟩ :: _ :: ⟨some (IsI 0), []⟩ :: []) hs (by kernel_rfl) ⟨ob1 rfl fun _ _ h n => ok_moveOA (.inl rfl) (ownAt n.1 (up i3 h n.1)), o1 [(9, some 0)] rfl fun _ _ h n => ok_len rfl rfl Tryz.underlying31 (IsOwn.rd (n.1).2), ob1 rfl fun _ _ h n => ok_move rfl (cI rfl), trivial⟩ W2 fun b q p => ?_
  exact tail_done (k := q) (w2 _ _ ⟨Bs.post ⟨hg, hs, hd⟩ p, p.ke 3 rfl i3, (by rw [p.old 3 rfl]; exact n3), p.ou 1 10 rfl, p.ou 2 11 rfl, trivial⟩)
 rintro a k ⟨⟨hg, hs, hd⟩, i3, n3, i10, i11, _⟩
 refine wp_block ?_
 obtain ⟨f1, hf1, hr⟩ := bind_some hr
 refine cutFe f1 (fun s' c l => Bs noF k0 52 c l ∧ IsOwn 0 54 s'.1 (c.get 3) l ∧ Lo k0 (obF (c.get 3)) ∧ IsL x1 (c.get 10) l ∧ IsV s'.2 (c.get 11) l ∧ True) (fun i' s' c l => (i' = 0 ∧ Bs noF k0 52 c l ∧ IsV s'.1 (c.get 3) l ∧ True)) (fun r' c l => bodyPost Tryz.prog Tryz.f25 (RetC noF k0 (IsV r')) .ret c l.w) ?_ hQ ?_ ?_ ?_
 ·intro Q3 W3 hgo hex hret
  refine sim_loop ?_ _ _ _ _ _ hf1 ⟨⟨hg, hs, hd⟩, i3, n3, i10, i11, trivial⟩ Q3 W3 hgo hex hret
  clear hr hf1 hgo hex hret W3 hQ hg hs hd i10 i11 i3 n3
  intro s1 fl_ a k hr hS Q hQ hgo595 hex596 hret597
  obtain ⟨⟨hg, hs, hd⟩, i3, n3, i10, i11, _⟩ := hS
  unfold dossier_clone_L0 at hr
  refine cutS (fun c l => Bs noF k0 52 c l ∧ IsOwn 0 54 s1.1 (c.get 3) l ∧ Lo k0 (obF (c.get 3)) ∧ IsL x1 (c.get 10) l ∧ IsV s1.2 (c.get 11) l ∧ (IsV (decide (s1.2 < (x1.length : Int)))) (c.get 12) l ∧ True) ?_ ?_
  ·intro Q4 W4 w3
   refine gS 1 (_ :: []) hs (by kernel_rfl) ⟨o1 [(11, none), (10, none)] rfl fun _ _ h n => ok_lss rfl (up i11 h n.1) (up i10 h n.2.1), trivial⟩ W4 fun b q p => ?_
   exact tail_done (k := q) (w3 _ _ ⟨Bs.post ⟨hg, hs, hd⟩ p, p.ke 3 rfl i3, (by rw [p.old 3 rfl]; exact n3), p.ke 10 rfl i10, p.ke 11 rfl i11, p.ou 0 12 rfl, trivial⟩)
  rintro a k ⟨⟨hg, hs, hd⟩, i3, n3, i10, i11, i12, _⟩
  refine wp_seq ?_
  refine wp_cond_split (isBool i12) (fun hc634 => ?_) (fun hc634 => ?_)
  ·rw [if_pos hc634] at hr
   refine wp_skip ?_
   refine wp_seq ?_
   refine wp_block ?_
   refine cutS (fun c l => Bs noF k0 52 c l ∧ IsOwn 0 54 s1.1 (c.get 3) l ∧ Lo k0 (obF (c.get 3)) ∧ IsV s1.2 (c.get 4) l ∧ IsL x1 (c.get 10) l ∧ IsV s1.2 (c.get 11) l ∧ True) ?_ ?_
   ·intro Q5 W5 w4
    refine gS 2 (_ :: _ :: []) hs (by kernel_rfl) ⟨mu rfl i11, cp 0 rfl rfl, trivial⟩ W5 fun b q p => ?_
    exact tail_done (k := q) (w4 _ _ ⟨Bs.post ⟨hg, hs, hd⟩ p, p.ke 3 rfl i3, (by rw [p.old 3 rfl]; exact n3), p.ou 1 4 rfl, p.ke 10 rfl i10, p.ke 11 rfl i11, trivial⟩)
   rintro a k ⟨⟨hg, hs, hd⟩, i3, n3, i4, i10, i11, _⟩
   refine wp_seq ?_
   obtain ⟨x2, hx2, hr⟩ := bind_some hr
   obtain ⟨x4, hx4, hr⟩ := bind_some hr
   refine cut (fun a' k' => Bs noF k0 52 a' k' ∧ (HO Drawing.Phases DrawingR.Phases sameDR 54 s1.1 (s1.2).toNat (a'.get 21)) (a'.get 3) k' ∧ Lo k0 (obF (a'.get 3)) ∧ (IsV s1.2) (a'.get 4) k' ∧ (IsL x1) (a'.get 10) k' ∧ (IsV s1.2) (a'.get 11) k' ∧ IsOwn 0 73 x4 (a'.get 21) k' ∧ Lo k0 (obF (a'.get 21)) ∧ Apart (obF (a'.get 3)) (obF (a'.get 21)) ∧ True) ?_ hQ ?_
   ·intro Q6 W6 w5
    refine gS 10 (⟨some (OwnAt (a.get 3) 0 54 s1.1), [(3, none)]⟩ :: _ :: ⟨some (OwnAt (a.get 3) 0 54 s1.1), [(3, none)]⟩ :: _ :: _ :: _ :: _ :: _ :: ⟨some (IsAdrO (a.get 3) ((s1.2).toNat * Enc.sz Drawing)), [(14, some 0), (15, some 1)]⟩ :: _ :: []) hs (by kernel_rfl) ⟨ob1 rfl fun _ _ h n => ok_moveOA (.inl rfl) (ownAt n.1 (up i3 h n.1)), mu rfl i4, ob1 rfl fun _ _ h n => ok_moveOA (.inl rfl) (ownAt n.1 (up i3 h n.1)), mu rfl i4, o1 [(16, some 2), (17, some 3)] rfl fun _ _ h n => ok_indexAddr rfl Tryz.underlying31 ty54 (IsOwn.rd (n.1).2) n.2.1 hx2, o1 [(18, some 4)] rfl fun _ _ h n => ok_fieldAddr rfl fo54_1 (at_Drawing_1 _) n.1, o1 [(19, some 5)] rfl fun _ _ h n => ok_load rfl ty52 n.1, o1 [(20, some 6)] rfl fun _ _ h n => ok_call rfl Tryz.call50 (ret_weaken h.size (slices_Clone_Phase_okO n.1 hx4)), ob1 rfl fun _ _ h n => ok_indexO rfl Tryz.underlying31 ty54 n.1 n.2.1 hx2, o1 [(22, some 8)] rfl fun _ _ h n => ok_fieldAdrO rfl fo54_1 n.1, trivial⟩ W6 fun b q p => ?_
    have hgq := hg.then p.grow
    have hsb := p.size.trans hs
    have hdb := p.defers.trans hd
    have j3 := p.ke 3 rfl i3
    have y3 : Lo k0 (obF (b.get 3)) := by rw [p.old 3 rfl]; exact n3
    have j4 := p.ke 4 rfl i4
    have j10 := p.ke 10 rfl i10
    have j11 := p.ke 11 rfl i11
    have j21 : (IsOwn k.w.heap.size 73 x4) (b.get 21) q := p.ou 7 21 rfl
    have x21 : Lo k (obF (b.get 21)) := j21.loF
    have y21 := x21.chg hg
    replace j21 := j21.weaken (Nat.zero_le _)
    have w3_21 : Apart (obF (b.get 3)) (obF (b.get 21)) := Apart.new (by rw [p.old 3 rfl]; exact i3.ltF) x21
    have j23 : IsAdrO (a.get 3) ((s1.2).toNat * Enc.sz Drawing + 1) (b.get 23) q := p.ou 9 23 rfl
    have eo : b.get 3 = a.get 3 := p.old 3 rfl
    obtain ⟨rs, jr, hR⟩ := own_raw rawD j3
    obtain ⟨y, hy⟩ : ∃ y, rs[(s1.2).toNat]? = some y := ⟨_, List.getElem?_eq_getElem (by rw [hR.1]; exact (getI_spec hx2).2.2.1)⟩
    have hns := jr.nshF
    refine tail_storeS (α := DrawingR) (β := RawV) (i := 10) (u := b.get 3) (m := (s1.2).toNat) (off := 0 + 1) rfl rfl rfl rfl szR52 updR54_1 (by rw [eo]; exact j23) jr hy (raw_self (own_one j21)) fun q2 hch hz => ?_
    replace hgq := hgq.step hch y3.wr
    have hle := hch.le hns
    replace j4 := Pers.pers hle j4
    replace j10 := Pers.pers hle j10
    replace j11 := Pers.pers hle j11
    replace j21 := j21.keep hch (w3_21.symm) hns
    replace j3 := HO.put (g := Drawing.Phases) (f := DrawingR.Phases) (same := sameDR) hz (hR.le hle) (getI_spec hx2).2.1 hy (fun h => h) rfl
    clear hns hle hch eo hz
    obtain ⟨q, hqq⟩ : ∃ q, q = q2 := ⟨q2, rfl⟩
    subst hqq
    exact tail_done (k := q) (w5 _ _ ⟨⟨hgq, hsb, hdb⟩, j3, y3, j4, j10, j11, j21, y21, w3_21, trivial⟩)
   rintro a k ⟨⟨hg, hs, hd⟩, i3, n3, i4, i10, i11, i21, n21, d3_21, _⟩
   obtain ⟨hv, e21⟩ : ∃ hv, a.get 21 = hv := ⟨_, rfl⟩
   rw [e21] at i3
   obtain ⟨rs, y, i3r, hy, hfy, _⟩ := i3.at
   refine cutS (fun c l => Bs noF k0 52 c l ∧ (HO Drawing.Phases DrawingR.Phases sameDR 54 s1.1 (s1.2).toNat hv) (c.get 3) l ∧ Lo k0 (obF (c.get 3)) ∧ IsV s1.2 (c.get 4) l ∧ IsL x1 (c.get 10) l ∧ IsV s1.2 (c.get 11) l ∧ IsOwn 0 73 x4 (c.get 28) l ∧ Lo k0 (obF (c.get 28)) ∧ IsL x4 (c.get 29) l ∧ IsI 0 (c.get 30) l ∧ Apart (obF (c.get 3)) (obF (c.get 28)) ∧ c.get 28 = hv ∧ True) ?_ ?_
   ·intro Q7 W7 w6
    refine gS 7 (⟨some (OwnAt (a.get 3) 0 54 rs), [(3, none)]⟩ :: _ :: _ :: _ :: _ :: _ :: ⟨some (IsI 0), []⟩ :: []) hs (by kernel_rfl) ⟨ob1 rfl fun _ _ h n => ok_moveOA (.inl rfl) (ownAt n.1 (up i3r h n.1)), mu rfl i4, o1 [(24, some 0), (25, some 1)] rfl fun _ _ h n => ok_indexAddr rfl Tryz.underlying31 tyR54 (IsOwn.rd (n.1).2) n.2.1 (getI_mk (getI_spec hx2).1 hy), o1 [(26, some 2)] rfl fun _ _ h n => ok_fieldAddr rfl fo54_1 (at_DrawingR_1 _) n.1, o1 [(27, some 3)] rfl fun _ _ h n => ok_load rfl tyR52 n.1, o1 [(28, some 4)] rfl fun _ _ h n => ok_len rfl rfl Tryz.underlying52 (IsOwn.rd (upT i21 h ((raw_valE hfy n.1).trans e21.symm))), ob1 rfl fun _ _ h n => ok_move rfl (cI rfl), trivial⟩ W7 fun b q p => ?_
    have hgq := hg.then p.grow
    have hsb := p.size.trans hs
    have hdb := p.defers.trans hd
    have j3 := p.ke 3 rfl i3
    have y3 : Lo k0 (obF (b.get 3)) := by rw [p.old 3 rfl]; exact n3
    have j4 := p.ke 4 rfl i4
    have j10 := p.ke 10 rfl i10
    have j11 := p.ke 11 rfl i11
    have e28 : b.get 28 = hv := raw_valE hfy (p.ou 4 28 rfl)
    have j28 : IsOwn 0 73 x4 (b.get 28) q := by rw [e28, ← e21]; exact Mono.mono p.grow i21
    have y28 : Lo k0 (obF (b.get 28)) := by rw [e28, ← e21]; exact n21
    have j29 : (IsL x4) (b.get 29) q := p.ou 5 29 rfl
    have j30 : (IsI 0) (b.get 30) q := p.ou 6 30 rfl
    have w3_28 : Apart (obF (b.get 3)) (obF (b.get 28)) := by rw [p.old 3 rfl, e28, ← e21]; exact d3_21
    exact tail_done (k := q) (w6 _ _ ⟨⟨hgq, hsb, hdb⟩, j3, y3, j4, j10, j11, j28, y28, j29, j30, w3_28, (by assumption), trivial⟩)
   rintro a k ⟨⟨hg, hs, hd⟩, i3, n3, i4, i10, i11, i28, n28, i29, i30, d3_28, e28, _⟩
   refine wp_block ?_
   obtain ⟨f2, hf2, hr⟩ := bind_some hr
   refine cutFe f2 (fun s' c l => Bs noF k0 52 c l ∧ (HO Drawing.Phases DrawingR.Phases sameDR 54 s1.1 (s1.2).toNat hv) (c.get 3) l ∧ Lo k0 (obF (c.get 3)) ∧ IsV s1.2 (c.get 4) l ∧ IsL x1 (c.get 10) l ∧ IsV s1.2 (c.get 11) l ∧ IsOwn 0 73 s'.1 (c.get 28) l ∧ Lo k0 (obF (c.get 28)) ∧ IsL x4 (c.get 29) l ∧ IsV s'.2 (c.get 30) l ∧ Apart (obF (c.get 3)) (obF (c.get 28)) ∧ c.get 28 = hv ∧ True) (fun i' s' c l => (i' = 2 ∧ Bs noF k0 52 c l ∧ (HO Drawing.Phases DrawingR.Phases sameDR 54 s1.1 (s1.2).toNat hv) (c.get 3) l ∧ Lo k0 (obF (c.get 3)) ∧ IsV s1.2 (c.get 4) l ∧ IsL x1 (c.get 10) l ∧ IsV s1.2 (c.get 11) l ∧ IsV s'.1 (c.get 28) l ∧ c.get 28 = hv ∧ True)) (fun r' c l => bodyPost Tryz.prog Tryz.f25 (RetC noF k0 (IsV r')) .ret c l.w) ?_ hQ ?_ ?_ ?_
   ·intro Q8 W8 hgo hex hret
    refine sim_loop ?_ _ _ _ _ _ hf2 ⟨⟨hg, hs, hd⟩, i3, n3, i4, i10, i11, i28, n28, i29, i30, d3_28, e28, trivial⟩ Q8 W8 hgo hex hret
    clear hr hf2 hgo hex hret W8 hQ hg hs hd d3_28 e28 i10 i11 i28 i29 i3 i30 i4 n28 n3
    intro s2 fl_ a k hr hS Q hQ hgo603 hex604 hret605
    obtain ⟨⟨hg, hs, hd⟩, i3, n3, i4, i10, i11, i28, n28, i29, i30, d3_28, e28, _⟩ := hS
    unfold dossier_clone_L1 at hr
    refine cutS (fun c l => Bs noF k0 52 c l ∧ (HO Drawing.Phases DrawingR.Phases sameDR 54 s1.1 (s1.2).toNat hv) (c.get 3) l ∧ Lo k0 (obF (c.get 3)) ∧ IsV s1.2 (c.get 4) l ∧ IsL x1 (c.get 10) l ∧ IsV s1.2 (c.get 11) l ∧ IsOwn 0 73 s2.1 (c.get 28) l ∧ Lo k0 (obF (c.get 28)) ∧ IsL x4 (c.get 29) l ∧ IsV s2.2 (c.get 30) l ∧ (IsV (decide (s2.2 < (x4.length : Int)))) (c.get 31) l ∧ Apart (obF (c.get 3)) (obF (c.get 28)) ∧ c.get 28 = hv ∧ True) ?_ ?_
    ·intro Q9 W9 w7
     refine gS 1 (_ :: []) hs (by kernel_rfl) ⟨o1 [(30, none), (29, none)] rfl fun _ _ h n => ok_lss rfl (up i30 h n.1) (up i29 h n.2.1), trivial⟩ W9 fun b q p => ?_
     exact tail_done (k := q) (w7 _ _ ⟨Bs.post ⟨hg, hs, hd⟩ p, p.ke 3 rfl i3, (by rw [p.old 3 rfl]; exact n3), p.ke 4 rfl i4, p.ke 10 rfl i10, p.ke 11 rfl i11, p.ke 28 rfl i28, (by rw [p.old 28 rfl]; exact n28), p.ke 29 rfl i29, p.ke 30 rfl i30, p.ou 0 31 rfl, (by rw [p.old 3 rfl, p.old 28 rfl]; exact d3_28), (p.old 28 rfl).trans e28, trivial⟩)
    rintro a k ⟨⟨hg, hs, hd⟩, i3, n3, i4, i10, i11, i28, n28, i29, i30, i31, d3_28, e28, _⟩
    refine wp_seq ?_
    refine wp_cond_split (isBool i31) (fun hc617 => ?_) (fun hc617 => ?_)
    ·rw [if_pos hc617] at hr
     refine wp_skip ?_
     refine wp_seq ?_
     refine wp_block ?_
     refine wp_seq ?_
     obtain ⟨x5, hx5, hr⟩ := bind_some hr
     refine cut (fun a' k' => Bs noF k0 52 a' k' ∧ (HO Drawing.Phases DrawingR.Phases sameDR 54 s1.1 (s1.2).toNat hv) (a'.get 3) k' ∧ Lo k0 (obF (a'.get 3)) ∧ (IsV s1.2) (a'.get 4) k' ∧ (IsV s2.2) (a'.get 5) k' ∧ (IsRef x5) (a'.get 6) k' ∧ (IsL x1) (a'.get 10) k' ∧ (IsV s1.2) (a'.get 11) k' ∧ IsOwn 0 73 s2.1 (a'.get 28) k' ∧ Lo k0 (obF (a'.get 28)) ∧ (IsL x4) (a'.get 29) k' ∧ (IsV s2.2) (a'.get 30) k' ∧ Apart (obF (a'.get 3)) (obF (a'.get 28)) ∧ a'.get 28 = hv ∧ True) ?_ hQ ?_
     ·intro Q10 W10 w8
      refine gS 5 (_ :: _ :: _ :: ⟨some (IsBox k.w.heap.size (⟨[], []⟩ : Phase)), []⟩ :: _ :: []) hs (by kernel_rfl) ⟨mu rfl i30, o1 [(28, none), (30, none)] rfl fun _ _ h n => ok_indexAddr rfl Tryz.underlying52 ty73 (IsOwn.rd ((ownAt n.1 (up i28 h n.1))).2) (up i30 h n.2.1) hx5, o1 [(33, some 1)] rfl fun _ _ h n => ok_load rfl ty73 n.1, ob1 rfl fun _ _ h n => ok_alloc _ h.size rfl z73, cp 0 rfl rfl, trivial⟩ W10 fun b q p => ?_
      have hgq := hg.then p.grow
      have hsb := p.size.trans hs
      have hdb := p.defers.trans hd
      have j3 := p.ke 3 rfl i3
      have y3 : Lo k0 (obF (b.get 3)) := by rw [p.old 3 rfl]; exact n3
      have j4 := p.ke 4 rfl i4
      have j5 : (IsV s2.2) (b.get 5) q := p.ou 4 5 rfl
      obtain ⟨b6, j6, x6, z6⟩ : (IsBox k.w.heap.size (⟨[], []⟩ : Phase)) (b.get 6) q := p.ou 3 6 rfl
      replace x6 : Lo k (Eq b6) := Lo.eq x6
      have y6 : Lo k0 (Eq b6) := x6.chg hg
      have j10 := p.ke 10 rfl i10
      have j11 := p.ke 11 rfl i11
      have j28 := p.ke 28 rfl i28
      have y28 : Lo k0 (obF (b.get 28)) := by rw [p.old 28 rfl]; exact n28
      have j29 := p.ke 29 rfl i29
      have j30 := p.ke 30 rfl i30
      have j34 : (IsV x5) (b.get 34) q := p.ou 2 34 rfl
      have w3_6 : Apart (obF (b.get 3)) (Eq b6) := Apart.new (by rw [p.old 3 rfl]; exact i3.ltF) x6
      have w3_28 : Apart (obF (b.get 3)) (obF (b.get 28)) := by rw [p.old 3 rfl, p.old 28 rfl]; exact d3_28
      have f3 : b.get 28 = hv := (p.old 28 rfl).trans e28
      have w6_28 : Apart (Eq b6) (obF (b.get 28)) := (Apart.new (by rw [p.old 28 rfl]; exact i28.ltF) x6).symm
      have hns := z6.nshF
      refine tail_storeB (i := 5) rfl rfl rfl rfl szf73 (Upd.self (α := Phase)) j6 z6 j34 fun q2 hch hz => ?_
      replace hgq := hgq.step hch y6.wr
      have hle := hch.le hns
      replace j3 := j3.keep hch w3_6 hns
      replace j4 := Pers.pers hle j4
      replace j5 := Pers.pers hle j5
      replace j10 := Pers.pers hle j10
      replace j11 := Pers.pers hle j11
      replace j28 := j28.keep hch (w6_28.symm) hns
      replace j29 := Pers.pers hle j29
      replace j30 := Pers.pers hle j30
      replace j34 := Pers.pers hle j34
      replace z6 := hz
      clear hns hle hch
      obtain ⟨q, hqq⟩ : ∃ q, q = q2 := ⟨q2, rfl⟩
      subst hqq
      obtain ⟨q2, hsh, jn⟩ := z6.give
      replace j3 := j3.handed hsh w3_6
      replace j4 := Pers.pers hsh.le j4
      replace j5 := Pers.pers hsh.le j5
      replace j10 := Pers.pers hsh.le j10
      replace j11 := Pers.pers hsh.le j11
      replace j28 := j28.handed hsh (w6_28.symm)
      replace j29 := Pers.pers hsh.le j29
      replace j30 := Pers.pers hsh.le j30
      rw [← j6] at jn
      replace j6 := jn
      replace hgq := hgq.hand hsh y6.wr
      rw [← hsh.w]
      clear hsh
      obtain ⟨q, hqq⟩ : ∃ q, q = q2 := ⟨q2, rfl⟩
      subst hqq
      exact tail_done (k := q) (w8 _ _ ⟨⟨hgq, hsb, hdb⟩, j3, y3, j4, j5, j6, j10, j11, j28, y28, j29, j30, w3_28, (by assumption), trivial⟩)
     rintro a k ⟨⟨hg, hs, hd⟩, i3, n3, i4, i5, i6, i10, i11, i28, n28, i29, i30, d3_28, e28, _⟩
     obtain ⟨x7, hx7, hr⟩ := bind_some hr
     obtain ⟨x8, hx8, hr⟩ := bind_some hr
     obtain ⟨x9, hx9, hr⟩ := bind_some hr
     obtain ⟨x10, hx10, hr⟩ := bind_some hr
     refine cut (fun a' k' => Bs noF k0 52 a' k' ∧ (HO Drawing.Phases DrawingR.Phases sameDR 54 s1.1 (s1.2).toNat hv) (a'.get 3) k' ∧ Lo k0 (obF (a'.get 3)) ∧ (IsV s1.2) (a'.get 4) k' ∧ (IsL x1) (a'.get 10) k' ∧ (IsV s1.2) (a'.get 11) k' ∧ IsOwn 0 73 x10 (a'.get 28) k' ∧ Lo k0 (obF (a'.get 28)) ∧ (IsL x4) (a'.get 29) k' ∧ (IsV s2.2) (a'.get 30) k' ∧ Apart (obF (a'.get 3)) (obF (a'.get 28)) ∧ a'.get 28 = hv ∧ True) ?_ hQ ?_
     ·intro Q11 W11 w9
      obtain ⟨rs, y, i3r, hy, hfy, _⟩ := i3.at
      refine region (m := 14) (⟨some (OwnAt (a.get 3) 0 54 rs), [(3, none)]⟩ :: _ :: _ :: _ :: _ :: _ :: _ :: _ :: _ :: _ :: _ :: _ :: ⟨some (IsV (⟨x7, x8⟩ : Phase)), [(43, some 8), (46, some 11)]⟩ :: ⟨some (IsAdrO (a.get 28) ((s2.2).toNat * Enc.sz Phase)), [(39, some 4), (40, some 5)]⟩ :: []) hmix hs (by kernel_rfl) ⟨ob1 rfl fun _ _ h n => ok_moveOA (.inl rfl) (ownAt n.1 (up i3r h n.1)), mu rfl i4, o1 [(35, some 0), (36, some 1)] rfl fun _ _ h n => ok_indexAddr rfl Tryz.underlying31 tyR54 (IsOwn.rd (n.1).2) n.2.1 (getI_mk (getI_spec hx2).1 hy), o1 [(37, some 2)] rfl fun _ _ h n => ok_fieldAddr rfl fo54_1 (at_DrawingR_1 _) n.1, o1 [(38, some 3)] rfl fun _ _ h n => ok_load rfl tyR52 n.1, mu rfl i5, o1 [(6, none)] rfl fun _ _ h n => ok_fieldAddr rfl fo73_0 (at_Phase_0 _) ((up i6 h n.1)).ptr, o1 [(41, some 6)] rfl fun _ _ h n => ok_load rfl ty70 n.1, o1 [(42, some 7)] rfl fun _ _ h n => ok_call rfl Tryz.call51 (slices_Clone_Volume_ok n.1 hx7), o1 [(6, none)] rfl fun _ _ h n => ok_fieldAddr rfl fo73_1 (at_Phase_1 _) ((up i6 h n.1)).ptr, o1 [(44, some 9)] rfl fun _ _ h n => ok_load rfl ty71 n.1, o1 [(45, some 10)] rfl fun _ _ h n => ok_call rfl Tryz.call52 (slices_Clone_Entry_ok n.1 hx8), ob1 rfl fun _ _ h n => ok_build rfl (bld73_0_1 n.1 n.2.1), ob1 rfl fun _ _ h n => ok_indexO rfl Tryz.underlying52 ty73 (ownAt ((raw_valE hfy n.1).trans e28.symm) (upT i28 h ((raw_valE hfy n.1).trans e28.symm))) n.2.1 hx9, trivial⟩ W11 fun b q p => ?_
      have hgq := hg.then p.grow
      have hsb := p.size.trans hs
      have hdb := p.defers.trans hd
      have j3 := p.ke 3 rfl i3
      have y3 : Lo k0 (obF (b.get 3)) := by rw [p.old 3 rfl]; exact n3
      have j4 := p.ke 4 rfl i4
      have j10 := p.ke 10 rfl i10
      have j11 := p.ke 11 rfl i11
      have j28 := p.ke 28 rfl i28
      have y28 : Lo k0 (obF (b.get 28)) := by rw [p.old 28 rfl]; exact n28
      have j29 := p.ke 29 rfl i29
      have j30 := p.ke 30 rfl i30
      have j47 : (IsV (⟨x7, x8⟩ : Phase)) (b.get 47) q := p.ou 12 47 rfl
      have j48 : IsAdrO (a.get 28) ((s2.2).toNat * Enc.sz Phase) (b.get 48) q := p.ou 13 48 rfl
      have w3_28 : Apart (obF (b.get 3)) (obF (b.get 28)) := by rw [p.old 3 rfl, p.old 28 rfl]; exact d3_28
      have f3 : b.get 28 = hv := (p.old 28 rfl).trans e28
      have eo : b.get 28 = a.get 28 := p.old 28 rfl
      have hns := j28.nshF
      refine tail_storeS (i := 14) (u := b.get 28) (m := (s2.2).toNat) (off := 0) rfl rfl rfl rfl szf73 (Upd.self (α := Phase)) (by rw [eo]; exact j48) j28 (getI_spec hx9).2.1 j47 fun q2 hch hz => ?_
      replace hgq := hgq.step hch y28.wr
      have hle := hch.le hns
      replace j3 := j3.keep hch w3_28 hns
      replace j4 := Pers.pers hle j4
      replace j10 := Pers.pers hle j10
      replace j11 := Pers.pers hle j11
      replace j29 := Pers.pers hle j29
      replace j30 := Pers.pers hle j30
      replace j47 := Pers.pers hle j47
      replace j48 := Pers.pers hle j48
      replace j28 := hz
      rw [Option.some.inj hx10] at j28
      clear hns hle hch eo hz
      obtain ⟨q, hqq⟩ : ∃ q, q = q2 := ⟨q2, rfl⟩
      subst hqq
      exact tail_done (k := q) (w9 _ _ ⟨⟨hgq, hsb, hdb⟩, j3, y3, j4, j10, j11, j28, y28, j29, j30, w3_28, (by assumption), trivial⟩)
     rintro a k ⟨⟨hg, hs, hd⟩, i3, n3, i4, i10, i11, i28, n28, i29, i30, d3_28, e28, _⟩
     obtain ⟨x11, hx11, hr⟩ := bind_some hr
     refine cut (fun a' k' => Bs noF k0 52 a' k' ∧ (HO Drawing.Phases DrawingR.Phases sameDR 54 s1.1 (s1.2).toNat hv) (a'.get 3) k' ∧ Lo k0 (obF (a'.get 3)) ∧ (IsV s1.2) (a'.get 4) k' ∧ (IsL x1) (a'.get 10) k' ∧ (IsV s1.2) (a'.get 11) k' ∧ IsOwn 0 73 x10 (a'.get 28) k' ∧ Lo k0 (obF (a'.get 28)) ∧ (IsL x4) (a'.get 29) k' ∧ (IsV x11) (a'.get 30) k' ∧ Apart (obF (a'.get 3)) (obF (a'.get 28)) ∧ a'.get 28 = hv ∧ True) ?_ hQ ?_
     ·intro Q12 W12 w10
      refine gS 2 (_ :: _ :: []) hs (by kernel_rfl) ⟨o1 [(30, none)] rfl fun _ _ h n => ok_add rfl (up i30 h n.1) (cI rfl) hx11, cm 0 rfl rfl, trivial⟩ W12 fun b q p => ?_
      exact tail_done (k := q) (w10 _ _ ⟨Bs.post ⟨hg, hs, hd⟩ p, p.ke 3 rfl i3, (by rw [p.old 3 rfl]; exact n3), p.ke 4 rfl i4, p.ke 10 rfl i10, p.ke 11 rfl i11, p.ke 28 rfl i28, (by rw [p.old 28 rfl]; exact n28), p.ke 29 rfl i29, p.ou 1 30 rfl, (by rw [p.old 3 rfl, p.old 28 rfl]; exact d3_28), (p.old 28 rfl).trans e28, trivial⟩)
     rintro a k ⟨⟨hg, hs, hd⟩, i3, n3, i4, i10, i11, i28, n28, i29, i30, d3_28, e28, _⟩
     exact hgo603 _ _ _ (Option.some.inj hr).symm ⟨⟨hg, hs, hd⟩, i3, n3, i4, i10, i11, i28, n28, i29, i30, d3_28, e28, trivial⟩
    rw [if_neg (by rw [hc617]; decide)] at hr
    refine wp_exit ?_
    obtain ⟨kk, sh616, ii28⟩ := i28.give
    replace i3 := i3.handed sh616 d3_28
    replace i4 := Pers.pers sh616.le i4
    replace i10 := Pers.pers sh616.le i10
    replace i11 := Pers.pers sh616.le i11
    replace i28 := ii28
    replace hg := hg.hand sh616 n28.wr
    rw [← sh616.w]
    clear sh616
    obtain ⟨k, hkk⟩ : ∃ k, k = kk := ⟨kk, rfl⟩
    subst hkk
    exact hex604 _ _ _ _ (Option.some.inj hr).symm ⟨rfl, ⟨hg, hs, hd⟩, i3, n3, i4, i10, i11, i28, e28, trivial⟩
   ·rintro r1 a k rfl hR
    dsimp only at hr
    exact hret597 _ _ _ (Option.some.inj hr).symm hR
   ·rintro _ _ _ rfl _
    simp at hr
   clear hf2
   rintro _ s3 a k rfl ⟨rfl, ⟨hg, hs, hd⟩, i3, n3, i4, i10, i11, i28, e28, _⟩
   dsimp only at hr
   obtain ⟨x12, hx12, hr⟩ := bind_some hr
   obtain ⟨x13, hx13, hr⟩ := bind_some hr
   obtain ⟨x14, hx14, hr⟩ := bind_some hr
   replace i3 : IsOwn 0 54 (s1.1.set (s1.2).toNat { x2 with Phases := s3.1 }) (a.get 3) k := HO.fill rawD i3 (getI_spec hx2).2.1 (fun _ h => h) (by rw [← e28]; exact i28)
   obtain rfl : x2 = x12 := Option.some.inj (hx2.symm.trans hx12)
   rw [Option.some.inj hx14] at i3
   refine cut (fun a' k' => Bs noF k0 52 a' k' ∧ IsOwn 0 54 x14 (a'.get 3) k' ∧ Lo k0 (obF (a'.get 3)) ∧ (IsL x1) (a'.get 10) k' ∧ (IsV x13) (a'.get 11) k' ∧ True) ?_ hQ ?_
   ·intro Q13 W13 w11
    refine gS 2 (_ :: _ :: []) hs (by kernel_rfl) ⟨o1 [(11, none)] rfl fun _ _ h n => ok_add rfl (up i11 h n.1) (cI rfl) hx13, cm 0 rfl rfl, trivial⟩ W13 fun b q p => ?_
    exact tail_done (k := q) (w11 _ _ ⟨Bs.post ⟨hg, hs, hd⟩ p, p.ke 3 rfl i3, (by rw [p.old 3 rfl]; exact n3), p.ke 10 rfl i10, p.ou 1 11 rfl, trivial⟩)
   rintro a k ⟨⟨hg, hs, hd⟩, i3, n3, i10, i11, _⟩
   exact hgo595 _ _ _ (Option.some.inj hr).symm ⟨⟨hg, hs, hd⟩, (by first | exact i3 | (rw [Option.some.inj hx14]; exact i3)), n3, i10, i11, trivial⟩
  rw [if_neg (by rw [hc634]; decide)] at hr
  refine wp_exit ?_
  obtain ⟨kk, sh633, ii3⟩ := i3.give
  replace i3 := ii3
  replace hg := hg.hand sh633 n3.wr
  rw [← sh633.w]
  clear sh633
  obtain ⟨k, hkk⟩ : ∃ k, k = kk := ⟨kk, rfl⟩
  subst hkk
  exact hex596 _ _ _ _ (Option.some.inj hr).symm ⟨rfl, ⟨hg, hs, hd⟩, i3, trivial⟩
 ·rintro r2 a k rfl hR
  dsimp only at hr
  obtain rfl := Option.some.inj hr
  exact hR
 ·rintro _ _ _ rfl _
  simp at hr
 clear hf1
 rintro _ s4 a k rfl ⟨rfl, ⟨hg, hs, hd⟩, i3, _⟩
 dsimp only at hr
 refine stepL 2 (_ :: _ :: []) rfl ⟨hg, hs, hd⟩ (by kernel_rfl) ⟨mu rfl i3, cp 0 rfl rfl, trivial⟩ [⟨_, _⟩] (fun b q p => ⟨p.ou 1 2 rfl, trivial⟩) ?_
 rintro a k ⟨⟨hg, hs, hd⟩, i2, _⟩
 refine wp_ret ?_
 obtain rfl := Option.some.inj hr
 exact retC1 rfl hd hg i2
noncomputable def k25 := mkO 25 [.list (.st 3)] [.list (.st 3)] (fun x => dossier_clone x) Tryz.call25 fun k0 vs x r hG h hr => by obtain ⟨v0, rfl, i0⟩ := h.one; exact dossier_clone_ok i0 hr
section
open Go.Proofs Go.RowKit Go.Lib Go.Sort Go.Shelf
def Tryz.sortIntsL_ren : Go.Shelf.Ren := ⟨fun | 189 => 91 | 125 => 105 | 257 => 104 | 128 => 131 | 129 => 132 | 294 => 122 | 295 => 123 | 296 => 124 | 297 => 125 | 298 => 126 | 299 => 127 | 216 => 128 | 300 => 129 | 301 => 130 | 328 => 144 | 329 => 145 | 330 => 146 | 331 => 147 | 332 => 148 | 215 => 149 | 343 => 151 | n => n, fun | 28 => 43 | 3 => 3 | 46 => 154 | 0 => 0 | 51 => 178 | 53 => 180 | 4 => 4 | 183 => 172 | 182 => 171 | 131 => 163 | 5 => 5 | 9 => 9 | 218 => 191 | 222 => 195 | 228 => 199 | 229 => 200 | n => n, fun | n => n⟩
theorem Tryz.sortIntsL : Go.Proofs.Lays.n189 Tryz.prog Tryz.sortIntsL_ren := {
 mixed := by kernel_rfl,
 f125 := Tryz.func105.trans (congrArg some (by kernel_rfl)),
 f128 := Tryz.func131.trans (congrArg some (by kernel_rfl)),
 f129 := Tryz.func132.trans (congrArg some (by kernel_rfl)),
 f189 := Tryz.func91.trans (congrArg some (by kernel_rfl)),
 f215 := Tryz.func149.trans (congrArg some (by kernel_rfl)),
 f216 := Tryz.func128.trans (congrArg some (by kernel_rfl)),
 f257 := Tryz.func104.trans (congrArg some (by kernel_rfl)),
 f294 := Tryz.func122.trans (congrArg some (by kernel_rfl)),
 f295 := Tryz.func123.trans (congrArg some (by kernel_rfl)),
 f296 := Tryz.func124.trans (congrArg some (by kernel_rfl)),
 f297 := Tryz.func125.trans (congrArg some (by kernel_rfl)),
 f298 := Tryz.func126.trans (congrArg some (by kernel_rfl)),
 f299 := Tryz.func127.trans (congrArg some (by kernel_rfl)),
 f300 := Tryz.func129.trans (congrArg some (by kernel_rfl)),
 f301 := Tryz.func130.trans (congrArg some (by kernel_rfl)),
 f328 := Tryz.func144.trans (congrArg some (by kernel_rfl)),
 f329 := Tryz.func145.trans (congrArg some (by kernel_rfl)),
 f330 := Tryz.func146.trans (congrArg some (by kernel_rfl)),
 f331 := Tryz.func147.trans (congrArg some (by kernel_rfl)),
 f332 := Tryz.func148.trans (congrArg some (by kernel_rfl)),
 f343 := Tryz.func151.trans (congrArg some (by kernel_rfl)),
 t0 := Tryz.underlying0,
 a0 := Tryz.isAgg0,
 z0 := Tryz.sizeOf0,
 v0 := Tryz.zeroValue0,
 t3 := Tryz.underlying3,
 a3 := Tryz.isAgg3,
 z3 := Tryz.sizeOf3,
 v3 := Tryz.zeroValue3,
 t4 := Tryz.underlying4,
 a4 := Tryz.isAgg4,
 z4 := Tryz.sizeOf4,
 v4 := Tryz.zeroValue4,
 t5 := Tryz.underlying5,
 a5 := Tryz.isAgg5,
 z5 := Tryz.sizeOf5,
 v5 := Tryz.zeroValue5,
 t9 := Tryz.underlying9,
 a9 := Tryz.isAgg9,
 z9 := Tryz.sizeOf9,
 v9 := Tryz.zeroValue9,
 t28 := Tryz.underlying43,
 a28 := Tryz.isAgg43,
 z28 := Tryz.sizeOf43,
 v28 := Tryz.zeroValue43,
 t46 := Tryz.underlying154,
 a46 := Tryz.isAgg154,
 z46 := Tryz.sizeOf154,
 v46 := Tryz.zeroValue154,
 t51 := Tryz.underlying178,
 a51 := Tryz.isAgg178,
 z51 := Tryz.sizeOf178,
 v51 := Tryz.zeroValue178,
 t53 := Tryz.underlying180,
 a53 := Tryz.isAgg180,
 z53 := Tryz.sizeOf180,
 v53 := Tryz.zeroValue180,
 t131 := Tryz.underlying163,
 a131 := Tryz.isAgg163,
 z131 := Tryz.sizeOf163,
 v131 := Tryz.zeroValue163,
 t182 := Tryz.underlying171,
 a182 := Tryz.isAgg171,
 z182 := Tryz.sizeOf171,
 v182 := Tryz.zeroValue171,
 t183 := Tryz.underlying172,
 a183 := Tryz.isAgg172,
 z183 := Tryz.sizeOf172,
 v183 := Tryz.zeroValue172,
 t218 := Tryz.underlying191,
 a218 := Tryz.isAgg191,
 z218 := Tryz.sizeOf191,
 v218 := Tryz.zeroValue191,
 t222 := Tryz.underlying195,
 a222 := Tryz.isAgg195,
 z222 := Tryz.sizeOf195,
 v222 := Tryz.zeroValue195,
 t228 := Tryz.underlying199,
 a228 := Tryz.isAgg199,
 z228 := Tryz.sizeOf199,
 v228 := Tryz.zeroValue199,
 t229 := Tryz.underlying200,
 a229 := Tryz.isAgg200,
 z229 := Tryz.sizeOf200,
 v229 := Tryz.zeroValue200 }
theorem sortInts_ok {k0 : K} {v0 : Value} {l r : List Int} (i0 : IsOwn 0 3 l v0 k0) (hr : sortInts l = some r) : Calls Tryz.prog 91 #[v0] k0.w (RetC (obF v0) k0 fun _ k' => IsOwn 0 3 r v0 k') := by
 unfold sortInts at hr
 split at hr
 ·rename_i hl
  obtain rfl := Option.some.inj hr
  refine sortI_own (S := fun l => l.mergeSort fun x y => decide (x ≤ y)) (List.length_mergeSort _) (fun p cap w => ?_) (fun blk off cap w hH hblk => ?_) i0
  ·have hcon := Any.slices_Sort_int_none Tryz.sortIntsL p cap w
   change Calls Tryz.prog 91 _ _ _ at hcon
   exact hcon
  ·have hcon := Any.slices_Sort_int Tryz.sortIntsL blk off cap l w hH hblk (by omega)
   change Calls Tryz.prog 91 _ _ _ at hcon
   exact hcon
 ·simp at hr
end
section
open Go.Proofs Go.RowKit Go.Lib Go.Sort Go.Shelf
def Tryz.compactL_ren : Go.Shelf.Ren := ⟨fun | 20 => 92 | n => n, fun | 22 => 43 | 3 => 3 | 4 => 4 | 0 => 0 | n => n, fun | n => n⟩
theorem Tryz.compactL : Go.Proofs.Lays2.n20 Tryz.prog Tryz.compactL_ren := {
 mixed := by kernel_rfl,
 f20 := Tryz.func92.trans (congrArg some (by kernel_rfl)),
 t0 := Tryz.underlying0,
 a0 := Tryz.isAgg0,
 z0 := Tryz.sizeOf0,
 v0 := Tryz.zeroValue0,
 t3 := Tryz.underlying3,
 a3 := Tryz.isAgg3,
 z3 := Tryz.sizeOf3,
 v3 := Tryz.zeroValue3,
 t4 := Tryz.underlying4,
 a4 := Tryz.isAgg4,
 z4 := Tryz.sizeOf4,
 v4 := Tryz.zeroValue4,
 t22 := Tryz.underlying43,
 a22 := Tryz.isAgg43,
 z22 := Tryz.sizeOf43,
 v22 := Tryz.zeroValue43,
 i3 := by kernel_rfl }
theorem compactInts_ok {k0 : K} {v0 : Value} {l r : List Int} (i0 : IsOwn 0 3 l v0 k0) (hr : compactInts l = some r) : Calls Tryz.prog 92 #[v0] k0.w (RetC (obF v0) k0 (IsOwnW v0 k0 3 r)) := by
 unfold compactInts at hr
 split at hr
 ·rename_i hl
  obtain rfl := Option.some.inj hr
  refine compactI_own compact_length hl (fun p cap w => ?_) (fun blk off cap w hH hc => ?_) i0
  ·have hcon := Any.slices_Compact_int_empty Tryz.compactL p cap w
   change Calls Tryz.prog 92 _ _ _ at hcon
   exact hcon
  ·have hcon := Any.slices_Compact_int Tryz.compactL blk off cap l w hH (by omega) hc
   change Calls Tryz.prog 92 _ _ _ at hcon
   exact hcon
 ·simp at hr
end
section
open Go.Proofs Go.RowKit Go.Lib Go.Sort Go.Shelf
def Tryz.reverseL_ren : Go.Shelf.Ren := ⟨fun | 112 => 102 | n => n, fun | 28 => 43 | 3 => 3 | 4 => 4 | 0 => 0 | n => n, fun | n => n⟩
theorem Tryz.reverseL : Go.Proofs.Lays.n112 Tryz.prog Tryz.reverseL_ren := {
 mixed := by kernel_rfl,
 f112 := Tryz.func102.trans (congrArg some (by kernel_rfl)),
 t0 := Tryz.underlying0,
 a0 := Tryz.isAgg0,
 z0 := Tryz.sizeOf0,
 v0 := Tryz.zeroValue0,
 t3 := Tryz.underlying3,
 a3 := Tryz.isAgg3,
 z3 := Tryz.sizeOf3,
 v3 := Tryz.zeroValue3,
 t4 := Tryz.underlying4,
 a4 := Tryz.isAgg4,
 z4 := Tryz.sizeOf4,
 v4 := Tryz.zeroValue4,
 t28 := Tryz.underlying43,
 a28 := Tryz.isAgg43,
 z28 := Tryz.sizeOf43,
 v28 := Tryz.zeroValue43 }
def reverseInts (l : List Int) : Option (List Int) := if l.length ≤ 1073741824 then some l.reverse else none
theorem reverseInts_ok {k0 : K} {v0 : Value} {l r : List Int} (i0 : IsOwn 0 3 l v0 k0) (hr : reverseInts l = some r) : Calls Tryz.prog 102 #[v0] k0.w (RetC (obF v0) k0 fun _ k' => IsOwn 0 3 r v0 k') := by
 unfold reverseInts at hr
 split at hr
 ·rename_i hl
  obtain rfl := Option.some.inj hr
  refine sortI_own (S := List.reverse) List.length_reverse (fun p cap w => ?_) (fun blk off cap w hH hblk => ?_) i0
  ·have hcon := Any.slices_Reverse_int_empty Tryz.reverseL p cap w
   change Calls Tryz.prog 102 _ _ _ at hcon
   exact hcon
  ·have hcon := Any.slices_Reverse_int Tryz.reverseL blk off cap l w hH (by omega)
   change Calls Tryz.prog 102 _ _ _ at hcon
   have hg : ∀ W : World, W = grow W #[] := fun W => by cases W; simp [grow]
   exact hcon.mono fun e w' h => ⟨h.1, h.2.imp fun n e1 => ⟨#[], by rw [e1]; exact hg _⟩⟩
 ·simp at hr
end
def clause_Days_L0 (p_ : Plan) (day_ : Int) (s1 : (List Int) × Int) : Option (Flow ((List Int) × Int) ((List Int))) :=
 if (decide (s1.2 < (p_.Rules.length : Int))) then
  (getI p_.Rules s1.2).bind fun x1 =>
  (if ((decide (1 ≤ x1.From)) && (decide (x1.From ≤ day_))) then
   (subI day_ x1.From).bind fun x2 =>
   some (decide (x2 < x1.Grace))
  else
   some false).bind fun x3 =>
  (if x3 then
   (subI x1.From 1).bind fun x4 =>
   (appI s1.1 ([x4])).bind fun x5 =>
   some x5
  else
   some s1.1).bind fun s2 =>
  (addI s1.2 1).bind fun x6 =>
  some (.go (s2, x6))
 else
  some (.ex 0 (s1.1, s1.2))
def clause_Days (p_ : Plan) (day_ : Int) : Option ((List Int)) :=
 (iterL (clause_Days_L0 p_ day_) (p_.Rules.length + 1) ([day_], 0)).bind fun f1 => match f1 with
  | .go _ => none
  | .ex _ s1 =>
   (sortInts s1.1).bind fun x1 =>
   (compactInts x1).bind fun x2 =>
   (reverseInts x2).bind fun x3 =>
   some x3
  | .ret r1 => some r1
theorem clause_Days_ok {k0 : K} {v0 v1 : Value} {p_ : Plan} {day_ : Int} {r : (List Int)} (i0 : (IsV p_) v0 k0) (i1 : (IsV day_) v1 k0) (hr : clause_Days p_ day_ = some r) :
  Calls Tryz.prog 82 #[v0, v1] k0.w (Ret k0 (IsV r)) := by
 unfold clause_Days at hr
 refine Ret.ofC ?_
 refine enterK Tryz.func82 rfl Tryz.ntmps82 (show 2 ≤ 49 by decide) fun a k hk0 hs hd ha => ?_
 obtain ⟨e0, e1, _⟩ := ha
 replace i0 : (IsV p_) (a.get 0) k := by rw [e0, hk0]; exact i0
 replace i1 : (IsV day_) (a.get 1) k := by rw [e1, hk0]; exact i1
 have hQ : Gb.LetsOut (bodyPost Tryz.prog Tryz.f82 (RetC noF k0 (IsV r))) := letsOutC
 have hg : Chg noF k0 k := by rw [hk0]; exact Chg.refl _ k0
 refine stepL 2 (⟨some (IsRef p_), [(0, none)]⟩ :: ⟨some IsE0, []⟩ :: []) rfl ⟨hg, hs, hd⟩ (by kernel_rfl) ⟨ob1 rfl fun _ _ h n => ok_boxR rfl (up i0 h n.1), ob1 rfl fun b q h n => ok_assign rfl isE0_nil, trivial⟩ [⟨_, _⟩, ⟨_, _⟩] (fun b q p => ⟨p.ke 1 rfl i1, p.ou 0 2 rfl, trivial⟩) ?_
 rintro a k ⟨⟨hg, hs, hd⟩, i1, i2, _⟩
 refine cutS (fun c l => Bs noF k0 49 c l ∧ IsV day_ (c.get 1) l ∧ IsRef p_ (c.get 2) l ∧ IsOwn 0 3 ([day_]) (c.get 5) l ∧ Lo k0 (obF (c.get 5)) ∧ True) ?_ ?_
 ·intro Q1 W1 w1
  refine gS 3 (_ :: ⟨some (IsOwn k.w.heap.size 3 ([day_])), [(8, some 0)]⟩ :: _ :: []) hs (by kernel_rfl) ⟨mu rfl i1, ob1 rfl fun _ _ h n => ok_buildSliceO rfl Tryz.underlying43 eo3 h.size rfl (by decide) (by decide) ⟨rfl, n.1, trivial⟩, cp 1 rfl rfl, trivial⟩ W1 fun b q p => ?_
  have hgq := hg.then p.grow
  have hsb := p.size.trans hs
  have hdb := p.defers.trans hd
  have j1 := p.ke 1 rfl i1
  have j2 := p.ke 2 rfl i2
  have j5 : (IsOwn k.w.heap.size 3 ([day_])) (b.get 5) q := p.ou 2 5 rfl
  have x5 : Lo k (obF (b.get 5)) := j5.loF
  have y5 := x5.chg hg
  replace j5 := j5.weaken (Nat.zero_le _)
  exact tail_done (k := q) (w1 _ _ ⟨⟨hgq, hsb, hdb⟩, j1, j2, j5, y5, trivial⟩)
 rintro a k ⟨⟨hg, hs, hd⟩, i1, i2, i5, n5, _⟩
 refine wp_seq ?_
 refine cutS (fun c l => Bs noF k0 49 c l ∧ IsV day_ (c.get 1) l ∧ IsOwn 0 3 ([day_]) (c.get 5) l ∧ Lo k0 (obF (c.get 5)) ∧ IsV p_.Rules (c.get 11) l ∧ IsI (p_.Rules.length : Int) (c.get 12) l ∧ IsI 0 (c.get 13) l ∧ True) ?_ ?_
 ·intro Q2 W2 w2
  refine gS 4 (_ :: _ :: _ :: ⟨some (IsI 0), []⟩ :: []) hs (by kernel_rfl) ⟨o1 [(2, none)] rfl fun _ _ h n => ok_fieldAddr rfl fo30_3 (at_Plan_3 _) ((up i2 h n.1)).ptr, o1 [(10, some 0)] rfl fun _ _ h n => ok_load rfl ty25 n.1, o1 [(11, some 1)] rfl fun _ _ h n => ok_len rfl rfl Tryz.underlying25 (IsV.rd n.1), ob1 rfl fun _ _ h n => ok_move rfl (cI rfl), trivial⟩ W2 fun b q p => ?_
  exact tail_done (k := q) (w2 _ _ ⟨Bs.post ⟨hg, hs, hd⟩ p, p.ke 1 rfl i1, p.ke 5 rfl i5, (by rw [p.old 5 rfl]; exact n5), p.ou 1 11 rfl, p.ou 2 12 rfl, p.ou 3 13 rfl, trivial⟩)
 rintro a k ⟨⟨hg, hs, hd⟩, i1, i5, n5, i11, i12, i13, _⟩
 refine wp_block ?_
 obtain ⟨f1, hf1, hr⟩ := bind_some hr
 refine cutFe f1 (fun s' c l => Bs noF k0 49 c l ∧ IsV day_ (c.get 1) l ∧ IsOwn 0 3 s'.1 (c.get 5) l ∧ Lo k0 (obF (c.get 5)) ∧ IsV p_.Rules (c.get 11) l ∧ IsI (p_.Rules.length : Int) (c.get 12) l ∧ IsV s'.2 (c.get 13) l ∧ True) (fun i' s' c l => (i' = 0 ∧ Bs noF k0 49 c l ∧ IsOwn 0 3 s'.1 (c.get 5) l ∧ Lo k0 (obF (c.get 5)) ∧ True)) (fun r' c l => bodyPost Tryz.prog Tryz.f82 (RetC noF k0 (IsV r')) .ret c l.w) ?_ hQ ?_ ?_ ?_
 ·intro Q3 W3 hgo hex hret
  refine sim_loop ?_ _ _ _ _ _ hf1 ⟨⟨hg, hs, hd⟩, i1, i5, n5, i11, i12, i13, trivial⟩ Q3 W3 hgo hex hret
  clear hr hf1 hgo hex hret W3 hQ hg hs hd i1 i11 i12 i13 i5 n5
  intro s1 fl_ a k hr hS Q hQ hgo654 hex655 hret656
  obtain ⟨⟨hg, hs, hd⟩, i1, i5, n5, i11, i12, i13, _⟩ := hS
  unfold clause_Days_L0 at hr
  refine cutS (fun c l => Bs noF k0 49 c l ∧ IsV day_ (c.get 1) l ∧ IsOwn 0 3 s1.1 (c.get 5) l ∧ Lo k0 (obF (c.get 5)) ∧ IsV p_.Rules (c.get 11) l ∧ IsI (p_.Rules.length : Int) (c.get 12) l ∧ IsV s1.2 (c.get 13) l ∧ (IsV (decide (s1.2 < (p_.Rules.length : Int)))) (c.get 14) l ∧ True) ?_ ?_
  ·intro Q4 W4 w3
   refine gS 1 (_ :: []) hs (by kernel_rfl) ⟨o1 [(13, none), (12, none)] rfl fun _ _ h n => ok_lss rfl (up i13 h n.1) (up i12 h n.2.1), trivial⟩ W4 fun b q p => ?_
   exact tail_done (k := q) (w3 _ _ ⟨Bs.post ⟨hg, hs, hd⟩ p, p.ke 1 rfl i1, p.ke 5 rfl i5, (by rw [p.old 5 rfl]; exact n5), p.ke 11 rfl i11, p.ke 12 rfl i12, p.ke 13 rfl i13, p.ou 0 14 rfl, trivial⟩)
  rintro a k ⟨⟨hg, hs, hd⟩, i1, i5, n5, i11, i12, i13, i14, _⟩
  refine wp_seq ?_
  refine wp_cond_split (isBool i14) (fun hc674 => ?_) (fun hc674 => ?_)
  ·rw [if_pos hc674] at hr
   refine wp_skip ?_
   refine wp_seq ?_
   refine wp_block ?_
   refine wp_seq ?_
   obtain ⟨x1, hx1, hr⟩ := bind_some hr
   refine cut (fun a' k' => Bs noF k0 49 a' k' ∧ (IsV day_) (a'.get 1) k' ∧ IsOwn 0 3 s1.1 (a'.get 5) k' ∧ Lo k0 (obF (a'.get 5)) ∧ (IsRef x1) (a'.get 7) k' ∧ (IsV p_.Rules) (a'.get 11) k' ∧ (IsI (p_.Rules.length : Int)) (a'.get 12) k' ∧ (IsV s1.2) (a'.get 13) k' ∧ True) ?_ hQ ?_
   ·intro Q5 W5 w4
    refine gS 3 (_ :: _ :: ⟨some (IsBox k.w.heap.size (⟨(⟨#[]⟩ : ByteArray), [], [], 0, 0, 0, false, 0, (⟨0, 0, (⟨#[]⟩ : ByteArray), (⟨#[]⟩ : ByteArray), (⟨⟩ : Opq)⟩ : Expr), (⟨0, 0, 0, 0⟩ : Plane), 0, 0, 0⟩ : Rule)), []⟩ :: []) hs (by kernel_rfl) ⟨o1 [(11, none), (13, none)] rfl fun _ _ h n => ok_indexAddr rfl Tryz.underlying25 ty133 (IsV.rd (up i11 h n.1)) (up i13 h n.2.1) hx1, o1 [(15, some 0)] rfl fun _ _ h n => ok_load rfl ty133 n.1, ob1 rfl fun _ _ h n => ok_alloc _ h.size rfl z133, trivial⟩ W5 fun b q p => ?_
    have hgq := hg.then p.grow
    have hsb := p.size.trans hs
    have hdb := p.defers.trans hd
    have j1 := p.ke 1 rfl i1
    have j5 := p.ke 5 rfl i5
    have y5 : Lo k0 (obF (b.get 5)) := by rw [p.old 5 rfl]; exact n5
    obtain ⟨b7, j7, x7, z7⟩ : (IsBox k.w.heap.size (⟨(⟨#[]⟩ : ByteArray), [], [], 0, 0, 0, false, 0, (⟨0, 0, (⟨#[]⟩ : ByteArray), (⟨#[]⟩ : ByteArray), (⟨⟩ : Opq)⟩ : Expr), (⟨0, 0, 0, 0⟩ : Plane), 0, 0, 0⟩ : Rule)) (b.get 7) q := p.ou 2 7 rfl
    replace x7 : Lo k (Eq b7) := Lo.eq x7
    have y7 : Lo k0 (Eq b7) := x7.chg hg
    have j11 := p.ke 11 rfl i11
    have j12 := p.ke 12 rfl i12
    have j13 := p.ke 13 rfl i13
    have j16 : (IsV x1) (b.get 16) q := p.ou 1 16 rfl
    have w5_7 : Apart (obF (b.get 5)) (Eq b7) := Apart.new (by rw [p.old 5 rfl]; exact i5.ltF) x7
    have hns := z7.nshF
    refine tail_storeB (i := 3) rfl rfl rfl rfl szf133 (Upd.self (α := Rule)) j7 z7 j16 fun q2 hch hz => ?_
    replace hgq := hgq.step hch y7.wr
    have hle := hch.le hns
    replace j1 := Pers.pers hle j1
    replace j5 := j5.keep hch w5_7 hns
    replace j11 := Pers.pers hle j11
    replace j12 := Pers.pers hle j12
    replace j13 := Pers.pers hle j13
    replace j16 := Pers.pers hle j16
    replace z7 := hz
    clear hns hle hch
    obtain ⟨q, hqq⟩ : ∃ q, q = q2 := ⟨q2, rfl⟩
    subst hqq
    obtain ⟨q2, hsh, jn⟩ := z7.give
    replace j1 := Pers.pers hsh.le j1
    replace j5 := j5.handed hsh w5_7
    replace j11 := Pers.pers hsh.le j11
    replace j12 := Pers.pers hsh.le j12
    replace j13 := Pers.pers hsh.le j13
    rw [← j7] at jn
    replace j7 := jn
    replace hgq := hgq.hand hsh y7.wr
    rw [← hsh.w]
    clear hsh
    obtain ⟨q, hqq⟩ : ∃ q, q = q2 := ⟨q2, rfl⟩
    subst hqq
    exact tail_done (k := q) (w4 _ _ ⟨⟨hgq, hsb, hdb⟩, j1, j5, y5, j7, j11, j12, j13, trivial⟩)
   rintro a k ⟨⟨hg, hs, hd⟩, i1, i5, n5, i7, i11, i12, i13, _⟩
   refine wp_seq ?_
   obtain ⟨x2, hx2, hr⟩ := bind_some hr
   obtain ⟨x3, hx3, hx2⟩ := ite_bind hx2
   refine cut (fun a' k' => Bs noF k0 49 a' k' ∧ (IsV day_) (a'.get 1) k' ∧ IsOwn 0 3 s1.1 (a'.get 5) k' ∧ Lo k0 (obF (a'.get 5)) ∧ (IsRef x1) (a'.get 7) k' ∧ (IsV p_.Rules) (a'.get 11) k' ∧ (IsI (p_.Rules.length : Int)) (a'.get 12) k' ∧ (IsV s1.2) (a'.get 13) k' ∧ (IsV x2) (a'.get 34) k' ∧ True) ?_ hQ ?_
   ·intro Q6 W6 w5
    refine gS 18 (_ :: _ :: _ :: _ :: _ :: _ :: _ :: _ :: _ :: _ :: _ :: _ :: _ :: _ :: _ :: _ :: _ :: _ :: []) hs (by kernel_rfl) ⟨o1 [(7, none)] rfl fun _ _ h n => ok_fieldAddr rfl fo133_3 (at_Rule_3 _) ((up i7 h n.1)).ptr, o1 [(17, some 0)] rfl fun _ _ h n => ok_load rfl ty3 n.1, o1 [(18, some 1)] rfl fun _ _ h n => ok_geq rfl n.1 (cI rfl), cm 2 rfl rfl, gT [(7, none)] rfl rfl fun hp _ _ h n => ok_fieldAddr rfl fo133_3 (at_Rule_3 _) ((up i7 h n.1)).ptr, gT [(21, some 4)] rfl rfl fun hp _ _ h n => ok_load rfl ty3 (Gd.get n.1 hp), mT rfl rfl i1, gT [(22, some 5), (23, some 6)] rfl rfl fun hp _ _ h n => ok_leq rfl (Gd.get n.1 hp) (Gd.get n.2.1 hp), o1 [(20, some 3), (24, some 7)] rfl fun _ _ h n => ok_pickAnd rfl n.1 (Gd.get n.2.1) (cB rfl), cm 8 rfl rfl, mT rfl rfl i1, gT [(7, none)] rfl rfl fun hp _ _ h n => ok_fieldAddr rfl fo133_3 (at_Rule_3 _) ((up i7 h n.1)).ptr, gT [(28, some 11)] rfl rfl fun hp _ _ h n => ok_load rfl ty3 (Gd.get n.1 hp), gT [(27, some 10), (29, some 12)] rfl rfl fun hp _ _ h n => ok_sub rfl (Gd.get n.1 hp) (Gd.get n.2.1 hp) (hx3 hp), gT [(7, none)] rfl rfl fun hp _ _ h n => ok_fieldAddr rfl fo133_5 (at_Rule_5 _) ((up i7 h n.1)).ptr, gT [(31, some 14)] rfl rfl fun hp _ _ h n => ok_load rfl ty3 (Gd.get n.1 hp), gT [(30, some 13), (32, some 15)] rfl rfl fun hp _ _ h n => ok_lss rfl (Gd.get n.1 hp) (Gd.get n.2.1 hp), o1 [(26, some 9), (33, some 16)] rfl fun _ _ h n => ok_pickM rfl n.1 hx2 (Gd.get n.2.1) (cB rfl), trivial⟩ W6 fun b q p => ?_
    exact tail_done (k := q) (w5 _ _ ⟨Bs.post ⟨hg, hs, hd⟩ p, p.ke 1 rfl i1, p.ke 5 rfl i5, (by rw [p.old 5 rfl]; exact n5), p.ke 7 rfl i7, p.ke 11 rfl i11, p.ke 12 rfl i12, p.ke 13 rfl i13, p.ou 17 34 rfl, trivial⟩)
   rintro a k ⟨⟨hg, hs, hd⟩, i1, i5, n5, i7, i11, i12, i13, i34, _⟩
   obtain ⟨s2, hs2, hr⟩ := bind_some hr
   refine cut (fun a' k' => Bs noF k0 49 a' k' ∧ (IsV day_) (a'.get 1) k' ∧ IsOwn 0 3 s2 (a'.get 5) k' ∧ Lo k0 (obF (a'.get 5)) ∧ (IsV p_.Rules) (a'.get 11) k' ∧ (IsI (p_.Rules.length : Int)) (a'.get 12) k' ∧ (IsV s1.2) (a'.get 13) k' ∧ True) ?_ hQ ?_
   ·intro Q7 W7 w6
    replace hr := hs2
    clear hQ
    have hQ := W7
    refine wp_cond_split (isBool i34) (fun hc665 => ?_) (fun hc665 => ?_)
    ·rw [if_pos hc665] at hr
     obtain ⟨x4, hx4, hr⟩ := bind_some hr
     obtain ⟨x6, hx6, hr⟩ := bind_some hr
     refine cut (fun a' k' => Bs noF k0 49 a' k' ∧ (IsV day_) (a'.get 1) k' ∧ IsOwn 0 3 x6 (a'.get 5) k' ∧ Lo k0 (obF (a'.get 5)) ∧ (IsV p_.Rules) (a'.get 11) k' ∧ (IsI (p_.Rules.length : Int)) (a'.get 12) k' ∧ (IsV s1.2) (a'.get 13) k' ∧ True) ?_ hQ ?_
     ·intro Q8 W8 w7
      refine gS 5 (⟨some (OwnAt (a.get 5) 0 3 s1.1), [(5, none)]⟩ :: _ :: _ :: _ :: ⟨some (IsV (α := (List Int)) ([x4])), [(38, some 3)]⟩ :: []) hs (by kernel_rfl) ⟨ob1 rfl fun _ _ h n => ok_moveOA (.inl rfl) (ownAt n.1 (up i5 h n.1)), o1 [(7, none)] rfl fun _ _ h n => ok_fieldAddr rfl fo133_3 (at_Rule_3 _) ((up i7 h n.1)).ptr, o1 [(36, some 1)] rfl fun _ _ h n => ok_load rfl ty3 n.1, o1 [(37, some 2)] rfl fun _ _ h n => ok_sub rfl n.1 (cI rfl) hx4, ob1 rfl fun _ _ h n => ok_buildSlice rfl Tryz.underlying43 eo3 rfl (by decide) (by decide) ⟨rfl, n.1, trivial⟩, trivial⟩ W8 fun b q p => ?_
      have hgq := hg.then p.grow
      have hsb := p.size.trans hs
      have hdb := p.defers.trans hd
      have j1 := p.ke 1 rfl i1
      have j11 := p.ke 11 rfl i11
      have j12 := p.ke 12 rfl i12
      have j13 := p.ke 13 rfl i13
      have e35 : b.get 35 = a.get 5 := (p.ou 0 35 rfl).1
      have j35 : IsOwn 0 3 s1.1 (b.get 35) q := (p.ou 0 35 rfl).2
      have y35 : Lo k0 (obF (b.get 35)) := by rw [e35]; exact n5
      have j39 : (IsV (α := (List Int)) ([x4])) (b.get 39) q := p.ou 4 39 rfl
      have hns := j35.nshF
      refine tail_appendS (i := 5) (d := 40) rfl rfl rfl rfl (by rw [hsb]; decide) (e := 3) Tryz.underlying43 eo3 j35 (IsV.rd j39) hx6 fun b2 q2 hsz hdf hoth hch hown hob => ?_
      have hle := hch.le hns
      have yn : Lo k0 (obF (b2.get 40)) := y35.app hgq hob
      replace j1 := Pers.pers hle j1
      replace j11 := Pers.pers hle j11
      replace j12 := Pers.pers hle j12
      replace j13 := Pers.pers hle j13
      replace j39 := Pers.pers hle j39
      replace hgq := hgq.step hch y35.wr
      rw [← hoth 1 (by decide)] at j1
      rw [← hoth 11 (by decide)] at j11
      rw [← hoth 12 (by decide)] at j12
      rw [← hoth 13 (by decide)] at j13
      rw [← hoth 39 (by decide)] at j39
      have j40 := hown
      have y40 := yn
      replace hsb := hsz.trans hsb
      replace hdb := hdf.trans hdb
      clear hle hch hown hob hns yn hsz hdf hoth
      obtain ⟨b, hbb⟩ : ∃ b, b = b2 := ⟨b2, rfl⟩
      subst hbb
      obtain ⟨q, hqq⟩ : ∃ q, q = q2 := ⟨q2, rfl⟩
      subst hqq
      refine tail_assign (i := 6) (d := 5) rfl rfl (.inl rfl) rfl (by rw [hsb]; decide) fun b2 hsz hdf hnew hoth => ?_
      have jn : (IsOwn 0 3 x6) (b2.get 5) q := by rw [hnew]; exact j40
      have yn : Lo k0 (obF (b2.get 5)) := by rw [hnew]; exact y40
      rw [← hoth 1 (by decide)] at j1
      rw [← hoth 11 (by decide)] at j11
      rw [← hoth 12 (by decide)] at j12
      rw [← hoth 13 (by decide)] at j13
      rw [← hoth 39 (by decide)] at j39
      have j5 := jn
      have y5 := yn
      replace hsb := hsz.trans hsb
      replace hdb := hdf.trans hdb
      clear hsz hdf hoth
      obtain ⟨b, hbb⟩ : ∃ b, b = b2 := ⟨b2, rfl⟩
      subst hbb
      exact tail_done (k := q) (w7 _ _ ⟨⟨hgq, hsb, hdb⟩, j1, j5, y5, j11, j12, j13, trivial⟩)
     rintro a k ⟨⟨hg, hs, hd⟩, i1, i5, n5, i11, i12, i13, _⟩
     obtain rfl := Option.some.inj hr
     exact w6 _ _ ⟨⟨hg, hs, hd⟩, i1, i5, n5, i11, i12, i13, trivial⟩
    rw [if_neg (by rw [hc665]; decide)] at hr
    refine wp_skip ?_
    obtain rfl := Option.some.inj hr
    exact w6 _ _ ⟨⟨hg, hs, hd⟩, i1, i5, n5, i11, i12, i13, trivial⟩
   clear hs2
   rintro a k ⟨⟨hg, hs, hd⟩, i1, i5, n5, i11, i12, i13, _⟩
   obtain ⟨x8, hx8, hr⟩ := bind_some hr
   refine cut (fun a' k' => Bs noF k0 49 a' k' ∧ (IsV day_) (a'.get 1) k' ∧ IsOwn 0 3 s2 (a'.get 5) k' ∧ Lo k0 (obF (a'.get 5)) ∧ (IsV p_.Rules) (a'.get 11) k' ∧ (IsI (p_.Rules.length : Int)) (a'.get 12) k' ∧ (IsV x8) (a'.get 13) k' ∧ True) ?_ hQ ?_
   ·intro Q9 W9 w8
    refine gS 2 (_ :: _ :: []) hs (by kernel_rfl) ⟨o1 [(13, none)] rfl fun _ _ h n => ok_add rfl (up i13 h n.1) (cI rfl) hx8, cm 0 rfl rfl, trivial⟩ W9 fun b q p => ?_
    exact tail_done (k := q) (w8 _ _ ⟨Bs.post ⟨hg, hs, hd⟩ p, p.ke 1 rfl i1, p.ke 5 rfl i5, (by rw [p.old 5 rfl]; exact n5), p.ke 11 rfl i11, p.ke 12 rfl i12, p.ou 1 13 rfl, trivial⟩)
   rintro a k ⟨⟨hg, hs, hd⟩, i1, i5, n5, i11, i12, i13, _⟩
   exact hgo654 _ _ _ (Option.some.inj hr).symm ⟨⟨hg, hs, hd⟩, i1, i5, n5, i11, i12, i13, trivial⟩
  rw [if_neg (by rw [hc674]; decide)] at hr
  refine wp_exit ?_
  exact hex655 _ _ _ _ (Option.some.inj hr).symm ⟨rfl, ⟨hg, hs, hd⟩, i5, n5, trivial⟩
 ·rintro r1 a k rfl hR
  dsimp only at hr
  obtain rfl := Option.some.inj hr
  exact hR
 ·rintro _ _ _ rfl _
  simp at hr
 clear hf1
 rintro _ s3 a k rfl ⟨rfl, ⟨hg, hs, hd⟩, i5, n5, _⟩
 dsimp only at hr
 refine wp_seq ?_
 obtain ⟨x9, hx9, hr⟩ := bind_some hr
 refine cut (fun a' k' => Bs noF k0 49 a' k' ∧ IsOwn 0 3 x9 (a'.get 5) k' ∧ Lo k0 (obF (a'.get 5)) ∧ True) ?_ hQ ?_
 ·intro Q10 W10 w9
  refine gS 1 (⟨some (OwnAt (a.get 5) 0 3 s3.1), [(5, none)]⟩ :: []) hs (by kernel_rfl) ⟨ob1 rfl fun _ _ h n => ok_moveOA (.inl rfl) (ownAt n.1 (up i5 h n.1)), trivial⟩ W10 fun b q p => ?_
  have hgq := hg.then p.grow
  have hsb := p.size.trans hs
  have hdb := p.defers.trans hd
  have j5 := p.ke 5 rfl i5
  have y5 : Lo k0 (obF (b.get 5)) := by rw [p.old 5 rfl]; exact n5
  have e42 : b.get 42 = a.get 5 := (p.ou 0 42 rfl).1
  have j42 : IsOwn 0 3 s3.1 (b.get 42) q := (p.ou 0 42 rfl).2
  have y42 : Lo k0 (obF (b.get 42)) := by rw [e42]; exact n5
  have hns := j42.nshF
  have eS : b.get 5 = b.get 42 := (p.old 5 rfl).trans e42.symm
  refine tail_call (F := obF (b.get 42)) (i := 1) (d := 43) rfl rfl rfl rfl (by rw [hsb]; decide) Tryz.call91 W10 (sortInts_ok j42 hx9) fun b2 q2 hsz hdf hoth hch hres => ?_
  have hle := hch.le hns
  replace hgq := hgq.step hch y42.wr
  replace j5 : IsOwn 0 3 x9 (b.get 5) q2 := by rw [eS]; exact hres
  clear hres eS
  rw [← hoth 5 (by decide)] at j5
  rw [← hoth 5 (by decide)] at y5
  replace hsb := hsz.trans hsb
  replace hdb := hdf.trans hdb
  clear hle hch hns hsz hdf hoth
  obtain ⟨b, hbb⟩ : ∃ b, b = b2 := ⟨b2, rfl⟩
  subst hbb
  obtain ⟨q, hqq⟩ : ∃ q, q = q2 := ⟨q2, rfl⟩
  subst hqq
  exact tail_done (k := q) (w9 _ _ ⟨⟨hgq, hsb, hdb⟩, j5, y5, trivial⟩)
 rintro a k ⟨⟨hg, hs, hd⟩, i5, n5, _⟩
 refine wp_seq ?_
 obtain ⟨x10, hx10, hr⟩ := bind_some hr
 refine cut (fun a' k' => Bs noF k0 49 a' k' ∧ IsOwn 0 3 x10 (a'.get 5) k' ∧ Lo k0 (obF (a'.get 5)) ∧ True) ?_ hQ ?_
 ·intro Q11 W11 w10
  refine gS 1 (⟨some (OwnAt (a.get 5) 0 3 x9), [(5, none)]⟩ :: []) hs (by kernel_rfl) ⟨ob1 rfl fun _ _ h n => ok_moveOA (.inl rfl) (ownAt n.1 (up i5 h n.1)), trivial⟩ W11 fun b q p => ?_
  have hgq := hg.then p.grow
  have hsb := p.size.trans hs
  have hdb := p.defers.trans hd
  have e44 : b.get 44 = a.get 5 := (p.ou 0 44 rfl).1
  have j44 : IsOwn 0 3 x9 (b.get 44) q := (p.ou 0 44 rfl).2
  have y44 : Lo k0 (obF (b.get 44)) := by rw [e44]; exact n5
  have hns := j44.nshF
  refine tail_call (F := obF (b.get 44)) (i := 1) (d := 45) rfl rfl rfl rfl (by rw [hsb]; decide) Tryz.call92 W11 (compactInts_ok j44 hx10) fun b2 q2 hsz hdf hoth hch hres => ?_
  have hle := hch.le hns
  obtain ⟨hown, hob⟩ := hres
  have yn : Lo k0 (obF (b2.get 45)) := y44.app hgq hob
  replace hgq := hgq.step hch y44.wr
  have j45 := hown
  have y45 := yn
  have hres := True.intro
  clear hown hob yn
  replace hsb := hsz.trans hsb
  replace hdb := hdf.trans hdb
  clear hle hch hres hns hsz hdf hoth
  obtain ⟨b, hbb⟩ : ∃ b, b = b2 := ⟨b2, rfl⟩
  subst hbb
  obtain ⟨q, hqq⟩ : ∃ q, q = q2 := ⟨q2, rfl⟩
  subst hqq
  refine tail_assign (i := 2) (d := 5) rfl rfl (.inl rfl) rfl (by rw [hsb]; decide) fun b2 hsz hdf hnew hoth => ?_
  have jn : (IsOwn 0 3 x10) (b2.get 5) q := by rw [hnew]; exact j45
  have yn : Lo k0 (obF (b2.get 5)) := by rw [hnew]; exact y45
  have j5 := jn
  have y5 := yn
  replace hsb := hsz.trans hsb
  replace hdb := hdf.trans hdb
  clear hsz hdf hoth
  obtain ⟨b, hbb⟩ : ∃ b, b = b2 := ⟨b2, rfl⟩
  subst hbb
  exact tail_done (k := q) (w10 _ _ ⟨⟨hgq, hsb, hdb⟩, j5, y5, trivial⟩)
 rintro a k ⟨⟨hg, hs, hd⟩, i5, n5, _⟩
 refine wp_seq ?_
 obtain ⟨x11, hx11, hr⟩ := bind_some hr
 refine cut (fun a' k' => Bs noF k0 49 a' k' ∧ IsOwn 0 3 x11 (a'.get 5) k' ∧ Lo k0 (obF (a'.get 5)) ∧ True) ?_ hQ ?_
 ·intro Q12 W12 w11
  refine gS 1 (⟨some (OwnAt (a.get 5) 0 3 x10), [(5, none)]⟩ :: []) hs (by kernel_rfl) ⟨ob1 rfl fun _ _ h n => ok_moveOA (.inl rfl) (ownAt n.1 (up i5 h n.1)), trivial⟩ W12 fun b q p => ?_
  have hgq := hg.then p.grow
  have hsb := p.size.trans hs
  have hdb := p.defers.trans hd
  have j5 := p.ke 5 rfl i5
  have y5 : Lo k0 (obF (b.get 5)) := by rw [p.old 5 rfl]; exact n5
  have e46 : b.get 46 = a.get 5 := (p.ou 0 46 rfl).1
  have j46 : IsOwn 0 3 x10 (b.get 46) q := (p.ou 0 46 rfl).2
  have y46 : Lo k0 (obF (b.get 46)) := by rw [e46]; exact n5
  have hns := j46.nshF
  have eS : b.get 5 = b.get 46 := (p.old 5 rfl).trans e46.symm
  refine tail_call (F := obF (b.get 46)) (i := 1) (d := 47) rfl rfl rfl rfl (by rw [hsb]; decide) Tryz.call102 W12 (reverseInts_ok j46 hx11) fun b2 q2 hsz hdf hoth hch hres => ?_
  have hle := hch.le hns
  replace hgq := hgq.step hch y46.wr
  replace j5 : IsOwn 0 3 x11 (b.get 5) q2 := by rw [eS]; exact hres
  clear hres eS
  rw [← hoth 5 (by decide)] at j5
  rw [← hoth 5 (by decide)] at y5
  replace hsb := hsz.trans hsb
  replace hdb := hdf.trans hdb
  clear hle hch hns hsz hdf hoth
  obtain ⟨b, hbb⟩ : ∃ b, b = b2 := ⟨b2, rfl⟩
  subst hbb
  obtain ⟨q, hqq⟩ : ∃ q, q = q2 := ⟨q2, rfl⟩
  subst hqq
  exact tail_done (k := q) (w11 _ _ ⟨⟨hgq, hsb, hdb⟩, j5, y5, trivial⟩)
 rintro a k ⟨⟨hg, hs, hd⟩, i5, n5, _⟩
 refine wp_seq ?_
 obtain ⟨kk, sh682, ii5⟩ := i5.give
 replace i5 := ii5
 replace hg := hg.hand sh682 n5.wr
 rw [← sh682.w]
 clear sh682
 obtain ⟨k, hkk⟩ : ∃ k, k = kk := ⟨kk, rfl⟩
 subst hkk
 refine cut (fun a' k' => Bs noF k0 49 a' k' ∧ (IsV x11) (a'.get 4) k' ∧ True) ?_ hQ ?_
 ·intro Q13 W13 w12
  refine gS 2 (_ :: _ :: []) hs (by kernel_rfl) ⟨mu rfl i5, cp 0 rfl rfl, trivial⟩ W13 fun b q p => ?_
  exact tail_done (k := q) (w12 _ _ ⟨Bs.post ⟨hg, hs, hd⟩ p, p.ou 1 4 rfl, trivial⟩)
 rintro a k ⟨⟨hg, hs, hd⟩, i4, _⟩
 refine wp_ret ?_
 obtain rfl := Option.some.inj hr
 exact retC1 rfl hd hg i4
noncomputable def k82 := mkO 82 [.st 7, .int] [.list .int] (fun x => clause_Days x.1 x.2) Tryz.call82 fun k0 vs x r hG h hr => by obtain ⟨v0, vs, rfl, i0, h⟩ := h.cons; obtain ⟨v1, rfl, i1⟩ := h.one; exact clause_Days_ok i0 i1 hr
def clause_May (p_ : Plan) (day_ : Int) (choice_ : Int) : Option (Bool) :=
 (clause_Days p_ day_).bind fun x1 =>
 (slices_Contains_int x1 choice_).bind fun x2 =>
 some x2
noncomputable def k57 := mk 57 [.st 7, .int, .int] [.bool] (fun x => clause_May x.1 x.2.1 x.2.2) [k82, k29] [] Tryz.f57 (.n) Tryz.func57 Tryz.call57 rfl rfl fun x => by kernel_rfl
def slices_EqualFunc_Drawing_Drawing_Drawing_L0 (s1_ : (List Drawing)) (s2_ : (List Drawing)) (eq_ : (Drawing → Drawing → Option (Bool))) (s1 : Int) : Option (Flow (Int) (Bool)) :=
 if (decide (s1 < (s1_.length : Int))) then
  (getI s1_ s1).bind fun x1 =>
  (getI s2_ s1).bind fun x2 =>
  (eq_ x1 x2).bind fun x3 =>
  if (!x3) then
   some (.ret false)
  else
   (addI s1 1).bind fun x4 =>
   some (.go x4)
 else
  some (.ex 0 s1)
def slices_EqualFunc_Drawing_Drawing_Drawing (s1_ : (List Drawing)) (s2_ : (List Drawing)) (eq_ : (Drawing → Drawing → Option (Bool))) : Option (Bool) :=
 if ((s1_.length : Int) != (s2_.length : Int)) then
  some false
 else
  (iterL (slices_EqualFunc_Drawing_Drawing_Drawing_L0 s1_ s2_ eq_) (s1_.length + 1) 0).bind fun f1 => match f1 with
   | .go _ => none
   | .ex _ _ =>
    some true
   | .ret r1 => some r1
theorem slices_EqualFunc_Drawing_Drawing_Drawing_ok {k0 : K} {v0 v1 v2 : Value} {s1_ : (List Drawing)} {s2_ : (List Drawing)} {eq_ : (Drawing → Drawing → Option (Bool))} {r : Bool} (i0 : (IsV s1_) v0 k0) (i1 : (IsV s2_) v1 k0) (i2 : (IsFn2 Tryz.prog eq_) v2 k0) (hr : slices_EqualFunc_Drawing_Drawing_Drawing s1_ s2_ eq_ = some r) :
  Calls Tryz.prog 32 #[v0, v1, v2] k0.w (Ret k0 (IsV r)) := by
 unfold slices_EqualFunc_Drawing_Drawing_Drawing at hr
 refine Ret.ofC ?_
 refine enterK Tryz.func32 rfl Tryz.ntmps32 (show 3 ≤ 32 by decide) fun a k hk0 hs hd ha => ?_
 obtain ⟨e0, e1, e2, _⟩ := ha
 replace i0 : (IsV s1_) (a.get 0) k := by rw [e0, hk0]; exact i0
 replace i1 : (IsV s2_) (a.get 1) k := by rw [e1, hk0]; exact i1
 replace i2 : (IsFn2 Tryz.prog eq_) (a.get 2) k := by rw [e2, hk0]; exact i2
 have hQ : Gb.LetsOut (bodyPost Tryz.prog Tryz.f32 (RetC noF k0 (IsV r))) := letsOutC
 have hg : Chg noF k0 k := by rw [hk0]; exact Chg.refl _ k0
 refine stepL 1 (⟨some (IsV false), []⟩ :: []) rfl ⟨hg, hs, hd⟩ (by kernel_rfl) ⟨ob1 rfl fun _ _ h n => ok_assign rfl (isV_bool.2 rfl), trivial⟩ [⟨_, _⟩, ⟨_, _⟩, ⟨_, _⟩] (fun b q p => ⟨p.ke 0 rfl i0, p.ke 1 rfl i1, p.ke 2 rfl i2, trivial⟩) ?_
 rintro a k ⟨⟨hg, hs, hd⟩, i0, i1, i2, _⟩
 refine wp_seq ?_
 refine stepL 5 (_ :: _ :: _ :: _ :: ⟨some (IsV ((s1_.length : Int) != (s2_.length : Int))), [(11, some 1), (13, some 3)]⟩ :: []) rfl ⟨hg, hs, hd⟩ (by kernel_rfl) ⟨mu rfl i0, o1 [(10, some 0)] rfl fun _ _ h n => ok_len rfl rfl Tryz.underlying31 (IsV.rd n.1), mu rfl i1, o1 [(12, some 2)] rfl fun _ _ h n => ok_len rfl rfl Tryz.underlying31 (IsV.rd n.1), ob1 rfl fun _ _ h n => ok_neI rfl n.1 n.2.1, trivial⟩ [⟨_, _⟩, ⟨_, _⟩, ⟨_, _⟩, ⟨_, _⟩] (fun b q p => ⟨p.ke 0 rfl i0, p.ke 1 rfl i1, p.ke 2 rfl i2, p.ou 4 14 rfl, trivial⟩) ?_
 rintro a k ⟨⟨hg, hs, hd⟩, i0, i1, i2, i14, _⟩
 refine wp_cond_split (isBool i14) (fun hc745 => ?_) (fun hc745 => ?_)
 ·rw [if_pos hc745] at hr
  refine stepL 1 (⟨some (IsV false), []⟩ :: []) rfl ⟨hg, hs, hd⟩ (by kernel_rfl) ⟨ob1 rfl fun _ _ h n => ok_assign rfl (isV_bool.2 rfl), trivial⟩ [⟨_, _⟩] (fun b q p => ⟨p.ou 0 6 rfl, trivial⟩) ?_
  rintro a k ⟨⟨hg, hs, hd⟩, i6, _⟩
  refine wp_ret ?_
  obtain rfl := Option.some.inj hr
  exact retC1 rfl hd hg i6
 rw [if_neg (by rw [hc745]; decide)] at hr
 refine wp_skip ?_
 refine wp_seq ?_
 refine stepL 3 (_ :: _ :: ⟨some (IsI 0), []⟩ :: []) rfl ⟨hg, hs, hd⟩ (by kernel_rfl) ⟨mu rfl i0, o1 [(15, some 0)] rfl fun _ _ h n => ok_len rfl rfl Tryz.underlying31 (IsV.rd n.1), ob1 rfl fun _ _ h n => ok_move rfl (cI rfl), trivial⟩ [⟨_, _⟩, ⟨_, _⟩, ⟨_, _⟩, ⟨_, _⟩, ⟨_, _⟩] (fun b q p => ⟨p.ke 1 rfl i1, p.ke 2 rfl i2, p.ou 0 15 rfl, p.ou 1 16 rfl, p.ou 2 17 rfl, trivial⟩) ?_
 rintro a k ⟨⟨hg, hs, hd⟩, i1, i2, i15, i16, i17, _⟩
 refine wp_block ?_
 obtain ⟨f1, hf1, hr⟩ := bind_some hr
 refine cutFe f1 (fun s' c l => Bs noF k0 32 c l ∧ IsV s2_ (c.get 1) l ∧ IsFn2 Tryz.prog eq_ (c.get 2) l ∧ IsV s1_ (c.get 15) l ∧ IsL s1_ (c.get 16) l ∧ IsV s' (c.get 17) l ∧ True) (fun i' s' c l => (i' = 0 ∧ Bs noF k0 32 c l ∧ True)) (fun r' c l => bodyPost Tryz.prog Tryz.f32 (RetC noF k0 (IsV r')) .ret c l.w) ?_ hQ ?_ ?_ ?_
 ·intro Q1 W1 hgo hex hret
  refine sim_loop ?_ _ _ _ _ _ hf1 ⟨⟨hg, hs, hd⟩, i1, i2, i15, i16, i17, trivial⟩ Q1 W1 hgo hex hret
  clear hr hf1 hgo hex hret W1 hQ hg hs hd i1 i15 i16 i17 i2
  intro s1 fl_ a k hr hS Q hQ hgo713 hex714 hret715
  obtain ⟨⟨hg, hs, hd⟩, i1, i2, i15, i16, i17, _⟩ := hS
  unfold slices_EqualFunc_Drawing_Drawing_Drawing_L0 at hr
  refine stepL 1 (_ :: []) rfl ⟨hg, hs, hd⟩ (by kernel_rfl) ⟨o1 [(17, none), (16, none)] rfl fun _ _ h n => ok_lss rfl (up i17 h n.1) (up i16 h n.2.1), trivial⟩ [⟨_, _⟩, ⟨_, _⟩, ⟨_, _⟩, ⟨_, _⟩, ⟨_, _⟩, ⟨_, _⟩] (fun b q p => ⟨p.ke 1 rfl i1, p.ke 2 rfl i2, p.ke 15 rfl i15, p.ke 16 rfl i16, p.ke 17 rfl i17, p.ou 0 18 rfl, trivial⟩) ?_
  rintro a k ⟨⟨hg, hs, hd⟩, i1, i2, i15, i16, i17, i18, _⟩
  refine wp_seq ?_
  refine wp_cond_split (isBool i18) (fun hc733 => ?_) (fun hc733 => ?_)
  ·rw [if_pos hc733] at hr
   refine wp_skip ?_
   refine wp_seq ?_
   refine wp_block ?_
   refine wp_seq ?_
   obtain ⟨x1, hx1, hr⟩ := bind_some hr
   refine cut (fun a' k' => Bs noF k0 32 a' k' ∧ (IsV s2_) (a'.get 1) k' ∧ (IsFn2 Tryz.prog eq_) (a'.get 2) k' ∧ (IsV s1) (a'.get 7) k' ∧ (IsRef x1) (a'.get 8) k' ∧ (IsV s1_) (a'.get 15) k' ∧ (IsL s1_) (a'.get 16) k' ∧ (IsV s1) (a'.get 17) k' ∧ True) ?_ hQ ?_
   ·intro Q2 W2 w1
    refine gS 5 (_ :: _ :: _ :: ⟨some (IsBox k.w.heap.size (⟨0, []⟩ : Drawing)), []⟩ :: _ :: []) hs (by kernel_rfl) ⟨mu rfl i17, o1 [(15, none), (17, none)] rfl fun _ _ h n => ok_indexAddr rfl Tryz.underlying31 ty54 (IsV.rd (up i15 h n.1)) (up i17 h n.2.1) hx1, o1 [(20, some 1)] rfl fun _ _ h n => ok_load rfl ty54 n.1, ob1 rfl fun _ _ h n => ok_alloc _ h.size rfl z54, cp 0 rfl rfl, trivial⟩ W2 fun b q p => ?_
    have hgq := hg.then p.grow
    have hsb := p.size.trans hs
    have hdb := p.defers.trans hd
    have j1 := p.ke 1 rfl i1
    have j2 := p.ke 2 rfl i2
    have j7 : (IsV s1) (b.get 7) q := p.ou 4 7 rfl
    obtain ⟨b8, j8, x8, z8⟩ : (IsBox k.w.heap.size (⟨0, []⟩ : Drawing)) (b.get 8) q := p.ou 3 8 rfl
    replace x8 : Lo k (Eq b8) := Lo.eq x8
    have y8 : Lo k0 (Eq b8) := x8.chg hg
    have j15 := p.ke 15 rfl i15
    have j16 := p.ke 16 rfl i16
    have j17 := p.ke 17 rfl i17
    have j21 : (IsV x1) (b.get 21) q := p.ou 2 21 rfl
    have hns := z8.nshF
    refine tail_storeB (i := 5) rfl rfl rfl rfl szf54 (Upd.self (α := Drawing)) j8 z8 j21 fun q2 hch hz => ?_
    replace hgq := hgq.step hch y8.wr
    have hle := hch.le hns
    replace j1 := Pers.pers hle j1
    replace j2 := Pers.pers hle j2
    replace j7 := Pers.pers hle j7
    replace j15 := Pers.pers hle j15
    replace j16 := Pers.pers hle j16
    replace j17 := Pers.pers hle j17
    replace j21 := Pers.pers hle j21
    replace z8 := hz
    clear hns hle hch
    obtain ⟨q, hqq⟩ : ∃ q, q = q2 := ⟨q2, rfl⟩
    subst hqq
    obtain ⟨q2, hsh, jn⟩ := z8.give
    replace j1 := Pers.pers hsh.le j1
    replace j2 := Pers.pers hsh.le j2
    replace j7 := Pers.pers hsh.le j7
    replace j15 := Pers.pers hsh.le j15
    replace j16 := Pers.pers hsh.le j16
    replace j17 := Pers.pers hsh.le j17
    rw [← j8] at jn
    replace j8 := jn
    replace hgq := hgq.hand hsh y8.wr
    rw [← hsh.w]
    clear hsh
    obtain ⟨q, hqq⟩ : ∃ q, q = q2 := ⟨q2, rfl⟩
    subst hqq
    exact tail_done (k := q) (w1 _ _ ⟨⟨hgq, hsb, hdb⟩, j1, j2, j7, j8, j15, j16, j17, trivial⟩)
   rintro a k ⟨⟨hg, hs, hd⟩, i1, i2, i7, i8, i15, i16, i17, _⟩
   refine wp_seq ?_
   obtain ⟨x2, hx2, hr⟩ := bind_some hr
   refine cut (fun a' k' => Bs noF k0 32 a' k' ∧ (IsV s2_) (a'.get 1) k' ∧ (IsFn2 Tryz.prog eq_) (a'.get 2) k' ∧ (IsRef x1) (a'.get 8) k' ∧ (IsRef x2) (a'.get 9) k' ∧ (IsV s1_) (a'.get 15) k' ∧ (IsL s1_) (a'.get 16) k' ∧ (IsV s1) (a'.get 17) k' ∧ True) ?_ hQ ?_
   ·intro Q3 W3 w2
    refine gS 5 (_ :: _ :: _ :: _ :: ⟨some (IsBox k.w.heap.size (⟨0, []⟩ : Drawing)), []⟩ :: []) hs (by kernel_rfl) ⟨mu rfl i1, mu rfl i7, o1 [(22, some 0), (23, some 1)] rfl fun _ _ h n => ok_indexAddr rfl Tryz.underlying31 ty54 (IsV.rd n.1) n.2.1 hx2, o1 [(24, some 2)] rfl fun _ _ h n => ok_load rfl ty54 n.1, ob1 rfl fun _ _ h n => ok_alloc _ h.size rfl z54, trivial⟩ W3 fun b q p => ?_
    have hgq := hg.then p.grow
    have hsb := p.size.trans hs
    have hdb := p.defers.trans hd
    have j1 := p.ke 1 rfl i1
    have j2 := p.ke 2 rfl i2
    have j8 := p.ke 8 rfl i8
    obtain ⟨b9, j9, x9, z9⟩ : (IsBox k.w.heap.size (⟨0, []⟩ : Drawing)) (b.get 9) q := p.ou 4 9 rfl
    replace x9 : Lo k (Eq b9) := Lo.eq x9
    have y9 : Lo k0 (Eq b9) := x9.chg hg
    have j15 := p.ke 15 rfl i15
    have j16 := p.ke 16 rfl i16
    have j17 := p.ke 17 rfl i17
    have j25 : (IsV x2) (b.get 25) q := p.ou 3 25 rfl
    have hns := z9.nshF
    refine tail_storeB (i := 5) rfl rfl rfl rfl szf54 (Upd.self (α := Drawing)) j9 z9 j25 fun q2 hch hz => ?_
    replace hgq := hgq.step hch y9.wr
    have hle := hch.le hns
    replace j1 := Pers.pers hle j1
    replace j2 := Pers.pers hle j2
    replace j8 := Pers.pers hle j8
    replace j15 := Pers.pers hle j15
    replace j16 := Pers.pers hle j16
    replace j17 := Pers.pers hle j17
    replace j25 := Pers.pers hle j25
    replace z9 := hz
    clear hns hle hch
    obtain ⟨q, hqq⟩ : ∃ q, q = q2 := ⟨q2, rfl⟩
    subst hqq
    obtain ⟨q2, hsh, jn⟩ := z9.give
    replace j1 := Pers.pers hsh.le j1
    replace j2 := Pers.pers hsh.le j2
    replace j8 := Pers.pers hsh.le j8
    replace j15 := Pers.pers hsh.le j15
    replace j16 := Pers.pers hsh.le j16
    replace j17 := Pers.pers hsh.le j17
    rw [← j9] at jn
    replace j9 := jn
    replace hgq := hgq.hand hsh y9.wr
    rw [← hsh.w]
    clear hsh
    obtain ⟨q, hqq⟩ : ∃ q, q = q2 := ⟨q2, rfl⟩
    subst hqq
    exact tail_done (k := q) (w2 _ _ ⟨⟨hgq, hsb, hdb⟩, j1, j2, j8, j9, j15, j16, j17, trivial⟩)
   rintro a k ⟨⟨hg, hs, hd⟩, i1, i2, i8, i9, i15, i16, i17, _⟩
   refine wp_seq ?_
   obtain ⟨x3, hx3, hr⟩ := bind_some hr
   refine cut (fun a' k' => Bs noF k0 32 a' k' ∧ (IsV s2_) (a'.get 1) k' ∧ (IsFn2 Tryz.prog eq_) (a'.get 2) k' ∧ (IsV s1_) (a'.get 15) k' ∧ (IsL s1_) (a'.get 16) k' ∧ (IsV s1) (a'.get 17) k' ∧ (IsV (!x3)) (a'.get 30) k' ∧ True) ?_ hQ ?_
   ·intro Q4 W4 w3
    refine gS 5 (_ :: _ :: _ :: ⟨some (IsV x3), [(26, some 0), (27, some 1), (28, some 2)]⟩ :: _ :: []) hs (by kernel_rfl) ⟨mu rfl i2, o1 [(8, none)] rfl fun _ _ h n => ok_load rfl ty54 ((up i8 h n.1)).ptr, o1 [(9, none)] rfl fun _ _ h n => ok_load rfl ty54 ((up i9 h n.1)).ptr, ob1 rfl fun _ _ h n => ok_callF2 rfl n.1 n.2.1 n.2.2.1 hx3, o1 [(29, some 3)] rfl fun _ _ h n => ok_not rfl n.1, trivial⟩ W4 fun b q p => ?_
    exact tail_done (k := q) (w3 _ _ ⟨Bs.post ⟨hg, hs, hd⟩ p, p.ke 1 rfl i1, p.ke 2 rfl i2, p.ke 15 rfl i15, p.ke 16 rfl i16, p.ke 17 rfl i17, p.ou 4 30 rfl, trivial⟩)
   rintro a k ⟨⟨hg, hs, hd⟩, i1, i2, i15, i16, i17, i30, _⟩
   refine wp_cond_split (isBool i30) (fun hc726 => ?_) (fun hc726 => ?_)
   ·rw [if_pos hc726] at hr
    refine stepL 1 (⟨some (IsV false), []⟩ :: []) rfl ⟨hg, hs, hd⟩ (by kernel_rfl) ⟨ob1 rfl fun _ _ h n => ok_assign rfl (isV_bool.2 rfl), trivial⟩ [⟨_, _⟩] (fun b q p => ⟨p.ou 0 6 rfl, trivial⟩) ?_
    rintro a k ⟨⟨hg, hs, hd⟩, i6, _⟩
    refine wp_ret ?_
    exact hret715 _ _ _ (Option.some.inj hr).symm (retC1 rfl hd hg i6)
   rw [if_neg (by rw [hc726]; decide)] at hr
   refine wp_skip ?_
   obtain ⟨x4, hx4, hr⟩ := bind_some hr
   refine cut (fun a' k' => Bs noF k0 32 a' k' ∧ (IsV s2_) (a'.get 1) k' ∧ (IsFn2 Tryz.prog eq_) (a'.get 2) k' ∧ (IsV s1_) (a'.get 15) k' ∧ (IsL s1_) (a'.get 16) k' ∧ (IsV x4) (a'.get 17) k' ∧ True) ?_ hQ ?_
   ·intro Q5 W5 w4
    refine gS 2 (_ :: _ :: []) hs (by kernel_rfl) ⟨o1 [(17, none)] rfl fun _ _ h n => ok_add rfl (up i17 h n.1) (cI rfl) hx4, cm 0 rfl rfl, trivial⟩ W5 fun b q p => ?_
    exact tail_done (k := q) (w4 _ _ ⟨Bs.post ⟨hg, hs, hd⟩ p, p.ke 1 rfl i1, p.ke 2 rfl i2, p.ke 15 rfl i15, p.ke 16 rfl i16, p.ou 1 17 rfl, trivial⟩)
   rintro a k ⟨⟨hg, hs, hd⟩, i1, i2, i15, i16, i17, _⟩
   exact hgo713 _ _ _ (Option.some.inj hr).symm ⟨⟨hg, hs, hd⟩, i1, i2, i15, i16, i17, trivial⟩
  rw [if_neg (by rw [hc733]; decide)] at hr
  refine wp_exit ?_
  exact hex714 _ _ _ _ (Option.some.inj hr).symm ⟨rfl, ⟨hg, hs, hd⟩, trivial⟩
 ·rintro r1 a k rfl hR
  dsimp only at hr
  obtain rfl := Option.some.inj hr
  exact hR
 ·rintro _ _ _ rfl _
  simp at hr
 clear hf1
 rintro _ s2 a k rfl ⟨rfl, ⟨hg, hs, hd⟩, _⟩
 dsimp only at hr
 refine stepL 1 (⟨some (IsV true), []⟩ :: []) rfl ⟨hg, hs, hd⟩ (by kernel_rfl) ⟨ob1 rfl fun _ _ h n => ok_assign rfl (isV_bool.2 rfl), trivial⟩ [⟨_, _⟩] (fun b q p => ⟨p.ou 0 6 rfl, trivial⟩) ?_
 rintro a k ⟨⟨hg, hs, hd⟩, i6, _⟩
 refine wp_ret ?_
 obtain rfl := Option.some.inj hr
 exact retC1 rfl hd hg i6
def slices_EqualFunc_Phase_Phase_Phase_L0 (s1_ : (List Phase)) (s2_ : (List Phase)) (eq_ : (Phase → Phase → Option (Bool))) (s1 : Int) : Option (Flow (Int) (Bool)) :=
 if (decide (s1 < (s1_.length : Int))) then
  (getI s1_ s1).bind fun x1 =>
  (getI s2_ s1).bind fun x2 =>
  (eq_ x1 x2).bind fun x3 =>
  if (!x3) then
   some (.ret false)
  else
   (addI s1 1).bind fun x4 =>
   some (.go x4)
 else
  some (.ex 0 s1)
def slices_EqualFunc_Phase_Phase_Phase (s1_ : (List Phase)) (s2_ : (List Phase)) (eq_ : (Phase → Phase → Option (Bool))) : Option (Bool) :=
 if ((s1_.length : Int) != (s2_.length : Int)) then
  some false
 else
  (iterL (slices_EqualFunc_Phase_Phase_Phase_L0 s1_ s2_ eq_) (s1_.length + 1) 0).bind fun f1 => match f1 with
   | .go _ => none
   | .ex _ _ =>
    some true
   | .ret r1 => some r1
theorem slices_EqualFunc_Phase_Phase_Phase_ok {k0 : K} {v0 v1 v2 : Value} {s1_ : (List Phase)} {s2_ : (List Phase)} {eq_ : (Phase → Phase → Option (Bool))} {r : Bool} (i0 : (IsV s1_) v0 k0) (i1 : (IsV s2_) v1 k0) (i2 : (IsFn2 Tryz.prog eq_) v2 k0) (hr : slices_EqualFunc_Phase_Phase_Phase s1_ s2_ eq_ = some r) :
  Calls Tryz.prog 34 #[v0, v1, v2] k0.w (Ret k0 (IsV r)) := by
 unfold slices_EqualFunc_Phase_Phase_Phase at hr
 refine Ret.ofC ?_
 refine enterK Tryz.func34 rfl Tryz.ntmps34 (show 3 ≤ 32 by decide) fun a k hk0 hs hd ha => ?_
 obtain ⟨e0, e1, e2, _⟩ := ha
 replace i0 : (IsV s1_) (a.get 0) k := by rw [e0, hk0]; exact i0
 replace i1 : (IsV s2_) (a.get 1) k := by rw [e1, hk0]; exact i1
 replace i2 : (IsFn2 Tryz.prog eq_) (a.get 2) k := by rw [e2, hk0]; exact i2
 have hQ : Gb.LetsOut (bodyPost Tryz.prog Tryz.f34 (RetC noF k0 (IsV r))) := letsOutC
 have hg : Chg noF k0 k := by rw [hk0]; exact Chg.refl _ k0
 refine stepL 1 (⟨some (IsV false), []⟩ :: []) rfl ⟨hg, hs, hd⟩ (by kernel_rfl) ⟨ob1 rfl fun _ _ h n => ok_assign rfl (isV_bool.2 rfl), trivial⟩ [⟨_, _⟩, ⟨_, _⟩, ⟨_, _⟩] (fun b q p => ⟨p.ke 0 rfl i0, p.ke 1 rfl i1, p.ke 2 rfl i2, trivial⟩) ?_
 rintro a k ⟨⟨hg, hs, hd⟩, i0, i1, i2, _⟩
 refine wp_seq ?_
 refine stepL 5 (_ :: _ :: _ :: _ :: ⟨some (IsV ((s1_.length : Int) != (s2_.length : Int))), [(11, some 1), (13, some 3)]⟩ :: []) rfl ⟨hg, hs, hd⟩ (by kernel_rfl) ⟨mu rfl i0, o1 [(10, some 0)] rfl fun _ _ h n => ok_len rfl rfl Tryz.underlying52 (IsV.rd n.1), mu rfl i1, o1 [(12, some 2)] rfl fun _ _ h n => ok_len rfl rfl Tryz.underlying52 (IsV.rd n.1), ob1 rfl fun _ _ h n => ok_neI rfl n.1 n.2.1, trivial⟩ [⟨_, _⟩, ⟨_, _⟩, ⟨_, _⟩, ⟨_, _⟩] (fun b q p => ⟨p.ke 0 rfl i0, p.ke 1 rfl i1, p.ke 2 rfl i2, p.ou 4 14 rfl, trivial⟩) ?_
 rintro a k ⟨⟨hg, hs, hd⟩, i0, i1, i2, i14, _⟩
 refine wp_cond_split (isBool i14) (fun hc789 => ?_) (fun hc789 => ?_)
 ·rw [if_pos hc789] at hr
  refine stepL 1 (⟨some (IsV false), []⟩ :: []) rfl ⟨hg, hs, hd⟩ (by kernel_rfl) ⟨ob1 rfl fun _ _ h n => ok_assign rfl (isV_bool.2 rfl), trivial⟩ [⟨_, _⟩] (fun b q p => ⟨p.ou 0 6 rfl, trivial⟩) ?_
  rintro a k ⟨⟨hg, hs, hd⟩, i6, _⟩
  refine wp_ret ?_
  obtain rfl := Option.some.inj hr
  exact retC1 rfl hd hg i6
 rw [if_neg (by rw [hc789]; decide)] at hr
 refine wp_skip ?_
 refine wp_seq ?_
 refine stepL 3 (_ :: _ :: ⟨some (IsI 0), []⟩ :: []) rfl ⟨hg, hs, hd⟩ (by kernel_rfl) ⟨mu rfl i0, o1 [(15, some 0)] rfl fun _ _ h n => ok_len rfl rfl Tryz.underlying52 (IsV.rd n.1), ob1 rfl fun _ _ h n => ok_move rfl (cI rfl), trivial⟩ [⟨_, _⟩, ⟨_, _⟩, ⟨_, _⟩, ⟨_, _⟩, ⟨_, _⟩] (fun b q p => ⟨p.ke 1 rfl i1, p.ke 2 rfl i2, p.ou 0 15 rfl, p.ou 1 16 rfl, p.ou 2 17 rfl, trivial⟩) ?_
 rintro a k ⟨⟨hg, hs, hd⟩, i1, i2, i15, i16, i17, _⟩
 refine wp_block ?_
 obtain ⟨f1, hf1, hr⟩ := bind_some hr
 refine cutFe f1 (fun s' c l => Bs noF k0 32 c l ∧ IsV s2_ (c.get 1) l ∧ IsFn2 Tryz.prog eq_ (c.get 2) l ∧ IsV s1_ (c.get 15) l ∧ IsL s1_ (c.get 16) l ∧ IsV s' (c.get 17) l ∧ True) (fun i' s' c l => (i' = 0 ∧ Bs noF k0 32 c l ∧ True)) (fun r' c l => bodyPost Tryz.prog Tryz.f34 (RetC noF k0 (IsV r')) .ret c l.w) ?_ hQ ?_ ?_ ?_
 ·intro Q1 W1 hgo hex hret
  refine sim_loop ?_ _ _ _ _ _ hf1 ⟨⟨hg, hs, hd⟩, i1, i2, i15, i16, i17, trivial⟩ Q1 W1 hgo hex hret
  clear hr hf1 hgo hex hret W1 hQ hg hs hd i1 i15 i16 i17 i2
  intro s1 fl_ a k hr hS Q hQ hgo757 hex758 hret759
  obtain ⟨⟨hg, hs, hd⟩, i1, i2, i15, i16, i17, _⟩ := hS
  unfold slices_EqualFunc_Phase_Phase_Phase_L0 at hr
  refine stepL 1 (_ :: []) rfl ⟨hg, hs, hd⟩ (by kernel_rfl) ⟨o1 [(17, none), (16, none)] rfl fun _ _ h n => ok_lss rfl (up i17 h n.1) (up i16 h n.2.1), trivial⟩ [⟨_, _⟩, ⟨_, _⟩, ⟨_, _⟩, ⟨_, _⟩, ⟨_, _⟩, ⟨_, _⟩] (fun b q p => ⟨p.ke 1 rfl i1, p.ke 2 rfl i2, p.ke 15 rfl i15, p.ke 16 rfl i16, p.ke 17 rfl i17, p.ou 0 18 rfl, trivial⟩) ?_
  rintro a k ⟨⟨hg, hs, hd⟩, i1, i2, i15, i16, i17, i18, _⟩
  refine wp_seq ?_
  refine wp_cond_split (isBool i18) (fun hc777 => ?_) (fun hc777 => ?_)
  ·rw [if_pos hc777] at hr
   refine wp_skip ?_
   refine wp_seq ?_
   refine wp_block ?_
   refine wp_seq ?_
   obtain ⟨x1, hx1, hr⟩ := bind_some hr
   refine cut (fun a' k' => Bs noF k0 32 a' k' ∧ (IsV s2_) (a'.get 1) k' ∧ (IsFn2 Tryz.prog eq_) (a'.get 2) k' ∧ (IsV s1) (a'.get 7) k' ∧ (IsRef x1) (a'.get 8) k' ∧ (IsV s1_) (a'.get 15) k' ∧ (IsL s1_) (a'.get 16) k' ∧ (IsV s1) (a'.get 17) k' ∧ True) ?_ hQ ?_
   ·intro Q2 W2 w1
    refine gS 5 (_ :: _ :: _ :: ⟨some (IsBox k.w.heap.size (⟨[], []⟩ : Phase)), []⟩ :: _ :: []) hs (by kernel_rfl) ⟨mu rfl i17, o1 [(15, none), (17, none)] rfl fun _ _ h n => ok_indexAddr rfl Tryz.underlying52 ty73 (IsV.rd (up i15 h n.1)) (up i17 h n.2.1) hx1, o1 [(20, some 1)] rfl fun _ _ h n => ok_load rfl ty73 n.1, ob1 rfl fun _ _ h n => ok_alloc _ h.size rfl z73, cp 0 rfl rfl, trivial⟩ W2 fun b q p => ?_
    have hgq := hg.then p.grow
    have hsb := p.size.trans hs
    have hdb := p.defers.trans hd
    have j1 := p.ke 1 rfl i1
    have j2 := p.ke 2 rfl i2
    have j7 : (IsV s1) (b.get 7) q := p.ou 4 7 rfl
    obtain ⟨b8, j8, x8, z8⟩ : (IsBox k.w.heap.size (⟨[], []⟩ : Phase)) (b.get 8) q := p.ou 3 8 rfl
    replace x8 : Lo k (Eq b8) := Lo.eq x8
    have y8 : Lo k0 (Eq b8) := x8.chg hg
    have j15 := p.ke 15 rfl i15
    have j16 := p.ke 16 rfl i16
    have j17 := p.ke 17 rfl i17
    have j21 : (IsV x1) (b.get 21) q := p.ou 2 21 rfl
    have hns := z8.nshF
    refine tail_storeB (i := 5) rfl rfl rfl rfl szf73 (Upd.self (α := Phase)) j8 z8 j21 fun q2 hch hz => ?_
    replace hgq := hgq.step hch y8.wr
    have hle := hch.le hns
    replace j1 := Pers.pers hle j1
    replace j2 := Pers.pers hle j2
    replace j7 := Pers.pers hle j7
    replace j15 := Pers.pers hle j15
    replace j16 := Pers.pers hle j16
    replace j17 := Pers.pers hle j17
    replace j21 := Pers.pers hle j21
    replace z8 := hz
    clear hns hle hch
    obtain ⟨q, hqq⟩ : ∃ q, q = q2 := ⟨q2, rfl⟩
    subst hqq
    obtain ⟨q2, hsh, jn⟩ := z8.give
    replace j1 := Pers.pers hsh.le j1
    replace j2 := Pers.pers hsh.le j2
    replace j7 := Pers.pers hsh.le j7
    replace j15 := Pers.pers hsh.le j15
    replace j16 := Pers.pers hsh.le j16
    replace j17 := Pers.pers hsh.le j17
    rw [← j8] at jn
    replace j8 := jn
    replace hgq := hgq.hand hsh y8.wr
    rw [← hsh.w]
    clear hsh
    obtain ⟨q, hqq⟩ : ∃ q, q = q2 := ⟨q2, rfl⟩
    subst hqq
    exact tail_done (k := q) (w1 _ _ ⟨⟨hgq, hsb, hdb⟩, j1, j2, j7, j8, j15, j16, j17, trivial⟩)
   rintro a k ⟨⟨hg, hs, hd⟩, i1, i2, i7, i8, i15, i16, i17, _⟩
   refine wp_seq ?_
   obtain ⟨x2, hx2, hr⟩ := bind_some hr
   refine cut (fun a' k' => Bs noF k0 32 a' k' ∧ (IsV s2_) (a'.get 1) k' ∧ (IsFn2 Tryz.prog eq_) (a'.get 2) k' ∧ (IsRef x1) (a'.get 8) k' ∧ (IsRef x2) (a'.get 9) k' ∧ (IsV s1_) (a'.get 15) k' ∧ (IsL s1_) (a'.get 16) k' ∧ (IsV s1) (a'.get 17) k' ∧ True) ?_ hQ ?_
   ·intro Q3 W3 w2
    refine gS 5 (_ :: _ :: _ :: _ :: ⟨some (IsBox k.w.heap.size (⟨[], []⟩ : Phase)), []⟩ :: []) hs (by kernel_rfl) ⟨mu rfl i1, mu rfl i7, o1 [(22, some 0), (23, some 1)] rfl fun _ _ h n => ok_indexAddr rfl Tryz.underlying52 ty73 (IsV.rd n.1) n.2.1 hx2, o1 [(24, some 2)] rfl fun _ _ h n => ok_load rfl ty73 n.1, ob1 rfl fun _ _ h n => ok_alloc _ h.size rfl z73, trivial⟩ W3 fun b q p => ?_
    have hgq := hg.then p.grow
    have hsb := p.size.trans hs
    have hdb := p.defers.trans hd
    have j1 := p.ke 1 rfl i1
    have j2 := p.ke 2 rfl i2
    have j8 := p.ke 8 rfl i8
    obtain ⟨b9, j9, x9, z9⟩ : (IsBox k.w.heap.size (⟨[], []⟩ : Phase)) (b.get 9) q := p.ou 4 9 rfl
    replace x9 : Lo k (Eq b9) := Lo.eq x9
    have y9 : Lo k0 (Eq b9) := x9.chg hg
    have j15 := p.ke 15 rfl i15
    have j16 := p.ke 16 rfl i16
    have j17 := p.ke 17 rfl i17
    have j25 : (IsV x2) (b.get 25) q := p.ou 3 25 rfl
    have hns := z9.nshF
    refine tail_storeB (i := 5) rfl rfl rfl rfl szf73 (Upd.self (α := Phase)) j9 z9 j25 fun q2 hch hz => ?_
    replace hgq := hgq.step hch y9.wr
    have hle := hch.le hns
    replace j1 := Pers.pers hle j1
    replace j2 := Pers.pers hle j2
    replace j8 := Pers.pers hle j8
    replace j15 := Pers.pers hle j15
    replace j16 := Pers.pers hle j16
    replace j17 := Pers.pers hle j17
    replace j25 := Pers.pers hle j25
    replace z9 := hz
    clear hns hle hch
    obtain ⟨q, hqq⟩ : ∃ q, q = q2 := ⟨q2, rfl⟩
    subst hqq
    obtain ⟨q2, hsh, jn⟩ := z9.give
    replace j1 := Pers.pers hsh.le j1
    replace j2 := Pers.pers hsh.le j2
    replace j8 := Pers.pers hsh.le j8
    replace j15 := Pers.pers hsh.le j15
    replace j16 := Pers.pers hsh.le j16
    replace j17 := Pers.pers hsh.le j17
    rw [← j9] at jn
    replace j9 := jn
    replace hgq := hgq.hand hsh y9.wr
    rw [← hsh.w]
    clear hsh
    obtain ⟨q, hqq⟩ : ∃ q, q = q2 := ⟨q2, rfl⟩
    subst hqq
    exact tail_done (k := q) (w2 _ _ ⟨⟨hgq, hsb, hdb⟩, j1, j2, j8, j9, j15, j16, j17, trivial⟩)
   rintro a k ⟨⟨hg, hs, hd⟩, i1, i2, i8, i9, i15, i16, i17, _⟩
   refine wp_seq ?_
   obtain ⟨x3, hx3, hr⟩ := bind_some hr
   refine cut (fun a' k' => Bs noF k0 32 a' k' ∧ (IsV s2_) (a'.get 1) k' ∧ (IsFn2 Tryz.prog eq_) (a'.get 2) k' ∧ (IsV s1_) (a'.get 15) k' ∧ (IsL s1_) (a'.get 16) k' ∧ (IsV s1) (a'.get 17) k' ∧ (IsV (!x3)) (a'.get 30) k' ∧ True) ?_ hQ ?_
   ·intro Q4 W4 w3
    refine gS 5 (_ :: _ :: _ :: ⟨some (IsV x3), [(26, some 0), (27, some 1), (28, some 2)]⟩ :: _ :: []) hs (by kernel_rfl) ⟨mu rfl i2, o1 [(8, none)] rfl fun _ _ h n => ok_load rfl ty73 ((up i8 h n.1)).ptr, o1 [(9, none)] rfl fun _ _ h n => ok_load rfl ty73 ((up i9 h n.1)).ptr, ob1 rfl fun _ _ h n => ok_callF2 rfl n.1 n.2.1 n.2.2.1 hx3, o1 [(29, some 3)] rfl fun _ _ h n => ok_not rfl n.1, trivial⟩ W4 fun b q p => ?_
    exact tail_done (k := q) (w3 _ _ ⟨Bs.post ⟨hg, hs, hd⟩ p, p.ke 1 rfl i1, p.ke 2 rfl i2, p.ke 15 rfl i15, p.ke 16 rfl i16, p.ke 17 rfl i17, p.ou 4 30 rfl, trivial⟩)
   rintro a k ⟨⟨hg, hs, hd⟩, i1, i2, i15, i16, i17, i30, _⟩
   refine wp_cond_split (isBool i30) (fun hc770 => ?_) (fun hc770 => ?_)
   ·rw [if_pos hc770] at hr
    refine stepL 1 (⟨some (IsV false), []⟩ :: []) rfl ⟨hg, hs, hd⟩ (by kernel_rfl) ⟨ob1 rfl fun _ _ h n => ok_assign rfl (isV_bool.2 rfl), trivial⟩ [⟨_, _⟩] (fun b q p => ⟨p.ou 0 6 rfl, trivial⟩) ?_
    rintro a k ⟨⟨hg, hs, hd⟩, i6, _⟩
    refine wp_ret ?_
    exact hret759 _ _ _ (Option.some.inj hr).symm (retC1 rfl hd hg i6)
   rw [if_neg (by rw [hc770]; decide)] at hr
   refine wp_skip ?_
   obtain ⟨x4, hx4, hr⟩ := bind_some hr
   refine cut (fun a' k' => Bs noF k0 32 a' k' ∧ (IsV s2_) (a'.get 1) k' ∧ (IsFn2 Tryz.prog eq_) (a'.get 2) k' ∧ (IsV s1_) (a'.get 15) k' ∧ (IsL s1_) (a'.get 16) k' ∧ (IsV x4) (a'.get 17) k' ∧ True) ?_ hQ ?_
   ·intro Q5 W5 w4
    refine gS 2 (_ :: _ :: []) hs (by kernel_rfl) ⟨o1 [(17, none)] rfl fun _ _ h n => ok_add rfl (up i17 h n.1) (cI rfl) hx4, cm 0 rfl rfl, trivial⟩ W5 fun b q p => ?_
    exact tail_done (k := q) (w4 _ _ ⟨Bs.post ⟨hg, hs, hd⟩ p, p.ke 1 rfl i1, p.ke 2 rfl i2, p.ke 15 rfl i15, p.ke 16 rfl i16, p.ou 1 17 rfl, trivial⟩)
   rintro a k ⟨⟨hg, hs, hd⟩, i1, i2, i15, i16, i17, _⟩
   exact hgo757 _ _ _ (Option.some.inj hr).symm ⟨⟨hg, hs, hd⟩, i1, i2, i15, i16, i17, trivial⟩
  rw [if_neg (by rw [hc777]; decide)] at hr
  refine wp_exit ?_
  exact hex758 _ _ _ _ (Option.some.inj hr).symm ⟨rfl, ⟨hg, hs, hd⟩, trivial⟩
 ·rintro r1 a k rfl hR
  dsimp only at hr
  obtain rfl := Option.some.inj hr
  exact hR
 ·rintro _ _ _ rfl _
  simp at hr
 clear hf1
 rintro _ s2 a k rfl ⟨rfl, ⟨hg, hs, hd⟩, _⟩
 dsimp only at hr
 refine stepL 1 (⟨some (IsV true), []⟩ :: []) rfl ⟨hg, hs, hd⟩ (by kernel_rfl) ⟨ob1 rfl fun _ _ h n => ok_assign rfl (isV_bool.2 rfl), trivial⟩ [⟨_, _⟩] (fun b q p => ⟨p.ou 0 6 rfl, trivial⟩) ?_
 rintro a k ⟨⟨hg, hs, hd⟩, i6, _⟩
 refine wp_ret ?_
 obtain rfl := Option.some.inj hr
 exact retC1 rfl hd hg i6
def dossier_lower (a_ : Volume) (b_ : Volume) : Option (Bool) :=
 if ((decide (b_.Box.Z1 < a_.Box.Z1)) || (decide (b_.Units < a_.Units))) then
  some false
 else
  some (decide ({ { a_ with Box := { a_.Box with Z1 := b_.Box.Z1 } } with Units := b_.Units } = b_))
theorem dossier_lower_ok {k0 : K} {v0 v1 : Value} {a_ : Volume} {b_ : Volume} {r : Bool} (i0 : (IsV a_) v0 k0) (i1 : (IsV b_) v1 k0) (hr : dossier_lower a_ b_ = some r) :
  Calls Tryz.prog 60 #[v0, v1] k0.w (Ret k0 (IsV r)) := by
 unfold dossier_lower at hr
 refine Ret.ofC ?_
 refine enterK Tryz.func60 rfl Tryz.ntmps60 (show 2 ≤ 30 by decide) fun a k hk0 hs hd ha => ?_
 obtain ⟨e0, e1, _⟩ := ha
 replace i0 : (IsV a_) (a.get 0) k := by rw [e0, hk0]; exact i0
 replace i1 : (IsV b_) (a.get 1) k := by rw [e1, hk0]; exact i1
 have hQ : Gb.LetsOut (bodyPost Tryz.prog Tryz.f60 (RetC noF k0 (IsV r))) := letsOutC
 have hg : Chg noF k0 k := by rw [hk0]; exact Chg.refl _ k0
 refine cutS (fun c l => Bs noF k0 30 c l ∧ IsRef b_ (c.get 3) l ∧ (∃ b2, c.get 2 = .pointer (some ⟨b2, 0, none⟩) ∧ Lo k0 (Eq b2) ∧ Gb.Box b2 a_ l ∧ True)) ?_ ?_
 ·intro Q1 W1 w1
  refine gS 3 (⟨some (IsBox k.w.heap.size a_), [(0, none)]⟩ :: ⟨some (IsRef b_), [(1, none)]⟩ :: ⟨some (IsV false), []⟩ :: []) hs (by kernel_rfl) ⟨ob1 rfl fun _ _ h n => ok_box _ h.size rfl (up i0 h n.1), ob1 rfl fun _ _ h n => ok_boxR rfl (up i1 h n.1), ob1 rfl fun _ _ h n => ok_assign rfl (isV_bool.2 rfl), trivial⟩ W1 fun b q p => ?_
  have hgq := hg.then p.grow
  have hsb := p.size.trans hs
  have hdb := p.defers.trans hd
  obtain ⟨b2, j2, x2, z2⟩ : (IsBox k.w.heap.size a_) (b.get 2) q := p.ou 0 2 rfl
  replace x2 : Lo k (Eq b2) := Lo.eq x2
  have y2 : Lo k0 (Eq b2) := x2.chg hg
  have j3 : (IsRef b_) (b.get 3) q := p.ou 1 3 rfl
  exact tail_done (k := q) (w1 _ _ ⟨⟨hgq, hsb, hdb⟩, j3, b2, j2, y2, z2, trivial⟩)
 rintro a k ⟨⟨hg, hs, hd⟩, i3, b2, i2, n2, c2, _⟩
 refine wp_seq ?_
 refine cutS (fun c l => Bs noF k0 30 c l ∧ c.get 2 = .pointer (some ⟨b2, 0, none⟩) ∧ Lo k0 (Eq b2) ∧ Gb.Box b2 a_ l ∧ IsRef b_ (c.get 3) l ∧ (IsV ((decide (b_.Box.Z1 < a_.Box.Z1)) || (decide (b_.Units < a_.Units)))) (c.get 18) l ∧ True) ?_ ?_
 ·intro Q2 W2 w2
  refine gS 14 (_ :: _ :: _ :: _ :: _ :: _ :: _ :: _ :: _ :: _ :: _ :: _ :: _ :: _ :: []) hs (by kernel_rfl) ⟨o1 [(2, none)] rfl fun _ _ h n => ok_fieldAddr rfl fo81_0 (at_Volume_0 _) ⟨_, (upE i2 n.1), (c2.grow h).at⟩, o1 [(5, some 0)] rfl fun _ _ h n => ok_fieldAddr rfl fo79_2 (at_Box_2 _) n.1, o1 [(6, some 1)] rfl fun _ _ h n => ok_load rfl ty3 n.1, o1 [(3, none)] rfl fun _ _ h n => ok_fieldAddr rfl fo81_0 (at_Volume_0 _) ((up i3 h n.1)).ptr, o1 [(8, some 3)] rfl fun _ _ h n => ok_fieldAddr rfl fo79_2 (at_Box_2 _) n.1, o1 [(9, some 4)] rfl fun _ _ h n => ok_load rfl ty3 n.1, o1 [(7, some 2), (10, some 5)] rfl fun _ _ h n => ok_gtr rfl n.1 n.2.1, cm 6 rfl rfl, gF [(2, none)] rfl rfl fun hp _ _ h n => ok_fieldAddr rfl fo81_2 (at_Volume_2 _) ⟨_, (upE i2 n.1), (c2.grow h).at⟩, gF [(13, some 8)] rfl rfl fun hp _ _ h n => ok_load rfl ty3 (Gd.get n.1 hp), gF [(3, none)] rfl rfl fun hp _ _ h n => ok_fieldAddr rfl fo81_2 (at_Volume_2 _) ((up i3 h n.1)).ptr, gF [(15, some 10)] rfl rfl fun hp _ _ h n => ok_load rfl ty3 (Gd.get n.1 hp), gF [(14, some 9), (16, some 11)] rfl rfl fun hp _ _ h n => ok_gtr rfl (Gd.get n.1 hp) (Gd.get n.2.1 hp), o1 [(12, some 7), (17, some 12)] rfl fun _ _ h n => ok_pickOr rfl n.1 (cB rfl) (Gd.get n.2.1), trivial⟩ W2 fun b q p => ?_
  exact tail_done (k := q) (w2 _ _ ⟨Bs.post ⟨hg, hs, hd⟩ p, upE i2 (p.old 2 rfl), n2, Gb.Box.grow c2 p.grow, p.ke 3 rfl i3, p.ou 13 18 rfl, trivial⟩)
 rintro a k ⟨⟨hg, hs, hd⟩, i2, n2, c2, i3, i18, _⟩
 refine wp_cond_split (isBool i18) (fun hc805 => ?_) (fun hc805 => ?_)
 ·rw [if_pos hc805] at hr
  refine stepL 1 (⟨some (IsV false), []⟩ :: []) rfl ⟨hg, hs, hd⟩ (by kernel_rfl) ⟨ob1 rfl fun _ _ h n => ok_assign rfl (isV_bool.2 rfl), trivial⟩ [⟨_, _⟩] (fun b q p => ⟨p.ou 0 4 rfl, trivial⟩) ?_
  rintro a k ⟨⟨hg, hs, hd⟩, i4, _⟩
  refine wp_ret ?_
  obtain rfl := Option.some.inj hr
  exact retC1 rfl hd hg i4
 rw [if_neg (by rw [hc805]; decide)] at hr
 refine wp_skip ?_
 refine cutS (fun c l => Bs noF k0 30 c l ∧ c.get 2 = .pointer (some ⟨b2, 0, none⟩) ∧ Lo k0 (Eq b2) ∧ Gb.Box b2 ({ { a_ with Box := { a_.Box with Z1 := b_.Box.Z1 } } with Units := b_.Units }) l ∧ IsRef b_ (c.get 3) l ∧ True) ?_ ?_
 ·intro Q3 W3 w3
  refine regionX (m := 7) (es := ⟨some (IsRef b_.Box), [(3, none)]⟩ :: ⟨some (IsRef b_.Box.Z1), [(19, some 0)]⟩ :: ⟨some (IsV b_.Box.Z1), [(20, some 1)]⟩ :: ⟨some (IsRef b_.Units), [(3, none)]⟩ :: ⟨some (IsV b_.Units), [(22, some 3)]⟩ :: ⟨some (IsAdr b2 (0)), [(2, none)]⟩ :: ⟨some (IsAdr b2 (0 + 5)), [(24, some 5)]⟩ :: []) (pt := 25) (yt := 21) (jp := 6) (jy := 2) hmix hs (by kernel_rfl) c2 ⟨fun _ _ _ h => Pers.pers h, fun _ _ _ h => Pers.pers h, fun _ _ _ h => Pers.pers h, fun _ _ _ h => Pers.pers h, fun _ _ _ h => Pers.pers h, fun _ _ _ h => Pers.pers h, fun _ _ _ h => Pers.pers h, trivial⟩ (fun kb hle => by
   have i3 := Pers.pers hle i3
   exact ⟨ob1 rfl fun b q hk hn => ok_fieldRef rfl fo81_0 (at_Volume_0 _) (up i3 hk hn.1), ob1 rfl fun b q hk hn => ok_fieldRef rfl fo79_2 (at_Box_2 _) hn.1, ob1 rfl fun b q hk hn => ok_load rfl ty3 (IsRef.ptr hn.1), ob1 rfl fun b q hk hn => ok_fieldRef rfl fo81_2 (at_Volume_2 _) (up i3 hk hn.1), ob1 rfl fun b q hk hn => ok_load rfl ty3 (IsRef.ptr hn.1), ob1 rfl fun b q hk hn => ok_fieldAdr rfl fo81_0 (upE i2 hn.1), ob1 rfl fun b q hk hn => ok_fieldAdr2 rfl fo79_2 hn.1, trivial⟩)
   rfl rfl rfl rfl rfl rfl (by kernel_rfl) rfl rfl (by kernel_rfl) szf3 upd_F81_0_F79_2 fun k1 kb b q gk hch p z2 => ?_
  have hgq := ((hg.then gk).step hch n2.wr).then p.grow
  have hsb := p.size.trans hs
  have hdb := p.defers.trans hd
  replace i3 := Pers.pers (gk.le.trans (hch.le (c2.grow gk).nshF)) i3
  have j2 := upE i2 (p.old 2 rfl)
  have y2 := n2
  have j3 := p.ke 3 rfl i3
  have j21 : (IsV b_.Box.Z1) (b.get 21) q := p.ou 2 21 rfl
  have j23 : (IsV b_.Units) (b.get 23) q := p.ou 4 23 rfl
  have j25 : IsAdr b2 (0 + 5) (b.get 25) q := p.ou 6 25 rfl
  clear hch gk
  refine tail_does (R := IsAdr b2 (7)) (i := 8) (d := 26) rfl rfl rfl (by rw [hsb]; decide) W3 (ok_fieldAdr rfl fo81_2 j2) fun b2 q2 hsz hdf hoth hgr hnew => ?_
  replace z2 := z2.grow hgr
  replace j3 := Pers.pers hgr.le j3
  replace j21 := Pers.pers hgr.le j21
  replace j23 := Pers.pers hgr.le j23
  replace j25 := Pers.pers hgr.le j25
  replace hgq := hgq.then hgr
  rw [← hoth 2 (by decide)] at j2
  rw [← hoth 3 (by decide)] at j3
  rw [← hoth 21 (by decide)] at j21
  rw [← hoth 23 (by decide)] at j23
  rw [← hoth 25 (by decide)] at j25
  have j26 := hnew
  replace hsb := hsz.trans hsb
  replace hdb := hdf.trans hdb
  clear hgr hsz hdf hoth hnew
  obtain ⟨b, hbb⟩ : ∃ b, b = b2 := ⟨b2, rfl⟩
  subst hbb
  obtain ⟨q, hqq⟩ : ∃ q, q = q2 := ⟨q2, rfl⟩
  subst hqq
  have hns := z2.nshF
  refine tail_storeB (i := 9) rfl rfl rfl rfl szf3 upd_F81_2 j26 z2 j23 fun q2 hch hz => ?_
  replace hgq := hgq.step hch y2.wr
  have hle := hch.le hns
  replace j3 := Pers.pers hle j3
  replace j21 := Pers.pers hle j21
  replace j23 := Pers.pers hle j23
  replace j25 := Pers.pers hle j25
  replace j26 := Pers.pers hle j26
  replace z2 := hz
  clear hns hle hch
  obtain ⟨q, hqq⟩ : ∃ q, q = q2 := ⟨q2, rfl⟩
  subst hqq
  exact tail_done (k := q) (w3 _ _ ⟨⟨hgq, hsb, hdb⟩, j2, y2, z2, j3, trivial⟩)
 rintro a k ⟨⟨hg, hs, hd⟩, i2, n2, c2, i3, _⟩
 refine stepL 4 (_ :: _ :: ⟨some (IsV (decide ({ { a_ with Box := { a_.Box with Z1 := b_.Box.Z1 } } with Units := b_.Units } = b_))), [(27, some 0), (28, some 1)]⟩ :: _ :: []) rfl ⟨hg, hs, hd⟩ (by kernel_rfl) ⟨o1 [(2, none)] rfl fun _ _ h n => ok_load rfl ty81 ⟨_, (upE i2 n.1), (c2.grow h).at⟩, o1 [(3, none)] rfl fun _ _ h n => ok_load rfl ty81 ((up i3 h n.1)).ptr, ob1 rfl fun _ _ h n => ok_eqA rfl eq81 n.1 n.2.1, cp 2 rfl rfl, trivial⟩ [⟨_, _⟩] (fun b q p => ⟨p.ou 3 4 rfl, trivial⟩) ?_
 rintro a k ⟨⟨hg, hs, hd⟩, i4, _⟩
 refine wp_ret ?_
 obtain rfl := Option.some.inj hr
 exact retC1 rfl hd hg i4
noncomputable def k60 := mkO 60 [.st 0, .st 0] [.bool] (fun x => dossier_lower x.1 x.2) Tryz.call60 fun k0 vs x r hG h hr => by obtain ⟨v0, vs, rfl, i0, h⟩ := h.cons; obtain ⟨v1, rfl, i1⟩ := h.one; exact dossier_lower_ok i0 i1 hr
def slices_Equal_Entry_L0 (s1_ : (List Entry)) (s2_ : (List Entry)) (s1 : Int) : Option (Flow (Int) (Bool)) :=
 if (decide (s1 < (s1_.length : Int))) then
  (getI s1_ s1).bind fun x1 =>
  (getI s2_ s1).bind fun x2 =>
  if (!decide (x1 = x2)) then
   some (.ret false)
  else
   (addI s1 1).bind fun x3 =>
   some (.go x3)
 else
  some (.ex 0 s1)
def slices_Equal_Entry (s1_ : (List Entry)) (s2_ : (List Entry)) : Option (Bool) :=
 if ((s1_.length : Int) != (s2_.length : Int)) then
  some false
 else
  (iterL (slices_Equal_Entry_L0 s1_ s2_) (s1_.length + 1) 0).bind fun f1 => match f1 with
   | .go _ => none
   | .ex _ _ =>
    some true
   | .ret r1 => some r1
noncomputable def k61 := mk 61 [.list (.st 5), .list (.st 5)] [.bool] (fun x => slices_Equal_Entry x.1 x.2) [] [] Tryz.f61 (.s .n (.s .n (.s (.s .n (.l [] [(13, .v .int)] [(0, [13], [])] (fI 12) .n)) .n))) Tryz.func61 Tryz.call61 rfl rfl fun x => by kernel_rfl
def dossier_takes_L0 (b_ : Phase) (s1 : (List Volume) × Int) : Option (Flow ((List Volume) × Int) (Bool)) :=
 if (decide (s1.2 < (b_.Volumes.length : Int))) then
  (getI b_.Volumes s1.2).bind fun x1 =>
  (if (decide (0 < (s1.1.length : Int))) then
   (getI s1.1 0).bind fun x2 =>
   (dossier_lower x2 x1).bind fun x3 =>
   some x3
  else
   some false).bind fun x4 =>
  (if x4 then
   (sliceI s1.1 1 (s1.1.length : Int)).bind fun x5 =>
   some x5
  else
   some s1.1).bind fun s2 =>
  (addI s1.2 1).bind fun x6 =>
  some (.go (s2, x6))
 else
  some (.ex 0 (s1.1, s1.2))
def dossier_takes (a_ : Phase) (b_ : Phase) : Option (Bool) :=
 (iterL (dossier_takes_L0 b_) (b_.Volumes.length + 1) (a_.Volumes, 0)).bind fun f1 => match f1 with
  | .go _ => none
  | .ex _ s1 =>
   (if ((s1.1.length : Int) == 0) then
    (slices_Equal_Entry a_.Gives b_.Gives).bind fun x1 =>
    some x1
   else
    some false).bind fun x2 =>
   some x2
  | .ret r1 => some r1
noncomputable def k35 := mk 35 [.st 4, .st 4] [.bool] (fun x => dossier_takes x.1 x.2) [k60, k61] [] Tryz.f35 (.s .n (.s .n (.s (.s .n (.l [] [(5, .v (.list (.st 0))), (13, .v .int)] [(0, [13], [])] (fI 12) (.s .n (.s .n (.s (.s .n (.s .n (.j [] [(5, .v (.list (.st 0)))] ([], []) (.s .n .n)))) .n))))) .n))) Tryz.func35 Tryz.call35 rfl rfl fun x => by kernel_rfl
theorem dossier_takes_ok {k0 : K} {v0 v1 : Value} {x0 : Phase} {x1 : Phase} {r : Bool} (i0 : IsV x0 v0 k0) (i1 : IsV x1 v1 k0) (hr : dossier_takes x0 x1 = some r) : Calls Tryz.prog 35 #[v0, v1] k0.w (Ret k0 (IsV r)) := (k35.ok.ok k0 [v0, v1] (x0, x1) r (GOk.none (fun _ => rfl) fun _ e => by cases e) ⟨i0, i1⟩ hr)
def dossier_Less_1 (x_ : Drawing) (y_ : Drawing) : Option (Bool) :=
 (if (x_.Lot == y_.Lot) then
  (slices_EqualFunc_Phase_Phase_Phase x_.Phases y_.Phases dossier_takes).bind fun x1 =>
  some x1
 else
  some false).bind fun x2 =>
 some x2
theorem dossier_Less_1_ok {k0 : K} {v0 v1 : Value} {x_ : Drawing} {y_ : Drawing} {r : Bool} (i0 : (IsV x_) v0 k0) (i1 : (IsV y_) v1 k0) (hr : dossier_Less_1 x_ y_ = some r) :
  Calls Tryz.prog 33 #[v0, v1] k0.w (Ret k0 (IsV r)) := by
 unfold dossier_Less_1 at hr
 refine Ret.ofC ?_
 refine enterK Tryz.func33 rfl Tryz.ntmps33 (show 2 ≤ 17 by decide) fun a k hk0 hs hd ha => ?_
 obtain ⟨e0, e1, _⟩ := ha
 replace i0 : (IsV x_) (a.get 0) k := by rw [e0, hk0]; exact i0
 replace i1 : (IsV y_) (a.get 1) k := by rw [e1, hk0]; exact i1
 have hQ : Gb.LetsOut (bodyPost Tryz.prog Tryz.f33 (RetC noF k0 (IsV r))) := letsOutC
 have hg : Chg noF k0 k := by rw [hk0]; exact Chg.refl _ k0
 refine stepL 3 (⟨some (IsRef x_), [(0, none)]⟩ :: ⟨some (IsRef y_), [(1, none)]⟩ :: ⟨some (IsV false), []⟩ :: []) rfl ⟨hg, hs, hd⟩ (by kernel_rfl) ⟨ob1 rfl fun _ _ h n => ok_boxR rfl (up i0 h n.1), ob1 rfl fun _ _ h n => ok_boxR rfl (up i1 h n.1), ob1 rfl fun _ _ h n => ok_assign rfl (isV_bool.2 rfl), trivial⟩ [⟨_, _⟩, ⟨_, _⟩] (fun b q p => ⟨p.ou 0 2 rfl, p.ou 1 3 rfl, trivial⟩) ?_
 rintro a k ⟨⟨hg, hs, hd⟩, i2, i3, _⟩
 refine wp_seq ?_
 obtain ⟨x1, hx1, hr⟩ := bind_some hr
 obtain ⟨x2, hx2, hx1⟩ := ite_bind hx1
 refine cut (fun a' k' => Bs noF k0 17 a' k' ∧ (IsV x1) (a'.get 4) k' ∧ True) ?_ hQ ?_
 ·intro Q1 W1 w1
  refine gS 13 (_ :: _ :: _ :: _ :: _ :: _ :: _ :: _ :: _ :: _ :: _ :: _ :: _ :: []) hs (by kernel_rfl) ⟨o1 [(2, none)] rfl fun _ _ h n => ok_fieldAddr rfl fo54_0 (at_Drawing_0 _) ((up i2 h n.1)).ptr, o1 [(5, some 0)] rfl fun _ _ h n => ok_load rfl ty3 n.1, o1 [(3, none)] rfl fun _ _ h n => ok_fieldAddr rfl fo54_0 (at_Drawing_0 _) ((up i3 h n.1)).ptr, o1 [(7, some 2)] rfl fun _ _ h n => ok_load rfl ty3 n.1, o1 [(6, some 1), (8, some 3)] rfl fun _ _ h n => ok_eqI rfl n.1 n.2.1, cm 4 rfl rfl, gT [(2, none)] rfl rfl fun hp _ _ h n => ok_fieldAddr rfl fo54_1 (at_Drawing_1 _) ((up i2 h n.1)).ptr, gT [(11, some 6)] rfl rfl fun hp _ _ h n => ok_load rfl ty52 (Gd.get n.1 hp), gT [(3, none)] rfl rfl fun hp _ _ h n => ok_fieldAddr rfl fo54_1 (at_Drawing_1 _) ((up i3 h n.1)).ptr, gT [(13, some 8)] rfl rfl fun hp _ _ h n => ok_load rfl ty52 (Gd.get n.1 hp), gT [(12, some 7), (14, some 9)] rfl rfl fun hp _ _ h n => ok_call rfl Tryz.call34 (slices_EqualFunc_Phase_Phase_Phase_ok (Gd.get n.1 hp) (Gd.get n.2.1 hp) ⟨35, _, _, rfl, Tryz.call35, fun k9 hk9 _ _ _ _ _ hx0 hx1 hy9 => by simpa [evalT] using dossier_takes_ok hx0 hx1 hy9⟩ (hx2 hp)), o1 [(10, some 5), (15, some 10)] rfl fun _ _ h n => ok_pickM rfl n.1 hx1 (Gd.get n.2.1) (cB rfl), cp 11 rfl rfl, trivial⟩ W1 fun b q p => ?_
  exact tail_done (k := q) (w1 _ _ ⟨Bs.post ⟨hg, hs, hd⟩ p, p.ou 12 4 rfl, trivial⟩)
 rintro a k ⟨⟨hg, hs, hd⟩, i4, _⟩
 refine wp_ret ?_
 obtain rfl := Option.some.inj hr
 exact retC1 rfl hd hg i4
end Go.Proofs.YtachpkjjlebadaaGreat
