/- What the functions compute that the law reaches, part 4 -/
import Derived.Test.YtpbeebhapbibfaaGreatDoorT3
namespace Go.Proofs.YtpbeebhapbibfaaGreatDoor
open Go.Gb
set_option linter.unusedVariables false
set_option linter.unusedSimpArgs false
set_option maxRecDepth 100000
def solid_Section (s_ : (List Slab)) (z_ : Int) : Option ((List Rect)) :=
 (solid_Right s_).bind fun x1 =>
 if (!x1) then
  some ([] : List Rect)
 else
  (solid_at s_ z_).bind fun x2 =>
  (slices_Clone_Rect x2).bind fun x3 =>
  some x3
noncomputable def k58 := mk 58 [.list (.st 3), .int] [.list (.st 0)] (fun x => solid_Section x.1 x.2) [k34, k79, k84] [] Tryz.f58 (.n) Tryz.func58 Tryz.call58 rfl rfl fun x => by kernel_rfl
def slices_IndexFunc_Rect_L0 (s_ : (List Rect)) (f_ : (Rect → Option (Bool))) (s1 : Int) : Option (Flow (Int) (Int)) :=
 if (decide (s1 < (s_.length : Int))) then
  (getI s_ s1).bind fun x1 =>
  (f_ x1).bind fun x2 =>
  if x2 then
   some (.ret s1)
  else
   (addI s1 1).bind fun x3 =>
   some (.go x3)
 else
  some (.ex 0 s1)
def slices_IndexFunc_Rect (s_ : (List Rect)) (f_ : (Rect → Option (Bool))) : Option (Int) :=
 (iterL (slices_IndexFunc_Rect_L0 s_ f_) (s_.length + 1) 0).bind fun f1 => match f1 with
  | .go _ => none
  | .ex _ _ =>
   some (-1)
  | .ret r1 => some r1
theorem slices_IndexFunc_Rect_ok {k0 : K} {v0 v1 : Value} {s_ : (List Rect)} {f_ : (Rect → Option (Bool))} {r : Int} (i0 : (IsV s_) v0 k0) (i1 : (IsFn1 Tryz.prog f_) v1 k0) (hr : slices_IndexFunc_Rect s_ f_ = some r) :
  Calls Tryz.prog 96 #[v0, v1] k0.w (Ret k0 (IsV r)) := by
 unfold slices_IndexFunc_Rect at hr
 refine Ret.ofC ?_
 refine enterK Tryz.func96 rfl Tryz.ntmps96 (show 2 ≤ 19 by decide) fun a k hk0 hs hd ha => ?_
 obtain ⟨e0, e1, _⟩ := ha
 replace i0 : (IsV s_) (a.get 0) k := by rw [e0, hk0]; exact i0
 replace i1 : (IsFn1 Tryz.prog f_) (a.get 1) k := by rw [e1, hk0]; exact i1
 have hQ : Gb.LetsOut (bodyPost Tryz.prog Tryz.f96 (RetC noF k0 (IsV r))) := letsOutC
 have hg : Chg noF k0 k := by rw [hk0]; exact Chg.refl _ k0
 refine stepL 1 (⟨some (IsI 0), []⟩ :: []) rfl ⟨hg, hs, hd⟩ (by kernel_rfl) ⟨aI rfl rfl, trivial⟩ [⟨_, _⟩, ⟨_, _⟩] (fun b q p => ⟨p.ke 0 rfl i0, p.ke 1 rfl i1, trivial⟩) ?_
 rintro a k ⟨⟨hg, hs, hd⟩, i0, i1, _⟩
 refine wp_seq ?_
 refine stepL 3 (_ :: _ :: ⟨some (IsI 0), []⟩ :: []) rfl ⟨hg, hs, hd⟩ (by kernel_rfl) ⟨mu rfl i0, o1 [(6, some 0)] rfl fun _ _ h n => ok_len rfl rfl Tryz.underlying36 (IsV.rd n.1), ob1 rfl fun _ _ h n => ok_move rfl (cI rfl), trivial⟩ [⟨_, _⟩, ⟨_, _⟩, ⟨_, _⟩, ⟨_, _⟩] (fun b q p => ⟨p.ke 0 rfl i0, p.ke 1 rfl i1, p.ou 1 7 rfl, p.ou 2 8 rfl, trivial⟩) ?_
 rintro a k ⟨⟨hg, hs, hd⟩, i0, i1, i7, i8, _⟩
 refine wp_block ?_
 obtain ⟨f1, hf1, hr⟩ := bind_some hr
 refine cutFe f1 (fun s' c l => Bs noF k0 19 c l ∧ IsV s_ (c.get 0) l ∧ IsFn1 Tryz.prog f_ (c.get 1) l ∧ IsL s_ (c.get 7) l ∧ IsV s' (c.get 8) l ∧ True) (fun i' s' c l => (i' = 0 ∧ Bs noF k0 19 c l ∧ True)) (fun r' c l => bodyPost Tryz.prog Tryz.f96 (RetC noF k0 (IsV r')) .ret c l.w) ?_ hQ ?_ ?_ ?_
 ·intro Q1 W1 hgo hex hret
  refine sim_loop ?_ _ _ _ _ _ hf1 ⟨⟨hg, hs, hd⟩, i0, i1, i7, i8, trivial⟩ Q1 W1 hgo hex hret
  clear hr hf1 hgo hex hret W1 hQ hg hs hd i0 i1 i7 i8
  intro s1 fl_ a k hr hS Q hQ hgo1960 hex1961 hret1962
  obtain ⟨⟨hg, hs, hd⟩, i0, i1, i7, i8, _⟩ := hS
  unfold slices_IndexFunc_Rect_L0 at hr
  refine stepL 1 (_ :: []) rfl ⟨hg, hs, hd⟩ (by kernel_rfl) ⟨o1 [(8, none), (7, none)] rfl fun _ _ h n => ok_lss rfl (up i8 h n.1) (up i7 h n.2.1), trivial⟩ [⟨_, _⟩, ⟨_, _⟩, ⟨_, _⟩, ⟨_, _⟩, ⟨_, _⟩] (fun b q p => ⟨p.ke 0 rfl i0, p.ke 1 rfl i1, p.ke 7 rfl i7, p.ke 8 rfl i8, p.ou 0 9 rfl, trivial⟩) ?_
  rintro a k ⟨⟨hg, hs, hd⟩, i0, i1, i7, i8, i9, _⟩
  refine wp_seq ?_
  refine wp_cond_split (isBool i9) (fun hc1977 => ?_) (fun hc1977 => ?_)
  ·rw [if_pos hc1977] at hr
   refine wp_skip ?_
   refine wp_seq ?_
   refine wp_block ?_
   refine stepL 2 (_ :: _ :: []) rfl ⟨hg, hs, hd⟩ (by kernel_rfl) ⟨mu rfl i8, cp 0 rfl rfl, trivial⟩ [⟨_, _⟩, ⟨_, _⟩, ⟨_, _⟩, ⟨_, _⟩, ⟨_, _⟩] (fun b q p => ⟨p.ke 0 rfl i0, p.ke 1 rfl i1, p.ou 1 5 rfl, p.ke 7 rfl i7, p.ke 8 rfl i8, trivial⟩) ?_
   rintro a k ⟨⟨hg, hs, hd⟩, i0, i1, i5, i7, i8, _⟩
   refine wp_seq ?_
   obtain ⟨x1, hx1, hr⟩ := bind_some hr
   obtain ⟨x2, hx2, hr⟩ := bind_some hr
   refine cut (fun a' k' => Bs noF k0 19 a' k' ∧ (IsV s_) (a'.get 0) k' ∧ (IsFn1 Tryz.prog f_) (a'.get 1) k' ∧ (IsV s1) (a'.get 5) k' ∧ (IsL s_) (a'.get 7) k' ∧ (IsV s1) (a'.get 8) k' ∧ (IsV x2) (a'.get 16) k' ∧ True) ?_ hQ ?_
   ·intro Q2 W2 w1
    refine gS 6 (_ :: _ :: _ :: _ :: _ :: ⟨some (IsV x2), [(11, some 0), (15, some 4)]⟩ :: []) hs (by kernel_rfl) ⟨mu rfl i1, mu rfl i0, mu rfl i5, o1 [(12, some 1), (13, some 2)] rfl fun _ _ h n => ok_indexAddr rfl Tryz.underlying36 ty23 (IsV.rd n.1) n.2.1 hx1, o1 [(14, some 3)] rfl fun _ _ h n => ok_load rfl ty23 n.1, ob1 rfl fun _ _ h n => ok_callF1 rfl n.1 n.2.1 hx2, trivial⟩ W2 fun b q p => ?_
    exact tail_done (k := q) (w1 _ _ ⟨Bs.post ⟨hg, hs, hd⟩ p, p.ke 0 rfl i0, p.ke 1 rfl i1, p.ke 5 rfl i5, p.ke 7 rfl i7, p.ke 8 rfl i8, p.ou 5 16 rfl, trivial⟩)
   rintro a k ⟨⟨hg, hs, hd⟩, i0, i1, i5, i7, i8, i16, _⟩
   refine wp_cond_split (isBool i16) (fun hc1972 => ?_) (fun hc1972 => ?_)
   ·rw [if_pos hc1972] at hr
    refine stepL 2 (_ :: _ :: []) rfl ⟨hg, hs, hd⟩ (by kernel_rfl) ⟨mu rfl i5, cp 0 rfl rfl, trivial⟩ [⟨_, _⟩] (fun b q p => ⟨p.ou 1 4 rfl, trivial⟩) ?_
    rintro a k ⟨⟨hg, hs, hd⟩, i4, _⟩
    refine wp_ret ?_
    exact hret1962 _ _ _ (Option.some.inj hr).symm (retC1 rfl hd hg i4)
   rw [if_neg (by rw [hc1972]; decide)] at hr
   refine wp_skip ?_
   obtain ⟨x3, hx3, hr⟩ := bind_some hr
   refine cut (fun a' k' => Bs noF k0 19 a' k' ∧ (IsV s_) (a'.get 0) k' ∧ (IsFn1 Tryz.prog f_) (a'.get 1) k' ∧ (IsL s_) (a'.get 7) k' ∧ (IsV x3) (a'.get 8) k' ∧ True) ?_ hQ ?_
   ·intro Q3 W3 w2
    refine gS 2 (_ :: _ :: []) hs (by kernel_rfl) ⟨o1 [(8, none)] rfl fun _ _ h n => ok_add rfl (up i8 h n.1) (cI rfl) hx3, cm 0 rfl rfl, trivial⟩ W3 fun b q p => ?_
    exact tail_done (k := q) (w2 _ _ ⟨Bs.post ⟨hg, hs, hd⟩ p, p.ke 0 rfl i0, p.ke 1 rfl i1, p.ke 7 rfl i7, p.ou 1 8 rfl, trivial⟩)
   rintro a k ⟨⟨hg, hs, hd⟩, i0, i1, i7, i8, _⟩
   exact hgo1960 _ _ _ (Option.some.inj hr).symm ⟨⟨hg, hs, hd⟩, i0, i1, i7, i8, trivial⟩
  rw [if_neg (by rw [hc1977]; decide)] at hr
  refine wp_exit ?_
  exact hex1961 _ _ _ _ (Option.some.inj hr).symm ⟨rfl, ⟨hg, hs, hd⟩, trivial⟩
 ·rintro r1 a k rfl hR
  dsimp only at hr
  obtain rfl := Option.some.inj hr
  exact hR
 ·rintro _ _ _ rfl _
  simp at hr
 clear hf1
 rintro _ s2 a k rfl ⟨rfl, ⟨hg, hs, hd⟩, _⟩
 dsimp only at hr
 refine stepL 1 (⟨some (IsI (-1)), []⟩ :: []) rfl ⟨hg, hs, hd⟩ (by kernel_rfl) ⟨aI rfl rfl, trivial⟩ [⟨_, _⟩] (fun b q p => ⟨p.ou 0 4 rfl, trivial⟩) ?_
 rintro a k ⟨⟨hg, hs, hd⟩, i4, _⟩
 refine wp_ret ?_
 obtain rfl := Option.some.inj hr
 exact retC1 rfl hd hg i4
def slices_ContainsFunc_Rect (s_ : (List Rect)) (f_ : (Rect → Option (Bool))) : Option (Bool) :=
 (slices_IndexFunc_Rect s_ f_).bind fun x1 =>
 some (decide (0 ≤ x1))
theorem slices_ContainsFunc_Rect_ok {k0 : K} {v0 v1 : Value} {s_ : (List Rect)} {f_ : (Rect → Option (Bool))} {r : Bool} (i0 : (IsV s_) v0 k0) (i1 : (IsFn1 Tryz.prog f_) v1 k0) (hr : slices_ContainsFunc_Rect s_ f_ = some r) :
  Calls Tryz.prog 82 #[v0, v1] k0.w (Ret k0 (IsV r)) := by
 unfold slices_ContainsFunc_Rect at hr
 refine Ret.ofC ?_
 refine enterK Tryz.func82 rfl Tryz.ntmps82 (show 2 ≤ 9 by decide) fun a k hk0 hs hd ha => ?_
 obtain ⟨e0, e1, _⟩ := ha
 replace i0 : (IsV s_) (a.get 0) k := by rw [e0, hk0]; exact i0
 replace i1 : (IsFn1 Tryz.prog f_) (a.get 1) k := by rw [e1, hk0]; exact i1
 have hQ : Gb.LetsOut (bodyPost Tryz.prog Tryz.f82 (RetC noF k0 (IsV r))) := letsOutC
 have hg : Chg noF k0 k := by rw [hk0]; exact Chg.refl _ k0
 refine stepL 1 (⟨some (IsV false), []⟩ :: []) rfl ⟨hg, hs, hd⟩ (by kernel_rfl) ⟨ob1 rfl fun _ _ h n => ok_assign rfl (isV_bool.2 rfl), trivial⟩ [⟨_, _⟩, ⟨_, _⟩] (fun b q p => ⟨p.ke 0 rfl i0, p.ke 1 rfl i1, trivial⟩) ?_
 rintro a k ⟨⟨hg, hs, hd⟩, i0, i1, _⟩
 refine wp_seq ?_
 obtain ⟨x1, hx1, hr⟩ := bind_some hr
 refine cut (fun a' k' => Bs noF k0 9 a' k' ∧ (IsV (decide (0 ≤ x1))) (a'.get 4) k' ∧ True) ?_ hQ ?_
 ·intro Q1 W1 w1
  refine gS 5 (_ :: _ :: _ :: _ :: _ :: []) hs (by kernel_rfl) ⟨mu rfl i0, mu rfl i1, o1 [(5, some 0), (6, some 1)] rfl fun _ _ h n => ok_call rfl Tryz.call96 (slices_IndexFunc_Rect_ok n.1 n.2.1 hx1), o1 [(7, some 2)] rfl fun _ _ h n => ok_geq rfl n.1 (cI rfl), cp 3 rfl rfl, trivial⟩ W1 fun b q p => ?_
  exact tail_done (k := q) (w1 _ _ ⟨Bs.post ⟨hg, hs, hd⟩ p, p.ou 4 4 rfl, trivial⟩)
 rintro a k ⟨⟨hg, hs, hd⟩, i4, _⟩
 refine wp_ret ?_
 obtain rfl := Option.some.inj hr
 exact retC1 rfl hd hg i4
def region_Has_1 (r_ : Rect) (p1_ : Int) (p2_ : Int) : Option (Bool) :=
 (rect_Has r_ p1_ p2_).bind fun x1 =>
 some x1
theorem region_Has_1_ok {k0 : K} {v0 v1 v2 : Value} {r_ : Rect} {p1_ : Int} {p2_ : Int} {r : Bool} (i0 : (IsV r_) v0 k0) (i1 : (IsRef p1_) v1 k0) (i2 : (IsRef p2_) v2 k0) (hr : region_Has_1 r_ p1_ p2_ = some r) :
  Calls Tryz.prog 83 #[v0, v1, v2] k0.w (Ret k0 (IsV r)) := by
 unfold region_Has_1 at hr
 refine Ret.ofC ?_
 refine enterK Tryz.func83 rfl Tryz.ntmps83 (show 3 ≤ 9 by decide) fun a k hk0 hs hd ha => ?_
 obtain ⟨e0, e1, e2, _⟩ := ha
 replace i0 : (IsV r_) (a.get 0) k := by rw [e0, hk0]; exact i0
 replace i1 : (IsRef p1_) (a.get 1) k := by rw [e1, hk0]; exact i1
 replace i2 : (IsRef p2_) (a.get 2) k := by rw [e2, hk0]; exact i2
 have hQ : Gb.LetsOut (bodyPost Tryz.prog Tryz.f83 (RetC noF k0 (IsV r))) := letsOutC
 have hg : Chg noF k0 k := by rw [hk0]; exact Chg.refl _ k0
 refine stepL 2 (⟨some (IsRef r_), [(0, none)]⟩ :: ⟨some (IsV false), []⟩ :: []) rfl ⟨hg, hs, hd⟩ (by kernel_rfl) ⟨ob1 rfl fun _ _ h n => ok_boxR rfl (up i0 h n.1), ob1 rfl fun _ _ h n => ok_assign rfl (isV_bool.2 rfl), trivial⟩ [⟨_, _⟩, ⟨_, _⟩, ⟨_, _⟩] (fun b q p => ⟨p.ke 1 rfl i1, p.ke 2 rfl i2, p.ou 0 3 rfl, trivial⟩) ?_
 rintro a k ⟨⟨hg, hs, hd⟩, i1, i2, i3, _⟩
 refine wp_seq ?_
 obtain ⟨x1, hx1, hr⟩ := bind_some hr
 refine cut (fun a' k' => Bs noF k0 9 a' k' ∧ (IsV x1) (a'.get 4) k' ∧ True) ?_ hQ ?_
 ·intro Q1 W1 w1
  refine gS 5 (_ :: _ :: _ :: _ :: _ :: []) hs (by kernel_rfl) ⟨o1 [(3, none)] rfl fun _ _ h n => ok_load rfl ty23 ((up i3 h n.1)).ptr, o1 [(1, none)] rfl fun _ _ h n => ok_load rfl ty3 ((up i1 h n.1)).ptr, o1 [(2, none)] rfl fun _ _ h n => ok_load rfl ty3 ((up i2 h n.1)).ptr, o1 [(5, some 0), (6, some 1), (7, some 2)] rfl fun _ _ h n => ok_call rfl Tryz.call47 (rect_Has_ok n.1 n.2.1 n.2.2.1 hx1), cp 3 rfl rfl, trivial⟩ W1 fun b q p => ?_
  exact tail_done (k := q) (w1 _ _ ⟨Bs.post ⟨hg, hs, hd⟩ p, p.ou 4 4 rfl, trivial⟩)
 rintro a k ⟨⟨hg, hs, hd⟩, i4, _⟩
 refine wp_ret ?_
 obtain rfl := Option.some.inj hr
 exact retC1 rfl hd hg i4
def region_Has (a_ : (List Rect)) (x_ : Int) (y_ : Int) : Option (Bool) :=
 (slices_ContainsFunc_Rect a_ (fun y0 => region_Has_1 y0 x_ y_)).bind fun x1 =>
 (if x1 then
  (region_Right a_).bind fun x2 =>
  some x2
 else
  some false).bind fun x3 =>
 some x3
theorem region_Has_ok {k0 : K} {v0 v1 v2 : Value} {a_ : (List Rect)} {x_ : Int} {y_ : Int} {r : Bool} (i0 : (IsV a_) v0 k0) (i1 : (IsV x_) v1 k0) (i2 : (IsV y_) v2 k0) (hr : region_Has a_ x_ y_ = some r) :
  Calls Tryz.prog 57 #[v0, v1, v2] k0.w (Ret k0 (IsV r)) := by
 unfold region_Has at hr
 refine Ret.ofC ?_
 refine enterK Tryz.func57 rfl Tryz.ntmps57 (show 3 ≤ 14 by decide) fun a k hk0 hs hd ha => ?_
 obtain ⟨e0, e1, e2, _⟩ := ha
 replace i0 : (IsV a_) (a.get 0) k := by rw [e0, hk0]; exact i0
 replace i1 : (IsV x_) (a.get 1) k := by rw [e1, hk0]; exact i1
 replace i2 : (IsV y_) (a.get 2) k := by rw [e2, hk0]; exact i2
 have hQ : Gb.LetsOut (bodyPost Tryz.prog Tryz.f57 (RetC noF k0 (IsV r))) := letsOutC
 have hg : Chg noF k0 k := by rw [hk0]; exact Chg.refl _ k0
 refine stepL 3 (⟨some (IsRef x_), [(1, none)]⟩ :: ⟨some (IsRef y_), [(2, none)]⟩ :: ⟨some (IsV false), []⟩ :: []) rfl ⟨hg, hs, hd⟩ (by kernel_rfl) ⟨ob1 rfl fun _ _ h n => ok_boxR rfl (up i1 h n.1), ob1 rfl fun _ _ h n => ok_boxR rfl (up i2 h n.1), ob1 rfl fun _ _ h n => ok_assign rfl (isV_bool.2 rfl), trivial⟩ [⟨_, _⟩, ⟨_, _⟩, ⟨_, _⟩] (fun b q p => ⟨p.ke 0 rfl i0, p.ou 0 4 rfl, p.ou 1 5 rfl, trivial⟩) ?_
 rintro a k ⟨⟨hg, hs, hd⟩, i0, i4, i5, _⟩
 refine wp_seq ?_
 obtain ⟨x1, hx1, hr⟩ := bind_some hr
 obtain ⟨x2, hx2, hr⟩ := bind_some hr
 obtain ⟨x3, hx3, hx2⟩ := ite_bind hx2
 refine cut (fun a' k' => Bs noF k0 14 a' k' ∧ (IsV x2) (a'.get 6) k' ∧ True) ?_ hQ ?_
 ·intro Q1 W1 w1
  refine gS 8 (_ :: ⟨some (IsFn1 Tryz.prog (fun y0 => region_Has_1 y0 x_ y_)), [(4, none), (5, none)]⟩ :: _ :: _ :: _ :: _ :: _ :: _ :: []) hs (by kernel_rfl) ⟨mu rfl i0, ob1 rfl fun _ _ h n => ok_makeFunc (first := []) (captured := [.tmp 4, .tmp 5]) rfl ⟨83, _, _, rfl, Tryz.call83, fun k9 hk9 _ _ _ hx0 hy9 => by simpa [evalT] using region_Has_1_ok hx0 (Pers.pers hk9 (up i4 h n.1)) (Pers.pers hk9 (up i5 h n.2.1)) hy9⟩, o1 [(7, some 0), (8, some 1)] rfl fun _ _ h n => ok_call rfl Tryz.call82 (slices_ContainsFunc_Rect_ok n.1 n.2.1 hx1), cm 2 rfl rfl, mT rfl rfl i0, gT [(11, some 4)] rfl rfl fun hp _ _ h n => ok_call rfl Tryz.call67 (region_Right_ok (Gd.get n.1 hp) (hx3 hp)), o1 [(10, some 3), (12, some 5)] rfl fun _ _ h n => ok_pickM rfl n.1 hx2 (Gd.get n.2.1) (cB rfl), cp 6 rfl rfl, trivial⟩ W1 fun b q p => ?_
  exact tail_done (k := q) (w1 _ _ ⟨Bs.post ⟨hg, hs, hd⟩ p, p.ou 7 6 rfl, trivial⟩)
 rintro a k ⟨⟨hg, hs, hd⟩, i6, _⟩
 refine wp_ret ?_
 obtain rfl := Option.some.inj hr
 exact retC1 rfl hd hg i6
noncomputable def k57 := mkO 57 [.list (.st 0), .int, .int] [.bool] (fun x => region_Has x.1 x.2.1 x.2.2) Tryz.call57 fun k0 vs x r _ h hr => by obtain ⟨v0, vs, rfl, i0, h⟩ := h.cons; obtain ⟨v1, vs, rfl, i1, h⟩ := h.cons; obtain ⟨v2, rfl, i2⟩ := h.one; exact region_Has_ok i0 i1 i2 hr
def solid_Has (s_ : (List Slab)) (x_ : Int) (y_ : Int) (z_ : Int) : Option (Bool) :=
 (solid_Section s_ z_).bind fun x1 =>
 (region_Has x1 x_ y_).bind fun x2 =>
 some x2
noncomputable def k27 := mk 27 [.list (.st 3), .int, .int, .int] [.bool] (fun x => solid_Has x.1 x.2.1 x.2.2.1 x.2.2.2) [k58, k57] [] Tryz.f27 (.n) Tryz.func27 Tryz.call27 rfl rfl fun x => by kernel_rfl
def law10_PlaneFirsts (b_ : Rect) (l_ : (List Plane)) (s_ : (List Box)) : Option (Bool) :=
 (law10_small).bind fun x1 =>
 (law10_few l_ s_).bind fun x2 =>
 (if (!x2) then
  some true
 else
  (law10_valid b_ l_).bind fun x3 =>
  some (!x3)).bind fun x4 =>
 if x4 then
  some x1
 else
  (solid_Of s_).bind fun x5 =>
  (plane_First b_ l_ x5.1).bind fun x6 =>
  (plane_Allows b_ l_ x5.1).bind fun x7 =>
  if ((x6.2 == x7) || ((x5.2 != 0) && x6.2)) then
   some false
  else
   if (!x6.2) then
    some (x1 && (decide (x6.1 = (⟨0, 0, 0⟩ : Point3))))
   else
    (law10_before x5.1 x6.1).bind fun x8 =>
    if (x8.2 == 6) then
     some x1
    else
     (if (x1 && (x8.2 == 0)) then
      (solid_Has x5.1 x6.1.X x6.1.Y x6.1.Z).bind fun x9 =>
      some x9
     else
      some false).bind fun x10 =>
     (if x10 then
      (plane_Top b_ l_ x6.1.X x6.1.Y).bind fun x11 =>
      some (decide (x11 ≤ x6.1.Z))
     else
      some false).bind fun x12 =>
     (if x12 then
      (plane_Allows b_ l_ x8.1).bind fun x13 =>
      some x13
     else
      some false).bind fun x14 =>
     some x14
noncomputable def k5 := mkg 5 [.st 0, .list (.st 6), .list (.st 5)] [.bool] (fun x => law10_PlaneFirsts x.1 x.2.1 x.2.2) [k6, k7.lift glv gl0, k25.lift glv gl0, k8.lift glv gl0, k9, k14.lift glv gl0, k26.lift glv gl0, k27.lift glv gl0, k20] [] Tryz.f5 (.n) Tryz.func5 Tryz.call5 rfl rfl fun x => by kernel_rfl
theorem law10_PlaneFirsts_ok {k0 : K} {v0 v1 v2 : Value} {x0 : Rect} {x1 : (List Plane)} {x2 : (List Box)} {r : Bool} (hG : GOk tbg k0) (i0 : IsV x0 v0 k0) (i1 : IsV x1 v1 k0) (i2 : IsV x2 v2 k0) (hr : law10_PlaneFirsts x0 x1 x2 = some r) : Calls Tryz.prog 5 #[v0, v1, v2] k0.w (Ret k0 (IsV r)) := (k5.ok.ok k0 [v0, v1, v2] (x0, x1, x2) r hG ⟨i0, i1, i2⟩ hr)
end Go.Proofs.YtpbeebhapbibfaaGreatDoor
