/- What the functions compute that the law reaches, part 2 -/
import Derived.Test.YtekbjeagbfbbcaaT1
namespace Go.Proofs.Ytekbjeagbfbbcaa
open Go.Gb
set_option linter.unusedVariables false
set_option linter.unusedSimpArgs false
set_option maxRecDepth 100000
def sun_Right_L0 (table_ : (List Point3)) (s1 : Int) : Option (Flow (Int) (Bool)) :=
 if (decide (s1 < (table_.length : Int))) then
  (getI table_ s1).bind fun x1 =>
  if (((decide (4096 < (max (max x1.X x1.Y) x1.Z))) || (decide ((min x1.X x1.Y) < (-4096)))) || (decide (x1.Z < 1))) then
   some (.ret false)
  else
   (addI s1 1).bind fun x2 =>
   some (.go x2)
 else
  some (.ex 0 s1)
def sun_Right (table_ : (List Point3)) : Option (Bool) :=
 (iterL (sun_Right_L0 table_) (table_.length + 1) 0).bind fun f1 => match f1 with
  | .go _ => none
  | .ex _ _ =>
   some (decide ((table_.length : Int) ≤ 24))
  | .ret r1 => some r1
noncomputable def k9 := mk 9 [.list (.st 7)] [.bool] (fun x => sun_Right x) [] [] Try.f9 (.s .n (.s (.s .n (.l [] [(7, .v .int)] [(0, [7], [])] (fI 6) .n)) .n)) Try.func9 Try.call9 rfl rfl fun x => by kernel_rfl
def rect_Right (r_ : Rect) : Option (Bool) :=
 some ((((((decide (0 ≤ r_.X0)) && (decide (r_.X0 < r_.X1))) && (decide (r_.X1 ≤ 1048576))) && (decide (0 ≤ r_.Y0))) && (decide (r_.Y0 < r_.Y1))) && (decide (r_.Y1 ≤ 1048576)))
noncomputable def k30 := mk 30 [.st 0] [.bool] (fun x => rect_Right x) [] [] Try.f30 (.n) Try.func30 Try.call30 rfl rfl fun x => by kernel_rfl
theorem rect_Right_ok {k0 : K} {v0 : Value} {x0 : Rect} {r : Bool} (i0 : IsV x0 v0 k0) (hr : rect_Right x0 = some r) : Calls Try.prog 30 #[v0] k0.w (Ret k0 (IsV r)) := (k30.ok.ok k0 [v0] x0 r i0 hr)
section
open Go.Proofs Go.RowKit Go.Lib Go.Sort Go.Shelf
def Try.growL86_ren : Go.Shelf.Ren := ⟨fun | 4 => 86 | n => n, fun | 22 => 48 | 25 => 41 | 3 => 3 | 4 => 4 | 9 => 9 | 20 => 20 | 0 => 0 | n => n, fun | n => n⟩
theorem Try.growL86 : Go.Proofs.Lays8.n4 Try.prog Try.growL86_ren := {
 mixed := by kernel_rfl,
 f4 := ⟨Try.f86.name, by decide, Try.func86.trans (congrArg some (by kernel_rfl))⟩,
 t0 := Try.underlying0,
 a0 := Try.isAgg0,
 z0 := Try.sizeOf0,
 v0 := Try.zeroValue0,
 t3 := Try.underlying3,
 a3 := Try.isAgg3,
 z3 := Try.sizeOf3,
 v3 := Try.zeroValue3,
 t4 := Try.underlying4,
 a4 := Try.isAgg4,
 z4 := Try.sizeOf4,
 v4 := Try.zeroValue4,
 t9 := Try.underlying9,
 a9 := Try.isAgg9,
 z9 := Try.sizeOf9,
 v9 := Try.zeroValue9,
 t20 := Try.underlying20,
 a20 := Try.isAgg20,
 z20 := Try.sizeOf20,
 v20 := Try.zeroValue20,
 t22 := Try.underlying48,
 a22 := Try.isAgg48,
 z22 := Try.sizeOf48,
 v22 := Try.zeroValue48 }
theorem slices_Grow_Rect_okO {k0 : K} {v0 v1 : Value} {n : Int} {r : List Rect} (i0 : v0 = .slice none 0 0) (i1 : IsV n v1 k0) (hr : growI Rect n = some r) : Calls Try.prog 86 #[v0, v1] k0.w (Ret k0 (IsOwn k0.w.heap.size 41 r)) := by
 refine grow_own eo41 i0 i1 hr ?_ fun m i z h0 hm hi hz hs hb => ?_
 ·have hcon := Any8.slices_Grow_room Try.growL86 none 0 0 0 k0.w (by omega) (by omega) (by omega) (by omega)
  change Calls Try.prog 86 _ _ _ at hcon
  exact hcon
 ·have hcon := Any8.slices_Grow_grow Try.growL86 i z hi hz hs none 0 0 m [] k0.w (by omega) (by omega) (by
   have : (0 + m) * i.bytes ≤ 1073741824 * 65536 := Nat.mul_le_mul (by omega) hb
   omega) (by omega) (by simp) (fun _ => rfl) (fun a h => by simp at h)
  change Calls Try.prog 86 _ _ _ at hcon
  exact hcon
end
def slices_Concat_Rect_L0 (slices_ : (List (List Rect))) (s1 : Int × Int) : Option (Flow (Int × Int) ((List Rect))) :=
 if (decide (s1.2 < (slices_.length : Int))) then
  (getI slices_ s1.2).bind fun x1 =>
  (addI s1.1 (x1.length : Int)).bind fun x2 =>
  if (decide (x2 < 0)) then
   none
  else
   (addI s1.2 1).bind fun x3 =>
   some (.go (x2, x3))
 else
  some (.ex 0 (s1.1, s1.2))
def slices_Concat_Rect_L1 (slices_ : (List (List Rect))) (s1 : (List Rect) × Int) : Option (Flow ((List Rect) × Int) ((List Rect))) :=
 if (decide (s1.2 < (slices_.length : Int))) then
  (getI slices_ s1.2).bind fun x1 =>
  (appI s1.1 x1).bind fun x2 =>
  (addI s1.2 1).bind fun x3 =>
  some (.go (x2, x3))
 else
  some (.ex 2 (s1.1, s1.2))
def slices_Concat_Rect (slices_ : (List (List Rect))) : Option ((List Rect)) :=
 (iterL (slices_Concat_Rect_L0 slices_) (slices_.length + 1) (0, 0)).bind fun f1 => match f1 with
  | .go _ => none
  | .ex _ s1 =>
   (growI Rect s1.1).bind fun x1 =>
   (iterL (slices_Concat_Rect_L1 slices_) (slices_.length + 1) (x1, 0)).bind fun f2 => match f2 with
    | .go _ => none
    | .ex _ s2 =>
     some s2.1
    | .ret r1 => some r1
  | .ret r2 => some r2
theorem slices_Concat_Rect_okO {k0 : K} {v0 : Value} {slices_ : (List (List Rect))} {r : (List Rect)} (i0 : (IsV slices_) v0 k0) (hr : slices_Concat_Rect slices_ = some r) :
  Calls Try.prog 62 #[v0] k0.w (Ret k0 (IsOwn k0.w.heap.size 41 r)) := by
 unfold slices_Concat_Rect at hr
 refine Ret.ofC ?_
 refine enterK Try.func62 rfl Try.ntmps62 (show 1 ≤ 36 by decide) fun a k hk0 hs hd ha => ?_
 obtain ⟨e0, _⟩ := ha
 replace i0 : (IsV slices_) (a.get 0) k := by rw [e0, hk0]; exact i0
 have hQ : Gb.LetsOut (bodyPost Try.prog Try.f62 (RetC noF k0 (IsOwn k0.w.heap.size 41 r))) := letsOutC
 have hg : Chg noF k0 k := by rw [hk0]; exact Chg.refl _ k0
 refine stepL 1 (⟨some IsE0, []⟩ :: []) rfl ⟨hg, hs, hd⟩ (by kernel_rfl) ⟨ob1 rfl fun b q h n => ok_assign rfl isE0_nil, trivial⟩ [⟨_, _⟩] (fun b q p => ⟨p.ke 0 rfl i0, trivial⟩) ?_
 rintro a k ⟨⟨hg, hs, hd⟩, i0, _⟩
 refine stepL 1 (⟨some (IsI 0), []⟩ :: []) rfl ⟨hg, hs, hd⟩ (by kernel_rfl) ⟨aI rfl rfl, trivial⟩ [⟨_, _⟩, ⟨_, _⟩] (fun b q p => ⟨p.ke 0 rfl i0, p.ou 0 3 rfl, trivial⟩) ?_
 rintro a k ⟨⟨hg, hs, hd⟩, i0, i3, _⟩
 refine wp_seq ?_
 refine stepL 3 (_ :: _ :: ⟨some (IsI 0), []⟩ :: []) rfl ⟨hg, hs, hd⟩ (by kernel_rfl) ⟨mu rfl i0, o1 [(9, some 0)] rfl fun _ _ h n => ok_len rfl rfl Try.underlying91 (IsV.rd n.1), ob1 rfl fun _ _ h n => ok_move rfl (cI rfl), trivial⟩ [⟨_, _⟩, ⟨_, _⟩, ⟨_, _⟩, ⟨_, _⟩, ⟨_, _⟩] (fun b q p => ⟨p.ke 0 rfl i0, p.ke 3 rfl i3, p.ou 0 9 rfl, p.ou 1 10 rfl, p.ou 2 11 rfl, trivial⟩) ?_
 rintro a k ⟨⟨hg, hs, hd⟩, i0, i3, i9, i10, i11, _⟩
 refine wp_block ?_
 obtain ⟨f1, hf1, hr⟩ := bind_some hr
 refine cutFe f1 (fun s' c l => Bs noF k0 36 c l ∧ IsV slices_ (c.get 0) l ∧ IsV s'.1 (c.get 3) l ∧ IsV slices_ (c.get 9) l ∧ IsL slices_ (c.get 10) l ∧ IsV s'.2 (c.get 11) l ∧ True) (fun i' s' c l => (i' = 0 ∧ Bs noF k0 36 c l ∧ IsV slices_ (c.get 0) l ∧ IsV s'.1 (c.get 3) l ∧ True)) (fun r' c l => bodyPost Try.prog Try.f62 (RetC noF k0 (IsOwn k0.w.heap.size 41 r')) .ret c l.w) ?_ hQ ?_ ?_ ?_
 ·intro Q1 W1 hgo hex hret
  refine sim_loop ?_ _ _ _ _ _ hf1 ⟨⟨hg, hs, hd⟩, i0, i3, i9, i10, i11, trivial⟩ Q1 W1 hgo hex hret
  clear hr hf1 hgo hex hret W1 hQ hg hs hd i0 i10 i11 i3 i9
  intro s1 fl_ a k hr hS Q hQ hgo45 hex46 hret47
  obtain ⟨⟨hg, hs, hd⟩, i0, i3, i9, i10, i11, _⟩ := hS
  unfold slices_Concat_Rect_L0 at hr
  refine stepL 1 (_ :: []) rfl ⟨hg, hs, hd⟩ (by kernel_rfl) ⟨o1 [(11, none), (10, none)] rfl fun _ _ h n => ok_lss rfl (up i11 h n.1) (up i10 h n.2.1), trivial⟩ [⟨_, _⟩, ⟨_, _⟩, ⟨_, _⟩, ⟨_, _⟩, ⟨_, _⟩, ⟨_, _⟩] (fun b q p => ⟨p.ke 0 rfl i0, p.ke 3 rfl i3, p.ke 9 rfl i9, p.ke 10 rfl i10, p.ke 11 rfl i11, p.ou 0 12 rfl, trivial⟩) ?_
  rintro a k ⟨⟨hg, hs, hd⟩, i0, i3, i9, i10, i11, i12, _⟩
  refine wp_seq ?_
  refine wp_cond_split (isBool i12) (fun hc62 => ?_) (fun hc62 => ?_)
  ·rw [if_pos hc62] at hr
   refine wp_skip ?_
   refine wp_seq ?_
   refine wp_block ?_
   refine wp_seq ?_
   obtain ⟨x1, hx1, hr⟩ := bind_some hr
   refine cut (fun a' k' => Bs noF k0 36 a' k' ∧ (IsV slices_) (a'.get 0) k' ∧ (IsV s1.1) (a'.get 3) k' ∧ (IsV x1) (a'.get 5) k' ∧ (IsV slices_) (a'.get 9) k' ∧ (IsL slices_) (a'.get 10) k' ∧ (IsV s1.2) (a'.get 11) k' ∧ True) ?_ hQ ?_
   ·intro Q2 W2 w1
    refine gS 3 (_ :: _ :: _ :: []) hs (by kernel_rfl) ⟨o1 [(9, none), (11, none)] rfl fun _ _ h n => ok_indexAddr rfl Try.underlying91 ty48 (IsV.rd (up i9 h n.1)) (up i11 h n.2.1) hx1, o1 [(13, some 0)] rfl fun _ _ h n => ok_load rfl ty48 n.1, cp 1 rfl rfl, trivial⟩ W2 fun b q p => ?_
    exact tail_done (k := q) (w1 _ _ ⟨Bs.post ⟨hg, hs, hd⟩ p, p.ke 0 rfl i0, p.ke 3 rfl i3, p.ou 2 5 rfl, p.ke 9 rfl i9, p.ke 10 rfl i10, p.ke 11 rfl i11, trivial⟩)
   rintro a k ⟨⟨hg, hs, hd⟩, i0, i3, i5, i9, i10, i11, _⟩
   refine wp_seq ?_
   obtain ⟨x2, hx2, hr⟩ := bind_some hr
   refine cut (fun a' k' => Bs noF k0 36 a' k' ∧ (IsV slices_) (a'.get 0) k' ∧ (IsV x2) (a'.get 3) k' ∧ (IsV slices_) (a'.get 9) k' ∧ (IsL slices_) (a'.get 10) k' ∧ (IsV s1.2) (a'.get 11) k' ∧ True) ?_ hQ ?_
   ·intro Q3 W3 w2
    refine gS 5 (_ :: _ :: _ :: _ :: _ :: []) hs (by kernel_rfl) ⟨mu rfl i3, mu rfl i5, o1 [(16, some 1)] rfl fun _ _ h n => ok_len rfl rfl Try.underlying48 (IsV.rd n.1), o1 [(15, some 0), (17, some 2)] rfl fun _ _ h n => ok_add rfl n.1 n.2.1 hx2, cp 3 rfl rfl, trivial⟩ W3 fun b q p => ?_
    exact tail_done (k := q) (w2 _ _ ⟨Bs.post ⟨hg, hs, hd⟩ p, p.ke 0 rfl i0, p.ou 4 3 rfl, p.ke 9 rfl i9, p.ke 10 rfl i10, p.ke 11 rfl i11, trivial⟩)
   rintro a k ⟨⟨hg, hs, hd⟩, i0, i3, i9, i10, i11, _⟩
   refine stepL 2 (_ :: _ :: []) rfl ⟨hg, hs, hd⟩ (by kernel_rfl) ⟨mu rfl i3, o1 [(19, some 0)] rfl fun _ _ h n => ok_lss rfl n.1 (cI rfl), trivial⟩ [⟨_, _⟩, ⟨_, _⟩, ⟨_, _⟩, ⟨_, _⟩, ⟨_, _⟩, ⟨_, _⟩] (fun b q p => ⟨p.ke 0 rfl i0, p.ke 3 rfl i3, p.ke 9 rfl i9, p.ke 10 rfl i10, p.ke 11 rfl i11, p.ou 1 20 rfl, trivial⟩) ?_
   rintro a k ⟨⟨hg, hs, hd⟩, i0, i3, i9, i10, i11, i20, _⟩
   refine wp_cond_split (isBool i20) (fun hc55 => ?_) (fun hc55 => ?_)
   ·rw [if_pos hc55] at hr
    simp at hr
   rw [if_neg (by rw [hc55]; decide)] at hr
   refine wp_skip ?_
   obtain ⟨x3, hx3, hr⟩ := bind_some hr
   refine cut (fun a' k' => Bs noF k0 36 a' k' ∧ (IsV slices_) (a'.get 0) k' ∧ (IsV x2) (a'.get 3) k' ∧ (IsV slices_) (a'.get 9) k' ∧ (IsL slices_) (a'.get 10) k' ∧ (IsV x3) (a'.get 11) k' ∧ True) ?_ hQ ?_
   ·intro Q4 W4 w3
    refine gS 2 (_ :: _ :: []) hs (by kernel_rfl) ⟨o1 [(11, none)] rfl fun _ _ h n => ok_add rfl (up i11 h n.1) (cI rfl) hx3, cm 0 rfl rfl, trivial⟩ W4 fun b q p => ?_
    exact tail_done (k := q) (w3 _ _ ⟨Bs.post ⟨hg, hs, hd⟩ p, p.ke 0 rfl i0, p.ke 3 rfl i3, p.ke 9 rfl i9, p.ke 10 rfl i10, p.ou 1 11 rfl, trivial⟩)
   rintro a k ⟨⟨hg, hs, hd⟩, i0, i3, i9, i10, i11, _⟩
   exact hgo45 _ _ _ (Option.some.inj hr).symm ⟨⟨hg, hs, hd⟩, i0, i3, i9, i10, i11, trivial⟩
  rw [if_neg (by rw [hc62]; decide)] at hr
  refine wp_exit ?_
  exact hex46 _ _ _ _ (Option.some.inj hr).symm ⟨rfl, ⟨hg, hs, hd⟩, i0, i3, trivial⟩
 ·rintro r1 a k rfl hR
  dsimp only at hr
  obtain rfl := Option.some.inj hr
  exact hR
 ·rintro _ _ _ rfl _
  simp at hr
 clear hf1
 rintro _ s2 a k rfl ⟨rfl, ⟨hg, hs, hd⟩, i0, i3, _⟩
 dsimp only at hr
 refine wp_seq ?_
 obtain ⟨x4, hx4, hr⟩ := bind_some hr
 refine cut (fun a' k' => Bs noF k0 36 a' k' ∧ (IsV slices_) (a'.get 0) k' ∧ IsOwn 0 41 x4 (a'.get 6) k' ∧ Lo k0 (obF (a'.get 6)) ∧ True) ?_ hQ ?_
 ·intro Q5 W5 w4
  refine gS 3 (_ :: _ :: _ :: []) hs (by kernel_rfl) ⟨mu rfl i3, o1 [(23, some 0)] rfl fun _ _ h n => ok_call rfl Try.call86 (ret_weaken h.size (slices_Grow_Rect_okO rfl n.1 hx4)), cp 1 rfl rfl, trivial⟩ W5 fun b q p => ?_
  have hgq := hg.then p.grow
  have hsb := p.size.trans hs
  have hdb := p.defers.trans hd
  have j0 := p.ke 0 rfl i0
  have j6 : (IsOwn k.w.heap.size 41 x4) (b.get 6) q := p.ou 2 6 rfl
  have x6 : Lo k (obF (b.get 6)) := j6.loF
  have y6 := x6.chg hg
  replace j6 := j6.weaken (Nat.zero_le _)
  exact tail_done (k := q) (w4 _ _ ⟨⟨hgq, hsb, hdb⟩, j0, j6, y6, trivial⟩)
 rintro a k ⟨⟨hg, hs, hd⟩, i0, i6, n6, _⟩
 refine wp_seq ?_
 refine cutS (fun c l => Bs noF k0 36 c l ∧ IsOwn 0 41 x4 (c.get 6) l ∧ Lo k0 (obF (c.get 6)) ∧ IsV slices_ (c.get 25) l ∧ IsL slices_ (c.get 26) l ∧ IsI 0 (c.get 27) l ∧ True) ?_ ?_
 ·intro Q6 W6 w5
  refine gS 3 (_ :: _ :: ⟨some (IsI 0), []⟩ :: []) hs (by kernel_rfl) ⟨mu rfl i0, o1 [(25, some 0)] rfl fun _ _ h n => ok_len rfl rfl Try.underlying91 (IsV.rd n.1), ob1 rfl fun _ _ h n => ok_move rfl (cI rfl), trivial⟩ W6 fun b q p => ?_
  exact tail_done (k := q) (w5 _ _ ⟨Bs.post ⟨hg, hs, hd⟩ p, p.ke 6 rfl i6, (by rw [p.old 6 rfl]; exact n6), p.ou 0 25 rfl, p.ou 1 26 rfl, p.ou 2 27 rfl, trivial⟩)
 rintro a k ⟨⟨hg, hs, hd⟩, i6, n6, i25, i26, i27, _⟩
 refine wp_block ?_
 obtain ⟨f2, hf2, hr⟩ := bind_some hr
 refine cutFe f2 (fun s' c l => Bs noF k0 36 c l ∧ IsOwn 0 41 s'.1 (c.get 6) l ∧ Lo k0 (obF (c.get 6)) ∧ IsV slices_ (c.get 25) l ∧ IsL slices_ (c.get 26) l ∧ IsV s'.2 (c.get 27) l ∧ True) (fun i' s' c l => (i' = 2 ∧ Bs noF k0 36 c l ∧ IsOwn 0 41 s'.1 (c.get 6) l ∧ Lo k0 (obF (c.get 6)) ∧ True)) (fun r' c l => bodyPost Try.prog Try.f62 (RetC noF k0 (IsOwn k0.w.heap.size 41 r')) .ret c l.w) ?_ hQ ?_ ?_ ?_
 ·intro Q7 W7 hgo hex hret
  refine sim_loop ?_ _ _ _ _ _ hf2 ⟨⟨hg, hs, hd⟩, i6, n6, i25, i26, i27, trivial⟩ Q7 W7 hgo hex hret
  clear hr hf2 hgo hex hret W7 hQ hg hs hd i25 i26 i27 i6 n6
  intro s3 fl_ a k hr hS Q hQ hgo70 hex71 hret72
  obtain ⟨⟨hg, hs, hd⟩, i6, n6, i25, i26, i27, _⟩ := hS
  unfold slices_Concat_Rect_L1 at hr
  refine cutS (fun c l => Bs noF k0 36 c l ∧ IsOwn 0 41 s3.1 (c.get 6) l ∧ Lo k0 (obF (c.get 6)) ∧ IsV slices_ (c.get 25) l ∧ IsL slices_ (c.get 26) l ∧ IsV s3.2 (c.get 27) l ∧ (IsV (decide (s3.2 < (slices_.length : Int)))) (c.get 28) l ∧ True) ?_ ?_
  ·intro Q8 W8 w6
   refine gS 1 (_ :: []) hs (by kernel_rfl) ⟨o1 [(27, none), (26, none)] rfl fun _ _ h n => ok_lss rfl (up i27 h n.1) (up i26 h n.2.1), trivial⟩ W8 fun b q p => ?_
   exact tail_done (k := q) (w6 _ _ ⟨Bs.post ⟨hg, hs, hd⟩ p, p.ke 6 rfl i6, (by rw [p.old 6 rfl]; exact n6), p.ke 25 rfl i25, p.ke 26 rfl i26, p.ke 27 rfl i27, p.ou 0 28 rfl, trivial⟩)
  rintro a k ⟨⟨hg, hs, hd⟩, i6, n6, i25, i26, i27, i28, _⟩
  refine wp_seq ?_
  refine wp_cond_split (isBool i28) (fun hc83 => ?_) (fun hc83 => ?_)
  ·rw [if_pos hc83] at hr
   refine wp_skip ?_
   refine wp_seq ?_
   refine wp_block ?_
   refine wp_seq ?_
   obtain ⟨x5, hx5, hr⟩ := bind_some hr
   refine cut (fun a' k' => Bs noF k0 36 a' k' ∧ IsOwn 0 41 s3.1 (a'.get 6) k' ∧ Lo k0 (obF (a'.get 6)) ∧ (IsV x5) (a'.get 8) k' ∧ (IsV slices_) (a'.get 25) k' ∧ (IsL slices_) (a'.get 26) k' ∧ (IsV s3.2) (a'.get 27) k' ∧ True) ?_ hQ ?_
   ·intro Q9 W9 w7
    refine gS 3 (_ :: _ :: _ :: []) hs (by kernel_rfl) ⟨o1 [(25, none), (27, none)] rfl fun _ _ h n => ok_indexAddr rfl Try.underlying91 ty48 (IsV.rd (up i25 h n.1)) (up i27 h n.2.1) hx5, o1 [(29, some 0)] rfl fun _ _ h n => ok_load rfl ty48 n.1, cp 1 rfl rfl, trivial⟩ W9 fun b q p => ?_
    exact tail_done (k := q) (w7 _ _ ⟨Bs.post ⟨hg, hs, hd⟩ p, p.ke 6 rfl i6, (by rw [p.old 6 rfl]; exact n6), p.ou 2 8 rfl, p.ke 25 rfl i25, p.ke 26 rfl i26, p.ke 27 rfl i27, trivial⟩)
   rintro a k ⟨⟨hg, hs, hd⟩, i6, n6, i8, i25, i26, i27, _⟩
   obtain ⟨x7, hx7, hr⟩ := bind_some hr
   refine cut (fun a' k' => Bs noF k0 36 a' k' ∧ IsOwn 0 41 x7 (a'.get 6) k' ∧ Lo k0 (obF (a'.get 6)) ∧ (IsV slices_) (a'.get 25) k' ∧ (IsL slices_) (a'.get 26) k' ∧ (IsV s3.2) (a'.get 27) k' ∧ True) ?_ hQ ?_
   ·intro Q10 W10 w8
    refine gS 2 (⟨some (OwnAt (a.get 6) 0 41 s3.1), [(6, none)]⟩ :: _ :: []) hs (by kernel_rfl) ⟨ob1 rfl fun _ _ h n => ok_moveOA (.inl rfl) (ownAt n.1 (up i6 h n.1)), mu rfl i8, trivial⟩ W10 fun b q p => ?_
    have hgq := hg.then p.grow
    have hsb := p.size.trans hs
    have hdb := p.defers.trans hd
    have j25 := p.ke 25 rfl i25
    have j26 := p.ke 26 rfl i26
    have j27 := p.ke 27 rfl i27
    have e31 : b.get 31 = a.get 6 := (p.ou 0 31 rfl).1
    have j31 : IsOwn 0 41 s3.1 (b.get 31) q := (p.ou 0 31 rfl).2
    have y31 : Lo k0 (obF (b.get 31)) := by rw [e31]; exact n6
    have j32 : (IsV x5) (b.get 32) q := p.ou 1 32 rfl
    have hns := j31.nshF
    refine tail_appendS (i := 2) (d := 33) rfl rfl rfl rfl (by rw [hsb]; decide) (e := 41) Try.underlying48 eo41 j31 (IsV.rd j32) hx7 fun b2 q2 hsz hdf hoth hch hown hob => ?_
    have hle := hch.le hns
    have yn : Lo k0 (obF (b2.get 33)) := y31.app hgq hob
    replace j25 := Pers.pers hle j25
    replace j26 := Pers.pers hle j26
    replace j27 := Pers.pers hle j27
    replace j32 := Pers.pers hle j32
    replace hgq := hgq.step hch y31.wr
    rw [← hoth 25 (by decide)] at j25
    rw [← hoth 26 (by decide)] at j26
    rw [← hoth 27 (by decide)] at j27
    rw [← hoth 32 (by decide)] at j32
    have j33 := hown
    have y33 := yn
    replace hsb := hsz.trans hsb
    replace hdb := hdf.trans hdb
    clear hle hch hown hob hns yn hsz hdf hoth
    obtain ⟨b, hbb⟩ : ∃ b, b = b2 := ⟨b2, rfl⟩
    subst hbb
    obtain ⟨q, hqq⟩ : ∃ q, q = q2 := ⟨q2, rfl⟩
    subst hqq
    refine tail_assign (i := 3) (d := 6) rfl rfl (.inl rfl) rfl (by rw [hsb]; decide) fun b2 hsz hdf hnew hoth => ?_
    have jn : (IsOwn 0 41 x7) (b2.get 6) q := by rw [hnew]; exact j33
    have yn : Lo k0 (obF (b2.get 6)) := by rw [hnew]; exact y33
    rw [← hoth 25 (by decide)] at j25
    rw [← hoth 26 (by decide)] at j26
    rw [← hoth 27 (by decide)] at j27
    rw [← hoth 32 (by decide)] at j32
    have j6 := jn
    have y6 := yn
    replace hsb := hsz.trans hsb
    replace hdb := hdf.trans hdb
    clear hsz hdf hoth
    obtain ⟨b, hbb⟩ : ∃ b, b = b2 := ⟨b2, rfl⟩
    subst hbb
    exact tail_done (k := q) (w8 _ _ ⟨⟨hgq, hsb, hdb⟩, j6, y6, j25, j26, j27, trivial⟩)
   rintro a k ⟨⟨hg, hs, hd⟩, i6, n6, i25, i26, i27, _⟩
   obtain ⟨x8, hx8, hr⟩ := bind_some hr
   refine cut (fun a' k' => Bs noF k0 36 a' k' ∧ IsOwn 0 41 x7 (a'.get 6) k' ∧ Lo k0 (obF (a'.get 6)) ∧ (IsV slices_) (a'.get 25) k' ∧ (IsL slices_) (a'.get 26) k' ∧ (IsV x8) (a'.get 27) k' ∧ True) ?_ hQ ?_
   ·intro Q11 W11 w9
    refine gS 2 (_ :: _ :: []) hs (by kernel_rfl) ⟨o1 [(27, none)] rfl fun _ _ h n => ok_add rfl (up i27 h n.1) (cI rfl) hx8, cm 0 rfl rfl, trivial⟩ W11 fun b q p => ?_
    exact tail_done (k := q) (w9 _ _ ⟨Bs.post ⟨hg, hs, hd⟩ p, p.ke 6 rfl i6, (by rw [p.old 6 rfl]; exact n6), p.ke 25 rfl i25, p.ke 26 rfl i26, p.ou 1 27 rfl, trivial⟩)
   rintro a k ⟨⟨hg, hs, hd⟩, i6, n6, i25, i26, i27, _⟩
   exact hgo70 _ _ _ (Option.some.inj hr).symm ⟨⟨hg, hs, hd⟩, i6, n6, i25, i26, i27, trivial⟩
  rw [if_neg (by rw [hc83]; decide)] at hr
  refine wp_exit ?_
  exact hex71 _ _ _ _ (Option.some.inj hr).symm ⟨rfl, ⟨hg, hs, hd⟩, i6, n6, trivial⟩
 ·rintro r2 a k rfl hR
  dsimp only at hr
  obtain rfl := Option.some.inj hr
  exact hR
 ·rintro _ _ _ rfl _
  simp at hr
 clear hf2
 rintro _ s4 a k rfl ⟨rfl, ⟨hg, hs, hd⟩, i6, n6, _⟩
 dsimp only at hr
 refine cutS (fun c l => Bs noF k0 36 c l ∧ IsOwn 0 41 s4.1 (c.get 2) l ∧ Lo k0 (obF (c.get 2)) ∧ True) ?_ ?_
 ·intro Q12 W12 w10
  refine gS 2 (⟨some (OwnAt (a.get 6) 0 41 s4.1), [(6, none)]⟩ :: ⟨some (OwnAt (a.get 6) 0 41 s4.1), [(35, some 0)]⟩ :: []) hs (by kernel_rfl) ⟨ob1 rfl fun _ _ h n => ok_moveOA (.inl rfl) (ownAt n.1 (up i6 h n.1)), ob1 rfl fun _ _ h n => ok_moveOA (.inr rfl) n.1, trivial⟩ W12 fun b q p => ?_
  have hgq := hg.then p.grow
  have hsb := p.size.trans hs
  have hdb := p.defers.trans hd
  have e2 : b.get 2 = a.get 6 := (p.ou 1 2 rfl).1
  have j2 : IsOwn 0 41 s4.1 (b.get 2) q := (p.ou 1 2 rfl).2
  have y2 : Lo k0 (obF (b.get 2)) := by rw [e2]; exact n6
  exact tail_done (k := q) (w10 _ _ ⟨⟨hgq, hsb, hdb⟩, j2, y2, trivial⟩)
 rintro a k ⟨⟨hg, hs, hd⟩, i2, n2, _⟩
 refine wp_ret ?_
 obtain rfl := Option.some.inj hr
 exact retC1 rfl hd hg (show ResOk _ _ _ (.tmp 2) _ from IsOwn.raise (k0 := k0) i2 n2)
theorem slices_Concat_Rect_ok {k0 : K} {v0 : Value} {slices_ : (List (List Rect))} {r : (List Rect)} (i0 : (IsV slices_) v0 k0) (hr : slices_Concat_Rect slices_ = some r) :
  Calls Try.prog 62 #[v0] k0.w (Ret k0 (IsV r)) :=
 ret_give (slices_Concat_Rect_okO i0 hr)
section
open Go.Proofs Go.RowKit Go.Lib Go.Sort Go.Shelf
def Try.sortIntsL_ren : Go.Shelf.Ren := ⟨fun | 189 => 43 | 125 => 60 | 257 => 59 | 128 => 84 | 129 => 85 | 294 => 75 | 295 => 76 | 296 => 77 | 297 => 78 | 298 => 79 | 299 => 80 | 216 => 81 | 300 => 82 | 301 => 83 | 328 => 96 | 329 => 97 | 330 => 98 | 331 => 99 | 332 => 100 | 215 => 101 | 343 => 104 | n => n, fun | 28 => 57 | 3 => 3 | 46 => 55 | 0 => 0 | 51 => 117 | 53 => 54 | 4 => 4 | 183 => 109 | 182 => 108 | 131 => 114 | 5 => 5 | 9 => 9 | 218 => 127 | 222 => 131 | 228 => 134 | 229 => 135 | n => n, fun | n => n⟩
theorem Try.sortIntsL : Go.Proofs.Lays.n189 Try.prog Try.sortIntsL_ren := {
 mixed := by kernel_rfl,
 f125 := Try.func60.trans (congrArg some (by kernel_rfl)),
 f128 := Try.func84.trans (congrArg some (by kernel_rfl)),
 f129 := Try.func85.trans (congrArg some (by kernel_rfl)),
 f189 := Try.func43.trans (congrArg some (by kernel_rfl)),
 f215 := Try.func101.trans (congrArg some (by kernel_rfl)),
 f216 := Try.func81.trans (congrArg some (by kernel_rfl)),
 f257 := Try.func59.trans (congrArg some (by kernel_rfl)),
 f294 := Try.func75.trans (congrArg some (by kernel_rfl)),
 f295 := Try.func76.trans (congrArg some (by kernel_rfl)),
 f296 := Try.func77.trans (congrArg some (by kernel_rfl)),
 f297 := Try.func78.trans (congrArg some (by kernel_rfl)),
 f298 := Try.func79.trans (congrArg some (by kernel_rfl)),
 f299 := Try.func80.trans (congrArg some (by kernel_rfl)),
 f300 := Try.func82.trans (congrArg some (by kernel_rfl)),
 f301 := Try.func83.trans (congrArg some (by kernel_rfl)),
 f328 := Try.func96.trans (congrArg some (by kernel_rfl)),
 f329 := Try.func97.trans (congrArg some (by kernel_rfl)),
 f330 := Try.func98.trans (congrArg some (by kernel_rfl)),
 f331 := Try.func99.trans (congrArg some (by kernel_rfl)),
 f332 := Try.func100.trans (congrArg some (by kernel_rfl)),
 f343 := Try.func104.trans (congrArg some (by kernel_rfl)),
 t0 := Try.underlying0,
 a0 := Try.isAgg0,
 z0 := Try.sizeOf0,
 v0 := Try.zeroValue0,
 t3 := Try.underlying3,
 a3 := Try.isAgg3,
 z3 := Try.sizeOf3,
 v3 := Try.zeroValue3,
 t4 := Try.underlying4,
 a4 := Try.isAgg4,
 z4 := Try.sizeOf4,
 v4 := Try.zeroValue4,
 t5 := Try.underlying5,
 a5 := Try.isAgg5,
 z5 := Try.sizeOf5,
 v5 := Try.zeroValue5,
 t9 := Try.underlying9,
 a9 := Try.isAgg9,
 z9 := Try.sizeOf9,
 v9 := Try.zeroValue9,
 t28 := Try.underlying57,
 a28 := Try.isAgg57,
 z28 := Try.sizeOf57,
 v28 := Try.zeroValue57,
 t46 := Try.underlying55,
 a46 := Try.isAgg55,
 z46 := Try.sizeOf55,
 v46 := Try.zeroValue55,
 t51 := Try.underlying117,
 a51 := Try.isAgg117,
 z51 := Try.sizeOf117,
 v51 := Try.zeroValue117,
 t53 := Try.underlying54,
 a53 := Try.isAgg54,
 z53 := Try.sizeOf54,
 v53 := Try.zeroValue54,
 t131 := Try.underlying114,
 a131 := Try.isAgg114,
 z131 := Try.sizeOf114,
 v131 := Try.zeroValue114,
 t182 := Try.underlying108,
 a182 := Try.isAgg108,
 z182 := Try.sizeOf108,
 v182 := Try.zeroValue108,
 t183 := Try.underlying109,
 a183 := Try.isAgg109,
 z183 := Try.sizeOf109,
 v183 := Try.zeroValue109,
 t218 := Try.underlying127,
 a218 := Try.isAgg127,
 z218 := Try.sizeOf127,
 v218 := Try.zeroValue127,
 t222 := Try.underlying131,
 a222 := Try.isAgg131,
 z222 := Try.sizeOf131,
 v222 := Try.zeroValue131,
 t228 := Try.underlying134,
 a228 := Try.isAgg134,
 z228 := Try.sizeOf134,
 v228 := Try.zeroValue134,
 t229 := Try.underlying135,
 a229 := Try.isAgg135,
 z229 := Try.sizeOf135,
 v229 := Try.zeroValue135 }
theorem sortInts_ok {k0 : K} {v0 : Value} {l r : List Int} (i0 : IsOwn 0 3 l v0 k0) (hr : sortInts l = some r) : Calls Try.prog 43 #[v0] k0.w (RetC (obF v0) k0 fun _ k' => IsOwn 0 3 r v0 k') := by
 unfold sortInts at hr
 split at hr
 ·rename_i hl
  obtain rfl := Option.some.inj hr
  refine sortI_own (S := fun l => l.mergeSort fun x y => decide (x ≤ y)) (List.length_mergeSort _) (fun p cap w => ?_) (fun blk off cap w hH hblk => ?_) i0
  ·have hcon := Any.slices_Sort_int_none Try.sortIntsL p cap w
   change Calls Try.prog 43 _ _ _ at hcon
   exact hcon
  ·have hcon := Any.slices_Sort_int Try.sortIntsL blk off cap l w hH hblk (by omega)
   change Calls Try.prog 43 _ _ _ at hcon
   exact hcon
 ·simp at hr
end
section
open Go.Proofs Go.RowKit Go.Lib Go.Sort Go.Shelf
def Try.compactL_ren : Go.Shelf.Ren := ⟨fun | 20 => 44 | n => n, fun | 22 => 57 | 3 => 3 | 4 => 4 | 0 => 0 | n => n, fun | n => n⟩
theorem Try.compactL : Go.Proofs.Lays2.n20 Try.prog Try.compactL_ren := {
 mixed := by kernel_rfl,
 f20 := Try.func44.trans (congrArg some (by kernel_rfl)),
 t0 := Try.underlying0,
 a0 := Try.isAgg0,
 z0 := Try.sizeOf0,
 v0 := Try.zeroValue0,
 t3 := Try.underlying3,
 a3 := Try.isAgg3,
 z3 := Try.sizeOf3,
 v3 := Try.zeroValue3,
 t4 := Try.underlying4,
 a4 := Try.isAgg4,
 z4 := Try.sizeOf4,
 v4 := Try.zeroValue4,
 t22 := Try.underlying57,
 a22 := Try.isAgg57,
 z22 := Try.sizeOf57,
 v22 := Try.zeroValue57,
 i3 := by kernel_rfl }
theorem compactInts_ok {k0 : K} {v0 : Value} {l r : List Int} (i0 : IsOwn 0 3 l v0 k0) (hr : compactInts l = some r) : Calls Try.prog 44 #[v0] k0.w (RetC (obF v0) k0 (IsOwnW v0 k0 3 r)) := by
 unfold compactInts at hr
 split at hr
 ·rename_i hl
  obtain rfl := Option.some.inj hr
  refine compactI_own compact_length hl (fun p cap w => ?_) (fun blk off cap w hH hc => ?_) i0
  ·have hcon := Any.slices_Compact_int_empty Try.compactL p cap w
   change Calls Try.prog 44 _ _ _ at hcon
   exact hcon
  ·have hcon := Any.slices_Compact_int Try.compactL blk off cap l w hH (by omega) hc
   change Calls Try.prog 44 _ _ _ at hcon
   exact hcon
 ·simp at hr
end
def cmp_isNaN_int (x_ : Int) : Option (Bool) :=
 some (x_ != x_)
noncomputable def k101 := mk 101 [.int] [.bool] (fun x => cmp_isNaN_int x) [] [] Try.f101 (.n) Try.func101 Try.call101 rfl rfl fun x => by kernel_rfl
def cmp_Compare_int (x_ : Int) (y_ : Int) : Option (Int) :=
 (cmp_isNaN_int x_).bind fun x1 =>
 (cmp_isNaN_int y_).bind fun x2 =>
 if x1 then
  if x2 then
   some 0
  else
   some (-1)
 else
  if x2 then
   some 1
  else
   if (decide (x_ < y_)) then
    some (-1)
   else
    if (decide (y_ < x_)) then
     some 1
    else
     some 0
noncomputable def k89 := mk 89 [.int, .int] [.int] (fun x => cmp_Compare_int x.1 x.2) [k101] [] Try.f89 (.n) Try.func89 Try.call89 rfl rfl fun x => by kernel_rfl
def region_column_1 (a_ : RegionSpan) (b_ : RegionSpan) : Option (Int) :=
 (cmp_Compare_int a_.from_ b_.from_).bind fun x1 =>
 some x1
noncomputable def k88 := mk 88 [.st 1, .st 1] [.int] (fun x => region_column_1 x.1 x.2) [k89] [] Try.f88 (.n) Try.func88 Try.call88 rfl rfl fun x => by kernel_rfl
theorem region_column_1_ok {k0 : K} {v0 v1 : Value} {x0 : RegionSpan} {x1 : RegionSpan} {r : Int} (i0 : IsV x0 v0 k0) (i1 : IsV x1 v1 k0) (hr : region_column_1 x0 x1 = some r) : Calls Try.prog 88 #[v0, v1] k0.w (Ret k0 (IsV r)) := (k88.ok.ok k0 [v0, v1] (x0, x1) r ⟨i0, i1⟩ hr)
section
open Go.Proofs Go.RowKit Go.Lib Go.Sort Go.Shelf
def Try.sortSpansL_ren : Go.Shelf.Ren := ⟨fun | 6 => 87 | 15 => 60 | 14 => 102 | 28 => 84 | 29 => 85 | 20 => 105 | 21 => 106 | 22 => 107 | 23 => 108 | 24 => 109 | 25 => 110 | 26 => 111 | 27 => 112 | 46 => 113 | 47 => 97 | 48 => 98 | 49 => 114 | 50 => 115 | 57 => 116 | n => n, fun | 22 => 86 | 24 => 88 | 25 => 121 | 3 => 3 | 39 => 55 | 0 => 0 | 53 => 117 | 55 => 54 | 4 => 4 | 46 => 109 | 45 => 108 | 50 => 114 | 5 => 5 | 9 => 9 | 66 => 127 | 70 => 131 | 76 => 134 | 77 => 135 | n => n, fun | n => n⟩
theorem Try.sortSpansL : Go.Proofs.SlLaysF0.n6 Try.prog Try.sortSpansL_ren := {
 mixed := by kernel_rfl,
 f6 := ⟨Try.f87.name, by decide, Try.func87.trans (congrArg some (by kernel_rfl))⟩,
 f14 := ⟨Try.f102.name, by decide, Try.func102.trans (congrArg some (by kernel_rfl))⟩,
 f15 := Try.func60.trans (congrArg some (by kernel_rfl)),
 f20 := ⟨Try.f105.name, by decide, Try.func105.trans (congrArg some (by kernel_rfl))⟩,
 f21 := ⟨Try.f106.name, by decide, Try.func106.trans (congrArg some (by kernel_rfl))⟩,
 f22 := ⟨Try.f107.name, by decide, Try.func107.trans (congrArg some (by kernel_rfl))⟩,
 f23 := ⟨Try.f108.name, by decide, Try.func108.trans (congrArg some (by kernel_rfl))⟩,
 f24 := ⟨Try.f109.name, by decide, Try.func109.trans (congrArg some (by kernel_rfl))⟩,
 f25 := ⟨Try.f110.name, by decide, Try.func110.trans (congrArg some (by kernel_rfl))⟩,
 f26 := ⟨Try.f111.name, by decide, Try.func111.trans (congrArg some (by kernel_rfl))⟩,
 f27 := ⟨Try.f112.name, by decide, Try.func112.trans (congrArg some (by kernel_rfl))⟩,
 f28 := Try.func84.trans (congrArg some (by kernel_rfl)),
 f29 := Try.func85.trans (congrArg some (by kernel_rfl)),
 f46 := ⟨Try.f113.name, by decide, Try.func113.trans (congrArg some (by kernel_rfl))⟩,
 f47 := Try.func97.trans (congrArg some (by kernel_rfl)),
 f48 := Try.func98.trans (congrArg some (by kernel_rfl)),
 f49 := ⟨Try.f114.name, by decide, Try.func114.trans (congrArg some (by kernel_rfl))⟩,
 f50 := ⟨Try.f115.name, by decide, Try.func115.trans (congrArg some (by kernel_rfl))⟩,
 f57 := ⟨Try.f116.name, by decide, Try.func116.trans (congrArg some (by kernel_rfl))⟩,
 t0 := Try.underlying0,
 a0 := Try.isAgg0,
 z0 := Try.sizeOf0,
 v0 := Try.zeroValue0,
 t3 := Try.underlying3,
 a3 := Try.isAgg3,
 z3 := Try.sizeOf3,
 v3 := Try.zeroValue3,
 t4 := Try.underlying4,
 a4 := Try.isAgg4,
 z4 := Try.sizeOf4,
 v4 := Try.zeroValue4,
 t5 := Try.underlying5,
 a5 := Try.isAgg5,
 z5 := Try.sizeOf5,
 v5 := Try.zeroValue5,
 t9 := Try.underlying9,
 a9 := Try.isAgg9,
 z9 := Try.sizeOf9,
 v9 := Try.zeroValue9,
 t22 := Try.underlying86,
 a22 := Try.isAgg86,
 z22 := Try.sizeOf86,
 v22 := Try.zeroValue86,
 t25 := Try.underlying121,
 a25 := Try.isAgg121,
 z25 := Try.sizeOf121,
 v25 := Try.zeroValue121,
 t39 := Try.underlying55,
 a39 := Try.isAgg55,
 z39 := Try.sizeOf55,
 v39 := Try.zeroValue55,
 t45 := Try.underlying108,
 a45 := Try.isAgg108,
 z45 := Try.sizeOf108,
 v45 := Try.zeroValue108,
 t46 := Try.underlying109,
 a46 := Try.isAgg109,
 z46 := Try.sizeOf109,
 v46 := Try.zeroValue109,
 t50 := Try.underlying114,
 a50 := Try.isAgg114,
 z50 := Try.sizeOf114,
 v50 := Try.zeroValue114,
 t53 := Try.underlying117,
 a53 := Try.isAgg117,
 z53 := Try.sizeOf117,
 v53 := Try.zeroValue117,
 t55 := Try.underlying54,
 a55 := Try.isAgg54,
 z55 := Try.sizeOf54,
 v55 := Try.zeroValue54,
 t66 := Try.underlying127,
 a66 := Try.isAgg127,
 z66 := Try.sizeOf127,
 v66 := Try.zeroValue127,
 t70 := Try.underlying131,
 a70 := Try.isAgg131,
 z70 := Try.sizeOf131,
 v70 := Try.zeroValue131,
 t76 := Try.underlying134,
 a76 := Try.isAgg134,
 z76 := Try.sizeOf134,
 v76 := Try.zeroValue134,
 t77 := Try.underlying135,
 a77 := Try.isAgg135,
 z77 := Try.sizeOf135,
 v77 := Try.zeroValue135 }
instance : FlatE RegionSpan := FlatE.ofMap fun x : RegionSpan => (x.from_, x.to_)
/-- What the comparison of two spans hands back. -/
def spanCmp (x y : RegionSpan) : Int := if x.from_ < y.from_ then -1 else if y.from_ < x.from_ then 1 else 0
theorem column_1_val (x y : RegionSpan) : region_column_1 x y = some (spanCmp x y) := by
 unfold region_column_1 cmp_Compare_int cmp_isNaN_int spanCmp
 by_cases h : x.from_ < y.from_
 ·simp [h]
 ·by_cases h2 : y.from_ < x.from_ <;> simp [h, h2]
theorem ltOf_span (x y : RegionSpan) : ltOf spanCmp x y = decide (x.from_ < y.from_) := by
 unfold ltOf spanCmp
 congr 1
 rw [eq_iff_iff]
 split
 ·simp [*]
 ·split <;> simp [*]
theorem spanCmp_swo : SWO (ltOf spanCmp) := by
 constructor <;> simp only [ltOf_span, decide_eq_true_eq, decide_eq_false_iff_not] <;> intros <;> omega
def sortSpans (l : List RegionSpan) : Option (List RegionSpan) := if l.length ≤ 1073741824 then some (pdq (ltOf spanCmp) l.toArray 0 l.toArray.size (Lib.bitLen l.toArray.size) true true).toList else none
theorem sortSpans_spec {l : List RegionSpan} (h : l.length ≤ 1000000) : ∃ r, sortSpans l = some r ∧ r.Perm l ∧ r.Pairwise fun a b => a.from_ ≤ b.from_ := by
 obtain ⟨⟨h1, _, h2⟩, h3⟩ := pdq_sorts (ltOf spanCmp) spanCmp_swo l.toArray 0 l.toArray.size (Lib.bitLen l.toArray.size) true true (Nat.zero_le _) (Nat.le_refl _) (Or.inl rfl)
 refine ⟨_, if_pos (by omega), ?_, ?_⟩
 ·generalize pdq (ltOf spanCmp) l.toArray 0 l.toArray.size (Lib.bitLen l.toArray.size) true true = r at h1 h2
  have e : r.extract 0 l.toArray.size = r := by rw [← h1]; simp
  rw [e] at h2
  simpa using h2
 ·rw [List.pairwise_iff_getElem]
  intro i j hi hj hij
  have := h3 i j (Nat.zero_le _) hij (by rw [← h1]; simpa using hj)
  rw [getElem!_pos _ j (by simpa using hj), getElem!_pos _ i (by simpa using hi)] at this
  rw [ltOf_span, decide_eq_false_iff_not] at this
  simp only [Array.getElem_toList]
  omega
theorem pdq_size (d : Array RegionSpan) : (pdq (ltOf spanCmp) d 0 d.size (Lib.bitLen d.size) true true).size = d.size :=
 (pdq_sorts (ltOf spanCmp) spanCmp_swo d 0 d.size (Lib.bitLen d.size) true true (Nat.zero_le _) (Nat.le_refl _) (Or.inl rfl)).1.1
set_option maxHeartbeats 2000000 in
theorem sortSpans_ok {k0 : K} {v0 : Value} {l r : List RegionSpan} (i0 : IsOwn 0 88 l v0 k0) (hr : sortSpans l = some r) :
  Calls Try.prog 87 #[v0, .func (.func 88) #[] #[]] k0.w (RetC (obF v0) k0 fun _ k' => IsOwn 0 88 r v0 k') := by
 unfold sortSpans at hr
 split at hr
 ·rename_i h12
  obtain rfl := Option.some.inj hr
  refine sort_own (S := fun d => pdq (ltOf spanCmp) d 0 d.size (Lib.bitLen d.size) true true) pdq_size (fun p cap w => ?_) (fun blk off cap w hH hblk => ?_) i0
  ·have hcon := AnyF.slices_SortFunc_none { Try.sortSpansL with } p cap (.func (.func 88) #[] #[]) w
   change Calls Try.prog 87 _ _ _ at hcon
   exact hcon
  ·have hcon := AnyQ.slices_SortFunc_eq Try.sortSpansL 2 Try.isAgg88 Try.sizeOf88 (FlatE.enc (α := RegionSpan)) (fun _ => rfl) (fun x v hv => flat_one k0 x v hv) spanCmp spanCmp_swo 88 #[] blk off cap l.toArray w (enters_of Try.func88 (by kernel_rfl) rfl)
    (fun _ _ _ _ x y => ret_cmp (k := kFree _) (region_column_1_ok (isV_flat rfl x _) (isV_flat rfl y _) (column_1_val x y))) hH hblk (by simp; omega)
   change Calls Try.prog 87 _ _ _ at hcon
   exact hcon
 ·simp at hr
end
def region_column_L0 (l_ : (List Rect)) (x_ : Int) (s1 : (List RegionSpan) × Int) : Option (Flow ((List RegionSpan) × Int) ((List RegionSpan))) :=
 if (decide (s1.2 < (l_.length : Int))) then
  (getI l_ s1.2).bind fun x1 =>
  (if ((decide (x1.X0 ≤ x_)) && (decide (x_ < x1.X1))) then
   (appI s1.1 ([(⟨x1.Y0, x1.Y1⟩ : RegionSpan)])).bind fun x2 =>
   some x2
  else
   some s1.1).bind fun s2 =>
  (addI s1.2 1).bind fun x3 =>
  some (.go (s2, x3))
 else
  some (.ex 0 (s1.1, s1.2))
def region_column_L1 (x1 : (List RegionSpan)) (s1 : (List RegionSpan) × Int) : Option (Flow ((List RegionSpan) × Int) ((List RegionSpan))) :=
 if (decide (s1.2 < (x1.length : Int))) then
  (getI x1 s1.2).bind fun x2 =>
  (if (decide (0 < (s1.1.length : Int))) then
   (subI (s1.1.length : Int) 1).bind fun x3 =>
   (getI s1.1 x3).bind fun x4 =>
   some (decide (x2.from_ ≤ x4.to_))
  else
   some false).bind fun x5 =>
  (if x5 then
   (subI (s1.1.length : Int) 1).bind fun x6 =>
   (subI (s1.1.length : Int) 1).bind fun x7 =>
   (getI s1.1 x7).bind fun x8 =>
   (getI s1.1 x6).bind fun x9 =>
   (some (s1.1.set (x6).toNat ({ x9 with to_ := (max x8.to_ x2.to_) }))).bind fun x10 =>
   some x10
  else
   (appI s1.1 ([x2])).bind fun x11 =>
   some x11).bind fun s2 =>
  (addI s1.2 1).bind fun x12 =>
  some (.go (s2, x12))
 else
  some (.ex 2 (s1.1, s1.2))
def region_column (l_ : (List Rect)) (x_ : Int) : Option ((List RegionSpan)) :=
 (iterL (region_column_L0 l_ x_) (l_.length + 1) (([] : List RegionSpan), 0)).bind fun f1 => match f1 with
  | .go _ => none
  | .ex _ s1 =>
   (sortSpans s1.1).bind fun x1 =>
   (iterL (region_column_L1 x1) (x1.length + 1) (([] : List RegionSpan), 0)).bind fun f2 => match f2 with
    | .go _ => none
    | .ex _ s2 =>
     some s2.1
    | .ret r1 => some r1
  | .ret r2 => some r2
theorem region_column_ok {k0 : K} {v0 v1 : Value} {l_ : (List Rect)} {x_ : Int} {r : (List RegionSpan)} (i0 : (IsV l_) v0 k0) (i1 : (IsV x_) v1 k0) (hr : region_column l_ x_ = some r) :
  Calls Try.prog 63 #[v0, v1] k0.w (Ret k0 (IsV r)) := by
 unfold region_column at hr
 refine Ret.ofC ?_
 refine enterK Try.func63 rfl Try.ntmps63 (show 2 ≤ 80 by decide) fun a k hk0 hs hd ha => ?_
 obtain ⟨e0, e1, _⟩ := ha
 replace i0 : (IsV l_) (a.get 0) k := by rw [e0, hk0]; exact i0
 replace i1 : (IsV x_) (a.get 1) k := by rw [e1, hk0]; exact i1
 have hQ : Gb.LetsOut (bodyPost Try.prog Try.f63 (RetC noF k0 (IsV r))) := letsOutC
 have hg : Chg noF k0 k := by rw [hk0]; exact Chg.refl _ k0
 refine stepL 1 (⟨some IsE0, []⟩ :: []) rfl ⟨hg, hs, hd⟩ (by kernel_rfl) ⟨ob1 rfl fun b q h n => ok_assign rfl isE0_nil, trivial⟩ [⟨_, _⟩, ⟨_, _⟩] (fun b q p => ⟨p.ke 0 rfl i0, p.ke 1 rfl i1, trivial⟩) ?_
 rintro a k ⟨⟨hg, hs, hd⟩, i0, i1, _⟩
 refine cutS (fun c l => Bs noF k0 80 c l ∧ IsV l_ (c.get 0) l ∧ IsV x_ (c.get 1) l ∧ IsOwn 0 88 ([] : List RegionSpan) (c.get 5) l ∧ Lo k0 (obF (c.get 5)) ∧ True) ?_ ?_
 ·intro Q1 W1 w1
  refine gS 1 (⟨some IsE0, []⟩ :: []) hs (by kernel_rfl) ⟨ob1 rfl fun b q h n => ok_assign rfl isE0_nil, trivial⟩ W1 fun b q p => ?_
  have hgq := hg.then p.grow
  have hsb := p.size.trans hs
  have hdb := p.defers.trans hd
  have j0 := p.ke 0 rfl i0
  have j1 := p.ke 1 rfl i1
  have j5 : IsE0 (b.get 5) q := p.ou 0 5 rfl
  have y5 : Lo k0 (obF (b.get 5)) := j5.lo
  replace j5 : IsOwn 0 88 ([] : List RegionSpan) (b.get 5) q := j5.own0
  exact tail_done (k := q) (w1 _ _ ⟨⟨hgq, hsb, hdb⟩, j0, j1, j5, y5, trivial⟩)
 rintro a k ⟨⟨hg, hs, hd⟩, i0, i1, i5, n5, _⟩
 refine wp_seq ?_
 refine cutS (fun c l => Bs noF k0 80 c l ∧ IsV x_ (c.get 1) l ∧ IsOwn 0 88 ([] : List RegionSpan) (c.get 5) l ∧ Lo k0 (obF (c.get 5)) ∧ IsV l_ (c.get 12) l ∧ IsL l_ (c.get 13) l ∧ IsI 0 (c.get 14) l ∧ True) ?_ ?_
 ·intro Q2 W2 w2
  refine gS 3 (_ :: _ :: ⟨some (IsI 0), []⟩ :: []) hs (by kernel_rfl) ⟨mu rfl i0, o1 [(12, some 0)] rfl fun _ _ h n => ok_len rfl rfl Try.underlying48 (IsV.rd n.1), ob1 rfl fun _ _ h n => ok_move rfl (cI rfl), trivial⟩ W2 fun b q p => ?_
  exact tail_done (k := q) (w2 _ _ ⟨Bs.post ⟨hg, hs, hd⟩ p, p.ke 1 rfl i1, p.ke 5 rfl i5, (by rw [p.old 5 rfl]; exact n5), p.ou 0 12 rfl, p.ou 1 13 rfl, p.ou 2 14 rfl, trivial⟩)
 rintro a k ⟨⟨hg, hs, hd⟩, i1, i5, n5, i12, i13, i14, _⟩
 refine wp_block ?_
 obtain ⟨f1, hf1, hr⟩ := bind_some hr
 refine cutFe f1 (fun s' c l => Bs noF k0 80 c l ∧ IsV x_ (c.get 1) l ∧ IsOwn 0 88 s'.1 (c.get 5) l ∧ Lo k0 (obF (c.get 5)) ∧ IsV l_ (c.get 12) l ∧ IsL l_ (c.get 13) l ∧ IsV s'.2 (c.get 14) l ∧ True) (fun i' s' c l => (i' = 0 ∧ Bs noF k0 80 c l ∧ IsOwn 0 88 s'.1 (c.get 5) l ∧ Lo k0 (obF (c.get 5)) ∧ True)) (fun r' c l => bodyPost Try.prog Try.f63 (RetC noF k0 (IsV r')) .ret c l.w) ?_ hQ ?_ ?_ ?_
 ·intro Q3 W3 hgo hex hret
  refine sim_loop ?_ _ _ _ _ _ hf1 ⟨⟨hg, hs, hd⟩, i1, i5, n5, i12, i13, i14, trivial⟩ Q3 W3 hgo hex hret
  clear hr hf1 hgo hex hret W3 hQ hg hs hd i1 i12 i13 i14 i5 n5
  intro s1 fl_ a k hr hS Q hQ hgo168 hex169 hret170
  obtain ⟨⟨hg, hs, hd⟩, i1, i5, n5, i12, i13, i14, _⟩ := hS
  unfold region_column_L0 at hr
  refine cutS (fun c l => Bs noF k0 80 c l ∧ IsV x_ (c.get 1) l ∧ IsOwn 0 88 s1.1 (c.get 5) l ∧ Lo k0 (obF (c.get 5)) ∧ IsV l_ (c.get 12) l ∧ IsL l_ (c.get 13) l ∧ IsV s1.2 (c.get 14) l ∧ (IsV (decide (s1.2 < (l_.length : Int)))) (c.get 15) l ∧ True) ?_ ?_
  ·intro Q4 W4 w3
   refine gS 1 (_ :: []) hs (by kernel_rfl) ⟨o1 [(14, none), (13, none)] rfl fun _ _ h n => ok_lss rfl (up i14 h n.1) (up i13 h n.2.1), trivial⟩ W4 fun b q p => ?_
   exact tail_done (k := q) (w3 _ _ ⟨Bs.post ⟨hg, hs, hd⟩ p, p.ke 1 rfl i1, p.ke 5 rfl i5, (by rw [p.old 5 rfl]; exact n5), p.ke 12 rfl i12, p.ke 13 rfl i13, p.ke 14 rfl i14, p.ou 0 15 rfl, trivial⟩)
  rintro a k ⟨⟨hg, hs, hd⟩, i1, i5, n5, i12, i13, i14, i15, _⟩
  refine wp_seq ?_
  refine wp_cond_split (isBool i15) (fun hc188 => ?_) (fun hc188 => ?_)
  ·rw [if_pos hc188] at hr
   refine wp_skip ?_
   refine wp_seq ?_
   refine wp_block ?_
   refine wp_seq ?_
   obtain ⟨x1, hx1, hr⟩ := bind_some hr
   refine cut (fun a' k' => Bs noF k0 80 a' k' ∧ (IsV x_) (a'.get 1) k' ∧ IsOwn 0 88 s1.1 (a'.get 5) k' ∧ Lo k0 (obF (a'.get 5)) ∧ (IsRef x1) (a'.get 7) k' ∧ (IsV l_) (a'.get 12) k' ∧ (IsL l_) (a'.get 13) k' ∧ (IsV s1.2) (a'.get 14) k' ∧ True) ?_ hQ ?_
   ·intro Q5 W5 w4
    refine gS 3 (_ :: _ :: ⟨some (IsBox k.w.heap.size (⟨0, 0, 0, 0⟩ : Rect)), []⟩ :: []) hs (by kernel_rfl) ⟨o1 [(12, none), (14, none)] rfl fun _ _ h n => ok_indexAddr rfl Try.underlying48 ty41 (IsV.rd (up i12 h n.1)) (up i14 h n.2.1) hx1, o1 [(16, some 0)] rfl fun _ _ h n => ok_load rfl ty41 n.1, ob1 rfl fun _ _ h n => ok_alloc _ h.size rfl z41, trivial⟩ W5 fun b q p => ?_
    have hgq := hg.then p.grow
    have hsb := p.size.trans hs
    have hdb := p.defers.trans hd
    have j1 := p.ke 1 rfl i1
    have j5 := p.ke 5 rfl i5
    have y5 : Lo k0 (obF (b.get 5)) := by rw [p.old 5 rfl]; exact n5
    obtain ⟨b7, j7, x7, z7⟩ : (IsBox k.w.heap.size (⟨0, 0, 0, 0⟩ : Rect)) (b.get 7) q := p.ou 2 7 rfl
    replace x7 : Lo k (Eq b7) := Lo.eq x7
    have y7 : Lo k0 (Eq b7) := x7.chg hg
    have j12 := p.ke 12 rfl i12
    have j13 := p.ke 13 rfl i13
    have j14 := p.ke 14 rfl i14
    have j17 : (IsV x1) (b.get 17) q := p.ou 1 17 rfl
    have w5_7 : Apart (obF (b.get 5)) (Eq b7) := Apart.new (by rw [p.old 5 rfl]; exact i5.ltF) x7
    have hns := z7.nshF
    refine tail_storeB (i := 3) rfl rfl rfl rfl szf41 (Upd.self (α := Rect)) j7 z7 j17 fun q2 hch hz => ?_
    replace hgq := hgq.step hch y7.wr
    have hle := hch.le hns
    replace j1 := Pers.pers hle j1
    replace j5 := j5.keep hch w5_7 hns
    replace j12 := Pers.pers hle j12
    replace j13 := Pers.pers hle j13
    replace j14 := Pers.pers hle j14
    replace j17 := Pers.pers hle j17
    replace z7 := hz
    clear hns hle hch
    obtain ⟨q, hqq⟩ : ∃ q, q = q2 := ⟨q2, rfl⟩
    subst hqq
    obtain ⟨q2, hsh, jn⟩ := z7.give
    replace j1 := Pers.pers hsh.le j1
    replace j5 := j5.handed hsh w5_7
    replace j12 := Pers.pers hsh.le j12
    replace j13 := Pers.pers hsh.le j13
    replace j14 := Pers.pers hsh.le j14
    rw [← j7] at jn
    replace j7 := jn
    replace hgq := hgq.hand hsh y7.wr
    rw [← hsh.w]
    clear hsh
    obtain ⟨q, hqq⟩ : ∃ q, q = q2 := ⟨q2, rfl⟩
    subst hqq
    exact tail_done (k := q) (w4 _ _ ⟨⟨hgq, hsb, hdb⟩, j1, j5, y5, j7, j12, j13, j14, trivial⟩)
   rintro a k ⟨⟨hg, hs, hd⟩, i1, i5, n5, i7, i12, i13, i14, _⟩
   refine cutS (fun c l => Bs noF k0 80 c l ∧ IsV x_ (c.get 1) l ∧ IsOwn 0 88 s1.1 (c.get 5) l ∧ Lo k0 (obF (c.get 5)) ∧ IsRef x1 (c.get 7) l ∧ IsV l_ (c.get 12) l ∧ IsL l_ (c.get 13) l ∧ IsV s1.2 (c.get 14) l ∧ (IsV ((decide (x1.X0 ≤ x_)) && (decide (x_ < x1.X1)))) (c.get 27) l ∧ True) ?_ ?_
   ·intro Q6 W6 w5
    refine gS 10 (_ :: _ :: _ :: _ :: _ :: _ :: _ :: _ :: _ :: _ :: []) hs (by kernel_rfl) ⟨o1 [(7, none)] rfl fun _ _ h n => ok_fieldAddr rfl fo41_0 (at_Rect_0 _) ((up i7 h n.1)).ptr, o1 [(18, some 0)] rfl fun _ _ h n => ok_load rfl ty3 n.1, mu rfl i1, o1 [(19, some 1), (20, some 2)] rfl fun _ _ h n => ok_leq rfl n.1 n.2.1, cm 3 rfl rfl, mT rfl rfl i1, gT [(7, none)] rfl rfl fun hp _ _ h n => ok_fieldAddr rfl fo41_2 (at_Rect_2 _) ((up i7 h n.1)).ptr, gT [(24, some 6)] rfl rfl fun hp _ _ h n => ok_load rfl ty3 (Gd.get n.1 hp), gT [(23, some 5), (25, some 7)] rfl rfl fun hp _ _ h n => ok_lss rfl (Gd.get n.1 hp) (Gd.get n.2.1 hp), o1 [(22, some 4), (26, some 8)] rfl fun _ _ h n => ok_pickAnd rfl n.1 (Gd.get n.2.1) (cB rfl), trivial⟩ W6 fun b q p => ?_
    exact tail_done (k := q) (w5 _ _ ⟨Bs.post ⟨hg, hs, hd⟩ p, p.ke 1 rfl i1, p.ke 5 rfl i5, (by rw [p.old 5 rfl]; exact n5), p.ke 7 rfl i7, p.ke 12 rfl i12, p.ke 13 rfl i13, p.ke 14 rfl i14, p.ou 9 27 rfl, trivial⟩)
   rintro a k ⟨⟨hg, hs, hd⟩, i1, i5, n5, i7, i12, i13, i14, i27, _⟩
   obtain ⟨s2, hs2, hr⟩ := bind_some hr
   refine cut (fun a' k' => Bs noF k0 80 a' k' ∧ (IsV x_) (a'.get 1) k' ∧ IsOwn 0 88 s2 (a'.get 5) k' ∧ Lo k0 (obF (a'.get 5)) ∧ (IsV l_) (a'.get 12) k' ∧ (IsL l_) (a'.get 13) k' ∧ (IsV s1.2) (a'.get 14) k' ∧ True) ?_ hQ ?_
   ·intro Q7 W7 w6
    replace hr := hs2
    clear hQ
    have hQ := W7
    refine wp_cond_split (isBool i27) (fun hc179 => ?_) (fun hc179 => ?_)
    ·rw [if_pos hc179] at hr
     obtain ⟨x2, hx2, hr⟩ := bind_some hr
     refine cut (fun a' k' => Bs noF k0 80 a' k' ∧ (IsV x_) (a'.get 1) k' ∧ IsOwn 0 88 x2 (a'.get 5) k' ∧ Lo k0 (obF (a'.get 5)) ∧ (IsV l_) (a'.get 12) k' ∧ (IsL l_) (a'.get 13) k' ∧ (IsV s1.2) (a'.get 14) k' ∧ True) ?_ hQ ?_
     ·intro Q8 W8 w7
      refine gS 7 (⟨some (OwnAt (a.get 5) 0 88 s1.1), [(5, none)]⟩ :: _ :: _ :: _ :: _ :: ⟨some (IsV (⟨x1.Y0, x1.Y1⟩ : RegionSpan)), [(30, some 2), (32, some 4)]⟩ :: ⟨some (IsV (α := (List RegionSpan)) ([(⟨x1.Y0, x1.Y1⟩ : RegionSpan)])), [(33, some 5)]⟩ :: []) hs (by kernel_rfl) ⟨ob1 rfl fun _ _ h n => ok_moveOA (.inl rfl) (ownAt n.1 (up i5 h n.1)), o1 [(7, none)] rfl fun _ _ h n => ok_fieldAddr rfl fo41_1 (at_Rect_1 _) ((up i7 h n.1)).ptr, o1 [(29, some 1)] rfl fun _ _ h n => ok_load rfl ty3 n.1, o1 [(7, none)] rfl fun _ _ h n => ok_fieldAddr rfl fo41_3 (at_Rect_3 _) ((up i7 h n.1)).ptr, o1 [(31, some 3)] rfl fun _ _ h n => ok_load rfl ty3 n.1, ob1 rfl fun _ _ h n => ok_build rfl (bld88_0_1 n.1 n.2.1), ob1 rfl fun _ _ h n => ok_buildSlice rfl Try.underlying86 eo88 rfl (by decide) (by decide) ⟨rfl, n.1, trivial⟩, trivial⟩ W8 fun b q p => ?_
      have hgq := hg.then p.grow
      have hsb := p.size.trans hs
      have hdb := p.defers.trans hd
      have j1 := p.ke 1 rfl i1
      have j12 := p.ke 12 rfl i12
      have j13 := p.ke 13 rfl i13
      have j14 := p.ke 14 rfl i14
      have e28 : b.get 28 = a.get 5 := (p.ou 0 28 rfl).1
      have j28 : IsOwn 0 88 s1.1 (b.get 28) q := (p.ou 0 28 rfl).2
      have y28 : Lo k0 (obF (b.get 28)) := by rw [e28]; exact n5
      have j34 : (IsV (α := (List RegionSpan)) ([(⟨x1.Y0, x1.Y1⟩ : RegionSpan)])) (b.get 34) q := p.ou 6 34 rfl
      have hns := j28.nshF
      refine tail_appendS (i := 7) (d := 35) rfl rfl rfl rfl (by rw [hsb]; decide) (e := 88) Try.underlying86 eo88 j28 (IsV.rd j34) hx2 fun b2 q2 hsz hdf hoth hch hown hob => ?_
      have hle := hch.le hns
      have yn : Lo k0 (obF (b2.get 35)) := y28.app hgq hob
      replace j1 := Pers.pers hle j1
      replace j12 := Pers.pers hle j12
      replace j13 := Pers.pers hle j13
      replace j14 := Pers.pers hle j14
      replace j34 := Pers.pers hle j34
      replace hgq := hgq.step hch y28.wr
      rw [← hoth 1 (by decide)] at j1
      rw [← hoth 12 (by decide)] at j12
      rw [← hoth 13 (by decide)] at j13
      rw [← hoth 14 (by decide)] at j14
      rw [← hoth 34 (by decide)] at j34
      have j35 := hown
      have y35 := yn
      replace hsb := hsz.trans hsb
      replace hdb := hdf.trans hdb
      clear hle hch hown hob hns yn hsz hdf hoth
      obtain ⟨b, hbb⟩ : ∃ b, b = b2 := ⟨b2, rfl⟩
      subst hbb
      obtain ⟨q, hqq⟩ : ∃ q, q = q2 := ⟨q2, rfl⟩
      subst hqq
      refine tail_assign (i := 8) (d := 5) rfl rfl (.inl rfl) rfl (by rw [hsb]; decide) fun b2 hsz hdf hnew hoth => ?_
      have jn : (IsOwn 0 88 x2) (b2.get 5) q := by rw [hnew]; exact j35
      have yn : Lo k0 (obF (b2.get 5)) := by rw [hnew]; exact y35
      rw [← hoth 1 (by decide)] at j1
      rw [← hoth 12 (by decide)] at j12
      rw [← hoth 13 (by decide)] at j13
      rw [← hoth 14 (by decide)] at j14
      rw [← hoth 34 (by decide)] at j34
      have j5 := jn
      have y5 := yn
      replace hsb := hsz.trans hsb
      replace hdb := hdf.trans hdb
      clear hsz hdf hoth
      obtain ⟨b, hbb⟩ : ∃ b, b = b2 := ⟨b2, rfl⟩
      subst hbb
      exact tail_done (k := q) (w7 _ _ ⟨⟨hgq, hsb, hdb⟩, j1, j5, y5, j12, j13, j14, trivial⟩)
     rintro a k ⟨⟨hg, hs, hd⟩, i1, i5, n5, i12, i13, i14, _⟩
     obtain rfl := Option.some.inj hr
     exact w6 _ _ ⟨⟨hg, hs, hd⟩, i1, i5, n5, i12, i13, i14, trivial⟩
    rw [if_neg (by rw [hc179]; decide)] at hr
    refine wp_skip ?_
    obtain rfl := Option.some.inj hr
    exact w6 _ _ ⟨⟨hg, hs, hd⟩, i1, i5, n5, i12, i13, i14, trivial⟩
   clear hs2
   rintro a k ⟨⟨hg, hs, hd⟩, i1, i5, n5, i12, i13, i14, _⟩
   obtain ⟨x3, hx3, hr⟩ := bind_some hr
   refine cut (fun a' k' => Bs noF k0 80 a' k' ∧ (IsV x_) (a'.get 1) k' ∧ IsOwn 0 88 s2 (a'.get 5) k' ∧ Lo k0 (obF (a'.get 5)) ∧ (IsV l_) (a'.get 12) k' ∧ (IsL l_) (a'.get 13) k' ∧ (IsV x3) (a'.get 14) k' ∧ True) ?_ hQ ?_
   ·intro Q9 W9 w8
    refine gS 2 (_ :: _ :: []) hs (by kernel_rfl) ⟨o1 [(14, none)] rfl fun _ _ h n => ok_add rfl (up i14 h n.1) (cI rfl) hx3, cm 0 rfl rfl, trivial⟩ W9 fun b q p => ?_
    exact tail_done (k := q) (w8 _ _ ⟨Bs.post ⟨hg, hs, hd⟩ p, p.ke 1 rfl i1, p.ke 5 rfl i5, (by rw [p.old 5 rfl]; exact n5), p.ke 12 rfl i12, p.ke 13 rfl i13, p.ou 1 14 rfl, trivial⟩)
   rintro a k ⟨⟨hg, hs, hd⟩, i1, i5, n5, i12, i13, i14, _⟩
   exact hgo168 _ _ _ (Option.some.inj hr).symm ⟨⟨hg, hs, hd⟩, i1, i5, n5, i12, i13, i14, trivial⟩
  rw [if_neg (by rw [hc188]; decide)] at hr
  refine wp_exit ?_
  exact hex169 _ _ _ _ (Option.some.inj hr).symm ⟨rfl, ⟨hg, hs, hd⟩, i5, n5, trivial⟩
 ·rintro r1 a k rfl hR
  dsimp only at hr
  obtain rfl := Option.some.inj hr
  exact hR
 ·rintro _ _ _ rfl _
  simp at hr
 clear hf1
 rintro _ s3 a k rfl ⟨rfl, ⟨hg, hs, hd⟩, i5, n5, _⟩
 dsimp only at hr
 refine wp_seq ?_
 obtain ⟨x4, hx4, hr⟩ := bind_some hr
 refine cut (fun a' k' => Bs noF k0 80 a' k' ∧ IsOwn 0 88 x4 (a'.get 5) k' ∧ Lo k0 (obF (a'.get 5)) ∧ True) ?_ hQ ?_
 ·intro Q10 W10 w9
  refine gS 1 (⟨some (OwnAt (a.get 5) 0 88 s3.1), [(5, none)]⟩ :: []) hs (by kernel_rfl) ⟨ob1 rfl fun _ _ h n => ok_moveOA (.inl rfl) (ownAt n.1 (up i5 h n.1)), trivial⟩ W10 fun b q p => ?_
  have hgq := hg.then p.grow
  have hsb := p.size.trans hs
  have hdb := p.defers.trans hd
  have j5 := p.ke 5 rfl i5
  have y5 : Lo k0 (obF (b.get 5)) := by rw [p.old 5 rfl]; exact n5
  have e37 : b.get 37 = a.get 5 := (p.ou 0 37 rfl).1
  have j37 : IsOwn 0 88 s3.1 (b.get 37) q := (p.ou 0 37 rfl).2
  have y37 : Lo k0 (obF (b.get 37)) := by rw [e37]; exact n5
  have hns := j37.nshF
  have eS : b.get 5 = b.get 37 := (p.old 5 rfl).trans e37.symm
  refine tail_call (F := obF (b.get 37)) (i := 1) (d := 38) rfl rfl rfl rfl (by rw [hsb]; decide) Try.call87 W10 (sortSpans_ok j37 hx4) fun b2 q2 hsz hdf hoth hch hres => ?_
  have hle := hch.le hns
  replace hgq := hgq.step hch y37.wr
  replace j5 : IsOwn 0 88 x4 (b.get 5) q2 := by rw [eS]; exact hres
  clear hres eS
  rw [← hoth 5 (by decide)] at j5
  rw [← hoth 5 (by decide)] at y5
  replace hsb := hsz.trans hsb
  replace hdb := hdf.trans hdb
  clear hle hch hns hsz hdf hoth
  obtain ⟨b, hbb⟩ : ∃ b, b = b2 := ⟨b2, rfl⟩
  subst hbb
  obtain ⟨q, hqq⟩ : ∃ q, q = q2 := ⟨q2, rfl⟩
  subst hqq
  exact tail_done (k := q) (w9 _ _ ⟨⟨hgq, hsb, hdb⟩, j5, y5, trivial⟩)
 rintro a k ⟨⟨hg, hs, hd⟩, i5, n5, _⟩
 refine wp_seq ?_
 obtain ⟨kk, sh194, ii5⟩ := i5.give
 replace i5 := ii5
 replace hg := hg.hand sh194 n5.wr
 rw [← sh194.w]
 clear sh194
 obtain ⟨k, hkk⟩ : ∃ k, k = kk := ⟨kk, rfl⟩
 subst hkk
 refine cut (fun a' k' => Bs noF k0 80 a' k' ∧ (IsV x4) (a'.get 5) k' ∧ IsOwn 0 88 ([] : List RegionSpan) (a'.get 8) k' ∧ Lo k0 (obF (a'.get 8)) ∧ True) ?_ hQ ?_
 ·intro Q11 W11 w10
  refine gS 1 (⟨some IsE0, []⟩ :: []) hs (by kernel_rfl) ⟨ob1 rfl fun b q h n => ok_assign rfl isE0_nil, trivial⟩ W11 fun b q p => ?_
  have hgq := hg.then p.grow
  have hsb := p.size.trans hs
  have hdb := p.defers.trans hd
  have j5 := p.ke 5 rfl i5
  have j8 : IsE0 (b.get 8) q := p.ou 0 8 rfl
  have y8 : Lo k0 (obF (b.get 8)) := j8.lo
  replace j8 : IsOwn 0 88 ([] : List RegionSpan) (b.get 8) q := j8.own0
  exact tail_done (k := q) (w10 _ _ ⟨⟨hgq, hsb, hdb⟩, j5, j8, y8, trivial⟩)
 rintro a k ⟨⟨hg, hs, hd⟩, i5, i8, n8, _⟩
 refine wp_seq ?_
 refine cutS (fun c l => Bs noF k0 80 c l ∧ IsOwn 0 88 ([] : List RegionSpan) (c.get 8) l ∧ Lo k0 (obF (c.get 8)) ∧ IsV x4 (c.get 39) l ∧ IsL x4 (c.get 40) l ∧ IsI 0 (c.get 41) l ∧ True) ?_ ?_
 ·intro Q12 W12 w11
  refine gS 3 (_ :: _ :: ⟨some (IsI 0), []⟩ :: []) hs (by kernel_rfl) ⟨mu rfl i5, o1 [(39, some 0)] rfl fun _ _ h n => ok_len rfl rfl Try.underlying86 (IsV.rd n.1), ob1 rfl fun _ _ h n => ok_move rfl (cI rfl), trivial⟩ W12 fun b q p => ?_
  exact tail_done (k := q) (w11 _ _ ⟨Bs.post ⟨hg, hs, hd⟩ p, p.ke 8 rfl i8, (by rw [p.old 8 rfl]; exact n8), p.ou 0 39 rfl, p.ou 1 40 rfl, p.ou 2 41 rfl, trivial⟩)
 rintro a k ⟨⟨hg, hs, hd⟩, i8, n8, i39, i40, i41, _⟩
 refine wp_block ?_
 obtain ⟨f2, hf2, hr⟩ := bind_some hr
 refine cutFe f2 (fun s' c l => Bs noF k0 80 c l ∧ IsOwn 0 88 s'.1 (c.get 8) l ∧ Lo k0 (obF (c.get 8)) ∧ IsV x4 (c.get 39) l ∧ IsL x4 (c.get 40) l ∧ IsV s'.2 (c.get 41) l ∧ True) (fun i' s' c l => (i' = 2 ∧ Bs noF k0 80 c l ∧ IsV s'.1 (c.get 8) l ∧ True)) (fun r' c l => bodyPost Try.prog Try.f63 (RetC noF k0 (IsV r')) .ret c l.w) ?_ hQ ?_ ?_ ?_
 ·intro Q13 W13 hgo hex hret
  refine sim_loop ?_ _ _ _ _ _ hf2 ⟨⟨hg, hs, hd⟩, i8, n8, i39, i40, i41, trivial⟩ Q13 W13 hgo hex hret
  clear hr hf2 hgo hex hret W13 hQ hg hs hd i39 i40 i41 i8 n8
  intro s4 fl_ a k hr hS Q hQ hgo198 hex199 hret200
  obtain ⟨⟨hg, hs, hd⟩, i8, n8, i39, i40, i41, _⟩ := hS
  unfold region_column_L1 at hr
  refine cutS (fun c l => Bs noF k0 80 c l ∧ IsOwn 0 88 s4.1 (c.get 8) l ∧ Lo k0 (obF (c.get 8)) ∧ IsV x4 (c.get 39) l ∧ IsL x4 (c.get 40) l ∧ IsV s4.2 (c.get 41) l ∧ (IsV (decide (s4.2 < (x4.length : Int)))) (c.get 42) l ∧ True) ?_ ?_
  ·intro Q14 W14 w12
   refine gS 1 (_ :: []) hs (by kernel_rfl) ⟨o1 [(41, none), (40, none)] rfl fun _ _ h n => ok_lss rfl (up i41 h n.1) (up i40 h n.2.1), trivial⟩ W14 fun b q p => ?_
   exact tail_done (k := q) (w12 _ _ ⟨Bs.post ⟨hg, hs, hd⟩ p, p.ke 8 rfl i8, (by rw [p.old 8 rfl]; exact n8), p.ke 39 rfl i39, p.ke 40 rfl i40, p.ke 41 rfl i41, p.ou 0 42 rfl, trivial⟩)
  rintro a k ⟨⟨hg, hs, hd⟩, i8, n8, i39, i40, i41, i42, _⟩
  refine wp_seq ?_
  refine wp_cond_split (isBool i42) (fun hc225 => ?_) (fun hc225 => ?_)
  ·rw [if_pos hc225] at hr
   refine wp_skip ?_
   refine wp_seq ?_
   refine wp_block ?_
   refine wp_seq ?_
   obtain ⟨x5, hx5, hr⟩ := bind_some hr
   refine cut (fun a' k' => Bs noF k0 80 a' k' ∧ IsOwn 0 88 s4.1 (a'.get 8) k' ∧ Lo k0 (obF (a'.get 8)) ∧ (IsRef x5) (a'.get 10) k' ∧ (IsV x4) (a'.get 39) k' ∧ (IsL x4) (a'.get 40) k' ∧ (IsV s4.2) (a'.get 41) k' ∧ True) ?_ hQ ?_
   ·intro Q15 W15 w13
    refine gS 3 (_ :: _ :: ⟨some (IsBox k.w.heap.size (⟨0, 0⟩ : RegionSpan)), []⟩ :: []) hs (by kernel_rfl) ⟨o1 [(39, none), (41, none)] rfl fun _ _ h n => ok_indexAddr rfl Try.underlying86 ty88 (IsV.rd (up i39 h n.1)) (up i41 h n.2.1) hx5, o1 [(43, some 0)] rfl fun _ _ h n => ok_load rfl ty88 n.1, ob1 rfl fun _ _ h n => ok_alloc _ h.size rfl z88, trivial⟩ W15 fun b q p => ?_
    have hgq := hg.then p.grow
    have hsb := p.size.trans hs
    have hdb := p.defers.trans hd
    have j8 := p.ke 8 rfl i8
    have y8 : Lo k0 (obF (b.get 8)) := by rw [p.old 8 rfl]; exact n8
    obtain ⟨b10, j10, x10, z10⟩ : (IsBox k.w.heap.size (⟨0, 0⟩ : RegionSpan)) (b.get 10) q := p.ou 2 10 rfl
    replace x10 : Lo k (Eq b10) := Lo.eq x10
    have y10 : Lo k0 (Eq b10) := x10.chg hg
    have j39 := p.ke 39 rfl i39
    have j40 := p.ke 40 rfl i40
    have j41 := p.ke 41 rfl i41
    have j44 : (IsV x5) (b.get 44) q := p.ou 1 44 rfl
    have w8_10 : Apart (obF (b.get 8)) (Eq b10) := Apart.new (by rw [p.old 8 rfl]; exact i8.ltF) x10
    have hns := z10.nshF
    refine tail_storeB (i := 3) rfl rfl rfl rfl szf88 (Upd.self (α := RegionSpan)) j10 z10 j44 fun q2 hch hz => ?_
    replace hgq := hgq.step hch y10.wr
    have hle := hch.le hns
    replace j8 := j8.keep hch w8_10 hns
    replace j39 := Pers.pers hle j39
    replace j40 := Pers.pers hle j40
    replace j41 := Pers.pers hle j41
    replace j44 := Pers.pers hle j44
    replace z10 := hz
    clear hns hle hch
    obtain ⟨q, hqq⟩ : ∃ q, q = q2 := ⟨q2, rfl⟩
    subst hqq
    obtain ⟨q2, hsh, jn⟩ := z10.give
    replace j8 := j8.handed hsh w8_10
    replace j39 := Pers.pers hsh.le j39
    replace j40 := Pers.pers hsh.le j40
    replace j41 := Pers.pers hsh.le j41
    rw [← j10] at jn
    replace j10 := jn
    replace hgq := hgq.hand hsh y10.wr
    rw [← hsh.w]
    clear hsh
    obtain ⟨q, hqq⟩ : ∃ q, q = q2 := ⟨q2, rfl⟩
    subst hqq
    exact tail_done (k := q) (w13 _ _ ⟨⟨hgq, hsb, hdb⟩, j8, y8, j10, j39, j40, j41, trivial⟩)
   rintro a k ⟨⟨hg, hs, hd⟩, i8, n8, i10, i39, i40, i41, _⟩
   refine cutS (fun c l => Bs noF k0 80 c l ∧ IsOwn 0 88 s4.1 (c.get 8) l ∧ Lo k0 (obF (c.get 8)) ∧ IsRef x5 (c.get 10) l ∧ IsI (s4.1.length : Int) (c.get 11) l ∧ IsV x4 (c.get 39) l ∧ IsL x4 (c.get 40) l ∧ IsV s4.2 (c.get 41) l ∧ True) ?_ ?_
   ·intro Q16 W16 w14
    refine gS 3 (⟨some (OwnAt (a.get 8) 0 88 s4.1), [(8, none)]⟩ :: _ :: _ :: []) hs (by kernel_rfl) ⟨ob1 rfl fun _ _ h n => ok_moveOA (.inl rfl) (ownAt n.1 (up i8 h n.1)), o1 [(45, some 0)] rfl fun _ _ h n => ok_len rfl rfl Try.underlying86 (IsOwn.rd (n.1).2), cp 1 rfl rfl, trivial⟩ W16 fun b q p => ?_
    exact tail_done (k := q) (w14 _ _ ⟨Bs.post ⟨hg, hs, hd⟩ p, p.ke 8 rfl i8, (by rw [p.old 8 rfl]; exact n8), p.ke 10 rfl i10, p.ou 2 11 rfl, p.ke 39 rfl i39, p.ke 40 rfl i40, p.ke 41 rfl i41, trivial⟩)
   rintro a k ⟨⟨hg, hs, hd⟩, i8, n8, i10, i11, i39, i40, i41, _⟩
   refine wp_seq ?_
   obtain ⟨x6, hx6, hr⟩ := bind_some hr
   obtain ⟨x8, hx8, hx6⟩ := ite_bind hx6
   obtain ⟨x9, hx9, hx6⟩ := ite_bind hx6
   refine cut (fun a' k' => Bs noF k0 80 a' k' ∧ IsOwn 0 88 s4.1 (a'.get 8) k' ∧ Lo k0 (obF (a'.get 8)) ∧ (IsRef x5) (a'.get 10) k' ∧ (IsI (s4.1.length : Int)) (a'.get 11) k' ∧ (IsV x4) (a'.get 39) k' ∧ (IsL x4) (a'.get 40) k' ∧ (IsV s4.2) (a'.get 41) k' ∧ (IsV x6) (a'.get 59) k' ∧ True) ?_ hQ ?_
   ·intro Q17 W17 w15
    refine region (m := 13) (_ :: _ :: _ :: _ :: _ :: ⟨some (Gd ((decide (0 < (s4.1.length : Int))) = true) (OwnAt (a.get 8) 0 88 s4.1)), [(8, none)]⟩ :: _ :: _ :: _ :: _ :: _ :: _ :: _ :: []) hmix hs (by kernel_rfl) ⟨mu rfl i11, o1 [(47, some 0)] rfl fun _ _ h n => ok_gtr rfl n.1 (cI rfl), cm 1 rfl rfl, gT [(10, none)] rfl rfl fun hp _ _ h n => ok_fieldAddr rfl fo88_0 (at_RegionSpan_0 _) ((up i10 h n.1)).ptr, gT [(50, some 3)] rfl rfl fun hp _ _ h n => ok_load rfl ty3 (Gd.get n.1 hp), gdT rfl rfl fun hp _ _ h n => ok_moveOA (.inl rfl) (ownAt n.1 (up i8 h n.1)), mT rfl rfl i11, gT [(53, some 6)] rfl rfl fun hp _ _ h n => ok_sub rfl (Gd.get n.1 hp) (cI rfl) (hx8 hp), gT [(52, some 5), (54, some 7)] rfl rfl fun hp _ _ h n => ok_indexAddr rfl Try.underlying86 ty88 (IsOwn.rd ((Gd.get n.1 hp)).2) (Gd.get n.2.1 hp) (hx9 hp), gT [(55, some 8)] rfl rfl fun hp _ _ h n => ok_fieldAddr rfl fo88_1 (at_RegionSpan_1 _) (Gd.get n.1 hp), gT [(56, some 9)] rfl rfl fun hp _ _ h n => ok_load rfl ty3 (Gd.get n.1 hp), gT [(51, some 4), (57, some 10)] rfl rfl fun hp _ _ h n => ok_leq rfl (Gd.get n.1 hp) (Gd.get n.2.1 hp), o1 [(49, some 2), (58, some 11)] rfl fun _ _ h n => ok_pickM rfl n.1 hx6 (Gd.get n.2.1) (cB rfl), trivial⟩ W17 fun b q p => ?_
    exact tail_done (k := q) (w15 _ _ ⟨Bs.post ⟨hg, hs, hd⟩ p, p.ke 8 rfl i8, (by rw [p.old 8 rfl]; exact n8), p.ke 10 rfl i10, p.ke 11 rfl i11, p.ke 39 rfl i39, p.ke 40 rfl i40, p.ke 41 rfl i41, p.ou 12 59 rfl, trivial⟩)
   rintro a k ⟨⟨hg, hs, hd⟩, i8, n8, i10, i11, i39, i40, i41, i59, _⟩
   obtain ⟨s5, hs5, hr⟩ := bind_some hr
   refine cut (fun a' k' => Bs noF k0 80 a' k' ∧ IsOwn 0 88 s5 (a'.get 8) k' ∧ Lo k0 (obF (a'.get 8)) ∧ (IsV x4) (a'.get 39) k' ∧ (IsL x4) (a'.get 40) k' ∧ (IsV s4.2) (a'.get 41) k' ∧ True) ?_ hQ ?_
   ·intro Q18 W18 w16
    replace hr := hs5
    clear hQ
    have hQ := W18
    refine wp_cond_split (isBool i59) (fun hc213 => ?_) (fun hc213 => ?_)
    ·rw [if_pos hc213] at hr
     obtain ⟨x11, hx11, hr⟩ := bind_some hr
     obtain ⟨x12, hx12, hr⟩ := bind_some hr
     obtain ⟨x13, hx13, hr⟩ := bind_some hr
     obtain ⟨x14, hx14, hr⟩ := bind_some hr
     obtain ⟨x15, hx15, hr⟩ := bind_some hr
     refine cut (fun a' k' => Bs noF k0 80 a' k' ∧ IsOwn 0 88 x15 (a'.get 8) k' ∧ Lo k0 (obF (a'.get 8)) ∧ (IsV x4) (a'.get 39) k' ∧ (IsL x4) (a'.get 40) k' ∧ (IsV s4.2) (a'.get 41) k' ∧ True) ?_ hQ ?_
     ·intro Q19 W19 w17
      refine region (m := 14) (⟨some (OwnAt (a.get 8) 0 88 s4.1), [(8, none)]⟩ :: _ :: _ :: ⟨some (OwnAt (a.get 8) 0 88 s4.1), [(8, none)]⟩ :: _ :: _ :: _ :: _ :: _ :: _ :: _ :: _ :: ⟨some (IsAdrO (a.get 8) ((x11).toNat * Enc.sz RegionSpan)), [(60, some 0), (62, some 2)]⟩ :: _ :: []) hmix hs (by kernel_rfl) ⟨ob1 rfl fun _ _ h n => ok_moveOA (.inl rfl) (ownAt n.1 (up i8 h n.1)), mu rfl i11, o1 [(61, some 1)] rfl fun _ _ h n => ok_sub rfl n.1 (cI rfl) hx11, ob1 rfl fun _ _ h n => ok_moveOA (.inl rfl) (ownAt n.1 (up i8 h n.1)), mu rfl i11, o1 [(64, some 4)] rfl fun _ _ h n => ok_sub rfl n.1 (cI rfl) hx12, o1 [(63, some 3), (65, some 5)] rfl fun _ _ h n => ok_indexAddr rfl Try.underlying86 ty88 (IsOwn.rd (n.1).2) n.2.1 hx13, o1 [(66, some 6)] rfl fun _ _ h n => ok_fieldAddr rfl fo88_1 (at_RegionSpan_1 _) n.1, o1 [(67, some 7)] rfl fun _ _ h n => ok_load rfl ty3 n.1, o1 [(10, none)] rfl fun _ _ h n => ok_fieldAddr rfl fo88_1 (at_RegionSpan_1 _) ((up i10 h n.1)).ptr, o1 [(69, some 9)] rfl fun _ _ h n => ok_load rfl ty3 n.1, o1 [(68, some 8), (70, some 10)] rfl fun _ _ h n => ok_max2 rfl n.1 n.2.1, ob1 rfl fun _ _ h n => ok_indexO rfl Try.underlying86 ty88 n.1 n.2.1 hx14, o1 [(72, some 12)] rfl fun _ _ h n => ok_fieldAdrO rfl fo88_1 n.1, trivial⟩ W19 fun b q p => ?_
      have hgq := hg.then p.grow
      have hsb := p.size.trans hs
      have hdb := p.defers.trans hd
      have j8 := p.ke 8 rfl i8
      have y8 : Lo k0 (obF (b.get 8)) := by rw [p.old 8 rfl]; exact n8
      have j39 := p.ke 39 rfl i39
      have j40 := p.ke 40 rfl i40
      have j41 := p.ke 41 rfl i41
      have j71 : (IsI (max x13.to_ x5.to_)) (b.get 71) q := p.ou 11 71 rfl
      have j73 : IsAdrO (a.get 8) ((x11).toNat * Enc.sz RegionSpan + 1) (b.get 73) q := p.ou 13 73 rfl
      have eo : b.get 8 = a.get 8 := p.old 8 rfl
      have hns := j8.nshF
      refine tail_storeS (i := 14) (u := b.get 8) (m := (x11).toNat) (off := 0 + 1) rfl rfl rfl rfl szf3 upd_F88_1 (by rw [eo]; exact j73) j8 (getI_spec hx14).2.1 j71 fun q2 hch hz => ?_
      replace hgq := hgq.step hch y8.wr
      have hle := hch.le hns
      replace j39 := Pers.pers hle j39
      replace j40 := Pers.pers hle j40
      replace j41 := Pers.pers hle j41
      replace j71 := Pers.pers hle j71
      replace j73 := Pers.pers hle j73
      replace j8 := hz
      rw [Option.some.inj hx15] at j8
      clear hns hle hch eo hz
      obtain ⟨q, hqq⟩ : ∃ q, q = q2 := ⟨q2, rfl⟩
      subst hqq
      exact tail_done (k := q) (w17 _ _ ⟨⟨hgq, hsb, hdb⟩, j8, y8, j39, j40, j41, trivial⟩)
     rintro a k ⟨⟨hg, hs, hd⟩, i8, n8, i39, i40, i41, _⟩
     obtain rfl := Option.some.inj hr
     exact w16 _ _ ⟨⟨hg, hs, hd⟩, i8, n8, i39, i40, i41, trivial⟩
    rw [if_neg (by rw [hc213]; decide)] at hr
    obtain ⟨x16, hx16, hr⟩ := bind_some hr
    refine cut (fun a' k' => Bs noF k0 80 a' k' ∧ IsOwn 0 88 x16 (a'.get 8) k' ∧ Lo k0 (obF (a'.get 8)) ∧ (IsV x4) (a'.get 39) k' ∧ (IsL x4) (a'.get 40) k' ∧ (IsV s4.2) (a'.get 41) k' ∧ True) ?_ hQ ?_
    ·intro Q20 W20 w18
     refine gS 3 (⟨some (OwnAt (a.get 8) 0 88 s4.1), [(8, none)]⟩ :: _ :: ⟨some (IsV (α := (List RegionSpan)) ([x5])), [(75, some 1)]⟩ :: []) hs (by kernel_rfl) ⟨ob1 rfl fun _ _ h n => ok_moveOA (.inl rfl) (ownAt n.1 (up i8 h n.1)), o1 [(10, none)] rfl fun _ _ h n => ok_load rfl ty88 ((up i10 h n.1)).ptr, ob1 rfl fun _ _ h n => ok_buildSlice rfl Try.underlying86 eo88 rfl (by decide) (by decide) ⟨rfl, n.1, trivial⟩, trivial⟩ W20 fun b q p => ?_
     have hgq := hg.then p.grow
     have hsb := p.size.trans hs
     have hdb := p.defers.trans hd
     have j39 := p.ke 39 rfl i39
     have j40 := p.ke 40 rfl i40
     have j41 := p.ke 41 rfl i41
     have e74 : b.get 74 = a.get 8 := (p.ou 0 74 rfl).1
     have j74 : IsOwn 0 88 s4.1 (b.get 74) q := (p.ou 0 74 rfl).2
     have y74 : Lo k0 (obF (b.get 74)) := by rw [e74]; exact n8
     have j76 : (IsV (α := (List RegionSpan)) ([x5])) (b.get 76) q := p.ou 2 76 rfl
     have hns := j74.nshF
     refine tail_appendS (i := 3) (d := 77) rfl rfl rfl rfl (by rw [hsb]; decide) (e := 88) Try.underlying86 eo88 j74 (IsV.rd j76) hx16 fun b2 q2 hsz hdf hoth hch hown hob => ?_
     have hle := hch.le hns
     have yn : Lo k0 (obF (b2.get 77)) := y74.app hgq hob
     replace j39 := Pers.pers hle j39
     replace j40 := Pers.pers hle j40
     replace j41 := Pers.pers hle j41
     replace j76 := Pers.pers hle j76
     replace hgq := hgq.step hch y74.wr
     rw [← hoth 39 (by decide)] at j39
     rw [← hoth 40 (by decide)] at j40
     rw [← hoth 41 (by decide)] at j41
     rw [← hoth 76 (by decide)] at j76
     have j77 := hown
     have y77 := yn
     replace hsb := hsz.trans hsb
     replace hdb := hdf.trans hdb
     clear hle hch hown hob hns yn hsz hdf hoth
     obtain ⟨b, hbb⟩ : ∃ b, b = b2 := ⟨b2, rfl⟩
     subst hbb
     obtain ⟨q, hqq⟩ : ∃ q, q = q2 := ⟨q2, rfl⟩
     subst hqq
     refine tail_assign (i := 4) (d := 8) rfl rfl (.inl rfl) rfl (by rw [hsb]; decide) fun b2 hsz hdf hnew hoth => ?_
     have jn : (IsOwn 0 88 x16) (b2.get 8) q := by rw [hnew]; exact j77
     have yn : Lo k0 (obF (b2.get 8)) := by rw [hnew]; exact y77
     rw [← hoth 39 (by decide)] at j39
     rw [← hoth 40 (by decide)] at j40
     rw [← hoth 41 (by decide)] at j41
     rw [← hoth 76 (by decide)] at j76
     have j8 := jn
     have y8 := yn
     replace hsb := hsz.trans hsb
     replace hdb := hdf.trans hdb
     clear hsz hdf hoth
     obtain ⟨b, hbb⟩ : ∃ b, b = b2 := ⟨b2, rfl⟩
     subst hbb
     exact tail_done (k := q) (w18 _ _ ⟨⟨hgq, hsb, hdb⟩, j8, y8, j39, j40, j41, trivial⟩)
    rintro a k ⟨⟨hg, hs, hd⟩, i8, n8, i39, i40, i41, _⟩
    obtain rfl := Option.some.inj hr
    exact w16 _ _ ⟨⟨hg, hs, hd⟩, i8, n8, i39, i40, i41, trivial⟩
   clear hs5
   rintro a k ⟨⟨hg, hs, hd⟩, i8, n8, i39, i40, i41, _⟩
   obtain ⟨x17, hx17, hr⟩ := bind_some hr
   refine cut (fun a' k' => Bs noF k0 80 a' k' ∧ IsOwn 0 88 s5 (a'.get 8) k' ∧ Lo k0 (obF (a'.get 8)) ∧ (IsV x4) (a'.get 39) k' ∧ (IsL x4) (a'.get 40) k' ∧ (IsV x17) (a'.get 41) k' ∧ True) ?_ hQ ?_
   ·intro Q21 W21 w19
    refine gS 2 (_ :: _ :: []) hs (by kernel_rfl) ⟨o1 [(41, none)] rfl fun _ _ h n => ok_add rfl (up i41 h n.1) (cI rfl) hx17, cm 0 rfl rfl, trivial⟩ W21 fun b q p => ?_
    exact tail_done (k := q) (w19 _ _ ⟨Bs.post ⟨hg, hs, hd⟩ p, p.ke 8 rfl i8, (by rw [p.old 8 rfl]; exact n8), p.ke 39 rfl i39, p.ke 40 rfl i40, p.ou 1 41 rfl, trivial⟩)
   rintro a k ⟨⟨hg, hs, hd⟩, i8, n8, i39, i40, i41, _⟩
   exact hgo198 _ _ _ (Option.some.inj hr).symm ⟨⟨hg, hs, hd⟩, i8, n8, i39, i40, i41, trivial⟩
  rw [if_neg (by rw [hc225]; decide)] at hr
  refine wp_exit ?_
  obtain ⟨kk, sh224, ii8⟩ := i8.give
  replace i8 := ii8
  replace hg := hg.hand sh224 n8.wr
  rw [← sh224.w]
  clear sh224
  obtain ⟨k, hkk⟩ : ∃ k, k = kk := ⟨kk, rfl⟩
  subst hkk
  exact hex199 _ _ _ _ (Option.some.inj hr).symm ⟨rfl, ⟨hg, hs, hd⟩, i8, trivial⟩
 ·rintro r2 a k rfl hR
  dsimp only at hr
  obtain rfl := Option.some.inj hr
  exact hR
 ·rintro _ _ _ rfl _
  simp at hr
 clear hf2
 rintro _ s6 a k rfl ⟨rfl, ⟨hg, hs, hd⟩, i8, _⟩
 dsimp only at hr
 refine stepL 2 (_ :: _ :: []) rfl ⟨hg, hs, hd⟩ (by kernel_rfl) ⟨mu rfl i8, cp 0 rfl rfl, trivial⟩ [⟨_, _⟩] (fun b q p => ⟨p.ou 1 4 rfl, trivial⟩) ?_
 rintro a k ⟨⟨hg, hs, hd⟩, i4, _⟩
 refine wp_ret ?_
 obtain rfl := Option.some.inj hr
 exact retC1 rfl hd hg i4
def region_strips_L0 (x1 : (List Rect)) (s1 : (List Int) × Int) : Option (Flow ((List Int) × Int) ((List RegionStrip))) :=
 if (decide (s1.2 < (x1.length : Int))) then
  (getI x1 s1.2).bind fun x2 =>
  (appI s1.1 ([x2.X0, x2.X1])).bind fun x3 =>
  (addI s1.2 1).bind fun x4 =>
  some (.go (x3, x4))
 else
  some (.ex 0 (s1.1, s1.2))
def region_strips_L1 (x1 : (List Rect)) (x2 : (List Int)) (s1 : (List RegionStrip) × Int) : Option (Flow ((List RegionStrip) × Int) ((List RegionStrip))) :=
 if (decide (s1.2 < (x2.length : Int))) then
  (subI s1.2 1).bind fun x3 =>
  (getI x2 x3).bind fun x4 =>
  (getI x2 s1.2).bind fun x5 =>
  (subI s1.2 1).bind fun x6 =>
  (getI x2 x6).bind fun x7 =>
  (region_column x1 x7).bind fun x8 =>
  (appI s1.1 ([(⟨x4, x5, x8⟩ : RegionStrip)])).bind fun x9 =>
  (addI s1.2 1).bind fun x10 =>
  some (.go (x9, x10))
 else
  some (.ex 2 (s1.1, s1.2))
def region_strips (lists_ : (List (List Rect))) : Option ((List RegionStrip)) :=
 (slices_Concat_Rect lists_).bind fun x1 =>
 (iterL (region_strips_L0 x1) (x1.length + 1) (([] : List Int), 0)).bind fun f1 => match f1 with
  | .go _ => none
  | .ex _ s1 =>
   (sortInts s1.1).bind fun x2 =>
   (compactInts x2).bind fun x3 =>
   (iterL (region_strips_L1 x1 x3) (x1.length + x3.length + ([] : List RegionStrip).length + 1) (([] : List RegionStrip), 1)).bind fun f2 => match f2 with
    | .go _ => none
    | .ex _ s2 =>
     some s2.1
    | .ret r1 => some r1
  | .ret r2 => some r2
theorem region_strips_okO {k0 : K} {v0 : Value} {lists_ : (List (List Rect))} {r : (List RegionStrip)} (i0 : (IsV lists_) v0 k0) (hr : region_strips lists_ = some r) :
  Calls Try.prog 47 #[v0] k0.w (Ret k0 (IsOwn k0.w.heap.size 90 r)) := by
 unfold region_strips at hr
 refine Ret.ofC ?_
 refine enterK Try.func47 rfl Try.ntmps47 (show 1 ≤ 56 by decide) fun a k hk0 hs hd ha => ?_
 obtain ⟨e0, _⟩ := ha
 replace i0 : (IsV lists_) (a.get 0) k := by rw [e0, hk0]; exact i0
 have hQ : Gb.LetsOut (bodyPost Try.prog Try.f47 (RetC noF k0 (IsOwn k0.w.heap.size 90 r))) := letsOutC
 have hg : Chg noF k0 k := by rw [hk0]; exact Chg.refl _ k0
 refine stepL 1 (⟨some IsE0, []⟩ :: []) rfl ⟨hg, hs, hd⟩ (by kernel_rfl) ⟨ob1 rfl fun b q h n => ok_assign rfl isE0_nil, trivial⟩ [⟨_, _⟩] (fun b q p => ⟨p.ke 0 rfl i0, trivial⟩) ?_
 rintro a k ⟨⟨hg, hs, hd⟩, i0, _⟩
 refine wp_seq ?_
 obtain ⟨x1, hx1, hr⟩ := bind_some hr
 refine cut (fun a' k' => Bs noF k0 56 a' k' ∧ (IsV x1) (a'.get 3) k' ∧ True) ?_ hQ ?_
 ·intro Q1 W1 w1
  refine gS 3 (_ :: _ :: _ :: []) hs (by kernel_rfl) ⟨mu rfl i0, o1 [(9, some 0)] rfl fun _ _ h n => ok_call rfl Try.call62 (slices_Concat_Rect_ok n.1 hx1), cp 1 rfl rfl, trivial⟩ W1 fun b q p => ?_
  exact tail_done (k := q) (w1 _ _ ⟨Bs.post ⟨hg, hs, hd⟩ p, p.ou 2 3 rfl, trivial⟩)
 rintro a k ⟨⟨hg, hs, hd⟩, i3, _⟩
 refine cutS (fun c l => Bs noF k0 56 c l ∧ IsV x1 (c.get 3) l ∧ IsOwn 0 3 ([] : List Int) (c.get 4) l ∧ Lo k0 (obF (c.get 4)) ∧ True) ?_ ?_
 ·intro Q2 W2 w2
  refine gS 1 (⟨some IsE0, []⟩ :: []) hs (by kernel_rfl) ⟨ob1 rfl fun b q h n => ok_assign rfl isE0_nil, trivial⟩ W2 fun b q p => ?_
  have hgq := hg.then p.grow
  have hsb := p.size.trans hs
  have hdb := p.defers.trans hd
  have j3 := p.ke 3 rfl i3
  have j4 : IsE0 (b.get 4) q := p.ou 0 4 rfl
  have y4 : Lo k0 (obF (b.get 4)) := j4.lo
  replace j4 : IsOwn 0 3 ([] : List Int) (b.get 4) q := j4.own0
  exact tail_done (k := q) (w2 _ _ ⟨⟨hgq, hsb, hdb⟩, j3, j4, y4, trivial⟩)
 rintro a k ⟨⟨hg, hs, hd⟩, i3, i4, n4, _⟩
 refine wp_seq ?_
 refine cutS (fun c l => Bs noF k0 56 c l ∧ IsV x1 (c.get 3) l ∧ IsOwn 0 3 ([] : List Int) (c.get 4) l ∧ Lo k0 (obF (c.get 4)) ∧ IsV x1 (c.get 11) l ∧ IsL x1 (c.get 12) l ∧ IsI 0 (c.get 13) l ∧ True) ?_ ?_
 ·intro Q3 W3 w3
  refine gS 3 (_ :: _ :: ⟨some (IsI 0), []⟩ :: []) hs (by kernel_rfl) ⟨mu rfl i3, o1 [(11, some 0)] rfl fun _ _ h n => ok_len rfl rfl Try.underlying48 (IsV.rd n.1), ob1 rfl fun _ _ h n => ok_move rfl (cI rfl), trivial⟩ W3 fun b q p => ?_
  exact tail_done (k := q) (w3 _ _ ⟨Bs.post ⟨hg, hs, hd⟩ p, p.ke 3 rfl i3, p.ke 4 rfl i4, (by rw [p.old 4 rfl]; exact n4), p.ou 0 11 rfl, p.ou 1 12 rfl, p.ou 2 13 rfl, trivial⟩)
 rintro a k ⟨⟨hg, hs, hd⟩, i3, i4, n4, i11, i12, i13, _⟩
 refine wp_block ?_
 obtain ⟨f1, hf1, hr⟩ := bind_some hr
 refine cutFe f1 (fun s' c l => Bs noF k0 56 c l ∧ IsV x1 (c.get 3) l ∧ IsOwn 0 3 s'.1 (c.get 4) l ∧ Lo k0 (obF (c.get 4)) ∧ IsV x1 (c.get 11) l ∧ IsL x1 (c.get 12) l ∧ IsV s'.2 (c.get 13) l ∧ True) (fun i' s' c l => (i' = 0 ∧ Bs noF k0 56 c l ∧ IsV x1 (c.get 3) l ∧ IsOwn 0 3 s'.1 (c.get 4) l ∧ Lo k0 (obF (c.get 4)) ∧ True)) (fun r' c l => bodyPost Try.prog Try.f47 (RetC noF k0 (IsOwn k0.w.heap.size 90 r')) .ret c l.w) ?_ hQ ?_ ?_ ?_
 ·intro Q4 W4 hgo hex hret
  refine sim_loop ?_ _ _ _ _ _ hf1 ⟨⟨hg, hs, hd⟩, i3, i4, n4, i11, i12, i13, trivial⟩ Q4 W4 hgo hex hret
  clear hr hf1 hgo hex hret W4 hQ hg hs hd i11 i12 i13 i3 i4 n4
  intro s1 fl_ a k hr hS Q hQ hgo254 hex255 hret256
  obtain ⟨⟨hg, hs, hd⟩, i3, i4, n4, i11, i12, i13, _⟩ := hS
  unfold region_strips_L0 at hr
  refine cutS (fun c l => Bs noF k0 56 c l ∧ IsV x1 (c.get 3) l ∧ IsOwn 0 3 s1.1 (c.get 4) l ∧ Lo k0 (obF (c.get 4)) ∧ IsV x1 (c.get 11) l ∧ IsL x1 (c.get 12) l ∧ IsV s1.2 (c.get 13) l ∧ (IsV (decide (s1.2 < (x1.length : Int)))) (c.get 14) l ∧ True) ?_ ?_
  ·intro Q5 W5 w4
   refine gS 1 (_ :: []) hs (by kernel_rfl) ⟨o1 [(13, none), (12, none)] rfl fun _ _ h n => ok_lss rfl (up i13 h n.1) (up i12 h n.2.1), trivial⟩ W5 fun b q p => ?_
   exact tail_done (k := q) (w4 _ _ ⟨Bs.post ⟨hg, hs, hd⟩ p, p.ke 3 rfl i3, p.ke 4 rfl i4, (by rw [p.old 4 rfl]; exact n4), p.ke 11 rfl i11, p.ke 12 rfl i12, p.ke 13 rfl i13, p.ou 0 14 rfl, trivial⟩)
  rintro a k ⟨⟨hg, hs, hd⟩, i3, i4, n4, i11, i12, i13, i14, _⟩
  refine wp_seq ?_
  refine wp_cond_split (isBool i14) (fun hc267 => ?_) (fun hc267 => ?_)
  ·rw [if_pos hc267] at hr
   refine wp_skip ?_
   refine wp_seq ?_
   refine wp_block ?_
   refine wp_seq ?_
   obtain ⟨x2, hx2, hr⟩ := bind_some hr
   refine cut (fun a' k' => Bs noF k0 56 a' k' ∧ (IsV x1) (a'.get 3) k' ∧ IsOwn 0 3 s1.1 (a'.get 4) k' ∧ Lo k0 (obF (a'.get 4)) ∧ (IsRef x2) (a'.get 6) k' ∧ (IsV x1) (a'.get 11) k' ∧ (IsL x1) (a'.get 12) k' ∧ (IsV s1.2) (a'.get 13) k' ∧ True) ?_ hQ ?_
   ·intro Q6 W6 w5
    refine gS 3 (_ :: _ :: ⟨some (IsBox k.w.heap.size (⟨0, 0, 0, 0⟩ : Rect)), []⟩ :: []) hs (by kernel_rfl) ⟨o1 [(11, none), (13, none)] rfl fun _ _ h n => ok_indexAddr rfl Try.underlying48 ty41 (IsV.rd (up i11 h n.1)) (up i13 h n.2.1) hx2, o1 [(15, some 0)] rfl fun _ _ h n => ok_load rfl ty41 n.1, ob1 rfl fun _ _ h n => ok_alloc _ h.size rfl z41, trivial⟩ W6 fun b q p => ?_
    have hgq := hg.then p.grow
    have hsb := p.size.trans hs
    have hdb := p.defers.trans hd
    have j3 := p.ke 3 rfl i3
    have j4 := p.ke 4 rfl i4
    have y4 : Lo k0 (obF (b.get 4)) := by rw [p.old 4 rfl]; exact n4
    obtain ⟨b6, j6, x6, z6⟩ : (IsBox k.w.heap.size (⟨0, 0, 0, 0⟩ : Rect)) (b.get 6) q := p.ou 2 6 rfl
    replace x6 : Lo k (Eq b6) := Lo.eq x6
    have y6 : Lo k0 (Eq b6) := x6.chg hg
    have j11 := p.ke 11 rfl i11
    have j12 := p.ke 12 rfl i12
    have j13 := p.ke 13 rfl i13
    have j16 : (IsV x2) (b.get 16) q := p.ou 1 16 rfl
    have w4_6 : Apart (obF (b.get 4)) (Eq b6) := Apart.new (by rw [p.old 4 rfl]; exact i4.ltF) x6
    have hns := z6.nshF
    refine tail_storeB (i := 3) rfl rfl rfl rfl szf41 (Upd.self (α := Rect)) j6 z6 j16 fun q2 hch hz => ?_
    replace hgq := hgq.step hch y6.wr
    have hle := hch.le hns
    replace j3 := Pers.pers hle j3
    replace j4 := j4.keep hch w4_6 hns
    replace j11 := Pers.pers hle j11
    replace j12 := Pers.pers hle j12
    replace j13 := Pers.pers hle j13
    replace j16 := Pers.pers hle j16
    replace z6 := hz
    clear hns hle hch
    obtain ⟨q, hqq⟩ : ∃ q, q = q2 := ⟨q2, rfl⟩
    subst hqq
    obtain ⟨q2, hsh, jn⟩ := z6.give
    replace j3 := Pers.pers hsh.le j3
    replace j4 := j4.handed hsh w4_6
    replace j11 := Pers.pers hsh.le j11
    replace j12 := Pers.pers hsh.le j12
    replace j13 := Pers.pers hsh.le j13
    rw [← j6] at jn
    replace j6 := jn
    replace hgq := hgq.hand hsh y6.wr
    rw [← hsh.w]
    clear hsh
    obtain ⟨q, hqq⟩ : ∃ q, q = q2 := ⟨q2, rfl⟩
    subst hqq
    exact tail_done (k := q) (w5 _ _ ⟨⟨hgq, hsb, hdb⟩, j3, j4, y4, j6, j11, j12, j13, trivial⟩)
   rintro a k ⟨⟨hg, hs, hd⟩, i3, i4, n4, i6, i11, i12, i13, _⟩
   obtain ⟨x3, hx3, hr⟩ := bind_some hr
   refine cut (fun a' k' => Bs noF k0 56 a' k' ∧ (IsV x1) (a'.get 3) k' ∧ IsOwn 0 3 x3 (a'.get 4) k' ∧ Lo k0 (obF (a'.get 4)) ∧ (IsV x1) (a'.get 11) k' ∧ (IsL x1) (a'.get 12) k' ∧ (IsV s1.2) (a'.get 13) k' ∧ True) ?_ hQ ?_
   ·intro Q7 W7 w6
    refine gS 6 (⟨some (OwnAt (a.get 4) 0 3 s1.1), [(4, none)]⟩ :: _ :: _ :: _ :: _ :: ⟨some (IsV (α := (List Int)) ([x2.X0, x2.X1])), [(19, some 2), (21, some 4)]⟩ :: []) hs (by kernel_rfl) ⟨ob1 rfl fun _ _ h n => ok_moveOA (.inl rfl) (ownAt n.1 (up i4 h n.1)), o1 [(6, none)] rfl fun _ _ h n => ok_fieldAddr rfl fo41_0 (at_Rect_0 _) ((up i6 h n.1)).ptr, o1 [(18, some 1)] rfl fun _ _ h n => ok_load rfl ty3 n.1, o1 [(6, none)] rfl fun _ _ h n => ok_fieldAddr rfl fo41_2 (at_Rect_2 _) ((up i6 h n.1)).ptr, o1 [(20, some 3)] rfl fun _ _ h n => ok_load rfl ty3 n.1, ob1 rfl fun _ _ h n => ok_buildSlice rfl Try.underlying57 eo3 rfl (by decide) (by decide) ⟨rfl, n.1, rfl, n.2.1, trivial⟩, trivial⟩ W7 fun b q p => ?_
    have hgq := hg.then p.grow
    have hsb := p.size.trans hs
    have hdb := p.defers.trans hd
    have j3 := p.ke 3 rfl i3
    have j11 := p.ke 11 rfl i11
    have j12 := p.ke 12 rfl i12
    have j13 := p.ke 13 rfl i13
    have e17 : b.get 17 = a.get 4 := (p.ou 0 17 rfl).1
    have j17 : IsOwn 0 3 s1.1 (b.get 17) q := (p.ou 0 17 rfl).2
    have y17 : Lo k0 (obF (b.get 17)) := by rw [e17]; exact n4
    have j22 : (IsV (α := (List Int)) ([x2.X0, x2.X1])) (b.get 22) q := p.ou 5 22 rfl
    have hns := j17.nshF
    refine tail_appendS (i := 6) (d := 23) rfl rfl rfl rfl (by rw [hsb]; decide) (e := 3) Try.underlying57 eo3 j17 (IsV.rd j22) hx3 fun b2 q2 hsz hdf hoth hch hown hob => ?_
    have hle := hch.le hns
    have yn : Lo k0 (obF (b2.get 23)) := y17.app hgq hob
    replace j3 := Pers.pers hle j3
    replace j11 := Pers.pers hle j11
    replace j12 := Pers.pers hle j12
    replace j13 := Pers.pers hle j13
    replace j22 := Pers.pers hle j22
    replace hgq := hgq.step hch y17.wr
    rw [← hoth 3 (by decide)] at j3
    rw [← hoth 11 (by decide)] at j11
    rw [← hoth 12 (by decide)] at j12
    rw [← hoth 13 (by decide)] at j13
    rw [← hoth 22 (by decide)] at j22
    have j23 := hown
    have y23 := yn
    replace hsb := hsz.trans hsb
    replace hdb := hdf.trans hdb
    clear hle hch hown hob hns yn hsz hdf hoth
    obtain ⟨b, hbb⟩ : ∃ b, b = b2 := ⟨b2, rfl⟩
    subst hbb
    obtain ⟨q, hqq⟩ : ∃ q, q = q2 := ⟨q2, rfl⟩
    subst hqq
    refine tail_assign (i := 7) (d := 4) rfl rfl (.inl rfl) rfl (by rw [hsb]; decide) fun b2 hsz hdf hnew hoth => ?_
    have jn : (IsOwn 0 3 x3) (b2.get 4) q := by rw [hnew]; exact j23
    have yn : Lo k0 (obF (b2.get 4)) := by rw [hnew]; exact y23
    rw [← hoth 3 (by decide)] at j3
    rw [← hoth 11 (by decide)] at j11
    rw [← hoth 12 (by decide)] at j12
    rw [← hoth 13 (by decide)] at j13
    rw [← hoth 22 (by decide)] at j22
    have j4 := jn
    have y4 := yn
    replace hsb := hsz.trans hsb
    replace hdb := hdf.trans hdb
    clear hsz hdf hoth
    obtain ⟨b, hbb⟩ : ∃ b, b = b2 := ⟨b2, rfl⟩
    subst hbb
    exact tail_done (k := q) (w6 _ _ ⟨⟨hgq, hsb, hdb⟩, j3, j4, y4, j11, j12, j13, trivial⟩)
   rintro a k ⟨⟨hg, hs, hd⟩, i3, i4, n4, i11, i12, i13, _⟩
   obtain ⟨x4, hx4, hr⟩ := bind_some hr
   refine cut (fun a' k' => Bs noF k0 56 a' k' ∧ (IsV x1) (a'.get 3) k' ∧ IsOwn 0 3 x3 (a'.get 4) k' ∧ Lo k0 (obF (a'.get 4)) ∧ (IsV x1) (a'.get 11) k' ∧ (IsL x1) (a'.get 12) k' ∧ (IsV x4) (a'.get 13) k' ∧ True) ?_ hQ ?_
   ·intro Q8 W8 w7
    refine gS 2 (_ :: _ :: []) hs (by kernel_rfl) ⟨o1 [(13, none)] rfl fun _ _ h n => ok_add rfl (up i13 h n.1) (cI rfl) hx4, cm 0 rfl rfl, trivial⟩ W8 fun b q p => ?_
    exact tail_done (k := q) (w7 _ _ ⟨Bs.post ⟨hg, hs, hd⟩ p, p.ke 3 rfl i3, p.ke 4 rfl i4, (by rw [p.old 4 rfl]; exact n4), p.ke 11 rfl i11, p.ke 12 rfl i12, p.ou 1 13 rfl, trivial⟩)
   rintro a k ⟨⟨hg, hs, hd⟩, i3, i4, n4, i11, i12, i13, _⟩
   exact hgo254 _ _ _ (Option.some.inj hr).symm ⟨⟨hg, hs, hd⟩, i3, i4, n4, i11, i12, i13, trivial⟩
  rw [if_neg (by rw [hc267]; decide)] at hr
  refine wp_exit ?_
  exact hex255 _ _ _ _ (Option.some.inj hr).symm ⟨rfl, ⟨hg, hs, hd⟩, i3, i4, n4, trivial⟩
 ·rintro r1 a k rfl hR
  dsimp only at hr
  obtain rfl := Option.some.inj hr
  exact hR
 ·rintro _ _ _ rfl _
  simp at hr
 clear hf1
 rintro _ s2 a k rfl ⟨rfl, ⟨hg, hs, hd⟩, i3, i4, n4, _⟩
 dsimp only at hr
 refine wp_seq ?_
 obtain ⟨x5, hx5, hr⟩ := bind_some hr
 refine cut (fun a' k' => Bs noF k0 56 a' k' ∧ (IsV x1) (a'.get 3) k' ∧ IsOwn 0 3 x5 (a'.get 4) k' ∧ Lo k0 (obF (a'.get 4)) ∧ True) ?_ hQ ?_
 ·intro Q9 W9 w8
  refine gS 1 (⟨some (OwnAt (a.get 4) 0 3 s2.1), [(4, none)]⟩ :: []) hs (by kernel_rfl) ⟨ob1 rfl fun _ _ h n => ok_moveOA (.inl rfl) (ownAt n.1 (up i4 h n.1)), trivial⟩ W9 fun b q p => ?_
  have hgq := hg.then p.grow
  have hsb := p.size.trans hs
  have hdb := p.defers.trans hd
  have j3 := p.ke 3 rfl i3
  have j4 := p.ke 4 rfl i4
  have y4 : Lo k0 (obF (b.get 4)) := by rw [p.old 4 rfl]; exact n4
  have e25 : b.get 25 = a.get 4 := (p.ou 0 25 rfl).1
  have j25 : IsOwn 0 3 s2.1 (b.get 25) q := (p.ou 0 25 rfl).2
  have y25 : Lo k0 (obF (b.get 25)) := by rw [e25]; exact n4
  have hns := j25.nshF
  have eS : b.get 4 = b.get 25 := (p.old 4 rfl).trans e25.symm
  refine tail_call (F := obF (b.get 25)) (i := 1) (d := 26) rfl rfl rfl rfl (by rw [hsb]; decide) Try.call43 W9 (sortInts_ok j25 hx5) fun b2 q2 hsz hdf hoth hch hres => ?_
  have hle := hch.le hns
  replace j3 := Pers.pers hle j3
  replace hgq := hgq.step hch y25.wr
  replace j4 : IsOwn 0 3 x5 (b.get 4) q2 := by rw [eS]; exact hres
  clear hres eS
  rw [← hoth 3 (by decide)] at j3
  rw [← hoth 4 (by decide)] at j4
  rw [← hoth 4 (by decide)] at y4
  replace hsb := hsz.trans hsb
  replace hdb := hdf.trans hdb
  clear hle hch hns hsz hdf hoth
  obtain ⟨b, hbb⟩ : ∃ b, b = b2 := ⟨b2, rfl⟩
  subst hbb
  obtain ⟨q, hqq⟩ : ∃ q, q = q2 := ⟨q2, rfl⟩
  subst hqq
  exact tail_done (k := q) (w8 _ _ ⟨⟨hgq, hsb, hdb⟩, j3, j4, y4, trivial⟩)
 rintro a k ⟨⟨hg, hs, hd⟩, i3, i4, n4, _⟩
 refine wp_seq ?_
 obtain ⟨x7, hx7, hr⟩ := bind_some hr
 refine cut (fun a' k' => Bs noF k0 56 a' k' ∧ (IsV x1) (a'.get 3) k' ∧ IsOwn 0 3 x7 (a'.get 4) k' ∧ Lo k0 (obF (a'.get 4)) ∧ True) ?_ hQ ?_
 ·intro Q10 W10 w9
  refine gS 1 (⟨some (OwnAt (a.get 4) 0 3 x5), [(4, none)]⟩ :: []) hs (by kernel_rfl) ⟨ob1 rfl fun _ _ h n => ok_moveOA (.inl rfl) (ownAt n.1 (up i4 h n.1)), trivial⟩ W10 fun b q p => ?_
  have hgq := hg.then p.grow
  have hsb := p.size.trans hs
  have hdb := p.defers.trans hd
  have j3 := p.ke 3 rfl i3
  have e27 : b.get 27 = a.get 4 := (p.ou 0 27 rfl).1
  have j27 : IsOwn 0 3 x5 (b.get 27) q := (p.ou 0 27 rfl).2
  have y27 : Lo k0 (obF (b.get 27)) := by rw [e27]; exact n4
  have hns := j27.nshF
  refine tail_call (F := obF (b.get 27)) (i := 1) (d := 28) rfl rfl rfl rfl (by rw [hsb]; decide) Try.call44 W10 (compactInts_ok j27 hx7) fun b2 q2 hsz hdf hoth hch hres => ?_
  have hle := hch.le hns
  obtain ⟨hown, hob⟩ := hres
  have yn : Lo k0 (obF (b2.get 28)) := y27.app hgq hob
  replace j3 := Pers.pers hle j3
  replace hgq := hgq.step hch y27.wr
  rw [← hoth 3 (by decide)] at j3
  have j28 := hown
  have y28 := yn
  have hres := True.intro
  clear hown hob yn
  replace hsb := hsz.trans hsb
  replace hdb := hdf.trans hdb
  clear hle hch hres hns hsz hdf hoth
  obtain ⟨b, hbb⟩ : ∃ b, b = b2 := ⟨b2, rfl⟩
  subst hbb
  obtain ⟨q, hqq⟩ : ∃ q, q = q2 := ⟨q2, rfl⟩
  subst hqq
  refine tail_assign (i := 2) (d := 4) rfl rfl (.inl rfl) rfl (by rw [hsb]; decide) fun b2 hsz hdf hnew hoth => ?_
  have jn : (IsOwn 0 3 x7) (b2.get 4) q := by rw [hnew]; exact j28
  have yn : Lo k0 (obF (b2.get 4)) := by rw [hnew]; exact y28
  rw [← hoth 3 (by decide)] at j3
  have j4 := jn
  have y4 := yn
  replace hsb := hsz.trans hsb
  replace hdb := hdf.trans hdb
  clear hsz hdf hoth
  obtain ⟨b, hbb⟩ : ∃ b, b = b2 := ⟨b2, rfl⟩
  subst hbb
  exact tail_done (k := q) (w9 _ _ ⟨⟨hgq, hsb, hdb⟩, j3, j4, y4, trivial⟩)
 rintro a k ⟨⟨hg, hs, hd⟩, i3, i4, n4, _⟩
 refine wp_seq ?_
 obtain ⟨kk, sh274, ii4⟩ := i4.give
 replace i3 := Pers.pers sh274.le i3
 replace i4 := ii4
 replace hg := hg.hand sh274 n4.wr
 rw [← sh274.w]
 clear sh274
 obtain ⟨k, hkk⟩ : ∃ k, k = kk := ⟨kk, rfl⟩
 subst hkk
 refine cut (fun a' k' => Bs noF k0 56 a' k' ∧ (IsV x1) (a'.get 3) k' ∧ (IsV x7) (a'.get 4) k' ∧ IsOwn 0 90 ([] : List RegionStrip) (a'.get 7) k' ∧ Lo k0 (obF (a'.get 7)) ∧ True) ?_ hQ ?_
 ·intro Q11 W11 w10
  refine gS 1 (⟨some IsE0, []⟩ :: []) hs (by kernel_rfl) ⟨ob1 rfl fun b q h n => ok_assign rfl isE0_nil, trivial⟩ W11 fun b q p => ?_
  have hgq := hg.then p.grow
  have hsb := p.size.trans hs
  have hdb := p.defers.trans hd
  have j3 := p.ke 3 rfl i3
  have j4 := p.ke 4 rfl i4
  have j7 : IsE0 (b.get 7) q := p.ou 0 7 rfl
  have y7 : Lo k0 (obF (b.get 7)) := j7.lo
  replace j7 : IsOwn 0 90 ([] : List RegionStrip) (b.get 7) q := j7.own0
  exact tail_done (k := q) (w10 _ _ ⟨⟨hgq, hsb, hdb⟩, j3, j4, j7, y7, trivial⟩)
 rintro a k ⟨⟨hg, hs, hd⟩, i3, i4, i7, n7, _⟩
 refine wp_seq ?_
 refine cutS (fun c l => Bs noF k0 56 c l ∧ IsV x1 (c.get 3) l ∧ IsV x7 (c.get 4) l ∧ IsOwn 0 90 ([] : List RegionStrip) (c.get 7) l ∧ Lo k0 (obF (c.get 7)) ∧ IsI 1 (c.get 8) l ∧ True) ?_ ?_
 ·intro Q12 W12 w11
  refine gS 1 (⟨some (IsI 1), []⟩ :: []) hs (by kernel_rfl) ⟨aI rfl rfl, trivial⟩ W12 fun b q p => ?_
  exact tail_done (k := q) (w11 _ _ ⟨Bs.post ⟨hg, hs, hd⟩ p, p.ke 3 rfl i3, p.ke 4 rfl i4, p.ke 7 rfl i7, (by rw [p.old 7 rfl]; exact n7), p.ou 0 8 rfl, trivial⟩)
 rintro a k ⟨⟨hg, hs, hd⟩, i3, i4, i7, n7, i8, _⟩
 refine wp_block ?_
 obtain ⟨f2, hf2, hr⟩ := bind_some hr
 refine cutFe f2 (fun s' c l => Bs noF k0 56 c l ∧ IsV x1 (c.get 3) l ∧ IsV x7 (c.get 4) l ∧ IsOwn 0 90 s'.1 (c.get 7) l ∧ Lo k0 (obF (c.get 7)) ∧ IsV s'.2 (c.get 8) l ∧ True) (fun i' s' c l => (i' = 2 ∧ Bs noF k0 56 c l ∧ IsOwn 0 90 s'.1 (c.get 7) l ∧ Lo k0 (obF (c.get 7)) ∧ True)) (fun r' c l => bodyPost Try.prog Try.f47 (RetC noF k0 (IsOwn k0.w.heap.size 90 r')) .ret c l.w) ?_ hQ ?_ ?_ ?_
 ·intro Q13 W13 hgo hex hret
  refine sim_loop ?_ _ _ _ _ _ hf2 ⟨⟨hg, hs, hd⟩, i3, i4, i7, n7, i8, trivial⟩ Q13 W13 hgo hex hret
  clear hr hf2 hgo hex hret W13 hQ hg hs hd i3 i4 i7 i8 n7
  intro s3 fl_ a k hr hS Q hQ hgo278 hex279 hret280
  obtain ⟨⟨hg, hs, hd⟩, i3, i4, i7, n7, i8, _⟩ := hS
  unfold region_strips_L1 at hr
  refine wp_seq ?_
  refine cutS (fun c l => Bs noF k0 56 c l ∧ IsV x1 (c.get 3) l ∧ IsV x7 (c.get 4) l ∧ IsOwn 0 90 s3.1 (c.get 7) l ∧ Lo k0 (obF (c.get 7)) ∧ IsV s3.2 (c.get 8) l ∧ (IsV (decide (s3.2 < (x7.length : Int)))) (c.get 32) l ∧ True) ?_ ?_
  ·intro Q14 W14 w12
   refine gS 4 (_ :: _ :: _ :: _ :: []) hs (by kernel_rfl) ⟨mu rfl i8, mu rfl i4, o1 [(30, some 1)] rfl fun _ _ h n => ok_len rfl rfl Try.underlying57 (IsV.rd n.1), o1 [(29, some 0), (31, some 2)] rfl fun _ _ h n => ok_lss rfl n.1 n.2.1, trivial⟩ W14 fun b q p => ?_
   exact tail_done (k := q) (w12 _ _ ⟨Bs.post ⟨hg, hs, hd⟩ p, p.ke 3 rfl i3, p.ke 4 rfl i4, p.ke 7 rfl i7, (by rw [p.old 7 rfl]; exact n7), p.ke 8 rfl i8, p.ou 3 32 rfl, trivial⟩)
  rintro a k ⟨⟨hg, hs, hd⟩, i3, i4, i7, n7, i8, i32, _⟩
  refine wp_cond_split (isBool i32) (fun hc288 => ?_) (fun hc288 => ?_)
  ·rw [if_pos hc288] at hr
   refine wp_skip ?_
   refine wp_seq ?_
   refine wp_block ?_
   obtain ⟨x8, hx8, hr⟩ := bind_some hr
   obtain ⟨x9, hx9, hr⟩ := bind_some hr
   obtain ⟨x10, hx10, hr⟩ := bind_some hr
   obtain ⟨x11, hx11, hr⟩ := bind_some hr
   obtain ⟨x12, hx12, hr⟩ := bind_some hr
   obtain ⟨x13, hx13, hr⟩ := bind_some hr
   obtain ⟨x14, hx14, hr⟩ := bind_some hr
   refine cut (fun a' k' => Bs noF k0 56 a' k' ∧ (IsV x1) (a'.get 3) k' ∧ (IsV x7) (a'.get 4) k' ∧ IsOwn 0 90 x14 (a'.get 7) k' ∧ Lo k0 (obF (a'.get 7)) ∧ (IsV s3.2) (a'.get 8) k' ∧ True) ?_ hQ ?_
   ·intro Q15 W15 w13
    refine region (m := 19) (⟨some (OwnAt (a.get 7) 0 90 s3.1), [(7, none)]⟩ :: _ :: _ :: _ :: _ :: _ :: _ :: _ :: _ :: _ :: _ :: _ :: _ :: _ :: _ :: _ :: _ :: ⟨some (IsV (⟨x9, x10, x13⟩ : RegionStrip)), [(40, some 5), (44, some 9), (51, some 16)]⟩ :: ⟨some (IsV (α := (List RegionStrip)) ([(⟨x9, x10, x13⟩ : RegionStrip)])), [(52, some 17)]⟩ :: []) hmix hs (by kernel_rfl) ⟨ob1 rfl fun _ _ h n => ok_moveOA (.inl rfl) (ownAt n.1 (up i7 h n.1)), mu rfl i4, mu rfl i8, o1 [(37, some 2)] rfl fun _ _ h n => ok_sub rfl n.1 (cI rfl) hx8, o1 [(36, some 1), (38, some 3)] rfl fun _ _ h n => ok_indexAddr rfl Try.underlying57 ty3 (IsV.rd n.1) n.2.1 hx9, o1 [(39, some 4)] rfl fun _ _ h n => ok_load rfl ty3 n.1, mu rfl i4, mu rfl i8, o1 [(41, some 6), (42, some 7)] rfl fun _ _ h n => ok_indexAddr rfl Try.underlying57 ty3 (IsV.rd n.1) n.2.1 hx10, o1 [(43, some 8)] rfl fun _ _ h n => ok_load rfl ty3 n.1, mu rfl i3, mu rfl i4, mu rfl i8, o1 [(47, some 12)] rfl fun _ _ h n => ok_sub rfl n.1 (cI rfl) hx11, o1 [(46, some 11), (48, some 13)] rfl fun _ _ h n => ok_indexAddr rfl Try.underlying57 ty3 (IsV.rd n.1) n.2.1 hx12, o1 [(49, some 14)] rfl fun _ _ h n => ok_load rfl ty3 n.1, o1 [(45, some 10), (50, some 15)] rfl fun _ _ h n => ok_call rfl Try.call63 (region_column_ok n.1 n.2.1 hx13), ob1 rfl fun _ _ h n => ok_build rfl (bld90_0_1_2 n.1 n.2.1 n.2.2.1), ob1 rfl fun _ _ h n => ok_buildSlice rfl Try.underlying75 eo90 rfl (by decide) (by decide) ⟨rfl, n.1, trivial⟩, trivial⟩ W15 fun b q p => ?_
    have hgq := hg.then p.grow
    have hsb := p.size.trans hs
    have hdb := p.defers.trans hd
    have j3 := p.ke 3 rfl i3
    have j4 := p.ke 4 rfl i4
    have j8 := p.ke 8 rfl i8
    have e35 : b.get 35 = a.get 7 := (p.ou 0 35 rfl).1
    have j35 : IsOwn 0 90 s3.1 (b.get 35) q := (p.ou 0 35 rfl).2
    have y35 : Lo k0 (obF (b.get 35)) := by rw [e35]; exact n7
    have j53 : (IsV (α := (List RegionStrip)) ([(⟨x9, x10, x13⟩ : RegionStrip)])) (b.get 53) q := p.ou 18 53 rfl
    have hns := j35.nshF
    refine tail_appendS (i := 19) (d := 54) rfl rfl rfl rfl (by rw [hsb]; decide) (e := 90) Try.underlying75 eo90 j35 (IsV.rd j53) hx14 fun b2 q2 hsz hdf hoth hch hown hob => ?_
    have hle := hch.le hns
    have yn : Lo k0 (obF (b2.get 54)) := y35.app hgq hob
    replace j3 := Pers.pers hle j3
    replace j4 := Pers.pers hle j4
    replace j8 := Pers.pers hle j8
    replace j53 := Pers.pers hle j53
    replace hgq := hgq.step hch y35.wr
    rw [← hoth 3 (by decide)] at j3
    rw [← hoth 4 (by decide)] at j4
    rw [← hoth 8 (by decide)] at j8
    rw [← hoth 53 (by decide)] at j53
    have j54 := hown
    have y54 := yn
    replace hsb := hsz.trans hsb
    replace hdb := hdf.trans hdb
    clear hle hch hown hob hns yn hsz hdf hoth
    obtain ⟨b, hbb⟩ : ∃ b, b = b2 := ⟨b2, rfl⟩
    subst hbb
    obtain ⟨q, hqq⟩ : ∃ q, q = q2 := ⟨q2, rfl⟩
    subst hqq
    refine tail_assign (i := 20) (d := 7) rfl rfl (.inl rfl) rfl (by rw [hsb]; decide) fun b2 hsz hdf hnew hoth => ?_
    have jn : (IsOwn 0 90 x14) (b2.get 7) q := by rw [hnew]; exact j54
    have yn : Lo k0 (obF (b2.get 7)) := by rw [hnew]; exact y54
    rw [← hoth 3 (by decide)] at j3
    rw [← hoth 4 (by decide)] at j4
    rw [← hoth 8 (by decide)] at j8
    rw [← hoth 53 (by decide)] at j53
    have j7 := jn
    have y7 := yn
    replace hsb := hsz.trans hsb
    replace hdb := hdf.trans hdb
    clear hsz hdf hoth
    obtain ⟨b, hbb⟩ : ∃ b, b = b2 := ⟨b2, rfl⟩
    subst hbb
    exact tail_done (k := q) (w13 _ _ ⟨⟨hgq, hsb, hdb⟩, j3, j4, j7, y7, j8, trivial⟩)
   rintro a k ⟨⟨hg, hs, hd⟩, i3, i4, i7, n7, i8, _⟩
   obtain ⟨x15, hx15, hr⟩ := bind_some hr
   refine cut (fun a' k' => Bs noF k0 56 a' k' ∧ (IsV x1) (a'.get 3) k' ∧ (IsV x7) (a'.get 4) k' ∧ IsOwn 0 90 x14 (a'.get 7) k' ∧ Lo k0 (obF (a'.get 7)) ∧ (IsV x15) (a'.get 8) k' ∧ True) ?_ hQ ?_
   ·intro Q16 W16 w14
    refine gS 3 (_ :: _ :: _ :: []) hs (by kernel_rfl) ⟨mu rfl i8, o1 [(33, some 0)] rfl fun _ _ h n => ok_add rfl n.1 (cI rfl) hx15, cp 1 rfl rfl, trivial⟩ W16 fun b q p => ?_
    exact tail_done (k := q) (w14 _ _ ⟨Bs.post ⟨hg, hs, hd⟩ p, p.ke 3 rfl i3, p.ke 4 rfl i4, p.ke 7 rfl i7, (by rw [p.old 7 rfl]; exact n7), p.ou 2 8 rfl, trivial⟩)
   rintro a k ⟨⟨hg, hs, hd⟩, i3, i4, i7, n7, i8, _⟩
   exact hgo278 _ _ _ (Option.some.inj hr).symm ⟨⟨hg, hs, hd⟩, i3, i4, i7, n7, i8, trivial⟩
  rw [if_neg (by rw [hc288]; decide)] at hr
  refine wp_exit ?_
  exact hex279 _ _ _ _ (Option.some.inj hr).symm ⟨rfl, ⟨hg, hs, hd⟩, i7, n7, trivial⟩
 ·rintro r2 a k rfl hR
  dsimp only at hr
  obtain rfl := Option.some.inj hr
  exact hR
 ·rintro _ _ _ rfl _
  simp at hr
 clear hf2
 rintro _ s4 a k rfl ⟨rfl, ⟨hg, hs, hd⟩, i7, n7, _⟩
 dsimp only at hr
 refine cutS (fun c l => Bs noF k0 56 c l ∧ IsOwn 0 90 s4.1 (c.get 2) l ∧ Lo k0 (obF (c.get 2)) ∧ True) ?_ ?_
 ·intro Q17 W17 w15
  refine gS 2 (⟨some (OwnAt (a.get 7) 0 90 s4.1), [(7, none)]⟩ :: ⟨some (OwnAt (a.get 7) 0 90 s4.1), [(55, some 0)]⟩ :: []) hs (by kernel_rfl) ⟨ob1 rfl fun _ _ h n => ok_moveOA (.inl rfl) (ownAt n.1 (up i7 h n.1)), ob1 rfl fun _ _ h n => ok_moveOA (.inr rfl) n.1, trivial⟩ W17 fun b q p => ?_
  have hgq := hg.then p.grow
  have hsb := p.size.trans hs
  have hdb := p.defers.trans hd
  have e2 : b.get 2 = a.get 7 := (p.ou 1 2 rfl).1
  have j2 : IsOwn 0 90 s4.1 (b.get 2) q := (p.ou 1 2 rfl).2
  have y2 : Lo k0 (obF (b.get 2)) := by rw [e2]; exact n7
  exact tail_done (k := q) (w15 _ _ ⟨⟨hgq, hsb, hdb⟩, j2, y2, trivial⟩)
 rintro a k ⟨⟨hg, hs, hd⟩, i2, n2, _⟩
 refine wp_ret ?_
 obtain rfl := Option.some.inj hr
 exact retC1 rfl hd hg (show ResOk _ _ _ (.tmp 2) _ from IsOwn.raise (k0 := k0) i2 n2)
theorem region_strips_ok {k0 : K} {v0 : Value} {lists_ : (List (List Rect))} {r : (List RegionStrip)} (i0 : (IsV lists_) v0 k0) (hr : region_strips lists_ = some r) :
  Calls Try.prog 47 #[v0] k0.w (Ret k0 (IsV r)) :=
 ret_give (region_strips_okO i0 hr)
noncomputable def k47 := mkO 47 [.list (.list (.st 0))] [.list (.st 2)] (fun x => region_strips x) Try.call47 fun k0 vs x r h hr => by obtain ⟨v0, rfl, i0⟩ := h.one; exact region_strips_ok i0 hr
def slices_Equal_span_L0 (s1_ : (List RegionSpan)) (s2_ : (List RegionSpan)) (s1 : Int) : Option (Flow (Int) (Bool)) :=
 if (decide (s1 < (s1_.length : Int))) then
  (getI s1_ s1).bind fun x1 =>
  (getI s2_ s1).bind fun x2 =>
  if (!decide (x1 = x2)) then
   some (.ret false)
  else
   (addI s1 1).bind fun x3 =>
   some (.go x3)
 else
  some (.ex 0 s1)
def slices_Equal_span (s1_ : (List RegionSpan)) (s2_ : (List RegionSpan)) : Option (Bool) :=
 if ((s1_.length : Int) != (s2_.length : Int)) then
  some false
 else
  (iterL (slices_Equal_span_L0 s1_ s2_) (s1_.length + 1) 0).bind fun f1 => match f1 with
   | .go _ => none
   | .ex _ _ =>
    some true
   | .ret r1 => some r1
noncomputable def k61 := mk 61 [.list (.st 1), .list (.st 1)] [.bool] (fun x => slices_Equal_span x.1 x.2) [] [] Try.f61 (.s .n (.s .n (.s (.s .n (.l [] [(13, .v .int)] [(0, [13], [])] (fI 12) .n)) .n))) Try.func61 Try.call61 rfl rfl fun x => by kernel_rfl
def region_write_L1 (l_ : (List RegionStrip)) (s1 : (List Rect) × Int) (s2 : Int) : Option (Flow (Int) ((List Rect))) :=
 (if (decide (s2 < (l_.length : Int))) then
  (getI l_ s2).bind fun x1 =>
  (getI l_ s1.2).bind fun x2 =>
  (slices_Equal_span x1.column x2.column).bind fun x3 =>
  some x3
 else
  some false).bind fun x4 =>
 if x4 then
  (addI s2 1).bind fun x5 =>
  some (.go x5)
 else
  some (.ex 2 s2)
def region_write_L2 (l_ : (List RegionStrip)) (s1 : (List Rect) × Int) (s2 : Int) (x2 : RegionStrip) (s3 : (List Rect) × Int) : Option (Flow ((List Rect) × Int) ((List Rect))) :=
 if (decide (s3.2 < (x2.column.length : Int))) then
  (getI x2.column s3.2).bind fun x3 =>
  (getI l_ s1.2).bind fun x4 =>
  (subI s2 1).bind fun x5 =>
  (getI l_ x5).bind fun x6 =>
  (appI s3.1 ([(⟨x4.x0, x3.from_, x6.x1, x3.to_⟩ : Rect)])).bind fun x7 =>
  (addI s3.2 1).bind fun x8 =>
  some (.go (x7, x8))
 else
  some (.ex 4 (s3.1, s3.2))
def region_write_L0 (l_ : (List RegionStrip)) (s1 : (List Rect) × Int) : Option (Flow ((List Rect) × Int) ((List Rect))) :=
 if (decide (s1.2 < (l_.length : Int))) then
  (addI s1.2 1).bind fun x1 =>
  (iterL (region_write_L1 l_ s1) (l_.length + s1.1.length + 1) x1).bind fun f1 => match f1 with
   | .go _ => none
   | .ex _ s2 =>
    (getI l_ s1.2).bind fun x2 =>
    (iterL (region_write_L2 l_ s1 s2 x2) (x2.column.length + 1) (s1.1, 0)).bind fun f2 => match f2 with
     | .go _ => none
     | .ex _ s3 =>
      some (.go (s3.1, s2))
     | .ret r1 => some (.ret r1)
   | .ret r2 => some (.ret r2)
 else
  some (.ex 0 (s1.1, s1.2))
def region_write (l_ : (List RegionStrip)) : Option ((List Rect)) :=
 (iterL (region_write_L0 l_) (l_.length + ([] : List Rect).length + 1) (([] : List Rect), 0)).bind fun f1 => match f1 with
  | .go _ => none
  | .ex _ s1 =>
   some s1.1
  | .ret r1 => some r1
noncomputable def k46 := mk 46 [.list (.st 2)] [.list (.st 0)] (fun x => region_write x) [k61] [3, 43, 61] Try.f46 (.s .n (.s .n (.s (.s .n (.l [] [(3, .o 41 (.st 0)), (4, .v .int)] [(0, [4], [])] (fL [0, 3]) (.s .n (.s .n (.s (.l [] [(5, .v .int)] [(2, [], [])] (fL [0, 3]) .n) (.s (.s .n (.l [] [(3, .o 41 (.st 0)), (39, .v .int)] [(4, [39], [])] (fI 38) .n)) .n)))))) (.s (.f [3] .n) .n)))) Try.func46 Try.call46 rfl rfl fun x => by kernel_rfl
def region_limited (l_ : (List Rect)) : Option ((List Rect) × Int) :=
 if (decide (200 < (l_.length : Int))) then
  some (([] : List Rect), 6)
 else
  some (l_, 0)
noncomputable def k45 := mk 45 [.list (.st 0)] [.list (.st 0), .int] (fun x => region_limited x) [] [] Try.f45 (.n) Try.func45 Try.call45 rfl rfl fun x => by kernel_rfl
def region_Of_L0 (l_ : (List Rect)) (s1 : Int) : Option (Flow (Int) ((List Rect) × Int)) :=
 if (decide (s1 < (l_.length : Int))) then
  (getI l_ s1).bind fun x1 =>
  (rect_Right x1).bind fun x2 =>
  if (!x2) then
   some (.ret (([] : List Rect), 1))
  else
   (addI s1 1).bind fun x3 =>
   some (.go x3)
 else
  some (.ex 0 s1)
def region_Of (l_ : (List Rect)) : Option ((List Rect) × Int) :=
 (iterL (region_Of_L0 l_) (l_.length + 1) 0).bind fun f1 => match f1 with
  | .go _ => none
  | .ex _ _ =>
   if (decide (400 < (l_.length : Int))) then
    some (([] : List Rect), 6)
   else
    (region_strips ([l_])).bind fun x1 =>
    (region_write x1).bind fun x2 =>
    (region_limited x2).bind fun x3 =>
    some (x3.1, x3.2)
  | .ret r1 => some r1
noncomputable def k32 := mk 32 [.list (.st 0)] [.list (.st 0), .int] (fun x => region_Of x) [k30, k47, k46, k45] [] Try.f32 (.s .n (.s (.s .n (.l [] [(8, .v .int)] [(0, [8], [])] (fI 7) .n)) .n)) Try.func32 Try.call32 rfl rfl fun x => by kernel_rfl
theorem region_Of_ok {k0 : K} {v0 : Value} {x0 : (List Rect)} {r : (List Rect) × Int} (i0 : IsV x0 v0 k0) (hr : region_Of x0 = some r) : Calls Try.prog 32 #[v0] k0.w (Ret k0 (IsTup2 (IsV r.1) (IsV r.2))) := ret2T (T := tb) (k32.ok.ok k0 [v0] x0 r i0 hr)
def slices_Equal_Rect_L0 (s1_ : (List Rect)) (s2_ : (List Rect)) (s1 : Int) : Option (Flow (Int) (Bool)) :=
 if (decide (s1 < (s1_.length : Int))) then
  (getI s1_ s1).bind fun x1 =>
  (getI s2_ s1).bind fun x2 =>
  if (!decide (x1 = x2)) then
   some (.ret false)
  else
   (addI s1 1).bind fun x3 =>
   some (.go x3)
 else
  some (.ex 0 s1)
def slices_Equal_Rect (s1_ : (List Rect)) (s2_ : (List Rect)) : Option (Bool) :=
 if ((s1_.length : Int) != (s2_.length : Int)) then
  some false
 else
  (iterL (slices_Equal_Rect_L0 s1_ s2_) (s1_.length + 1) 0).bind fun f1 => match f1 with
   | .go _ => none
   | .ex _ _ =>
    some true
   | .ret r1 => some r1
noncomputable def k64 := mk 64 [.list (.st 0), .list (.st 0)] [.bool] (fun x => slices_Equal_Rect x.1 x.2) [] [] Try.f64 (.s .n (.s .n (.s (.s .n (.l [] [(13, .v .int)] [(0, [13], [])] (fI 12) .n)) .n))) Try.func64 Try.call64 rfl rfl fun x => by kernel_rfl
def region_Right (a_ : (List Rect)) : Option (Bool) :=
 (region_Of a_).bind fun x1 =>
 (if (x1.2 == 0) then
  (slices_Equal_Rect x1.1 a_).bind fun x2 =>
  some x2
 else
  some false).bind fun x3 =>
 some x3
noncomputable def k49 := mk 49 [.list (.st 0)] [.bool] (fun x => region_Right x) [k32, k64] [] Try.f49 (.n) Try.func49 Try.call49 rfl rfl fun x => by kernel_rfl
def region_Same (a_ : (List Rect)) (b_ : (List Rect)) : Option (Bool) :=
 (slices_Equal_Rect a_ b_).bind fun x1 =>
 some x1
noncomputable def k48 := mk 48 [.list (.st 0), .list (.st 0)] [.bool] (fun x => region_Same x.1 x.2) [k64] [] Try.f48 (.n) Try.func48 Try.call48 rfl rfl fun x => by kernel_rfl
theorem region_Same_ok {k0 : K} {v0 v1 : Value} {x0 : (List Rect)} {x1 : (List Rect)} {r : Bool} (i0 : IsV x0 v0 k0) (i1 : IsV x1 v1 k0) (hr : region_Same x0 x1 = some r) : Calls Try.prog 48 #[v0, v1] k0.w (Ret k0 (IsV r)) := (k48.ok.ok k0 [v0, v1] (x0, x1) r ⟨i0, i1⟩ hr)
def solid_Right_L0 (s_ : (List Slab)) (s1 : Int) : Option (Flow (Int) (Bool)) :=
 if (decide (s1 < (s_.length : Int))) then
  ((getI s_ s1).bind fun x1 =>
  (if ((((decide (x1.Z0 < 0)) || (decide (x1.Z1 ≤ x1.Z0))) || (decide (4096 < x1.Z1))) || ((x1.Area.length : Int) == 0)) then
   some true
  else
   (region_Right x1.Area).bind fun x2 =>
   some (!x2)).bind fun x3 =>
  if x3 then
   some (.ret false)
  else
   if (s1 == 0) then
    some (.go ())
   else
    (subI s1 1).bind fun x4 =>
    (getI s_ x4).bind fun x5 =>
    (if (decide (x1.Z0 < x5.Z1)) then
     some true
    else
     (if (x5.Z1 == x1.Z0) then
      (region_Same x5.Area x1.Area).bind fun x6 =>
      some x6
     else
      some false).bind fun x7 =>
     some x7).bind fun x8 =>
    if x8 then
     some (.ret false)
    else
     some (.go ()) : Option (Flow (Unit) (Bool))).bind fun f1 => match f1 with
   | .go _ =>
    (addI s1 1).bind fun x9 =>
    some (.go x9)
   | .ex _ _ => none
   | .ret r1 => some (.ret r1)
 else
  some (.ex 0 s1)
def solid_Right (s_ : (List Slab)) : Option (Bool) :=
 if (decide (80 < (s_.length : Int))) then
  some false
 else
  (iterL (solid_Right_L0 s_) (s_.length + 1) 0).bind fun f1 => match f1 with
   | .go _ => none
   | .ex _ _ =>
    some true
   | .ret r1 => some r1
noncomputable def k35 := mk 35 [.list (.st 6)] [.bool] (fun x => solid_Right x) [k49, k48] [] Try.f35 (.s .n (.s .n (.s (.s .n (.l [] [(11, .v .int)] [(0, [11], [])] (fI 10) (.s .n (.s .n (.s (.jf [] [] ([], []) [] .n) .n))))) .n))) Try.func35 Try.call35 rfl rfl fun x => by kernel_rfl
def sun_whole_L0 (l_ : (List (List Slab))) (s1 : Int) : Option (Flow (Int) (Int)) :=
 if (decide (s1 < (l_.length : Int))) then
  (getI l_ s1).bind fun x1 =>
  (solid_Right x1).bind fun x2 =>
  if (!x2) then
   some (.ret 0)
  else
   (addI s1 1).bind fun x3 =>
   some (.go x3)
 else
  some (.ex 0 s1)
def sun_whole (table_ : (List Point3)) (l_ : (List (List Slab))) (p_ : Point3) : Option (Int) :=
 (sun_Right table_).bind fun x1 =>
 if ((((!x1) || (decide ((min (min p_.X p_.Y) p_.Z) < 0))) || (decide (1048576 < (max p_.X p_.Y)))) || (decide (4096 < p_.Z))) then
  some 0
 else
  (iterL (sun_whole_L0 l_) (l_.length + 1) 0).bind fun f1 => match f1 with
   | .go _ => none
   | .ex _ _ =>
    (shlI 1 (table_.length : Int)).bind fun x2 =>
    (subI x2 1).bind fun x3 =>
    some x3
   | .ret r1 => some r1
noncomputable def k26 := mk 26 [.list (.st 7), .list (.list (.st 6)), .st 7] [.int] (fun x => sun_whole x.1 x.2.1 x.2.2) [k9, k35] [] Try.f26 (.s .n (.s .n (.s (.s .n (.l [] [(37, .v .int)] [(0, [37], [])] (fI 36) .n)) .n))) Try.func26 Try.call26 rfl rfl fun x => by kernel_rfl
def sight_on (p_ : Point3) : Option (Bool) :=
 some (((decide (0 ≤ (min (min p_.X p_.Y) p_.Z))) && (decide ((max p_.X p_.Y) ≤ 1048576))) && (decide (p_.Z ≤ 4096)))
noncomputable def k39 := mk 39 [.st 7] [.bool] (fun x => sight_on x) [] [] Try.f39 (.n) Try.func39 Try.call39 rfl rfl fun x => by kernel_rfl
def solid_Boxes_L1 (x1 : Slab) (s1 : (List Box) × Int) : Option (Flow ((List Box) × Int) ((List Box))) :=
 if (decide (s1.2 < (x1.Area.length : Int))) then
  (getI x1.Area s1.2).bind fun x2 =>
  (appI s1.1 ([(⟨x2, x1.Z0, x1.Z1⟩ : Box)])).bind fun x3 =>
  (addI s1.2 1).bind fun x4 =>
  some (.go (x3, x4))
 else
  some (.ex 2 (s1.1, s1.2))
def solid_Boxes_L0 (s_ : (List Slab)) (s1 : (List Box) × Int) : Option (Flow ((List Box) × Int) ((List Box))) :=
 if (decide (s1.2 < (s_.length : Int))) then
  (getI s_ s1.2).bind fun x1 =>
  (iterL (solid_Boxes_L1 x1) (x1.Area.length + 1) (s1.1, 0)).bind fun f1 => match f1 with
   | .go _ => none
   | .ex _ s2 =>
    (addI s1.2 1).bind fun x2 =>
    some (.go (s2.1, x2))
   | .ret r1 => some (.ret r1)
 else
  some (.ex 0 (s1.1, s1.2))
def solid_Boxes (s_ : (List Slab)) : Option ((List Box)) :=
 (solid_Right s_).bind fun x1 =>
 if (!x1) then
  some ([] : List Box)
 else
  (iterL (solid_Boxes_L0 s_) (s_.length + 1) (([] : List Box), 0)).bind fun f1 => match f1 with
   | .go _ => none
   | .ex _ s1 =>
    some s1.1
   | .ret r1 => some r1
noncomputable def k55 := mk 55 [.list (.st 6)] [.list (.st 3)] (fun x => solid_Boxes x) [k35] [3, 24, 32] Try.f55 (.s .n (.s .n (.s .n (.s (.s .n (.l [] [(3, .o 43 (.st 3)), (13, .v .int)] [(0, [13], [])] (fI 12) (.s .n (.s .n (.s (.s .n (.s .n (.l [] [(3, .o 43 (.st 3)), (20, .v .int)] [(2, [20], [])] (fI 19) .n))) .n))))) (.s (.f [3] .n) .n))))) Try.func55 Try.call55 rfl rfl fun x => by kernel_rfl
theorem solid_Boxes_ok {k0 : K} {v0 : Value} {x0 : (List Slab)} {r : (List Box)} (i0 : IsV x0 v0 k0) (hr : solid_Boxes x0 = some r) : Calls Try.prog 55 #[v0] k0.w (Ret k0 (IsV r)) := (k55.ok.ok k0 [v0] x0 r i0 hr)
def sight_bound_compare (b_ : SightBound) (c_ : SightBound) : Option (Int) :=
 (mulI b_.n c_.d).bind fun x1 =>
 (mulI c_.n b_.d).bind fun x2 =>
 (cmp_Compare_int x1 x2).bind fun x3 =>
 some x3
noncomputable def k72 := mk 72 [.st 5, .st 5] [.int] (fun x => sight_bound_compare x.1 x.2) [k89] [] Try.f72 (.n) Try.func72 Try.call72 rfl rfl fun x => by kernel_rfl
theorem sight_bound_compare_ok {k0 : K} {v0 v1 : Value} {x0 : SightBound} {x1 : SightBound} {r : Int} (i0 : IsV x0 v0 k0) (i1 : IsV x1 v1 k0) (hr : sight_bound_compare x0 x1 = some r) : Calls Try.prog 72 #[v0, v1] k0.w (Ret k0 (IsV r)) := (k72.ok.ok k0 [v0, v1] (x0, x1) r ⟨i0, i1⟩ hr)
def sight_interval_above (i_ : SightInterval) (b_ : SightBound) : Option (SightInterval) :=
 (sight_bound_compare b_ i_.lo).bind fun x1 =>
 (if (decide (0 < x1)) then
  some { i_ with lo := b_ }
 else
  (if (x1 == 0) then
   some { i_ with lo := { i_.lo with open_ := (i_.lo.open_ || b_.open_) } }
  else
   some i_).bind fun s1 =>
  some s1).bind fun s2 =>
 some s2
theorem sight_interval_above_ok {k0 : K} {v0 v1 : Value} {i_ : SightInterval} {b_ : SightBound} {r : SightInterval} {b0 : Nat} (i0 : v0 = .pointer (some ⟨b0, 0, none⟩)) (c0 : Gb.Box b0 i_ k0) (i1 : (IsV b_) v1 k0) (hr : sight_interval_above i_ b_ = some r) :
  Calls Try.prog 70 #[v0, v1] k0.w (RetC (Eq b0) k0 (IsTurn b0 r)) := by
 unfold sight_interval_above at hr
 refine enterK Try.func70 rfl Try.ntmps70 (show 2 ≤ 34 by decide) fun a k hk0 hs hd ha => ?_
 obtain ⟨e0, e1, _⟩ := ha
 replace i0 : a.get 0 = .pointer (some ⟨b0, 0, none⟩) := by rw [e0]; exact i0
 replace c0 : Gb.Box b0 i_ k := by rw [hk0]; exact c0
 have n0 : Wr (Eq b0) k0 (Eq b0) := fun b h => .inl h
 replace i1 : (IsV b_) (a.get 1) k := by rw [e1, hk0]; exact i1
 have hQ : Gb.LetsOut (bodyPost Try.prog Try.f70 (RetC (Eq b0) k0 (IsTurn b0 r))) := letsOutC
 have hg : Chg (Eq b0) k0 k := by rw [hk0]; exact Chg.refl _ k0
 refine cutS (fun c l => Bs (Eq b0) k0 34 c l ∧ c.get 0 = .pointer (some ⟨b0, 0, none⟩) ∧ Wr (Eq b0) k0 (Eq b0) ∧ Gb.Box b0 i_ l ∧ IsRef b_ (c.get 3) l ∧ True) ?_ ?_
 ·intro Q1 W1 w1
  refine gS 1 (⟨some (IsRef b_), [(1, none)]⟩ :: []) hs (by kernel_rfl) ⟨ob1 rfl fun _ _ h n => ok_boxR rfl (up i1 h n.1), trivial⟩ W1 fun b q p => ?_
  exact tail_done (k := q) (w1 _ _ ⟨Bs.post ⟨hg, hs, hd⟩ p, upE i0 (p.old 0 rfl), n0, Gb.Box.grow c0 p.grow, p.ou 0 3 rfl, trivial⟩)
 rintro a k ⟨⟨hg, hs, hd⟩, i0, n0, c0, i3, _⟩
 refine wp_seq ?_
 obtain ⟨x1, hx1, hr⟩ := bind_some hr
 refine cut (fun a' k' => Bs (Eq b0) k0 34 a' k' ∧ a'.get 0 = .pointer (some ⟨b0, 0, none⟩) ∧ Wr (Eq b0) k0 (Eq b0) ∧ Gb.Box b0 i_ k' ∧ (IsRef b_) (a'.get 3) k' ∧ (IsV x1) (a'.get 4) k' ∧ True) ?_ hQ ?_
 ·intro Q2 W2 w2
  refine region (m := 7) (_ :: ⟨some (IsAdr b0 (0)), [(0, none)]⟩ :: ⟨some (IsAdr b0 (0)), [(6, some 1)]⟩ :: _ :: _ :: _ :: _ :: []) hmix hs (by kernel_rfl) ⟨o1 [(3, none)] rfl fun _ _ h n => ok_load rfl ty67 ((up i3 h n.1)).ptr, ob1 rfl fun _ _ h n => ok_moveB rfl (upE i0 n.1), ob1 rfl fun _ _ h n => ok_nilCheckA rfl n.1, o1 [(7, some 2)] rfl fun _ _ h n => ok_fieldAddr rfl fo69_0 (at_SightInterval_0 _) (IsAdr.ptrB n.1 (c0.grow h)), o1 [(8, some 3)] rfl fun _ _ h n => ok_load rfl ty67 n.1, o1 [(5, some 0), (9, some 4)] rfl fun _ _ h n => ok_call rfl Try.call72 (sight_bound_compare_ok n.1 n.2.1 hx1), cp 5 rfl rfl, trivial⟩ W2 fun b q p => ?_
  exact tail_done (k := q) (w2 _ _ ⟨Bs.post ⟨hg, hs, hd⟩ p, upE i0 (p.old 0 rfl), n0, Gb.Box.grow c0 p.grow, p.ke 3 rfl i3, p.ou 6 4 rfl, trivial⟩)
 rintro a k ⟨⟨hg, hs, hd⟩, i0, n0, c0, i3, i4, _⟩
 refine wp_block ?_
 refine cutS (fun c l => Bs (Eq b0) k0 34 c l ∧ c.get 0 = .pointer (some ⟨b0, 0, none⟩) ∧ Wr (Eq b0) k0 (Eq b0) ∧ Gb.Box b0 i_ l ∧ IsRef b_ (c.get 3) l ∧ IsV x1 (c.get 4) l ∧ IsV (decide (0 < x1)) (c.get 11) l ∧ True) ?_ ?_
 ·intro Q3 W3 w3
  refine gS 3 (_ :: _ :: _ :: []) hs (by kernel_rfl) ⟨mu rfl i4, o1 [(12, some 0)] rfl fun _ _ h n => ok_gtr rfl n.1 (cI rfl), cp 1 rfl rfl, trivial⟩ W3 fun b q p => ?_
  exact tail_done (k := q) (w3 _ _ ⟨Bs.post ⟨hg, hs, hd⟩ p, upE i0 (p.old 0 rfl), n0, Gb.Box.grow c0 p.grow, p.ke 3 rfl i3, p.ke 4 rfl i4, p.ou 2 11 rfl, trivial⟩)
 rintro a k ⟨⟨hg, hs, hd⟩, i0, n0, c0, i3, i4, i11, _⟩
 obtain ⟨s1, hs1, hr⟩ := bind_some hr
 refine cut (fun a' k' => Bs (Eq b0) k0 34 a' k' ∧ a'.get 0 = .pointer (some ⟨b0, 0, none⟩) ∧ Wr (Eq b0) k0 (Eq b0) ∧ Gb.Box b0 s1 k' ∧ True) ?_ hQ ?_
 ·intro Q4 W4 w4
  replace hr := hs1
  clear hQ
  have hQ := W4
  refine wp_cond_split (isBool i11) (fun hc734 => ?_) (fun hc734 => ?_)
  ·rw [if_pos hc734] at hr
   refine cut (fun a' k' => Bs (Eq b0) k0 34 a' k' ∧ a'.get 0 = .pointer (some ⟨b0, 0, none⟩) ∧ Wr (Eq b0) k0 (Eq b0) ∧ Gb.Box b0 ({ i_ with lo := b_ }) k' ∧ True) ?_ hQ ?_
   ·intro Q5 W5 w5
    refine gS 4 (⟨some (IsAdr b0 (0)), [(0, none)]⟩ :: _ :: ⟨some (IsAdr b0 (0)), [(14, some 0)]⟩ :: _ :: []) hs (by kernel_rfl) ⟨ob1 rfl fun _ _ h n => ok_moveB rfl (upE i0 n.1), o1 [(3, none)] rfl fun _ _ h n => ok_load rfl ty67 ((up i3 h n.1)).ptr, ob1 rfl fun _ _ h n => ok_nilCheckA rfl n.1, o1 [(16, some 2)] rfl fun _ _ h n => ok_fieldAdr2 rfl fo69_0 n.1, trivial⟩ W5 fun b q p => ?_
    have hgq := hg.then p.grow
    have hsb := p.size.trans hs
    have hdb := p.defers.trans hd
    have j0 := upE i0 (p.old 0 rfl)
    have z0 := Gb.Box.grow c0 p.grow
    have y0 := n0
    have j15 : (IsV b_) (b.get 15) q := p.ou 1 15 rfl
    have j17 : IsAdr b0 (0 + 0) (b.get 17) q := p.ou 3 17 rfl
    have hns := z0.nshF
    refine tail_storeB (i := 4) rfl rfl rfl rfl szf67 upd_F69_0 j17 z0 j15 fun q2 hch hz => ?_
    replace hgq := hgq.step hch y0
    have hle := hch.le hns
    replace j15 := Pers.pers hle j15
    replace j17 := Pers.pers hle j17
    replace z0 := hz
    clear hns hle hch
    obtain ⟨q, hqq⟩ : ∃ q, q = q2 := ⟨q2, rfl⟩
    subst hqq
    exact tail_done (k := q) (w5 _ _ ⟨⟨hgq, hsb, hdb⟩, j0, y0, z0, trivial⟩)
   rintro a k ⟨⟨hg, hs, hd⟩, i0, n0, c0, _⟩
   obtain rfl := Option.some.inj hr
   exact w4 _ _ ⟨⟨hg, hs, hd⟩, i0, n0, c0, trivial⟩
  rw [if_neg (by rw [hc734]; decide)] at hr
  refine cutS (fun c l => Bs (Eq b0) k0 34 c l ∧ c.get 0 = .pointer (some ⟨b0, 0, none⟩) ∧ Wr (Eq b0) k0 (Eq b0) ∧ Gb.Box b0 i_ l ∧ IsRef b_ (c.get 3) l ∧ IsV (x1 == 0) (c.get 18) l ∧ True) ?_ ?_
  ·intro Q6 W6 w6
   refine gS 3 (_ :: _ :: _ :: []) hs (by kernel_rfl) ⟨mu rfl i4, o1 [(19, some 0)] rfl fun _ _ h n => ok_eqI rfl n.1 (cI rfl), cp 1 rfl rfl, trivial⟩ W6 fun b q p => ?_
   exact tail_done (k := q) (w6 _ _ ⟨Bs.post ⟨hg, hs, hd⟩ p, upE i0 (p.old 0 rfl), n0, Gb.Box.grow c0 p.grow, p.ke 3 rfl i3, p.ou 2 18 rfl, trivial⟩)
  rintro a k ⟨⟨hg, hs, hd⟩, i0, n0, c0, i3, i18, _⟩
  obtain ⟨s2, hs2, hr⟩ := bind_some hr
  refine cut (fun a' k' => Bs (Eq b0) k0 34 a' k' ∧ a'.get 0 = .pointer (some ⟨b0, 0, none⟩) ∧ Wr (Eq b0) k0 (Eq b0) ∧ Gb.Box b0 s2 k' ∧ True) ?_ hQ ?_
  ·intro Q7 W7 w7
   replace hr := hs2
   clear hQ
   have hQ := W7
   refine wp_cond_split (isBool i18) (fun hc730 => ?_) (fun hc730 => ?_)
   ·rw [if_pos hc730] at hr
    refine cut (fun a' k' => Bs (Eq b0) k0 34 a' k' ∧ a'.get 0 = .pointer (some ⟨b0, 0, none⟩) ∧ Wr (Eq b0) k0 (Eq b0) ∧ Gb.Box b0 ({ i_ with lo := { i_.lo with open_ := (i_.lo.open_ || b_.open_) } }) k' ∧ True) ?_ hQ ?_
    ·intro Q8 W8 w8
     refine gS 13 (⟨some (IsAdr b0 (0)), [(0, none)]⟩ :: ⟨some (IsAdr b0 (0)), [(0, none)]⟩ :: ⟨some (IsAdr b0 (0)), [(22, some 1)]⟩ :: _ :: _ :: _ :: _ :: _ :: _ :: _ :: ⟨some (IsAdr b0 (0)), [(21, some 0)]⟩ :: _ :: _ :: []) hs (by kernel_rfl) ⟨ob1 rfl fun _ _ h n => ok_moveB rfl (upE i0 n.1), ob1 rfl fun _ _ h n => ok_moveB rfl (upE i0 n.1), ob1 rfl fun _ _ h n => ok_nilCheckA rfl n.1, o1 [(23, some 2)] rfl fun _ _ h n => ok_fieldAddr rfl fo69_0 (at_SightInterval_0 _) (IsAdr.ptrB n.1 (c0.grow h)), o1 [(24, some 3)] rfl fun _ _ h n => ok_fieldAddr rfl fo67_2 (at_SightBound_2 _) n.1, o1 [(25, some 4)] rfl fun _ _ h n => ok_load rfl ty4 n.1, cm 5 rfl rfl, gF [(3, none)] rfl rfl fun hp _ _ h n => ok_fieldAddr rfl fo67_2 (at_SightBound_2 _) ((up i3 h n.1)).ptr, gF [(28, some 7)] rfl rfl fun hp _ _ h n => ok_load rfl ty4 (Gd.get n.1 hp), o1 [(27, some 6), (29, some 8)] rfl fun _ _ h n => ok_pickOr rfl n.1 (cB rfl) (Gd.get n.2.1), ob1 rfl fun _ _ h n => ok_nilCheckA rfl n.1, o1 [(31, some 10)] rfl fun _ _ h n => ok_fieldAdr2 rfl fo69_0 n.1, o1 [(32, some 11)] rfl fun _ _ h n => ok_fieldAdr2 rfl fo67_2 n.1, trivial⟩ W8 fun b q p => ?_
     have hgq := hg.then p.grow
     have hsb := p.size.trans hs
     have hdb := p.defers.trans hd
     have j0 := upE i0 (p.old 0 rfl)
     have z0 := Gb.Box.grow c0 p.grow
     have y0 := n0
     have j30 : (IsV (i_.lo.open_ || b_.open_)) (b.get 30) q := p.ou 9 30 rfl
     have j33 : IsAdr b0 (0 + 0 + 2) (b.get 33) q := p.ou 12 33 rfl
     have hns := z0.nshF
     refine tail_storeB (i := 13) rfl rfl rfl rfl szf4 upd_F69_0_F67_2 j33 z0 j30 fun q2 hch hz => ?_
     replace hgq := hgq.step hch y0
     have hle := hch.le hns
     replace j30 := Pers.pers hle j30
     replace j33 := Pers.pers hle j33
     replace z0 := hz
     clear hns hle hch
     obtain ⟨q, hqq⟩ : ∃ q, q = q2 := ⟨q2, rfl⟩
     subst hqq
     exact tail_done (k := q) (w8 _ _ ⟨⟨hgq, hsb, hdb⟩, j0, y0, z0, trivial⟩)
    rintro a k ⟨⟨hg, hs, hd⟩, i0, n0, c0, _⟩
    obtain rfl := Option.some.inj hr
    exact w7 _ _ ⟨⟨hg, hs, hd⟩, i0, n0, c0, trivial⟩
   rw [if_neg (by rw [hc730]; decide)] at hr
   refine wp_skip ?_
   obtain rfl := Option.some.inj hr
   exact w7 _ _ ⟨⟨hg, hs, hd⟩, i0, n0, c0, trivial⟩
  clear hs2
  rintro a k ⟨⟨hg, hs, hd⟩, i0, n0, c0, _⟩
  obtain rfl := Option.some.inj hr
  exact w4 _ _ ⟨⟨hg, hs, hd⟩, i0, n0, c0, trivial⟩
 clear hs1
 rintro a k ⟨⟨hg, hs, hd⟩, i0, n0, c0, _⟩
 obtain rfl := Option.some.inj hr
 exact retT rfl hd hg c0
def sight_interval_below (i_ : SightInterval) (b_ : SightBound) : Option (SightInterval) :=
 (if i_.top then
  (sight_bound_compare b_ i_.hi).bind fun x1 =>
  some x1
 else
  some (-1)).bind fun s1 =>
 (if (decide (s1 < 0)) then
  some { { i_ with hi := b_ } with top := true }
 else
  (if (s1 == 0) then
   some { i_ with hi := { i_.hi with open_ := (i_.hi.open_ || b_.open_) } }
  else
   some i_).bind fun s2 =>
  some s2).bind fun s3 =>
 some s3
theorem sight_interval_below_ok {k0 : K} {v0 v1 : Value} {i_ : SightInterval} {b_ : SightBound} {r : SightInterval} {b0 : Nat} (i0 : v0 = .pointer (some ⟨b0, 0, none⟩)) (c0 : Gb.Box b0 i_ k0) (i1 : (IsV b_) v1 k0) (hr : sight_interval_below i_ b_ = some r) :
  Calls Try.prog 71 #[v0, v1] k0.w (RetC (Eq b0) k0 (IsTurn b0 r)) := by
 unfold sight_interval_below at hr
 refine enterK Try.func71 rfl Try.ntmps71 (show 2 ≤ 41 by decide) fun a k hk0 hs hd ha => ?_
 obtain ⟨e0, e1, _⟩ := ha
 replace i0 : a.get 0 = .pointer (some ⟨b0, 0, none⟩) := by rw [e0]; exact i0
 replace c0 : Gb.Box b0 i_ k := by rw [hk0]; exact c0
 have n0 : Wr (Eq b0) k0 (Eq b0) := fun b h => .inl h
 replace i1 : (IsV b_) (a.get 1) k := by rw [e1, hk0]; exact i1
 have hQ : Gb.LetsOut (bodyPost Try.prog Try.f71 (RetC (Eq b0) k0 (IsTurn b0 r))) := letsOutC
 have hg : Chg (Eq b0) k0 k := by rw [hk0]; exact Chg.refl _ k0
 refine cutS (fun c l => Bs (Eq b0) k0 41 c l ∧ c.get 0 = .pointer (some ⟨b0, 0, none⟩) ∧ Wr (Eq b0) k0 (Eq b0) ∧ Gb.Box b0 i_ l ∧ IsRef b_ (c.get 3) l ∧ True) ?_ ?_
 ·intro Q1 W1 w1
  refine gS 1 (⟨some (IsRef b_), [(1, none)]⟩ :: []) hs (by kernel_rfl) ⟨ob1 rfl fun _ _ h n => ok_boxR rfl (up i1 h n.1), trivial⟩ W1 fun b q p => ?_
  exact tail_done (k := q) (w1 _ _ ⟨Bs.post ⟨hg, hs, hd⟩ p, upE i0 (p.old 0 rfl), n0, Gb.Box.grow c0 p.grow, p.ou 0 3 rfl, trivial⟩)
 rintro a k ⟨⟨hg, hs, hd⟩, i0, n0, c0, i3, _⟩
 refine cutS (fun c l => Bs (Eq b0) k0 41 c l ∧ c.get 0 = .pointer (some ⟨b0, 0, none⟩) ∧ Wr (Eq b0) k0 (Eq b0) ∧ Gb.Box b0 i_ l ∧ IsRef b_ (c.get 3) l ∧ IsI (-1) (c.get 4) l ∧ True) ?_ ?_
 ·intro Q2 W2 w2
  refine gS 1 (⟨some (IsI (-1)), []⟩ :: []) hs (by kernel_rfl) ⟨aI rfl rfl, trivial⟩ W2 fun b q p => ?_
  exact tail_done (k := q) (w2 _ _ ⟨Bs.post ⟨hg, hs, hd⟩ p, upE i0 (p.old 0 rfl), n0, Gb.Box.grow c0 p.grow, p.ke 3 rfl i3, p.ou 0 4 rfl, trivial⟩)
 rintro a k ⟨⟨hg, hs, hd⟩, i0, n0, c0, i3, i4, _⟩
 refine wp_seq ?_
 refine cutS (fun c l => Bs (Eq b0) k0 41 c l ∧ c.get 0 = .pointer (some ⟨b0, 0, none⟩) ∧ Wr (Eq b0) k0 (Eq b0) ∧ Gb.Box b0 i_ l ∧ IsRef b_ (c.get 3) l ∧ IsI (-1) (c.get 4) l ∧ IsV i_.top (c.get 8) l ∧ True) ?_ ?_
 ·intro Q3 W3 w3
  refine gS 4 (⟨some (IsAdr b0 (0)), [(0, none)]⟩ :: ⟨some (IsAdr b0 (0)), [(5, some 0)]⟩ :: _ :: _ :: []) hs (by kernel_rfl) ⟨ob1 rfl fun _ _ h n => ok_moveB rfl (upE i0 n.1), ob1 rfl fun _ _ h n => ok_nilCheckA rfl n.1, o1 [(6, some 1)] rfl fun _ _ h n => ok_fieldAddr rfl fo69_2 (at_SightInterval_2 _) (IsAdr.ptrB n.1 (c0.grow h)), o1 [(7, some 2)] rfl fun _ _ h n => ok_load rfl ty4 n.1, trivial⟩ W3 fun b q p => ?_
  exact tail_done (k := q) (w3 _ _ ⟨Bs.post ⟨hg, hs, hd⟩ p, upE i0 (p.old 0 rfl), n0, Gb.Box.grow c0 p.grow, p.ke 3 rfl i3, p.ke 4 rfl i4, p.ou 3 8 rfl, trivial⟩)
 rintro a k ⟨⟨hg, hs, hd⟩, i0, n0, c0, i3, i4, i8, _⟩
 obtain ⟨s1, hs1, hr⟩ := bind_some hr
 refine cut (fun a' k' => Bs (Eq b0) k0 41 a' k' ∧ a'.get 0 = .pointer (some ⟨b0, 0, none⟩) ∧ Wr (Eq b0) k0 (Eq b0) ∧ Gb.Box b0 i_ k' ∧ (IsRef b_) (a'.get 3) k' ∧ (IsV s1) (a'.get 4) k' ∧ True) ?_ hQ ?_
 ·intro Q4 W4 w4
  replace hr := hs1
  clear hQ
  have hQ := W4
  refine wp_cond_split (isBool i8) (fun hc750 => ?_) (fun hc750 => ?_)
  ·rw [if_pos hc750] at hr
   obtain ⟨x1, hx1, hr⟩ := bind_some hr
   refine cut (fun a' k' => Bs (Eq b0) k0 41 a' k' ∧ a'.get 0 = .pointer (some ⟨b0, 0, none⟩) ∧ Wr (Eq b0) k0 (Eq b0) ∧ Gb.Box b0 i_ k' ∧ (IsRef b_) (a'.get 3) k' ∧ (IsV x1) (a'.get 4) k' ∧ True) ?_ hQ ?_
   ·intro Q5 W5 w5
    refine region (m := 7) (_ :: ⟨some (IsAdr b0 (0)), [(0, none)]⟩ :: ⟨some (IsAdr b0 (0)), [(10, some 1)]⟩ :: _ :: _ :: _ :: _ :: []) hmix hs (by kernel_rfl) ⟨o1 [(3, none)] rfl fun _ _ h n => ok_load rfl ty67 ((up i3 h n.1)).ptr, ob1 rfl fun _ _ h n => ok_moveB rfl (upE i0 n.1), ob1 rfl fun _ _ h n => ok_nilCheckA rfl n.1, o1 [(11, some 2)] rfl fun _ _ h n => ok_fieldAddr rfl fo69_1 (at_SightInterval_1 _) (IsAdr.ptrB n.1 (c0.grow h)), o1 [(12, some 3)] rfl fun _ _ h n => ok_load rfl ty67 n.1, o1 [(9, some 0), (13, some 4)] rfl fun _ _ h n => ok_call rfl Try.call72 (sight_bound_compare_ok n.1 n.2.1 hx1), cp 5 rfl rfl, trivial⟩ W5 fun b q p => ?_
    exact tail_done (k := q) (w5 _ _ ⟨Bs.post ⟨hg, hs, hd⟩ p, upE i0 (p.old 0 rfl), n0, Gb.Box.grow c0 p.grow, p.ke 3 rfl i3, p.ou 6 4 rfl, trivial⟩)
   rintro a k ⟨⟨hg, hs, hd⟩, i0, n0, c0, i3, i4, _⟩
   obtain rfl := Option.some.inj hr
   exact w4 _ _ ⟨⟨hg, hs, hd⟩, i0, n0, c0, i3, i4, trivial⟩
  rw [if_neg (by rw [hc750]; decide)] at hr
  refine wp_skip ?_
  obtain rfl := Option.some.inj hr
  exact w4 _ _ ⟨⟨hg, hs, hd⟩, i0, n0, c0, i3, i4, trivial⟩
 clear hs1
 rintro a k ⟨⟨hg, hs, hd⟩, i0, n0, c0, i3, i4, _⟩
 refine wp_block ?_
 refine cutS (fun c l => Bs (Eq b0) k0 41 c l ∧ c.get 0 = .pointer (some ⟨b0, 0, none⟩) ∧ Wr (Eq b0) k0 (Eq b0) ∧ Gb.Box b0 i_ l ∧ IsRef b_ (c.get 3) l ∧ IsV s1 (c.get 4) l ∧ IsV (decide (s1 < 0)) (c.get 15) l ∧ True) ?_ ?_
 ·intro Q6 W6 w6
  refine gS 3 (_ :: _ :: _ :: []) hs (by kernel_rfl) ⟨mu rfl i4, o1 [(16, some 0)] rfl fun _ _ h n => ok_lss rfl n.1 (cI rfl), cp 1 rfl rfl, trivial⟩ W6 fun b q p => ?_
  exact tail_done (k := q) (w6 _ _ ⟨Bs.post ⟨hg, hs, hd⟩ p, upE i0 (p.old 0 rfl), n0, Gb.Box.grow c0 p.grow, p.ke 3 rfl i3, p.ke 4 rfl i4, p.ou 2 15 rfl, trivial⟩)
 rintro a k ⟨⟨hg, hs, hd⟩, i0, n0, c0, i3, i4, i15, _⟩
 obtain ⟨s2, hs2, hr⟩ := bind_some hr
 refine cut (fun a' k' => Bs (Eq b0) k0 41 a' k' ∧ a'.get 0 = .pointer (some ⟨b0, 0, none⟩) ∧ Wr (Eq b0) k0 (Eq b0) ∧ Gb.Box b0 s2 k' ∧ True) ?_ hQ ?_
 ·intro Q7 W7 w7
  replace hr := hs2
  clear hQ
  have hQ := W7
  refine wp_cond_split (isBool i15) (fun hc767 => ?_) (fun hc767 => ?_)
  ·rw [if_pos hc767] at hr
   refine cut (fun a' k' => Bs (Eq b0) k0 41 a' k' ∧ a'.get 0 = .pointer (some ⟨b0, 0, none⟩) ∧ Wr (Eq b0) k0 (Eq b0) ∧ Gb.Box b0 ({ { i_ with hi := b_ } with top := true }) k' ∧ True) ?_ hQ ?_
   ·intro Q8 W8 w8
    refine gS 5 (⟨some (IsAdr b0 (0)), [(0, none)]⟩ :: ⟨some (IsAdr b0 (0)), [(0, none)]⟩ :: _ :: ⟨some (IsAdr b0 (0)), [(18, some 0)]⟩ :: _ :: []) hs (by kernel_rfl) ⟨ob1 rfl fun _ _ h n => ok_moveB rfl (upE i0 n.1), ob1 rfl fun _ _ h n => ok_moveB rfl (upE i0 n.1), o1 [(3, none)] rfl fun _ _ h n => ok_load rfl ty67 ((up i3 h n.1)).ptr, ob1 rfl fun _ _ h n => ok_nilCheckA rfl n.1, o1 [(21, some 3)] rfl fun _ _ h n => ok_fieldAdr2 rfl fo69_1 n.1, trivial⟩ W8 fun b q p => ?_
    have hgq := hg.then p.grow
    have hsb := p.size.trans hs
    have hdb := p.defers.trans hd
    have j0 := upE i0 (p.old 0 rfl)
    have z0 := Gb.Box.grow c0 p.grow
    have y0 := n0
    have j19 : IsAdr b0 (0) (b.get 19) q := p.ou 1 19 rfl
    have j20 : (IsV b_) (b.get 20) q := p.ou 2 20 rfl
    have j22 : IsAdr b0 (0 + 3) (b.get 22) q := p.ou 4 22 rfl
    have hns := z0.nshF
    refine tail_storeB (i := 5) rfl rfl rfl rfl szf67 upd_F69_1 j22 z0 j20 fun q2 hch hz => ?_
    replace hgq := hgq.step hch y0
    have hle := hch.le hns
    replace j19 := Pers.pers hle j19
    replace j20 := Pers.pers hle j20
    replace j22 := Pers.pers hle j22
    replace z0 := hz
    clear hns hle hch
    obtain ⟨q, hqq⟩ : ∃ q, q = q2 := ⟨q2, rfl⟩
    subst hqq
    refine tail_does (R := IsAdr b0 (0)) (i := 6) (d := 23) rfl rfl rfl (by rw [hsb]; decide) W8 (ok_nilCheckA rfl j19) fun b2 q2 hsz hdf hoth hgr hnew => ?_
    replace z0 := z0.grow hgr
    replace j19 := Pers.pers hgr.le j19
    replace j20 := Pers.pers hgr.le j20
    replace j22 := Pers.pers hgr.le j22
    replace hgq := hgq.then hgr
    rw [← hoth 0 (by decide)] at j0
    rw [← hoth 19 (by decide)] at j19
    rw [← hoth 20 (by decide)] at j20
    rw [← hoth 22 (by decide)] at j22
    have j23 := hnew
    replace hsb := hsz.trans hsb
    replace hdb := hdf.trans hdb
    clear hgr hsz hdf hoth hnew
    obtain ⟨b, hbb⟩ : ∃ b, b = b2 := ⟨b2, rfl⟩
    subst hbb
    obtain ⟨q, hqq⟩ : ∃ q, q = q2 := ⟨q2, rfl⟩
    subst hqq
    refine tail_does (R := IsAdr b0 (0 + 6)) (i := 7) (d := 24) rfl rfl rfl (by rw [hsb]; decide) W8 (ok_fieldAdr2 rfl fo69_2 j23) fun b2 q2 hsz hdf hoth hgr hnew => ?_
    replace z0 := z0.grow hgr
    replace j19 := Pers.pers hgr.le j19
    replace j20 := Pers.pers hgr.le j20
    replace j22 := Pers.pers hgr.le j22
    replace j23 := Pers.pers hgr.le j23
    replace hgq := hgq.then hgr
    rw [← hoth 0 (by decide)] at j0
    rw [← hoth 19 (by decide)] at j19
    rw [← hoth 20 (by decide)] at j20
    rw [← hoth 22 (by decide)] at j22
    rw [← hoth 23 (by decide)] at j23
    have j24 := hnew
    replace hsb := hsz.trans hsb
    replace hdb := hdf.trans hdb
    clear hgr hsz hdf hoth hnew
    obtain ⟨b, hbb⟩ : ∃ b, b = b2 := ⟨b2, rfl⟩
    subst hbb
    obtain ⟨q, hqq⟩ : ∃ q, q = q2 := ⟨q2, rfl⟩
    subst hqq
    have hns := z0.nshF
    refine tail_storeB (i := 8) rfl rfl rfl rfl szf4 upd_F69_2 j24 z0 (isV_bool.2 rfl) fun q2 hch hz => ?_
    replace hgq := hgq.step hch y0
    have hle := hch.le hns
    replace j19 := Pers.pers hle j19
    replace j20 := Pers.pers hle j20
    replace j22 := Pers.pers hle j22
    replace j23 := Pers.pers hle j23
    replace j24 := Pers.pers hle j24
    replace z0 := hz
    clear hns hle hch
    obtain ⟨q, hqq⟩ : ∃ q, q = q2 := ⟨q2, rfl⟩
    subst hqq
    exact tail_done (k := q) (w8 _ _ ⟨⟨hgq, hsb, hdb⟩, j0, y0, z0, trivial⟩)
   rintro a k ⟨⟨hg, hs, hd⟩, i0, n0, c0, _⟩
   obtain rfl := Option.some.inj hr
   exact w7 _ _ ⟨⟨hg, hs, hd⟩, i0, n0, c0, trivial⟩
  rw [if_neg (by rw [hc767]; decide)] at hr
  refine cutS (fun c l => Bs (Eq b0) k0 41 c l ∧ c.get 0 = .pointer (some ⟨b0, 0, none⟩) ∧ Wr (Eq b0) k0 (Eq b0) ∧ Gb.Box b0 i_ l ∧ IsRef b_ (c.get 3) l ∧ IsV (s1 == 0) (c.get 25) l ∧ True) ?_ ?_
  ·intro Q9 W9 w9
   refine gS 3 (_ :: _ :: _ :: []) hs (by kernel_rfl) ⟨mu rfl i4, o1 [(26, some 0)] rfl fun _ _ h n => ok_eqI rfl n.1 (cI rfl), cp 1 rfl rfl, trivial⟩ W9 fun b q p => ?_
   exact tail_done (k := q) (w9 _ _ ⟨Bs.post ⟨hg, hs, hd⟩ p, upE i0 (p.old 0 rfl), n0, Gb.Box.grow c0 p.grow, p.ke 3 rfl i3, p.ou 2 25 rfl, trivial⟩)
  rintro a k ⟨⟨hg, hs, hd⟩, i0, n0, c0, i3, i25, _⟩
  obtain ⟨s3, hs3, hr⟩ := bind_some hr
  refine cut (fun a' k' => Bs (Eq b0) k0 41 a' k' ∧ a'.get 0 = .pointer (some ⟨b0, 0, none⟩) ∧ Wr (Eq b0) k0 (Eq b0) ∧ Gb.Box b0 s3 k' ∧ True) ?_ hQ ?_
  ·intro Q10 W10 w10
   replace hr := hs3
   clear hQ
   have hQ := W10
   refine wp_cond_split (isBool i25) (fun hc763 => ?_) (fun hc763 => ?_)
   ·rw [if_pos hc763] at hr
    refine cut (fun a' k' => Bs (Eq b0) k0 41 a' k' ∧ a'.get 0 = .pointer (some ⟨b0, 0, none⟩) ∧ Wr (Eq b0) k0 (Eq b0) ∧ Gb.Box b0 ({ i_ with hi := { i_.hi with open_ := (i_.hi.open_ || b_.open_) } }) k' ∧ True) ?_ hQ ?_
    ·intro Q11 W11 w11
     refine gS 13 (⟨some (IsAdr b0 (0)), [(0, none)]⟩ :: ⟨some (IsAdr b0 (0)), [(0, none)]⟩ :: ⟨some (IsAdr b0 (0)), [(29, some 1)]⟩ :: _ :: _ :: _ :: _ :: _ :: _ :: _ :: ⟨some (IsAdr b0 (0)), [(28, some 0)]⟩ :: _ :: _ :: []) hs (by kernel_rfl) ⟨ob1 rfl fun _ _ h n => ok_moveB rfl (upE i0 n.1), ob1 rfl fun _ _ h n => ok_moveB rfl (upE i0 n.1), ob1 rfl fun _ _ h n => ok_nilCheckA rfl n.1, o1 [(30, some 2)] rfl fun _ _ h n => ok_fieldAddr rfl fo69_1 (at_SightInterval_1 _) (IsAdr.ptrB n.1 (c0.grow h)), o1 [(31, some 3)] rfl fun _ _ h n => ok_fieldAddr rfl fo67_2 (at_SightBound_2 _) n.1, o1 [(32, some 4)] rfl fun _ _ h n => ok_load rfl ty4 n.1, cm 5 rfl rfl, gF [(3, none)] rfl rfl fun hp _ _ h n => ok_fieldAddr rfl fo67_2 (at_SightBound_2 _) ((up i3 h n.1)).ptr, gF [(35, some 7)] rfl rfl fun hp _ _ h n => ok_load rfl ty4 (Gd.get n.1 hp), o1 [(34, some 6), (36, some 8)] rfl fun _ _ h n => ok_pickOr rfl n.1 (cB rfl) (Gd.get n.2.1), ob1 rfl fun _ _ h n => ok_nilCheckA rfl n.1, o1 [(38, some 10)] rfl fun _ _ h n => ok_fieldAdr2 rfl fo69_1 n.1, o1 [(39, some 11)] rfl fun _ _ h n => ok_fieldAdr2 rfl fo67_2 n.1, trivial⟩ W11 fun b q p => ?_
     have hgq := hg.then p.grow
     have hsb := p.size.trans hs
     have hdb := p.defers.trans hd
     have j0 := upE i0 (p.old 0 rfl)
     have z0 := Gb.Box.grow c0 p.grow
     have y0 := n0
     have j37 : (IsV (i_.hi.open_ || b_.open_)) (b.get 37) q := p.ou 9 37 rfl
     have j40 : IsAdr b0 (0 + 3 + 2) (b.get 40) q := p.ou 12 40 rfl
     have hns := z0.nshF
     refine tail_storeB (i := 13) rfl rfl rfl rfl szf4 upd_F69_1_F67_2 j40 z0 j37 fun q2 hch hz => ?_
     replace hgq := hgq.step hch y0
     have hle := hch.le hns
     replace j37 := Pers.pers hle j37
     replace j40 := Pers.pers hle j40
     replace z0 := hz
     clear hns hle hch
     obtain ⟨q, hqq⟩ : ∃ q, q = q2 := ⟨q2, rfl⟩
     subst hqq
     exact tail_done (k := q) (w11 _ _ ⟨⟨hgq, hsb, hdb⟩, j0, y0, z0, trivial⟩)
    rintro a k ⟨⟨hg, hs, hd⟩, i0, n0, c0, _⟩
    obtain rfl := Option.some.inj hr
    exact w10 _ _ ⟨⟨hg, hs, hd⟩, i0, n0, c0, trivial⟩
   rw [if_neg (by rw [hc763]; decide)] at hr
   refine wp_skip ?_
   obtain rfl := Option.some.inj hr
   exact w10 _ _ ⟨⟨hg, hs, hd⟩, i0, n0, c0, trivial⟩
  clear hs3
  rintro a k ⟨⟨hg, hs, hd⟩, i0, n0, c0, _⟩
  obtain rfl := Option.some.inj hr
  exact w7 _ _ ⟨⟨hg, hs, hd⟩, i0, n0, c0, trivial⟩
 clear hs2
 rintro a k ⟨⟨hg, hs, hd⟩, i0, n0, c0, _⟩
 obtain rfl := Option.some.inj hr
 exact retT rfl hd hg c0
def sight_interval_narrow (i_ : SightInterval) (at_ : Int) (by_ : Int) (from_ : Int) (to_ : Int) : Option (SightInterval) :=
 (if (decide (0 < by_)) then
  (subI from_ at_).bind fun x1 =>
  (sight_interval_above i_ (⟨x1, by_, false⟩ : SightBound)).bind fun x2 =>
  (subI to_ at_).bind fun x3 =>
  (sight_interval_below x2 (⟨x3, by_, true⟩ : SightBound)).bind fun x4 =>
  some x4
 else
  (if (decide (by_ < 0)) then
   (subI at_ to_).bind fun x5 =>
   (subI 0 by_).bind fun x6 =>
   (sight_interval_above i_ (⟨x5, x6, true⟩ : SightBound)).bind fun x7 =>
   (subI at_ from_).bind fun x8 =>
   (subI 0 by_).bind fun x9 =>
   (sight_interval_below x7 (⟨x8, x9, false⟩ : SightBound)).bind fun x10 =>
   some x10
  else
   (if ((decide (at_ < from_)) || (decide (to_ ≤ at_))) then
    some { i_ with none_ := true }
   else
    some i_).bind fun s1 =>
   some s1).bind fun s2 =>
  some s2).bind fun s3 =>
 some s3
theorem sight_interval_narrow_ok {k0 : K} {v0 v1 v2 v3 v4 : Value} {i_ : SightInterval} {at_ : Int} {by_ : Int} {from_ : Int} {to_ : Int} {r : SightInterval} {b0 : Nat} (i0 : v0 = .pointer (some ⟨b0, 0, none⟩)) (c0 : Gb.Box b0 i_ k0) (i1 : (IsV at_) v1 k0) (i2 : (IsV by_) v2 k0) (i3 : (IsV from_) v3 k0) (i4 : (IsV to_) v4 k0) (hr : sight_interval_narrow i_ at_ by_ from_ to_ = some r) :
  Calls Try.prog 56 #[v0, v1, v2, v3, v4] k0.w (RetC (Eq b0) k0 (IsTurn b0 r)) := by
 unfold sight_interval_narrow at hr
 refine enterK Try.func56 rfl Try.ntmps56 (show 5 ≤ 58 by decide) fun a k hk0 hs hd ha => ?_
 obtain ⟨e0, e1, e2, e3, e4, _⟩ := ha
 replace i0 : a.get 0 = .pointer (some ⟨b0, 0, none⟩) := by rw [e0]; exact i0
 replace c0 : Gb.Box b0 i_ k := by rw [hk0]; exact c0
 have n0 : Wr (Eq b0) k0 (Eq b0) := fun b h => .inl h
 replace i1 : (IsV at_) (a.get 1) k := by rw [e1, hk0]; exact i1
 replace i2 : (IsV by_) (a.get 2) k := by rw [e2, hk0]; exact i2
 replace i3 : (IsV from_) (a.get 3) k := by rw [e3, hk0]; exact i3
 replace i4 : (IsV to_) (a.get 4) k := by rw [e4, hk0]; exact i4
 have hQ : Gb.LetsOut (bodyPost Try.prog Try.f56 (RetC (Eq b0) k0 (IsTurn b0 r))) := letsOutC
 have hg : Chg (Eq b0) k0 k := by rw [hk0]; exact Chg.refl _ k0
 refine wp_block ?_
 refine cutS (fun c l => Bs (Eq b0) k0 58 c l ∧ c.get 0 = .pointer (some ⟨b0, 0, none⟩) ∧ Wr (Eq b0) k0 (Eq b0) ∧ Gb.Box b0 i_ l ∧ IsV at_ (c.get 1) l ∧ IsV by_ (c.get 2) l ∧ IsV from_ (c.get 3) l ∧ IsV to_ (c.get 4) l ∧ IsV (decide (0 < by_)) (c.get 10) l ∧ True) ?_ ?_
 ·intro Q1 W1 w1
  refine gS 3 (_ :: _ :: _ :: []) hs (by kernel_rfl) ⟨mu rfl i2, o1 [(11, some 0)] rfl fun _ _ h n => ok_gtr rfl n.1 (cI rfl), cp 1 rfl rfl, trivial⟩ W1 fun b q p => ?_
  exact tail_done (k := q) (w1 _ _ ⟨Bs.post ⟨hg, hs, hd⟩ p, upE i0 (p.old 0 rfl), n0, Gb.Box.grow c0 p.grow, p.ke 1 rfl i1, p.ke 2 rfl i2, p.ke 3 rfl i3, p.ke 4 rfl i4, p.ou 2 10 rfl, trivial⟩)
 rintro a k ⟨⟨hg, hs, hd⟩, i0, n0, c0, i1, i2, i3, i4, i10, _⟩
 obtain ⟨s1, hs1, hr⟩ := bind_some hr
 refine cut (fun a' k' => Bs (Eq b0) k0 58 a' k' ∧ a'.get 0 = .pointer (some ⟨b0, 0, none⟩) ∧ Wr (Eq b0) k0 (Eq b0) ∧ Gb.Box b0 s1 k' ∧ True) ?_ hQ ?_
 ·intro Q2 W2 w2
  replace hr := hs1
  clear hQ
  have hQ := W2
  refine wp_cond_split (isBool i10) (fun hc810 => ?_) (fun hc810 => ?_)
  ·rw [if_pos hc810] at hr
   refine wp_seq ?_
   obtain ⟨x1, hx1, hr⟩ := bind_some hr
   obtain ⟨x2, hx2, hr⟩ := bind_some hr
   refine cut (fun a' k' => Bs (Eq b0) k0 58 a' k' ∧ a'.get 0 = .pointer (some ⟨b0, 0, none⟩) ∧ Wr (Eq b0) k0 (Eq b0) ∧ Gb.Box b0 x2 k' ∧ (IsV at_) (a'.get 1) k' ∧ (IsV by_) (a'.get 2) k' ∧ (IsV to_) (a'.get 4) k' ∧ True) ?_ hQ ?_
   ·intro Q3 W3 w3
    refine gS 6 (⟨some (IsAdr b0 (0)), [(0, none)]⟩ :: _ :: _ :: _ :: _ :: ⟨some (IsV (⟨x1, by_, false⟩ : SightBound)), [(16, some 3), (17, some 4)]⟩ :: []) hs (by kernel_rfl) ⟨ob1 rfl fun _ _ h n => ok_moveB rfl (upE i0 n.1), mu rfl i3, mu rfl i1, o1 [(14, some 1), (15, some 2)] rfl fun _ _ h n => ok_sub rfl n.1 n.2.1 hx1, mu rfl i2, ob1 rfl fun _ _ h n => ok_build rfl (bld67_0_1_2 n.1 n.2.1 (isV_bool.2 rfl)), trivial⟩ W3 fun b q p => ?_
    have hgq := hg.then p.grow
    have hsb := p.size.trans hs
    have hdb := p.defers.trans hd
    have j0 := upE i0 (p.old 0 rfl)
    have z0 := Gb.Box.grow c0 p.grow
    have y0 := n0
    have j1 := p.ke 1 rfl i1
    have j2 := p.ke 2 rfl i2
    have j4 := p.ke 4 rfl i4
    have j13 : IsAdr b0 (0) (b.get 13) q := p.ou 0 13 rfl
    have j18 : (IsV (⟨x1, by_, false⟩ : SightBound)) (b.get 18) q := p.ou 5 18 rfl
    have hns := z0.nshF
    refine tail_call (F := Eq b0) (i := 6) (d := 19) rfl rfl rfl rfl (by rw [hsb]; decide) Try.call70 W3 (sight_interval_above_ok j13 z0 j18 hx2) fun b2 q2 hsz hdf hoth hch hres => ?_
    have hle := hch.le hns
    replace j1 := Pers.pers hle j1
    replace j2 := Pers.pers hle j2
    replace j4 := Pers.pers hle j4
    replace j13 := Pers.pers hle j13
    replace j18 := Pers.pers hle j18
    replace hgq := hgq.step hch y0
    replace z0 := hres
    rw [← hoth 0 (by decide)] at j0
    rw [← hoth 1 (by decide)] at j1
    rw [← hoth 2 (by decide)] at j2
    rw [← hoth 4 (by decide)] at j4
    rw [← hoth 13 (by decide)] at j13
    rw [← hoth 18 (by decide)] at j18
    replace hsb := hsz.trans hsb
    replace hdb := hdf.trans hdb
    clear hle hch hns hsz hdf hoth hres
    obtain ⟨b, hbb⟩ : ∃ b, b = b2 := ⟨b2, rfl⟩
    subst hbb
    obtain ⟨q, hqq⟩ : ∃ q, q = q2 := ⟨q2, rfl⟩
    subst hqq
    exact tail_done (k := q) (w3 _ _ ⟨⟨hgq, hsb, hdb⟩, j0, y0, z0, j1, j2, j4, trivial⟩)
   rintro a k ⟨⟨hg, hs, hd⟩, i0, n0, c0, i1, i2, i4, _⟩
   obtain ⟨x3, hx3, hr⟩ := bind_some hr
   obtain ⟨x4, hx4, hr⟩ := bind_some hr
   refine cut (fun a' k' => Bs (Eq b0) k0 58 a' k' ∧ a'.get 0 = .pointer (some ⟨b0, 0, none⟩) ∧ Wr (Eq b0) k0 (Eq b0) ∧ Gb.Box b0 x4 k' ∧ True) ?_ hQ ?_
   ·intro Q4 W4 w4
    refine gS 6 (⟨some (IsAdr b0 (0)), [(0, none)]⟩ :: _ :: _ :: _ :: _ :: ⟨some (IsV (⟨x3, by_, true⟩ : SightBound)), [(23, some 3), (24, some 4)]⟩ :: []) hs (by kernel_rfl) ⟨ob1 rfl fun _ _ h n => ok_moveB rfl (upE i0 n.1), mu rfl i4, mu rfl i1, o1 [(21, some 1), (22, some 2)] rfl fun _ _ h n => ok_sub rfl n.1 n.2.1 hx3, mu rfl i2, ob1 rfl fun _ _ h n => ok_build rfl (bld67_0_1_2 n.1 n.2.1 (isV_bool.2 rfl)), trivial⟩ W4 fun b q p => ?_
    have hgq := hg.then p.grow
    have hsb := p.size.trans hs
    have hdb := p.defers.trans hd
    have j0 := upE i0 (p.old 0 rfl)
    have z0 := Gb.Box.grow c0 p.grow
    have y0 := n0
    have j20 : IsAdr b0 (0) (b.get 20) q := p.ou 0 20 rfl
    have j25 : (IsV (⟨x3, by_, true⟩ : SightBound)) (b.get 25) q := p.ou 5 25 rfl
    have hns := z0.nshF
    refine tail_call (F := Eq b0) (i := 6) (d := 26) rfl rfl rfl rfl (by rw [hsb]; decide) Try.call71 W4 (sight_interval_below_ok j20 z0 j25 hx4) fun b2 q2 hsz hdf hoth hch hres => ?_
    have hle := hch.le hns
    replace j20 := Pers.pers hle j20
    replace j25 := Pers.pers hle j25
    replace hgq := hgq.step hch y0
    replace z0 := hres
    rw [← hoth 0 (by decide)] at j0
    rw [← hoth 20 (by decide)] at j20
    rw [← hoth 25 (by decide)] at j25
    replace hsb := hsz.trans hsb
    replace hdb := hdf.trans hdb
    clear hle hch hns hsz hdf hoth hres
    obtain ⟨b, hbb⟩ : ∃ b, b = b2 := ⟨b2, rfl⟩
    subst hbb
    obtain ⟨q, hqq⟩ : ∃ q, q = q2 := ⟨q2, rfl⟩
    subst hqq
    exact tail_done (k := q) (w4 _ _ ⟨⟨hgq, hsb, hdb⟩, j0, y0, z0, trivial⟩)
   rintro a k ⟨⟨hg, hs, hd⟩, i0, n0, c0, _⟩
   obtain rfl := Option.some.inj hr
   exact w2 _ _ ⟨⟨hg, hs, hd⟩, i0, n0, c0, trivial⟩
  rw [if_neg (by rw [hc810]; decide)] at hr
  refine cutS (fun c l => Bs (Eq b0) k0 58 c l ∧ c.get 0 = .pointer (some ⟨b0, 0, none⟩) ∧ Wr (Eq b0) k0 (Eq b0) ∧ Gb.Box b0 i_ l ∧ IsV at_ (c.get 1) l ∧ IsV by_ (c.get 2) l ∧ IsV from_ (c.get 3) l ∧ IsV to_ (c.get 4) l ∧ IsV (decide (by_ < 0)) (c.get 27) l ∧ True) ?_ ?_
  ·intro Q5 W5 w5
   refine gS 3 (_ :: _ :: _ :: []) hs (by kernel_rfl) ⟨mu rfl i2, o1 [(28, some 0)] rfl fun _ _ h n => ok_lss rfl n.1 (cI rfl), cp 1 rfl rfl, trivial⟩ W5 fun b q p => ?_
   exact tail_done (k := q) (w5 _ _ ⟨Bs.post ⟨hg, hs, hd⟩ p, upE i0 (p.old 0 rfl), n0, Gb.Box.grow c0 p.grow, p.ke 1 rfl i1, p.ke 2 rfl i2, p.ke 3 rfl i3, p.ke 4 rfl i4, p.ou 2 27 rfl, trivial⟩)
  rintro a k ⟨⟨hg, hs, hd⟩, i0, n0, c0, i1, i2, i3, i4, i27, _⟩
  obtain ⟨s2, hs2, hr⟩ := bind_some hr
  refine cut (fun a' k' => Bs (Eq b0) k0 58 a' k' ∧ a'.get 0 = .pointer (some ⟨b0, 0, none⟩) ∧ Wr (Eq b0) k0 (Eq b0) ∧ Gb.Box b0 s2 k' ∧ True) ?_ hQ ?_
  ·intro Q6 W6 w6
   replace hr := hs2
   clear hQ
   have hQ := W6
   refine wp_cond_split (isBool i27) (fun hc806 => ?_) (fun hc806 => ?_)
   ·rw [if_pos hc806] at hr
    refine wp_seq ?_
    obtain ⟨x5, hx5, hr⟩ := bind_some hr
    obtain ⟨x6, hx6, hr⟩ := bind_some hr
    obtain ⟨x7, hx7, hr⟩ := bind_some hr
    refine cut (fun a' k' => Bs (Eq b0) k0 58 a' k' ∧ a'.get 0 = .pointer (some ⟨b0, 0, none⟩) ∧ Wr (Eq b0) k0 (Eq b0) ∧ Gb.Box b0 x7 k' ∧ (IsV at_) (a'.get 1) k' ∧ (IsV by_) (a'.get 2) k' ∧ (IsV from_) (a'.get 3) k' ∧ True) ?_ hQ ?_
    ·intro Q7 W7 w7
     refine gS 7 (⟨some (IsAdr b0 (0)), [(0, none)]⟩ :: _ :: _ :: _ :: _ :: ⟨some (IsV x6), [(34, some 4)]⟩ :: ⟨some (IsV (⟨x5, x6, true⟩ : SightBound)), [(33, some 3), (35, some 5)]⟩ :: []) hs (by kernel_rfl) ⟨ob1 rfl fun _ _ h n => ok_moveB rfl (upE i0 n.1), mu rfl i1, mu rfl i4, o1 [(31, some 1), (32, some 2)] rfl fun _ _ h n => ok_sub rfl n.1 n.2.1 hx5, mu rfl i2, ob1 rfl fun _ _ h n => ok_neg rfl n.1 hx6, ob1 rfl fun _ _ h n => ok_build rfl (bld67_0_1_2 n.1 n.2.1 (isV_bool.2 rfl)), trivial⟩ W7 fun b q p => ?_
     have hgq := hg.then p.grow
     have hsb := p.size.trans hs
     have hdb := p.defers.trans hd
     have j0 := upE i0 (p.old 0 rfl)
     have z0 := Gb.Box.grow c0 p.grow
     have y0 := n0
     have j1 := p.ke 1 rfl i1
     have j2 := p.ke 2 rfl i2
     have j3 := p.ke 3 rfl i3
     have j30 : IsAdr b0 (0) (b.get 30) q := p.ou 0 30 rfl
     have j36 : (IsV (⟨x5, x6, true⟩ : SightBound)) (b.get 36) q := p.ou 6 36 rfl
     have hns := z0.nshF
     refine tail_call (F := Eq b0) (i := 7) (d := 37) rfl rfl rfl rfl (by rw [hsb]; decide) Try.call70 W7 (sight_interval_above_ok j30 z0 j36 hx7) fun b2 q2 hsz hdf hoth hch hres => ?_
     have hle := hch.le hns
     replace j1 := Pers.pers hle j1
     replace j2 := Pers.pers hle j2
     replace j3 := Pers.pers hle j3
     replace j30 := Pers.pers hle j30
     replace j36 := Pers.pers hle j36
     replace hgq := hgq.step hch y0
     replace z0 := hres
     rw [← hoth 0 (by decide)] at j0
     rw [← hoth 1 (by decide)] at j1
     rw [← hoth 2 (by decide)] at j2
     rw [← hoth 3 (by decide)] at j3
     rw [← hoth 30 (by decide)] at j30
     rw [← hoth 36 (by decide)] at j36
     replace hsb := hsz.trans hsb
     replace hdb := hdf.trans hdb
     clear hle hch hns hsz hdf hoth hres
     obtain ⟨b, hbb⟩ : ∃ b, b = b2 := ⟨b2, rfl⟩
     subst hbb
     obtain ⟨q, hqq⟩ : ∃ q, q = q2 := ⟨q2, rfl⟩
     subst hqq
     exact tail_done (k := q) (w7 _ _ ⟨⟨hgq, hsb, hdb⟩, j0, y0, z0, j1, j2, j3, trivial⟩)
    rintro a k ⟨⟨hg, hs, hd⟩, i0, n0, c0, i1, i2, i3, _⟩
    obtain ⟨x8, hx8, hr⟩ := bind_some hr
    obtain ⟨x9, hx9, hr⟩ := bind_some hr
    obtain ⟨x10, hx10, hr⟩ := bind_some hr
    refine cut (fun a' k' => Bs (Eq b0) k0 58 a' k' ∧ a'.get 0 = .pointer (some ⟨b0, 0, none⟩) ∧ Wr (Eq b0) k0 (Eq b0) ∧ Gb.Box b0 x10 k' ∧ True) ?_ hQ ?_
    ·intro Q8 W8 w8
     refine gS 7 (⟨some (IsAdr b0 (0)), [(0, none)]⟩ :: _ :: _ :: _ :: _ :: ⟨some (IsV x9), [(42, some 4)]⟩ :: ⟨some (IsV (⟨x8, x9, false⟩ : SightBound)), [(41, some 3), (43, some 5)]⟩ :: []) hs (by kernel_rfl) ⟨ob1 rfl fun _ _ h n => ok_moveB rfl (upE i0 n.1), mu rfl i1, mu rfl i3, o1 [(39, some 1), (40, some 2)] rfl fun _ _ h n => ok_sub rfl n.1 n.2.1 hx8, mu rfl i2, ob1 rfl fun _ _ h n => ok_neg rfl n.1 hx9, ob1 rfl fun _ _ h n => ok_build rfl (bld67_0_1_2 n.1 n.2.1 (isV_bool.2 rfl)), trivial⟩ W8 fun b q p => ?_
     have hgq := hg.then p.grow
     have hsb := p.size.trans hs
     have hdb := p.defers.trans hd
     have j0 := upE i0 (p.old 0 rfl)
     have z0 := Gb.Box.grow c0 p.grow
     have y0 := n0
     have j38 : IsAdr b0 (0) (b.get 38) q := p.ou 0 38 rfl
     have j44 : (IsV (⟨x8, x9, false⟩ : SightBound)) (b.get 44) q := p.ou 6 44 rfl
     have hns := z0.nshF
     refine tail_call (F := Eq b0) (i := 7) (d := 45) rfl rfl rfl rfl (by rw [hsb]; decide) Try.call71 W8 (sight_interval_below_ok j38 z0 j44 hx10) fun b2 q2 hsz hdf hoth hch hres => ?_
     have hle := hch.le hns
     replace j38 := Pers.pers hle j38
     replace j44 := Pers.pers hle j44
     replace hgq := hgq.step hch y0
     replace z0 := hres
     rw [← hoth 0 (by decide)] at j0
     rw [← hoth 38 (by decide)] at j38
     rw [← hoth 44 (by decide)] at j44
     replace hsb := hsz.trans hsb
     replace hdb := hdf.trans hdb
     clear hle hch hns hsz hdf hoth hres
     obtain ⟨b, hbb⟩ : ∃ b, b = b2 := ⟨b2, rfl⟩
     subst hbb
     obtain ⟨q, hqq⟩ : ∃ q, q = q2 := ⟨q2, rfl⟩
     subst hqq
     exact tail_done (k := q) (w8 _ _ ⟨⟨hgq, hsb, hdb⟩, j0, y0, z0, trivial⟩)
    rintro a k ⟨⟨hg, hs, hd⟩, i0, n0, c0, _⟩
    obtain rfl := Option.some.inj hr
    exact w6 _ _ ⟨⟨hg, hs, hd⟩, i0, n0, c0, trivial⟩
   rw [if_neg (by rw [hc806]; decide)] at hr
   refine cutS (fun c l => Bs (Eq b0) k0 58 c l ∧ c.get 0 = .pointer (some ⟨b0, 0, none⟩) ∧ Wr (Eq b0) k0 (Eq b0) ∧ Gb.Box b0 i_ l ∧ (IsV ((decide (at_ < from_)) || (decide (to_ ≤ at_)))) (c.get 46) l ∧ True) ?_ ?_
   ·intro Q9 W9 w9
    refine gS 9 (_ :: _ :: _ :: _ :: _ :: _ :: _ :: _ :: _ :: []) hs (by kernel_rfl) ⟨mu rfl i1, mu rfl i3, o1 [(47, some 0), (48, some 1)] rfl fun _ _ h n => ok_lss rfl n.1 n.2.1, cm 2 rfl rfl, mF rfl rfl i1, mF rfl rfl i4, gF [(51, some 4), (52, some 5)] rfl rfl fun hp _ _ h n => ok_geq rfl (Gd.get n.1 hp) (Gd.get n.2.1 hp), o1 [(50, some 3), (53, some 6)] rfl fun _ _ h n => ok_pickOr rfl n.1 (cB rfl) (Gd.get n.2.1), cp 7 rfl rfl, trivial⟩ W9 fun b q p => ?_
    exact tail_done (k := q) (w9 _ _ ⟨Bs.post ⟨hg, hs, hd⟩ p, upE i0 (p.old 0 rfl), n0, Gb.Box.grow c0 p.grow, p.ou 8 46 rfl, trivial⟩)
   rintro a k ⟨⟨hg, hs, hd⟩, i0, n0, c0, i46, _⟩
   obtain ⟨s3, hs3, hr⟩ := bind_some hr
   refine cut (fun a' k' => Bs (Eq b0) k0 58 a' k' ∧ a'.get 0 = .pointer (some ⟨b0, 0, none⟩) ∧ Wr (Eq b0) k0 (Eq b0) ∧ Gb.Box b0 s3 k' ∧ True) ?_ hQ ?_
   ·intro Q10 W10 w10
    replace hr := hs3
    clear hQ
    have hQ := W10
    refine wp_cond_split (isBool i46) (fun hc802 => ?_) (fun hc802 => ?_)
    ·rw [if_pos hc802] at hr
     refine cut (fun a' k' => Bs (Eq b0) k0 58 a' k' ∧ a'.get 0 = .pointer (some ⟨b0, 0, none⟩) ∧ Wr (Eq b0) k0 (Eq b0) ∧ Gb.Box b0 ({ i_ with none_ := true }) k' ∧ True) ?_ hQ ?_
     ·intro Q11 W11 w11
      refine gS 3 (⟨some (IsAdr b0 (0)), [(0, none)]⟩ :: ⟨some (IsAdr b0 (0)), [(55, some 0)]⟩ :: _ :: []) hs (by kernel_rfl) ⟨ob1 rfl fun _ _ h n => ok_moveB rfl (upE i0 n.1), ob1 rfl fun _ _ h n => ok_nilCheckA rfl n.1, o1 [(56, some 1)] rfl fun _ _ h n => ok_fieldAdr2 rfl fo69_3 n.1, trivial⟩ W11 fun b q p => ?_
      have hgq := hg.then p.grow
      have hsb := p.size.trans hs
      have hdb := p.defers.trans hd
      have j0 := upE i0 (p.old 0 rfl)
      have z0 := Gb.Box.grow c0 p.grow
      have y0 := n0
      have j57 : IsAdr b0 (0 + 7) (b.get 57) q := p.ou 2 57 rfl
      have hns := z0.nshF
      refine tail_storeB (i := 3) rfl rfl rfl rfl szf4 upd_F69_3 j57 z0 (isV_bool.2 rfl) fun q2 hch hz => ?_
      replace hgq := hgq.step hch y0
      have hle := hch.le hns
      replace j57 := Pers.pers hle j57
      replace z0 := hz
      clear hns hle hch
      obtain ⟨q, hqq⟩ : ∃ q, q = q2 := ⟨q2, rfl⟩
      subst hqq
      exact tail_done (k := q) (w11 _ _ ⟨⟨hgq, hsb, hdb⟩, j0, y0, z0, trivial⟩)
     rintro a k ⟨⟨hg, hs, hd⟩, i0, n0, c0, _⟩
     obtain rfl := Option.some.inj hr
     exact w10 _ _ ⟨⟨hg, hs, hd⟩, i0, n0, c0, trivial⟩
    rw [if_neg (by rw [hc802]; decide)] at hr
    refine wp_skip ?_
    obtain rfl := Option.some.inj hr
    exact w10 _ _ ⟨⟨hg, hs, hd⟩, i0, n0, c0, trivial⟩
   clear hs3
   rintro a k ⟨⟨hg, hs, hd⟩, i0, n0, c0, _⟩
   obtain rfl := Option.some.inj hr
   exact w6 _ _ ⟨⟨hg, hs, hd⟩, i0, n0, c0, trivial⟩
  clear hs2
  rintro a k ⟨⟨hg, hs, hd⟩, i0, n0, c0, _⟩
  obtain rfl := Option.some.inj hr
  exact w2 _ _ ⟨⟨hg, hs, hd⟩, i0, n0, c0, trivial⟩
 clear hs1
 rintro a k ⟨⟨hg, hs, hd⟩, i0, n0, c0, _⟩
 obtain rfl := Option.some.inj hr
 exact retT rfl hd hg c0
def sight_interval_empty (i_ : SightInterval) : Option (Bool) :=
 if (i_.none_ || (!i_.top)) then
  some i_.none_
 else
  (sight_bound_compare i_.lo i_.hi).bind fun x1 =>
  some ((decide (0 < x1)) || ((x1 == 0) && (i_.lo.open_ || i_.hi.open_)))
theorem sight_interval_empty_ok {k0 : K} {v0 : Value} {i_ : SightInterval} {r : Bool} (i0 : (IsRef i_) v0 k0) (hr : sight_interval_empty i_ = some r) :
  Calls Try.prog 57 #[v0] k0.w (Ret k0 (IsV r)) := by
 unfold sight_interval_empty at hr
 refine Ret.ofC ?_
 refine enterK Try.func57 rfl Try.ntmps57 (show 1 ≤ 48 by decide) fun a k hk0 hs hd ha => ?_
 obtain ⟨e0, _⟩ := ha
 replace i0 : (IsRef i_) (a.get 0) k := by rw [e0, hk0]; exact i0
 have hQ : Gb.LetsOut (bodyPost Try.prog Try.f57 (RetC noF k0 (IsV r))) := letsOutC
 have hg : Chg noF k0 k := by rw [hk0]; exact Chg.refl _ k0
 refine stepL 1 (⟨some (IsV false), []⟩ :: []) rfl ⟨hg, hs, hd⟩ (by kernel_rfl) ⟨ob1 rfl fun _ _ h n => ok_assign rfl (isV_bool.2 rfl), trivial⟩ [⟨_, _⟩] (fun b q p => ⟨p.ke 0 rfl i0, trivial⟩) ?_
 rintro a k ⟨⟨hg, hs, hd⟩, i0, _⟩
 refine wp_seq ?_
 refine stepL 11 (_ :: ⟨some (IsRef i_), [(4, some 0)]⟩ :: _ :: _ :: _ :: _ :: ⟨some (Gd (i_.none_ = false) (IsRef i_)), [(9, some 5)]⟩ :: _ :: _ :: _ :: _ :: []) rfl ⟨hg, hs, hd⟩ (by kernel_rfl) ⟨mu rfl i0, ob1 rfl fun _ _ h n => ok_nilCheckR rfl n.1, o1 [(5, some 1)] rfl fun _ _ h n => ok_fieldAddr rfl fo69_3 (at_SightInterval_3 _) (n.1).ptr, o1 [(6, some 2)] rfl fun _ _ h n => ok_load rfl ty4 n.1, cm 3 rfl rfl, mF rfl rfl i0, gdF rfl rfl fun hp _ _ h n => ok_nilCheckR rfl (Gd.get n.1 hp), gF [(10, some 6)] rfl rfl fun hp _ _ h n => ok_fieldAddr rfl fo69_2 (at_SightInterval_2 _) ((Gd.get n.1 hp)).ptr, gF [(11, some 7)] rfl rfl fun hp _ _ h n => ok_load rfl ty4 (Gd.get n.1 hp), gF [(12, some 8)] rfl rfl fun hp _ _ h n => ok_not rfl (Gd.get n.1 hp), o1 [(8, some 4), (13, some 9)] rfl fun _ _ h n => ok_pickOr rfl n.1 (cB rfl) (Gd.get n.2.1), trivial⟩ [⟨_, _⟩, ⟨_, _⟩] (fun b q p => ⟨p.ke 0 rfl i0, p.ou 10 14 rfl, trivial⟩) ?_
 rintro a k ⟨⟨hg, hs, hd⟩, i0, i14, _⟩
 refine wp_cond_split (isBool i14) (fun hc825 => ?_) (fun hc825 => ?_)
 ·rw [if_pos hc825] at hr
  refine stepL 5 (_ :: ⟨some (IsRef i_), [(15, some 0)]⟩ :: _ :: _ :: _ :: []) rfl ⟨hg, hs, hd⟩ (by kernel_rfl) ⟨mu rfl i0, ob1 rfl fun _ _ h n => ok_nilCheckR rfl n.1, o1 [(16, some 1)] rfl fun _ _ h n => ok_fieldAddr rfl fo69_3 (at_SightInterval_3 _) (n.1).ptr, o1 [(17, some 2)] rfl fun _ _ h n => ok_load rfl ty4 n.1, cp 3 rfl rfl, trivial⟩ [⟨_, _⟩] (fun b q p => ⟨p.ou 4 2 rfl, trivial⟩) ?_
  rintro a k ⟨⟨hg, hs, hd⟩, i2, _⟩
  refine wp_ret ?_
  obtain rfl := Option.some.inj hr
  exact retC1 rfl hd hg i2
 rw [if_neg (by rw [hc825]; decide)] at hr
 refine wp_skip ?_
 refine wp_seq ?_
 obtain ⟨x1, hx1, hr⟩ := bind_some hr
 refine cut (fun a' k' => Bs noF k0 48 a' k' ∧ (IsRef i_) (a'.get 0) k' ∧ (IsV x1) (a'.get 3) k' ∧ True) ?_ hQ ?_
 ·intro Q1 W1 w1
  refine region (m := 10) (_ :: ⟨some (IsRef i_), [(19, some 0)]⟩ :: _ :: _ :: _ :: ⟨some (IsRef i_), [(23, some 4)]⟩ :: _ :: _ :: _ :: _ :: []) hmix hs (by kernel_rfl) ⟨mu rfl i0, ob1 rfl fun _ _ h n => ok_nilCheckR rfl n.1, o1 [(20, some 1)] rfl fun _ _ h n => ok_fieldAddr rfl fo69_0 (at_SightInterval_0 _) (n.1).ptr, o1 [(21, some 2)] rfl fun _ _ h n => ok_load rfl ty67 n.1, mu rfl i0, ob1 rfl fun _ _ h n => ok_nilCheckR rfl n.1, o1 [(24, some 5)] rfl fun _ _ h n => ok_fieldAddr rfl fo69_1 (at_SightInterval_1 _) (n.1).ptr, o1 [(25, some 6)] rfl fun _ _ h n => ok_load rfl ty67 n.1, o1 [(22, some 3), (26, some 7)] rfl fun _ _ h n => ok_call rfl Try.call72 (sight_bound_compare_ok n.1 n.2.1 hx1), cp 8 rfl rfl, trivial⟩ W1 fun b q p => ?_
  exact tail_done (k := q) (w1 _ _ ⟨Bs.post ⟨hg, hs, hd⟩ p, p.ke 0 rfl i0, p.ou 9 3 rfl, trivial⟩)
 rintro a k ⟨⟨hg, hs, hd⟩, i0, i3, _⟩
 refine stepL 21 (_ :: _ :: _ :: _ :: _ :: ⟨some (Gd ((decide (0 < x1)) = false) (IsV (x1 == 0))), [(32, some 4)]⟩ :: ⟨some (Gd (((decide (0 < x1)) = false) ∧ (x1 == 0) = true) (IsRef i_)), [(0, none)]⟩ :: ⟨some (Gd (((decide (0 < x1)) = false) ∧ (x1 == 0) = true) (IsRef i_)), [(34, some 6)]⟩ :: ⟨some (Gd (((decide (0 < x1)) = false) ∧ (x1 == 0) = true) (IsPtr i_.lo)), [(35, some 7)]⟩ :: ⟨some (Gd (((decide (0 < x1)) = false) ∧ (x1 == 0) = true) (IsPtr i_.lo.open_)), [(36, some 8)]⟩ :: ⟨some (Gd (((decide (0 < x1)) = false) ∧ (x1 == 0) = true) (IsV i_.lo.open_)), [(37, some 9)]⟩ :: ⟨some (Gd (((decide (0 < x1)) = false) ∧ (x1 == 0) = true) (IsV i_.lo.open_)), [(38, some 10)]⟩ :: ⟨some (Gd ((((decide (0 < x1)) = false) ∧ (x1 == 0) = true) ∧ i_.lo.open_ = false) (IsRef i_)), [(0, none)]⟩ :: ⟨some (Gd ((((decide (0 < x1)) = false) ∧ (x1 == 0) = true) ∧ i_.lo.open_ = false) (IsRef i_)), [(40, some 12)]⟩ :: ⟨some (Gd ((((decide (0 < x1)) = false) ∧ (x1 == 0) = true) ∧ i_.lo.open_ = false) (IsPtr i_.hi)), [(41, some 13)]⟩ :: ⟨some (Gd ((((decide (0 < x1)) = false) ∧ (x1 == 0) = true) ∧ i_.lo.open_ = false) (IsPtr i_.hi.open_)), [(42, some 14)]⟩ :: ⟨some (Gd ((((decide (0 < x1)) = false) ∧ (x1 == 0) = true) ∧ i_.lo.open_ = false) (IsV i_.hi.open_)), [(43, some 15)]⟩ :: ⟨some (Gd (((decide (0 < x1)) = false) ∧ (x1 == 0) = true) (IsV (i_.lo.open_ || i_.hi.open_))), [(39, some 11), (44, some 16)]⟩ :: _ :: _ :: _ :: []) rfl ⟨hg, hs, hd⟩ (by kernel_rfl) ⟨mu rfl i3, o1 [(28, some 0)] rfl fun _ _ h n => ok_gtr rfl n.1 (cI rfl), cm 1 rfl rfl, mF rfl rfl i3, gF [(31, some 3)] rfl rfl fun hp _ _ h n => ok_eqI rfl (Gd.get n.1 hp) (cI rfl), gdF rfl rfl fun hp _ _ h n => ok_move rfl (Gd.get n.1 hp), gdTT rfl rfl fun hp b q h n => ok_move rfl (up i0 h n.1), gdTT rfl rfl fun hp b q h n => ok_nilCheckR rfl (Gd.get n.1 hp), gdTT rfl rfl fun hp b q h n => ok_fieldAddr rfl fo69_0 (at_SightInterval_0 _) ((Gd.get n.1 hp)).ptr, gdTT rfl rfl fun hp b q h n => ok_fieldAddr rfl fo67_2 (at_SightBound_2 _) (Gd.get n.1 hp), gdTT rfl rfl fun hp b q h n => ok_load rfl ty4 (Gd.get n.1 hp), gdTT rfl rfl fun hp b q h n => ok_move rfl (Gd.get n.1 hp), gdTF rfl rfl fun hp b q h n => ok_move rfl (up i0 h n.1), gdTF rfl rfl fun hp b q h n => ok_nilCheckR rfl (Gd.get n.1 hp), gdTF rfl rfl fun hp b q h n => ok_fieldAddr rfl fo69_1 (at_SightInterval_1 _) ((Gd.get n.1 hp)).ptr, gdTF rfl rfl fun hp b q h n => ok_fieldAddr rfl fo67_2 (at_SightBound_2 _) (Gd.get n.1 hp), gdTF rfl rfl fun hp b q h n => ok_load rfl ty4 (Gd.get n.1 hp), gdTT rfl rfl fun hp b q h n => ok_pickOr rfl (Gd.get n.1 hp) (cB rfl) (fun hm => (Gd.get n.2.1 ⟨hp, hm⟩)), gF [(33, some 5), (45, some 17)] rfl rfl fun hp _ _ h n => ok_pickAnd rfl (Gd.get n.1 hp) (fun hm => (Gd.get n.2.1 ⟨hp, hm⟩)) (cB rfl), o1 [(30, some 2), (46, some 18)] rfl fun _ _ h n => ok_pickOr rfl n.1 (cB rfl) (Gd.get n.2.1), cp 19 rfl rfl, trivial⟩ [⟨_, _⟩] (fun b q p => ⟨p.ou 20 2 rfl, trivial⟩) ?_
 rintro a k ⟨⟨hg, hs, hd⟩, i2, _⟩
 refine wp_ret ?_
 obtain rfl := Option.some.inj hr
 exact retC1 rfl hd hg i2
def sight_meets_L0 (p_ : Point3) (v_ : Point3) (t_ : SightInterval) (x1 : (List Box)) (s1 : Int) : Option (Flow (Int) (Bool)) :=
 if (decide (s1 < (x1.length : Int))) then
  (getI x1 s1).bind fun x2 =>
  (sight_interval_narrow t_ p_.X v_.X x2.Base.X0 x2.Base.X1).bind fun x3 =>
  (sight_interval_narrow x3 p_.Y v_.Y x2.Base.Y0 x2.Base.Y1).bind fun x4 =>
  (sight_interval_narrow x4 p_.Z v_.Z x2.Z0 x2.Z1).bind fun x5 =>
  (sight_interval_empty x5).bind fun x6 =>
  if (!x6) then
   some (.ret true)
  else
   (addI s1 1).bind fun x7 =>
   some (.go x7)
 else
  some (.ex 0 s1)
def sight_meets (s_ : (List Slab)) (p_ : Point3) (v_ : Point3) (t_ : SightInterval) : Option (Bool) :=
 (solid_Boxes s_).bind fun x1 =>
 (iterL (sight_meets_L0 p_ v_ t_ x1) (x1.length + 1) 0).bind fun f1 => match f1 with
  | .go _ => none
  | .ex _ _ =>
   some false
  | .ret r1 => some r1
theorem sight_meets_ok {k0 : K} {v0 v1 v2 v3 : Value} {s_ : (List Slab)} {p_ : Point3} {v_ : Point3} {t_ : SightInterval} {r : Bool} (i0 : (IsV s_) v0 k0) (i1 : (IsV p_) v1 k0) (i2 : (IsV v_) v2 k0) (i3 : (IsV t_) v3 k0) (hr : sight_meets s_ p_ v_ t_ = some r) :
  Calls Try.prog 40 #[v0, v1, v2, v3] k0.w (Ret k0 (IsV r)) := by
 unfold sight_meets at hr
 refine Ret.ofC ?_
 refine enterK Try.func40 rfl Try.ntmps40 (show 4 ≤ 59 by decide) fun a k hk0 hs hd ha => ?_
 obtain ⟨e0, e1, e2, e3, _⟩ := ha
 replace i0 : (IsV s_) (a.get 0) k := by rw [e0, hk0]; exact i0
 replace i1 : (IsV p_) (a.get 1) k := by rw [e1, hk0]; exact i1
 replace i2 : (IsV v_) (a.get 2) k := by rw [e2, hk0]; exact i2
 replace i3 : (IsV t_) (a.get 3) k := by rw [e3, hk0]; exact i3
 have hQ : Gb.LetsOut (bodyPost Try.prog Try.f40 (RetC noF k0 (IsV r))) := letsOutC
 have hg : Chg noF k0 k := by rw [hk0]; exact Chg.refl _ k0
 refine stepL 4 (⟨some (IsRef p_), [(1, none)]⟩ :: ⟨some (IsRef v_), [(2, none)]⟩ :: ⟨some (IsRef t_), [(3, none)]⟩ :: ⟨some (IsV false), []⟩ :: []) rfl ⟨hg, hs, hd⟩ (by kernel_rfl) ⟨ob1 rfl fun _ _ h n => ok_boxR rfl (up i1 h n.1), ob1 rfl fun _ _ h n => ok_boxR rfl (up i2 h n.1), ob1 rfl fun _ _ h n => ok_boxR rfl (up i3 h n.1), ob1 rfl fun _ _ h n => ok_assign rfl (isV_bool.2 rfl), trivial⟩ [⟨_, _⟩, ⟨_, _⟩, ⟨_, _⟩, ⟨_, _⟩] (fun b q p => ⟨p.ke 0 rfl i0, p.ou 0 5 rfl, p.ou 1 6 rfl, p.ou 2 7 rfl, trivial⟩) ?_
 rintro a k ⟨⟨hg, hs, hd⟩, i0, i5, i6, i7, _⟩
 refine wp_seq ?_
 refine wp_seq ?_
 obtain ⟨x1, hx1, hr⟩ := bind_some hr
 refine cut (fun a' k' => Bs noF k0 59 a' k' ∧ (IsRef p_) (a'.get 5) k' ∧ (IsRef v_) (a'.get 6) k' ∧ (IsRef t_) (a'.get 7) k' ∧ (IsV x1) (a'.get 14) k' ∧ (IsL x1) (a'.get 15) k' ∧ (IsI 0) (a'.get 16) k' ∧ True) ?_ hQ ?_
 ·intro Q1 W1 w1
  refine gS 4 (_ :: _ :: _ :: ⟨some (IsI 0), []⟩ :: []) hs (by kernel_rfl) ⟨mu rfl i0, o1 [(13, some 0)] rfl fun _ _ h n => ok_call rfl Try.call55 (solid_Boxes_ok n.1 hx1), o1 [(14, some 1)] rfl fun _ _ h n => ok_len rfl rfl Try.underlying35 (IsV.rd n.1), ob1 rfl fun _ _ h n => ok_move rfl (cI rfl), trivial⟩ W1 fun b q p => ?_
  exact tail_done (k := q) (w1 _ _ ⟨Bs.post ⟨hg, hs, hd⟩ p, p.ke 5 rfl i5, p.ke 6 rfl i6, p.ke 7 rfl i7, p.ou 1 14 rfl, p.ou 2 15 rfl, p.ou 3 16 rfl, trivial⟩)
 rintro a k ⟨⟨hg, hs, hd⟩, i5, i6, i7, i14, i15, i16, _⟩
 refine wp_block ?_
 obtain ⟨f1, hf1, hr⟩ := bind_some hr
 refine cutFe f1 (fun s' c l => Bs noF k0 59 c l ∧ IsRef p_ (c.get 5) l ∧ IsRef v_ (c.get 6) l ∧ IsRef t_ (c.get 7) l ∧ IsV x1 (c.get 14) l ∧ IsL x1 (c.get 15) l ∧ IsV s' (c.get 16) l ∧ True) (fun i' s' c l => (i' = 0 ∧ Bs noF k0 59 c l ∧ True)) (fun r' c l => bodyPost Try.prog Try.f40 (RetC noF k0 (IsV r')) .ret c l.w) ?_ hQ ?_ ?_ ?_
 ·intro Q2 W2 hgo hex hret
  refine sim_loop ?_ _ _ _ _ _ hf1 ⟨⟨hg, hs, hd⟩, i5, i6, i7, i14, i15, i16, trivial⟩ Q2 W2 hgo hex hret
  clear hr hf1 hgo hex hret W2 hQ hg hs hd i14 i15 i16 i5 i6 i7
  intro s1 fl_ a k hr hS Q hQ hgo833 hex834 hret835
  obtain ⟨⟨hg, hs, hd⟩, i5, i6, i7, i14, i15, i16, _⟩ := hS
  unfold sight_meets_L0 at hr
  refine stepL 1 (_ :: []) rfl ⟨hg, hs, hd⟩ (by kernel_rfl) ⟨o1 [(16, none), (15, none)] rfl fun _ _ h n => ok_lss rfl (up i16 h n.1) (up i15 h n.2.1), trivial⟩ [⟨_, _⟩, ⟨_, _⟩, ⟨_, _⟩, ⟨_, _⟩, ⟨_, _⟩, ⟨_, _⟩, ⟨_, _⟩] (fun b q p => ⟨p.ke 5 rfl i5, p.ke 6 rfl i6, p.ke 7 rfl i7, p.ke 14 rfl i14, p.ke 15 rfl i15, p.ke 16 rfl i16, p.ou 0 17 rfl, trivial⟩) ?_
  rintro a k ⟨⟨hg, hs, hd⟩, i5, i6, i7, i14, i15, i16, i17, _⟩
  refine wp_seq ?_
  refine wp_cond_split (isBool i17) (fun hc865 => ?_) (fun hc865 => ?_)
  ·rw [if_pos hc865] at hr
   refine wp_skip ?_
   refine wp_seq ?_
   refine wp_block ?_
   refine wp_seq ?_
   obtain ⟨x2, hx2, hr⟩ := bind_some hr
   refine cut (fun a' k' => Bs noF k0 59 a' k' ∧ (IsRef p_) (a'.get 5) k' ∧ (IsRef v_) (a'.get 6) k' ∧ (IsRef t_) (a'.get 7) k' ∧ (IsRef x2) (a'.get 10) k' ∧ (IsV x1) (a'.get 14) k' ∧ (IsL x1) (a'.get 15) k' ∧ (IsV s1) (a'.get 16) k' ∧ True) ?_ hQ ?_
   ·intro Q3 W3 w2
    refine gS 3 (_ :: _ :: ⟨some (IsBox k.w.heap.size (⟨(⟨0, 0, 0, 0⟩ : Rect), 0, 0⟩ : Box)), []⟩ :: []) hs (by kernel_rfl) ⟨o1 [(14, none), (16, none)] rfl fun _ _ h n => ok_indexAddr rfl Try.underlying35 ty43 (IsV.rd (up i14 h n.1)) (up i16 h n.2.1) hx2, o1 [(18, some 0)] rfl fun _ _ h n => ok_load rfl ty43 n.1, ob1 rfl fun _ _ h n => ok_alloc _ h.size rfl z43, trivial⟩ W3 fun b q p => ?_
    have hgq := hg.then p.grow
    have hsb := p.size.trans hs
    have hdb := p.defers.trans hd
    have j5 := p.ke 5 rfl i5
    have j6 := p.ke 6 rfl i6
    have j7 := p.ke 7 rfl i7
    obtain ⟨b10, j10, x10, z10⟩ : (IsBox k.w.heap.size (⟨(⟨0, 0, 0, 0⟩ : Rect), 0, 0⟩ : Box)) (b.get 10) q := p.ou 2 10 rfl
    replace x10 : Lo k (Eq b10) := Lo.eq x10
    have y10 : Lo k0 (Eq b10) := x10.chg hg
    have j14 := p.ke 14 rfl i14
    have j15 := p.ke 15 rfl i15
    have j16 := p.ke 16 rfl i16
    have j19 : (IsV x2) (b.get 19) q := p.ou 1 19 rfl
    have hns := z10.nshF
    refine tail_storeB (i := 3) rfl rfl rfl rfl szf43 (Upd.self (α := Box)) j10 z10 j19 fun q2 hch hz => ?_
    replace hgq := hgq.step hch y10.wr
    have hle := hch.le hns
    replace j5 := Pers.pers hle j5
    replace j6 := Pers.pers hle j6
    replace j7 := Pers.pers hle j7
    replace j14 := Pers.pers hle j14
    replace j15 := Pers.pers hle j15
    replace j16 := Pers.pers hle j16
    replace j19 := Pers.pers hle j19
    replace z10 := hz
    clear hns hle hch
    obtain ⟨q, hqq⟩ : ∃ q, q = q2 := ⟨q2, rfl⟩
    subst hqq
    obtain ⟨q2, hsh, jn⟩ := z10.give
    replace j5 := Pers.pers hsh.le j5
    replace j6 := Pers.pers hsh.le j6
    replace j7 := Pers.pers hsh.le j7
    replace j14 := Pers.pers hsh.le j14
    replace j15 := Pers.pers hsh.le j15
    replace j16 := Pers.pers hsh.le j16
    rw [← j10] at jn
    replace j10 := jn
    replace hgq := hgq.hand hsh y10.wr
    rw [← hsh.w]
    clear hsh
    obtain ⟨q, hqq⟩ : ∃ q, q = q2 := ⟨q2, rfl⟩
    subst hqq
    exact tail_done (k := q) (w2 _ _ ⟨⟨hgq, hsb, hdb⟩, j5, j6, j7, j10, j14, j15, j16, trivial⟩)
   rintro a k ⟨⟨hg, hs, hd⟩, i5, i6, i7, i10, i14, i15, i16, _⟩
   refine cutS (fun c l => Bs noF k0 59 c l ∧ IsRef p_ (c.get 5) l ∧ IsRef v_ (c.get 6) l ∧ IsRef t_ (c.get 7) l ∧ IsRef x2 (c.get 10) l ∧ IsV x1 (c.get 14) l ∧ IsL x1 (c.get 15) l ∧ IsV s1 (c.get 16) l ∧ (∃ b11, c.get 11 = .pointer (some ⟨b11, 0, none⟩) ∧ Lo k0 (Eq b11) ∧ Gb.Box b11 t_ l ∧ True)) ?_ ?_
   ·intro Q4 W4 w3
    refine gS 2 (_ :: ⟨some (IsBox k.w.heap.size (⟨(⟨0, 0, false⟩ : SightBound), (⟨0, 0, false⟩ : SightBound), false, false⟩ : SightInterval)), []⟩ :: []) hs (by kernel_rfl) ⟨o1 [(7, none)] rfl fun _ _ h n => ok_load rfl ty69 ((up i7 h n.1)).ptr, ob1 rfl fun _ _ h n => ok_alloc _ h.size rfl z69, trivial⟩ W4 fun b q p => ?_
    have hgq := hg.then p.grow
    have hsb := p.size.trans hs
    have hdb := p.defers.trans hd
    have j5 := p.ke 5 rfl i5
    have j6 := p.ke 6 rfl i6
    have j7 := p.ke 7 rfl i7
    have j10 := p.ke 10 rfl i10
    obtain ⟨b11, j11, x11, z11⟩ : (IsBox k.w.heap.size (⟨(⟨0, 0, false⟩ : SightBound), (⟨0, 0, false⟩ : SightBound), false, false⟩ : SightInterval)) (b.get 11) q := p.ou 1 11 rfl
    replace x11 : Lo k (Eq b11) := Lo.eq x11
    have y11 : Lo k0 (Eq b11) := x11.chg hg
    have j14 := p.ke 14 rfl i14
    have j15 := p.ke 15 rfl i15
    have j16 := p.ke 16 rfl i16
    have j20 : (IsV t_) (b.get 20) q := p.ou 0 20 rfl
    have hns := z11.nshF
    refine tail_storeB (i := 2) rfl rfl rfl rfl szf69 (Upd.self (α := SightInterval)) j11 z11 j20 fun q2 hch hz => ?_
    replace hgq := hgq.step hch y11.wr
    have hle := hch.le hns
    replace j5 := Pers.pers hle j5
    replace j6 := Pers.pers hle j6
    replace j7 := Pers.pers hle j7
    replace j10 := Pers.pers hle j10
    replace j14 := Pers.pers hle j14
    replace j15 := Pers.pers hle j15
    replace j16 := Pers.pers hle j16
    replace j20 := Pers.pers hle j20
    replace z11 := hz
    clear hns hle hch
    obtain ⟨q, hqq⟩ : ∃ q, q = q2 := ⟨q2, rfl⟩
    subst hqq
    exact tail_done (k := q) (w3 _ _ ⟨⟨hgq, hsb, hdb⟩, j5, j6, j7, j10, j14, j15, j16, b11, j11, y11, z11, trivial⟩)
   rintro a k ⟨⟨hg, hs, hd⟩, i5, i6, i7, i10, i14, i15, i16, b11, i11, n11, c11, _⟩
   refine cutS (fun c l => Bs noF k0 59 c l ∧ IsRef p_ (c.get 5) l ∧ IsRef v_ (c.get 6) l ∧ IsRef t_ (c.get 7) l ∧ IsRef x2 (c.get 10) l ∧ c.get 11 = .pointer (some ⟨b11, 0, none⟩) ∧ Lo k0 (Eq b11) ∧ Gb.Box b11 t_ l ∧ IsMV 56 b11 (c.get 12) l ∧ IsV x1 (c.get 14) l ∧ IsL x1 (c.get 15) l ∧ IsV s1 (c.get 16) l ∧ True) ?_ ?_
   ·intro Q5 W5 w4
    refine gS 2 (⟨some (IsMV 56 b11), [(11, none)]⟩ :: _ :: []) hs (by kernel_rfl) ⟨ob1 rfl fun _ _ h n => ok_makeMV rfl (upE i11 n.1), cp 0 rfl rfl, trivial⟩ W5 fun b q p => ?_
    exact tail_done (k := q) (w4 _ _ ⟨Bs.post ⟨hg, hs, hd⟩ p, p.ke 5 rfl i5, p.ke 6 rfl i6, p.ke 7 rfl i7, p.ke 10 rfl i10, upE i11 (p.old 11 rfl), n11, Gb.Box.grow c11 p.grow, p.ou 1 12 rfl, p.ke 14 rfl i14, p.ke 15 rfl i15, p.ke 16 rfl i16, trivial⟩)
   rintro a k ⟨⟨hg, hs, hd⟩, i5, i6, i7, i10, i11, n11, c11, i12, i14, i15, i16, _⟩
   refine wp_seq ?_
   obtain ⟨x3, hx3, hr⟩ := bind_some hr
   refine cut (fun a' k' => Bs noF k0 59 a' k' ∧ (IsRef p_) (a'.get 5) k' ∧ (IsRef v_) (a'.get 6) k' ∧ (IsRef t_) (a'.get 7) k' ∧ (IsRef x2) (a'.get 10) k' ∧ a'.get 11 = .pointer (some ⟨b11, 0, none⟩) ∧ Lo k0 (Eq b11) ∧ Gb.Box b11 x3 k' ∧ (IsMV 56 b11) (a'.get 12) k' ∧ (IsV x1) (a'.get 14) k' ∧ (IsL x1) (a'.get 15) k' ∧ (IsV s1) (a'.get 16) k' ∧ True) ?_ hQ ?_
   ·intro Q6 W6 w5
    refine gS 11 (_ :: _ :: _ :: _ :: _ :: _ :: _ :: _ :: _ :: _ :: _ :: []) hs (by kernel_rfl) ⟨mu rfl i12, o1 [(5, none)] rfl fun _ _ h n => ok_fieldAddr rfl fo25_0 (at_Point3_0 _) ((up i5 h n.1)).ptr, o1 [(23, some 1)] rfl fun _ _ h n => ok_load rfl ty3 n.1, o1 [(6, none)] rfl fun _ _ h n => ok_fieldAddr rfl fo25_0 (at_Point3_0 _) ((up i6 h n.1)).ptr, o1 [(25, some 3)] rfl fun _ _ h n => ok_load rfl ty3 n.1, o1 [(10, none)] rfl fun _ _ h n => ok_fieldAddr rfl fo43_0 (at_Box_0 _) ((up i10 h n.1)).ptr, o1 [(27, some 5)] rfl fun _ _ h n => ok_fieldAddr rfl fo41_0 (at_Rect_0 _) n.1, o1 [(28, some 6)] rfl fun _ _ h n => ok_load rfl ty3 n.1, o1 [(10, none)] rfl fun _ _ h n => ok_fieldAddr rfl fo43_0 (at_Box_0 _) ((up i10 h n.1)).ptr, o1 [(30, some 8)] rfl fun _ _ h n => ok_fieldAddr rfl fo41_2 (at_Rect_2 _) n.1, o1 [(31, some 9)] rfl fun _ _ h n => ok_load rfl ty3 n.1, trivial⟩ W6 fun b q p => ?_
    have hgq := hg.then p.grow
    have hsb := p.size.trans hs
    have hdb := p.defers.trans hd
    have j5 := p.ke 5 rfl i5
    have j6 := p.ke 6 rfl i6
    have j7 := p.ke 7 rfl i7
    have j10 := p.ke 10 rfl i10
    have j11 := upE i11 (p.old 11 rfl)
    have z11 := Gb.Box.grow c11 p.grow
    have y11 := n11
    have j12 := p.ke 12 rfl i12
    have j14 := p.ke 14 rfl i14
    have j15 := p.ke 15 rfl i15
    have j16 := p.ke 16 rfl i16
    have j22 : (IsMV 56 b11) (b.get 22) q := p.ou 0 22 rfl
    have j24 : (IsV p_.X) (b.get 24) q := p.ou 2 24 rfl
    have j26 : (IsV v_.X) (b.get 26) q := p.ou 4 26 rfl
    have j29 : (IsV x2.Base.X0) (b.get 29) q := p.ou 7 29 rfl
    have j32 : (IsV x2.Base.X1) (b.get 32) q := p.ou 10 32 rfl
    have hns := z11.nshF
    refine tail_callMV (F := Eq b11) (i := 11) (d := 33) rfl rfl rfl rfl (by rw [hsb]; decide) j22 Try.call56 W6 (sight_interval_narrow_ok rfl z11 j24 j26 j29 j32 hx3) fun b2 q2 hsz hdf hoth hch hres => ?_
    have hle := hch.le hns
    replace j5 := Pers.pers hle j5
    replace j6 := Pers.pers hle j6
    replace j7 := Pers.pers hle j7
    replace j10 := Pers.pers hle j10
    replace j12 := Pers.pers hle j12
    replace j14 := Pers.pers hle j14
    replace j15 := Pers.pers hle j15
    replace j16 := Pers.pers hle j16
    replace j22 := Pers.pers hle j22
    replace j24 := Pers.pers hle j24
    replace j26 := Pers.pers hle j26
    replace j29 := Pers.pers hle j29
    replace j32 := Pers.pers hle j32
    replace hgq := hgq.step hch y11.wr
    replace z11 := hres
    rw [← hoth 5 (by decide)] at j5
    rw [← hoth 6 (by decide)] at j6
    rw [← hoth 7 (by decide)] at j7
    rw [← hoth 10 (by decide)] at j10
    rw [← hoth 11 (by decide)] at j11
    rw [← hoth 12 (by decide)] at j12
    rw [← hoth 14 (by decide)] at j14
    rw [← hoth 15 (by decide)] at j15
    rw [← hoth 16 (by decide)] at j16
    rw [← hoth 22 (by decide)] at j22
    rw [← hoth 24 (by decide)] at j24
    rw [← hoth 26 (by decide)] at j26
    rw [← hoth 29 (by decide)] at j29
    rw [← hoth 32 (by decide)] at j32
    replace hsb := hsz.trans hsb
    replace hdb := hdf.trans hdb
    clear hle hch hns hsz hdf hoth hres
    obtain ⟨b, hbb⟩ : ∃ b, b = b2 := ⟨b2, rfl⟩
    subst hbb
    obtain ⟨q, hqq⟩ : ∃ q, q = q2 := ⟨q2, rfl⟩
    subst hqq
    exact tail_done (k := q) (w5 _ _ ⟨⟨hgq, hsb, hdb⟩, j5, j6, j7, j10, j11, y11, z11, j12, j14, j15, j16, trivial⟩)
   rintro a k ⟨⟨hg, hs, hd⟩, i5, i6, i7, i10, i11, n11, c11, i12, i14, i15, i16, _⟩
   refine wp_seq ?_
   obtain ⟨x4, hx4, hr⟩ := bind_some hr
   refine cut (fun a' k' => Bs noF k0 59 a' k' ∧ (IsRef p_) (a'.get 5) k' ∧ (IsRef v_) (a'.get 6) k' ∧ (IsRef t_) (a'.get 7) k' ∧ (IsRef x2) (a'.get 10) k' ∧ a'.get 11 = .pointer (some ⟨b11, 0, none⟩) ∧ Lo k0 (Eq b11) ∧ Gb.Box b11 x4 k' ∧ (IsMV 56 b11) (a'.get 12) k' ∧ (IsV x1) (a'.get 14) k' ∧ (IsL x1) (a'.get 15) k' ∧ (IsV s1) (a'.get 16) k' ∧ True) ?_ hQ ?_
   ·intro Q7 W7 w6
    refine gS 11 (_ :: _ :: _ :: _ :: _ :: _ :: _ :: _ :: _ :: _ :: _ :: []) hs (by kernel_rfl) ⟨mu rfl i12, o1 [(5, none)] rfl fun _ _ h n => ok_fieldAddr rfl fo25_1 (at_Point3_1 _) ((up i5 h n.1)).ptr, o1 [(35, some 1)] rfl fun _ _ h n => ok_load rfl ty3 n.1, o1 [(6, none)] rfl fun _ _ h n => ok_fieldAddr rfl fo25_1 (at_Point3_1 _) ((up i6 h n.1)).ptr, o1 [(37, some 3)] rfl fun _ _ h n => ok_load rfl ty3 n.1, o1 [(10, none)] rfl fun _ _ h n => ok_fieldAddr rfl fo43_0 (at_Box_0 _) ((up i10 h n.1)).ptr, o1 [(39, some 5)] rfl fun _ _ h n => ok_fieldAddr rfl fo41_1 (at_Rect_1 _) n.1, o1 [(40, some 6)] rfl fun _ _ h n => ok_load rfl ty3 n.1, o1 [(10, none)] rfl fun _ _ h n => ok_fieldAddr rfl fo43_0 (at_Box_0 _) ((up i10 h n.1)).ptr, o1 [(42, some 8)] rfl fun _ _ h n => ok_fieldAddr rfl fo41_3 (at_Rect_3 _) n.1, o1 [(43, some 9)] rfl fun _ _ h n => ok_load rfl ty3 n.1, trivial⟩ W7 fun b q p => ?_
    have hgq := hg.then p.grow
    have hsb := p.size.trans hs
    have hdb := p.defers.trans hd
    have j5 := p.ke 5 rfl i5
    have j6 := p.ke 6 rfl i6
    have j7 := p.ke 7 rfl i7
    have j10 := p.ke 10 rfl i10
    have j11 := upE i11 (p.old 11 rfl)
    have z11 := Gb.Box.grow c11 p.grow
    have y11 := n11
    have j12 := p.ke 12 rfl i12
    have j14 := p.ke 14 rfl i14
    have j15 := p.ke 15 rfl i15
    have j16 := p.ke 16 rfl i16
    have j34 : (IsMV 56 b11) (b.get 34) q := p.ou 0 34 rfl
    have j36 : (IsV p_.Y) (b.get 36) q := p.ou 2 36 rfl
    have j38 : (IsV v_.Y) (b.get 38) q := p.ou 4 38 rfl
    have j41 : (IsV x2.Base.Y0) (b.get 41) q := p.ou 7 41 rfl
    have j44 : (IsV x2.Base.Y1) (b.get 44) q := p.ou 10 44 rfl
    have hns := z11.nshF
    refine tail_callMV (F := Eq b11) (i := 11) (d := 45) rfl rfl rfl rfl (by rw [hsb]; decide) j34 Try.call56 W7 (sight_interval_narrow_ok rfl z11 j36 j38 j41 j44 hx4) fun b2 q2 hsz hdf hoth hch hres => ?_
    have hle := hch.le hns
    replace j5 := Pers.pers hle j5
    replace j6 := Pers.pers hle j6
    replace j7 := Pers.pers hle j7
    replace j10 := Pers.pers hle j10
    replace j12 := Pers.pers hle j12
    replace j14 := Pers.pers hle j14
    replace j15 := Pers.pers hle j15
    replace j16 := Pers.pers hle j16
    replace j34 := Pers.pers hle j34
    replace j36 := Pers.pers hle j36
    replace j38 := Pers.pers hle j38
    replace j41 := Pers.pers hle j41
    replace j44 := Pers.pers hle j44
    replace hgq := hgq.step hch y11.wr
    replace z11 := hres
    rw [← hoth 5 (by decide)] at j5
    rw [← hoth 6 (by decide)] at j6
    rw [← hoth 7 (by decide)] at j7
    rw [← hoth 10 (by decide)] at j10
    rw [← hoth 11 (by decide)] at j11
    rw [← hoth 12 (by decide)] at j12
    rw [← hoth 14 (by decide)] at j14
    rw [← hoth 15 (by decide)] at j15
    rw [← hoth 16 (by decide)] at j16
    rw [← hoth 34 (by decide)] at j34
    rw [← hoth 36 (by decide)] at j36
    rw [← hoth 38 (by decide)] at j38
    rw [← hoth 41 (by decide)] at j41
    rw [← hoth 44 (by decide)] at j44
    replace hsb := hsz.trans hsb
    replace hdb := hdf.trans hdb
    clear hle hch hns hsz hdf hoth hres
    obtain ⟨b, hbb⟩ : ∃ b, b = b2 := ⟨b2, rfl⟩
    subst hbb
    obtain ⟨q, hqq⟩ : ∃ q, q = q2 := ⟨q2, rfl⟩
    subst hqq
    exact tail_done (k := q) (w6 _ _ ⟨⟨hgq, hsb, hdb⟩, j5, j6, j7, j10, j11, y11, z11, j12, j14, j15, j16, trivial⟩)
   rintro a k ⟨⟨hg, hs, hd⟩, i5, i6, i7, i10, i11, n11, c11, i12, i14, i15, i16, _⟩
   refine wp_seq ?_
   obtain ⟨x5, hx5, hr⟩ := bind_some hr
   refine cut (fun a' k' => Bs noF k0 59 a' k' ∧ (IsRef p_) (a'.get 5) k' ∧ (IsRef v_) (a'.get 6) k' ∧ (IsRef t_) (a'.get 7) k' ∧ a'.get 11 = .pointer (some ⟨b11, 0, none⟩) ∧ Lo k0 (Eq b11) ∧ Gb.Box b11 x5 k' ∧ (IsV x1) (a'.get 14) k' ∧ (IsL x1) (a'.get 15) k' ∧ (IsV s1) (a'.get 16) k' ∧ True) ?_ hQ ?_
   ·intro Q8 W8 w7
    refine gS 9 (_ :: _ :: _ :: _ :: _ :: _ :: _ :: _ :: _ :: []) hs (by kernel_rfl) ⟨mu rfl i12, o1 [(5, none)] rfl fun _ _ h n => ok_fieldAddr rfl fo25_2 (at_Point3_2 _) ((up i5 h n.1)).ptr, o1 [(47, some 1)] rfl fun _ _ h n => ok_load rfl ty3 n.1, o1 [(6, none)] rfl fun _ _ h n => ok_fieldAddr rfl fo25_2 (at_Point3_2 _) ((up i6 h n.1)).ptr, o1 [(49, some 3)] rfl fun _ _ h n => ok_load rfl ty3 n.1, o1 [(10, none)] rfl fun _ _ h n => ok_fieldAddr rfl fo43_1 (at_Box_1 _) ((up i10 h n.1)).ptr, o1 [(51, some 5)] rfl fun _ _ h n => ok_load rfl ty3 n.1, o1 [(10, none)] rfl fun _ _ h n => ok_fieldAddr rfl fo43_2 (at_Box_2 _) ((up i10 h n.1)).ptr, o1 [(53, some 7)] rfl fun _ _ h n => ok_load rfl ty3 n.1, trivial⟩ W8 fun b q p => ?_
    have hgq := hg.then p.grow
    have hsb := p.size.trans hs
    have hdb := p.defers.trans hd
    have j5 := p.ke 5 rfl i5
    have j6 := p.ke 6 rfl i6
    have j7 := p.ke 7 rfl i7
    have j11 := upE i11 (p.old 11 rfl)
    have z11 := Gb.Box.grow c11 p.grow
    have y11 := n11
    have j14 := p.ke 14 rfl i14
    have j15 := p.ke 15 rfl i15
    have j16 := p.ke 16 rfl i16
    have j46 : (IsMV 56 b11) (b.get 46) q := p.ou 0 46 rfl
    have j48 : (IsV p_.Z) (b.get 48) q := p.ou 2 48 rfl
    have j50 : (IsV v_.Z) (b.get 50) q := p.ou 4 50 rfl
    have j52 : (IsV x2.Z0) (b.get 52) q := p.ou 6 52 rfl
    have j54 : (IsV x2.Z1) (b.get 54) q := p.ou 8 54 rfl
    have hns := z11.nshF
    refine tail_callMV (F := Eq b11) (i := 9) (d := 55) rfl rfl rfl rfl (by rw [hsb]; decide) j46 Try.call56 W8 (sight_interval_narrow_ok rfl z11 j48 j50 j52 j54 hx5) fun b2 q2 hsz hdf hoth hch hres => ?_
    have hle := hch.le hns
    replace j5 := Pers.pers hle j5
    replace j6 := Pers.pers hle j6
    replace j7 := Pers.pers hle j7
    replace j14 := Pers.pers hle j14
    replace j15 := Pers.pers hle j15
    replace j16 := Pers.pers hle j16
    replace j46 := Pers.pers hle j46
    replace j48 := Pers.pers hle j48
    replace j50 := Pers.pers hle j50
    replace j52 := Pers.pers hle j52
    replace j54 := Pers.pers hle j54
    replace hgq := hgq.step hch y11.wr
    replace z11 := hres
    rw [← hoth 5 (by decide)] at j5
    rw [← hoth 6 (by decide)] at j6
    rw [← hoth 7 (by decide)] at j7
    rw [← hoth 11 (by decide)] at j11
    rw [← hoth 14 (by decide)] at j14
    rw [← hoth 15 (by decide)] at j15
    rw [← hoth 16 (by decide)] at j16
    rw [← hoth 46 (by decide)] at j46
    rw [← hoth 48 (by decide)] at j48
    rw [← hoth 50 (by decide)] at j50
    rw [← hoth 52 (by decide)] at j52
    rw [← hoth 54 (by decide)] at j54
    replace hsb := hsz.trans hsb
    replace hdb := hdf.trans hdb
    clear hle hch hns hsz hdf hoth hres
    obtain ⟨b, hbb⟩ : ∃ b, b = b2 := ⟨b2, rfl⟩
    subst hbb
    obtain ⟨q, hqq⟩ : ∃ q, q = q2 := ⟨q2, rfl⟩
    subst hqq
    exact tail_done (k := q) (w7 _ _ ⟨⟨hgq, hsb, hdb⟩, j5, j6, j7, j11, y11, z11, j14, j15, j16, trivial⟩)
   rintro a k ⟨⟨hg, hs, hd⟩, i5, i6, i7, i11, n11, c11, i14, i15, i16, _⟩
   refine wp_seq ?_
   obtain ⟨x6, hx6, hr⟩ := bind_some hr
   refine cut (fun a' k' => Bs noF k0 59 a' k' ∧ (IsRef p_) (a'.get 5) k' ∧ (IsRef v_) (a'.get 6) k' ∧ (IsRef t_) (a'.get 7) k' ∧ (IsV x1) (a'.get 14) k' ∧ (IsL x1) (a'.get 15) k' ∧ (IsV s1) (a'.get 16) k' ∧ (IsV (!x6)) (a'.get 57) k' ∧ True) ?_ hQ ?_
   ·intro Q9 W9 w8
    refine regionS (a0 := a) (k0 := k) (n := 59) (m := 0) ([]) hs (by kernel_rfl) trivial W9 fun b q p => ?_
    have hgq := hg.then p.grow
    have hsb := p.size.trans hs
    have hdb := p.defers.trans hd
    have j5 := p.ke 5 rfl i5
    have j6 := p.ke 6 rfl i6
    have j7 := p.ke 7 rfl i7
    have j11 := upE i11 (p.old 11 rfl)
    have z11 := Gb.Box.grow c11 p.grow
    have y11 := n11
    have j14 := p.ke 14 rfl i14
    have j15 := p.ke 15 rfl i15
    have j16 := p.ke 16 rfl i16
    obtain ⟨q2, hsh, jn⟩ := z11.give
    replace j5 := Pers.pers hsh.le j5
    replace j6 := Pers.pers hsh.le j6
    replace j7 := Pers.pers hsh.le j7
    replace j14 := Pers.pers hsh.le j14
    replace j15 := Pers.pers hsh.le j15
    replace j16 := Pers.pers hsh.le j16
    rw [← j11] at jn
    replace j11 := jn
    replace hgq := hgq.hand hsh y11.wr
    rw [← hsh.w]
    clear hsh
    obtain ⟨q, hqq⟩ : ∃ q, q = q2 := ⟨q2, rfl⟩
    subst hqq
    refine tail_call (F := noF) (i := 0) (d := 56) rfl rfl rfl rfl (by rw [hsb]; decide) Try.call57 W9 (Ret.toC (sight_interval_empty_ok j11 hx6)) fun b2 q2 hsz hdf hoth hch hres => ?_
    have hgr := hch.grow
    replace j5 := Pers.pers hgr.le j5
    replace j6 := Pers.pers hgr.le j6
    replace j7 := Pers.pers hgr.le j7
    replace j11 := Pers.pers hgr.le j11
    replace j14 := Pers.pers hgr.le j14
    replace j15 := Pers.pers hgr.le j15
    replace j16 := Pers.pers hgr.le j16
    replace hgq := hgq.then hgr
    rw [← hoth 5 (by decide)] at j5
    rw [← hoth 6 (by decide)] at j6
    rw [← hoth 7 (by decide)] at j7
    rw [← hoth 11 (by decide)] at j11
    rw [← hoth 14 (by decide)] at j14
    rw [← hoth 15 (by decide)] at j15
    rw [← hoth 16 (by decide)] at j16
    have j56 : (IsV x6) (b2.get 56) q2 := hres
    replace hsb := hsz.trans hsb
    replace hdb := hdf.trans hdb
    clear hch hgr hres hsz hdf hoth
    obtain ⟨b, hbb⟩ : ∃ b, b = b2 := ⟨b2, rfl⟩
    subst hbb
    obtain ⟨q, hqq⟩ : ∃ q, q = q2 := ⟨q2, rfl⟩
    subst hqq
    refine tail_does (R := (IsV (!x6))) (i := 1) (d := 57) rfl rfl rfl (by rw [hsb]; decide) W9 (ok_not rfl j56) fun b2 q2 hsz hdf hoth hgr hnew => ?_
    replace j5 := Pers.pers hgr.le j5
    replace j6 := Pers.pers hgr.le j6
    replace j7 := Pers.pers hgr.le j7
    replace j11 := Pers.pers hgr.le j11
    replace j14 := Pers.pers hgr.le j14
    replace j15 := Pers.pers hgr.le j15
    replace j16 := Pers.pers hgr.le j16
    replace j56 := Pers.pers hgr.le j56
    replace hgq := hgq.then hgr
    rw [← hoth 5 (by decide)] at j5
    rw [← hoth 6 (by decide)] at j6
    rw [← hoth 7 (by decide)] at j7
    rw [← hoth 11 (by decide)] at j11
    rw [← hoth 14 (by decide)] at j14
    rw [← hoth 15 (by decide)] at j15
    rw [← hoth 16 (by decide)] at j16
    rw [← hoth 56 (by decide)] at j56
    have j57 := hnew
    replace hsb := hsz.trans hsb
    replace hdb := hdf.trans hdb
    clear hgr hsz hdf hoth hnew
    obtain ⟨b, hbb⟩ : ∃ b, b = b2 := ⟨b2, rfl⟩
    subst hbb
    obtain ⟨q, hqq⟩ : ∃ q, q = q2 := ⟨q2, rfl⟩
    subst hqq
    exact tail_done (k := q) (w8 _ _ ⟨⟨hgq, hsb, hdb⟩, j5, j6, j7, j14, j15, j16, j57, trivial⟩)
   rintro a k ⟨⟨hg, hs, hd⟩, i5, i6, i7, i14, i15, i16, i57, _⟩
   refine wp_cond_split (isBool i57) (fun hc850 => ?_) (fun hc850 => ?_)
   ·rw [if_pos hc850] at hr
    refine stepL 1 (⟨some (IsV true), []⟩ :: []) rfl ⟨hg, hs, hd⟩ (by kernel_rfl) ⟨ob1 rfl fun _ _ h n => ok_assign rfl (isV_bool.2 rfl), trivial⟩ [⟨_, _⟩] (fun b q p => ⟨p.ou 0 8 rfl, trivial⟩) ?_
    rintro a k ⟨⟨hg, hs, hd⟩, i8, _⟩
    refine wp_ret ?_
    exact hret835 _ _ _ (Option.some.inj hr).symm (retC1 rfl hd hg i8)
   rw [if_neg (by rw [hc850]; decide)] at hr
   refine wp_skip ?_
   obtain ⟨x7, hx7, hr⟩ := bind_some hr
   refine cut (fun a' k' => Bs noF k0 59 a' k' ∧ (IsRef p_) (a'.get 5) k' ∧ (IsRef v_) (a'.get 6) k' ∧ (IsRef t_) (a'.get 7) k' ∧ (IsV x1) (a'.get 14) k' ∧ (IsL x1) (a'.get 15) k' ∧ (IsV x7) (a'.get 16) k' ∧ True) ?_ hQ ?_
   ·intro Q10 W10 w9
    refine gS 2 (_ :: _ :: []) hs (by kernel_rfl) ⟨o1 [(16, none)] rfl fun _ _ h n => ok_add rfl (up i16 h n.1) (cI rfl) hx7, cm 0 rfl rfl, trivial⟩ W10 fun b q p => ?_
    exact tail_done (k := q) (w9 _ _ ⟨Bs.post ⟨hg, hs, hd⟩ p, p.ke 5 rfl i5, p.ke 6 rfl i6, p.ke 7 rfl i7, p.ke 14 rfl i14, p.ke 15 rfl i15, p.ou 1 16 rfl, trivial⟩)
   rintro a k ⟨⟨hg, hs, hd⟩, i5, i6, i7, i14, i15, i16, _⟩
   exact hgo833 _ _ _ (Option.some.inj hr).symm ⟨⟨hg, hs, hd⟩, i5, i6, i7, i14, i15, i16, trivial⟩
  rw [if_neg (by rw [hc865]; decide)] at hr
  refine wp_exit ?_
  exact hex834 _ _ _ _ (Option.some.inj hr).symm ⟨rfl, ⟨hg, hs, hd⟩, trivial⟩
 ·rintro r1 a k rfl hR
  dsimp only at hr
  obtain rfl := Option.some.inj hr
  exact hR
 ·rintro _ _ _ rfl _
  simp at hr
 clear hf1
 rintro _ s2 a k rfl ⟨rfl, ⟨hg, hs, hd⟩, _⟩
 dsimp only at hr
 refine stepL 1 (⟨some (IsV false), []⟩ :: []) rfl ⟨hg, hs, hd⟩ (by kernel_rfl) ⟨ob1 rfl fun _ _ h n => ok_assign rfl (isV_bool.2 rfl), trivial⟩ [⟨_, _⟩] (fun b q p => ⟨p.ou 0 8 rfl, trivial⟩) ?_
 rintro a k ⟨⟨hg, hs, hd⟩, i8, _⟩
 refine wp_ret ?_
 obtain rfl := Option.some.inj hr
 exact retC1 rfl hd hg i8
noncomputable def k40 := mkO 40 [.list (.st 6), .st 7, .st 7, .st 4] [.bool] (fun x => sight_meets x.1 x.2.1 x.2.2.1 x.2.2.2) Try.call40 fun k0 vs x r h hr => by obtain ⟨v0, vs, rfl, i0, h⟩ := h.cons; obtain ⟨v1, vs, rfl, i1, h⟩ := h.cons; obtain ⟨v2, vs, rfl, i2, h⟩ := h.cons; obtain ⟨v3, rfl, i3⟩ := h.one; exact sight_meets_ok i0 i1 i2 i3 hr
def sight_Ray (s_ : (List Slab)) (p_ : Point3) (d_ : Point3) : Option (Bool) :=
 (sight_on p_).bind fun x1 =>
 if ((((!x1) || (decide (d_ = (⟨0, 0, 0⟩ : Point3)))) || (decide ((min (min d_.X d_.Y) d_.Z) < (-1048576)))) || (decide (1048576 < (max (max d_.X d_.Y) d_.Z)))) then
  some false
 else
  (sight_meets s_ p_ d_ (⟨(⟨0, 1, true⟩ : SightBound), (⟨0, 0, false⟩ : SightBound), false, false⟩ : SightInterval)).bind fun x2 =>
  some x2
noncomputable def k27 := mk 27 [.list (.st 6), .st 7, .st 7] [.bool] (fun x => sight_Ray x.1 x.2.1 x.2.2) [k39, k40] [] Try.f27 (.n) Try.func27 Try.call27 rfl rfl fun x => by kernel_rfl
def sun_MaskOf_L1 (table_ : (List Point3)) (p_ : Point3) (x1 : (List Slab)) (s1 : Int × Int) : Option (Flow (Int × Int) (Int)) :=
 if (decide (s1.2 < (table_.length : Int))) then
  (getI table_ s1.2).bind fun x2 =>
  (shrI s1.1 s1.2).bind fun x3 =>
  (if ((andI x3 1) == 1) then
   (sight_Ray x1 p_ x2).bind fun x4 =>
   some x4
  else
   some false).bind fun x5 =>
  (if x5 then
   (shlI 1 s1.2).bind fun x6 =>
   (subI s1.1 x6).bind fun x7 =>
   some x7
  else
   some s1.1).bind fun s2 =>
  (addI s1.2 1).bind fun x8 =>
  some (.go (s2, x8))
 else
  some (.ex 2 (s1.1, s1.2))
def sun_MaskOf_L0 (table_ : (List Point3)) (l_ : (List (List Slab))) (p_ : Point3) (s1 : Int × Int) : Option (Flow (Int × Int) (Int)) :=
 if (decide (s1.2 < (l_.length : Int))) then
  (getI l_ s1.2).bind fun x1 =>
  (iterL (sun_MaskOf_L1 table_ p_ x1) (table_.length + 1) (s1.1, 0)).bind fun f1 => match f1 with
   | .go _ => none
   | .ex _ s2 =>
    (addI s1.2 1).bind fun x2 =>
    some (.go (s2.1, x2))
   | .ret r1 => some (.ret r1)
 else
  some (.ex 0 (s1.1, s1.2))
def sun_MaskOf (table_ : (List Point3)) (l_ : (List (List Slab))) (p_ : Point3) : Option (Int) :=
 (sun_whole table_ l_ p_).bind fun x1 =>
 (iterL (sun_MaskOf_L0 table_ l_ p_) (l_.length + 1) (x1, 0)).bind fun f1 => match f1 with
  | .go _ => none
  | .ex _ s1 =>
   some s1.1
  | .ret r1 => some r1
noncomputable def k15 := mk 15 [.list (.st 7), .list (.list (.st 6)), .st 7] [.int] (fun x => sun_MaskOf x.1 x.2.1 x.2.2) [k26, k27] [] Try.f15 (.s .n (.s .n (.s (.s .n (.l [] [(7, .v .int), (18, .v .int)] [(0, [18], [])] (fI 17) (.s .n (.s .n (.s (.s .n (.s .n (.l [] [(7, .v .int), (24, .v .int)] [(2, [24], [])] (fI 23) (.s .n (.s .n (.s (.s .n (.s .n (.j [] [(7, .v .int)] ([], []) (.s .n .n)))) .n)))))) .n))))) .n))) Try.func15 Try.call15 rfl rfl fun x => by kernel_rfl
def sun_Mask (table_ : (List Point3)) (s_ : (List Slab)) (p_ : Point3) : Option (Int) :=
 (sun_MaskOf table_ ([s_]) p_).bind fun x1 =>
 some x1
noncomputable def k11 := mk 11 [.list (.st 7), .list (.st 6), .st 7] [.int] (fun x => sun_Mask x.1 x.2.1 x.2.2) [k15] [] Try.f11 (.n) Try.func11 Try.call11 rfl rfl fun x => by kernel_rfl
def bits_OnesCount64 (x_ : (IK .u64)) : Option (Int) :=
 some (andI (IntKind.i64.wrap (IK.add (IK.add (IK.add (IK.and (IK.add (IK.shr (IK.add (IK.and (IK.shr (IK.add (IK.and (IK.shr x_ 1) (IK.mk 6148914691236517205 : IK .u64)) (IK.and x_ (IK.mk 6148914691236517205 : IK .u64))) 2) (IK.mk 3689348814741910323 : IK .u64)) (IK.and (IK.add (IK.and (IK.shr x_ 1) (IK.mk 6148914691236517205 : IK .u64)) (IK.and x_ (IK.mk 6148914691236517205 : IK .u64))) (IK.mk 3689348814741910323 : IK .u64))) 4) (IK.add (IK.and (IK.shr (IK.add (IK.and (IK.shr x_ 1) (IK.mk 6148914691236517205 : IK .u64)) (IK.and x_ (IK.mk 6148914691236517205 : IK .u64))) 2) (IK.mk 3689348814741910323 : IK .u64)) (IK.and (IK.add (IK.and (IK.shr x_ 1) (IK.mk 6148914691236517205 : IK .u64)) (IK.and x_ (IK.mk 6148914691236517205 : IK .u64))) (IK.mk 3689348814741910323 : IK .u64)))) (IK.mk 1085102592571150095 : IK .u64)) (IK.shr (IK.and (IK.add (IK.shr (IK.add (IK.and (IK.shr (IK.add (IK.and (IK.shr x_ 1) (IK.mk 6148914691236517205 : IK .u64)) (IK.and x_ (IK.mk 6148914691236517205 : IK .u64))) 2) (IK.mk 3689348814741910323 : IK .u64)) (IK.and (IK.add (IK.and (IK.shr x_ 1) (IK.mk 6148914691236517205 : IK .u64)) (IK.and x_ (IK.mk 6148914691236517205 : IK .u64))) (IK.mk 3689348814741910323 : IK .u64))) 4) (IK.add (IK.and (IK.shr (IK.add (IK.and (IK.shr x_ 1) (IK.mk 6148914691236517205 : IK .u64)) (IK.and x_ (IK.mk 6148914691236517205 : IK .u64))) 2) (IK.mk 3689348814741910323 : IK .u64)) (IK.and (IK.add (IK.and (IK.shr x_ 1) (IK.mk 6148914691236517205 : IK .u64)) (IK.and x_ (IK.mk 6148914691236517205 : IK .u64))) (IK.mk 3689348814741910323 : IK .u64)))) (IK.mk 1085102592571150095 : IK .u64)) 8)) (IK.shr (IK.add (IK.and (IK.add (IK.shr (IK.add (IK.and (IK.shr (IK.add (IK.and (IK.shr x_ 1) (IK.mk 6148914691236517205 : IK .u64)) (IK.and x_ (IK.mk 6148914691236517205 : IK .u64))) 2) (IK.mk 3689348814741910323 : IK .u64)) (IK.and (IK.add (IK.and (IK.shr x_ 1) (IK.mk 6148914691236517205 : IK .u64)) (IK.and x_ (IK.mk 6148914691236517205 : IK .u64))) (IK.mk 3689348814741910323 : IK .u64))) 4) (IK.add (IK.and (IK.shr (IK.add (IK.and (IK.shr x_ 1) (IK.mk 6148914691236517205 : IK .u64)) (IK.and x_ (IK.mk 6148914691236517205 : IK .u64))) 2) (IK.mk 3689348814741910323 : IK .u64)) (IK.and (IK.add (IK.and (IK.shr x_ 1) (IK.mk 6148914691236517205 : IK .u64)) (IK.and x_ (IK.mk 6148914691236517205 : IK .u64))) (IK.mk 3689348814741910323 : IK .u64)))) (IK.mk 1085102592571150095 : IK .u64)) (IK.shr (IK.and (IK.add (IK.shr (IK.add (IK.and (IK.shr (IK.add (IK.and (IK.shr x_ 1) (IK.mk 6148914691236517205 : IK .u64)) (IK.and x_ (IK.mk 6148914691236517205 : IK .u64))) 2) (IK.mk 3689348814741910323 : IK .u64)) (IK.and (IK.add (IK.and (IK.shr x_ 1) (IK.mk 6148914691236517205 : IK .u64)) (IK.and x_ (IK.mk 6148914691236517205 : IK .u64))) (IK.mk 3689348814741910323 : IK .u64))) 4) (IK.add (IK.and (IK.shr (IK.add (IK.and (IK.shr x_ 1) (IK.mk 6148914691236517205 : IK .u64)) (IK.and x_ (IK.mk 6148914691236517205 : IK .u64))) 2) (IK.mk 3689348814741910323 : IK .u64)) (IK.and (IK.add (IK.and (IK.shr x_ 1) (IK.mk 6148914691236517205 : IK .u64)) (IK.and x_ (IK.mk 6148914691236517205 : IK .u64))) (IK.mk 3689348814741910323 : IK .u64)))) (IK.mk 1085102592571150095 : IK .u64)) 8)) 16)) (IK.shr (IK.add (IK.add (IK.and (IK.add (IK.shr (IK.add (IK.and (IK.shr (IK.add (IK.and (IK.shr x_ 1) (IK.mk 6148914691236517205 : IK .u64)) (IK.and x_ (IK.mk 6148914691236517205 : IK .u64))) 2) (IK.mk 3689348814741910323 : IK .u64)) (IK.and (IK.add (IK.and (IK.shr x_ 1) (IK.mk 6148914691236517205 : IK .u64)) (IK.and x_ (IK.mk 6148914691236517205 : IK .u64))) (IK.mk 3689348814741910323 : IK .u64))) 4) (IK.add (IK.and (IK.shr (IK.add (IK.and (IK.shr x_ 1) (IK.mk 6148914691236517205 : IK .u64)) (IK.and x_ (IK.mk 6148914691236517205 : IK .u64))) 2) (IK.mk 3689348814741910323 : IK .u64)) (IK.and (IK.add (IK.and (IK.shr x_ 1) (IK.mk 6148914691236517205 : IK .u64)) (IK.and x_ (IK.mk 6148914691236517205 : IK .u64))) (IK.mk 3689348814741910323 : IK .u64)))) (IK.mk 1085102592571150095 : IK .u64)) (IK.shr (IK.and (IK.add (IK.shr (IK.add (IK.and (IK.shr (IK.add (IK.and (IK.shr x_ 1) (IK.mk 6148914691236517205 : IK .u64)) (IK.and x_ (IK.mk 6148914691236517205 : IK .u64))) 2) (IK.mk 3689348814741910323 : IK .u64)) (IK.and (IK.add (IK.and (IK.shr x_ 1) (IK.mk 6148914691236517205 : IK .u64)) (IK.and x_ (IK.mk 6148914691236517205 : IK .u64))) (IK.mk 3689348814741910323 : IK .u64))) 4) (IK.add (IK.and (IK.shr (IK.add (IK.and (IK.shr x_ 1) (IK.mk 6148914691236517205 : IK .u64)) (IK.and x_ (IK.mk 6148914691236517205 : IK .u64))) 2) (IK.mk 3689348814741910323 : IK .u64)) (IK.and (IK.add (IK.and (IK.shr x_ 1) (IK.mk 6148914691236517205 : IK .u64)) (IK.and x_ (IK.mk 6148914691236517205 : IK .u64))) (IK.mk 3689348814741910323 : IK .u64)))) (IK.mk 1085102592571150095 : IK .u64)) 8)) (IK.shr (IK.add (IK.and (IK.add (IK.shr (IK.add (IK.and (IK.shr (IK.add (IK.and (IK.shr x_ 1) (IK.mk 6148914691236517205 : IK .u64)) (IK.and x_ (IK.mk 6148914691236517205 : IK .u64))) 2) (IK.mk 3689348814741910323 : IK .u64)) (IK.and (IK.add (IK.and (IK.shr x_ 1) (IK.mk 6148914691236517205 : IK .u64)) (IK.and x_ (IK.mk 6148914691236517205 : IK .u64))) (IK.mk 3689348814741910323 : IK .u64))) 4) (IK.add (IK.and (IK.shr (IK.add (IK.and (IK.shr x_ 1) (IK.mk 6148914691236517205 : IK .u64)) (IK.and x_ (IK.mk 6148914691236517205 : IK .u64))) 2) (IK.mk 3689348814741910323 : IK .u64)) (IK.and (IK.add (IK.and (IK.shr x_ 1) (IK.mk 6148914691236517205 : IK .u64)) (IK.and x_ (IK.mk 6148914691236517205 : IK .u64))) (IK.mk 3689348814741910323 : IK .u64)))) (IK.mk 1085102592571150095 : IK .u64)) (IK.shr (IK.and (IK.add (IK.shr (IK.add (IK.and (IK.shr (IK.add (IK.and (IK.shr x_ 1) (IK.mk 6148914691236517205 : IK .u64)) (IK.and x_ (IK.mk 6148914691236517205 : IK .u64))) 2) (IK.mk 3689348814741910323 : IK .u64)) (IK.and (IK.add (IK.and (IK.shr x_ 1) (IK.mk 6148914691236517205 : IK .u64)) (IK.and x_ (IK.mk 6148914691236517205 : IK .u64))) (IK.mk 3689348814741910323 : IK .u64))) 4) (IK.add (IK.and (IK.shr (IK.add (IK.and (IK.shr x_ 1) (IK.mk 6148914691236517205 : IK .u64)) (IK.and x_ (IK.mk 6148914691236517205 : IK .u64))) 2) (IK.mk 3689348814741910323 : IK .u64)) (IK.and (IK.add (IK.and (IK.shr x_ 1) (IK.mk 6148914691236517205 : IK .u64)) (IK.and x_ (IK.mk 6148914691236517205 : IK .u64))) (IK.mk 3689348814741910323 : IK .u64)))) (IK.mk 1085102592571150095 : IK .u64)) 8)) 16)) 32)).n) 127)
noncomputable def k29 := mk 29 [.ik .u64] [.int] (fun x => bits_OnesCount64 x) [] [] Try.f29 (.n) Try.func29 Try.call29 rfl rfl fun x => by kernel_rfl
def sun_Count (mask_ : Int) : Option (Int) :=
 (bits_OnesCount64 (IK.shl (IK.mk (IntKind.u64.wrap mask_) : IK .u64) 1)).bind fun x1 =>
 some x1
noncomputable def k19 := mk 19 [.int] [.int] (fun x => sun_Count x) [k29] [] Try.f19 (.n) Try.func19 Try.call19 rfl rfl fun x => by kernel_rfl
def sun_Hours (table_ : (List Point3)) (s_ : (List Slab)) (p_ : Point3) : Option (Int) :=
 (sun_Mask table_ s_ p_).bind fun x1 =>
 (sun_Count x1).bind fun x2 =>
 some x2
noncomputable def k13 := mk 13 [.list (.st 7), .list (.st 6), .st 7] [.int] (fun x => sun_Hours x.1 x.2.1 x.2.2) [k11, k19] [] Try.f13 (.n) Try.func13 Try.call13 rfl rfl fun x => by kernel_rfl
def sun_Lost (table_ : (List Point3)) (a_ : (List Slab)) (b_ : (List Slab)) (p_ : Point3) : Option (Int) :=
 (sun_whole table_ ([a_, b_]) p_).bind fun x1 =>
 if (x1 == 0) then
  some 0
 else
  (sun_Mask table_ a_ p_).bind fun x2 =>
  (sun_Mask table_ b_ p_).bind fun x3 =>
  some (andnI x2 x3)
noncomputable def k17 := mk 17 [.list (.st 7), .list (.st 6), .list (.st 6), .st 7] [.int] (fun x => sun_Lost x.1 x.2.1 x.2.2.1 x.2.2.2) [k26, k11] [] Try.f17 (.n) Try.func17 Try.call17 rfl rfl fun x => by kernel_rfl
def law12_small  : Option (Bool) :=
 (sun_Mask ([(⟨1, 0, 1⟩ : Point3), (⟨0, 0, 1⟩ : Point3), (⟨(-1), 0, 1⟩ : Point3)]) ([(⟨0, 3, [(⟨2, 0, 3, 1⟩ : Rect)]⟩ : Slab)]) (⟨0, 0, 0⟩ : Point3)).bind fun x1 =>
 (if (x1 == 6) then
  (sun_Hours ([(⟨1, 0, 1⟩ : Point3), (⟨0, 0, 1⟩ : Point3), (⟨(-1), 0, 1⟩ : Point3)]) ([(⟨0, 3, [(⟨2, 0, 3, 1⟩ : Rect)]⟩ : Slab)]) (⟨0, 0, 0⟩ : Point3)).bind fun x2 =>
  some (x2 == 2)
 else
  some false).bind fun x3 =>
 (if x3 then
  (sun_Mask ([(⟨1, 0, 1⟩ : Point3), (⟨0, 0, 1⟩ : Point3), (⟨(-1), 0, 1⟩ : Point3)]) ([(⟨0, 3, [(⟨2, 0, 3, 1⟩ : Rect)]⟩ : Slab)]) (⟨4, 0, 0⟩ : Point3)).bind fun x4 =>
  some (x4 == 3)
 else
  some false).bind fun x5 =>
 (if x5 then
  (sun_Mask ([(⟨1, 0, 1⟩ : Point3), (⟨0, 0, 1⟩ : Point3), (⟨(-1), 0, 1⟩ : Point3)]) ([(⟨0, 3, [(⟨2, 0, 3, 1⟩ : Rect)]⟩ : Slab)]) (⟨2, 0, 1⟩ : Point3)).bind fun x6 =>
  some (x6 == 4)
 else
  some false).bind fun x7 =>
 (if x7 then
  (sun_Mask ([(⟨1, 0, 1⟩ : Point3), (⟨0, 0, 1⟩ : Point3), (⟨(-1), 0, 1⟩ : Point3)]) ([(⟨0, 3, [(⟨2, 0, 3, 1⟩ : Rect)]⟩ : Slab)]) (⟨2, 0, 3⟩ : Point3)).bind fun x8 =>
  some (x8 == 7)
 else
  some false).bind fun x9 =>
 (sun_MaskOf ([(⟨1, 0, 1⟩ : Point3), (⟨0, 0, 1⟩ : Point3), (⟨(-1), 0, 1⟩ : Point3)]) ([[(⟨0, 3, [(⟨2, 0, 3, 1⟩ : Rect)]⟩ : Slab)], ([] : List Slab)]) (⟨0, 0, 0⟩ : Point3)).bind fun x10 =>
 (if (x10 == 6) then
  (sun_MaskOf ([(⟨1, 0, 1⟩ : Point3), (⟨0, 0, 1⟩ : Point3), (⟨(-1), 0, 1⟩ : Point3)]) ([] : List (List Slab)) (⟨0, 0, 0⟩ : Point3)).bind fun x11 =>
  some (x11 == 7)
 else
  some false).bind fun x12 =>
 (if x12 then
  (sun_Lost ([(⟨1, 0, 1⟩ : Point3), (⟨0, 0, 1⟩ : Point3), (⟨(-1), 0, 1⟩ : Point3)]) ([] : List Slab) ([(⟨0, 3, [(⟨2, 0, 3, 1⟩ : Rect)]⟩ : Slab)]) (⟨0, 0, 0⟩ : Point3)).bind fun x13 =>
  some (x13 == 1)
 else
  some false).bind fun x14 =>
 (if x14 then
  (sun_Right ([(⟨1, 0, 1⟩ : Point3), (⟨0, 0, 1⟩ : Point3), (⟨(-1), 0, 1⟩ : Point3)])).bind fun x15 =>
  some x15
 else
  some false).bind fun x16 =>
 (if x16 then
  (sun_Right ([(⟨1, 0, 0⟩ : Point3)])).bind fun x17 =>
  some (!x17)
 else
  some false).bind fun x18 =>
 (if x18 then
  (sun_Count 5).bind fun x19 =>
  some (x19 == 2)
 else
  some false).bind fun x20 =>
 (if (x9 && x20) then
  (sun_Mask ([(⟨1, 0, 0⟩ : Point3)]) ([] : List Slab) (⟨0, 0, 0⟩ : Point3)).bind fun x21 =>
  some (x21 == 0)
 else
  some false).bind fun x22 =>
 (if x22 then
  (sun_Mask ([(⟨1, 0, 1⟩ : Point3), (⟨0, 0, 1⟩ : Point3), (⟨(-1), 0, 1⟩ : Point3)]) ([] : List Slab) (⟨(-1), 0, 0⟩ : Point3)).bind fun x23 =>
  some (x23 == 0)
 else
  some false).bind fun x24 =>
 some x24
noncomputable def k7 := mk 7 [] [.bool] (fun x => law12_small) [k11, k13, k15, k17, k9, k19] [] Try.f7 (.n) Try.func7 Try.call7 rfl rfl fun x => by kernel_rfl
end Go.Proofs.Ytekbjeagbfbbcaa
