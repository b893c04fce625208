/- What the functions compute that the law reaches, part 2 -/
import Derived.Test.YtbpecfmimgjakaaT1
namespace Go.Proofs.Ytbpecfmimgjakaa
open Go.Gb
set_option linter.unusedVariables false
set_option linter.unusedSimpArgs false
set_option maxRecDepth 100000
def ref06_RightRect (r_ : Rect) : Option (Bool) :=
 some ((((((decide (0 ≤ r_.X0)) && (decide (r_.X0 < r_.X1))) && (decide (r_.X1 ≤ 1048576))) && (decide (0 ≤ r_.Y0))) && (decide (r_.Y0 < r_.Y1))) && (decide (r_.Y1 ≤ 1048576)))
theorem ref06_RightRect_ok {k0 : K} {v0 : Value} {r_ : Rect} {r : Bool} (i0 : (IsV r_) v0 k0) (hr : ref06_RightRect r_ = some r) :
  Calls Try.prog 34 #[v0] k0.w (Ret k0 (IsV r)) := by
 unfold ref06_RightRect at hr
 refine Ret.ofC ?_
 refine enterK Try.func34 rfl Try.ntmps34 (show 1 ≤ 35 by decide) fun a k hk0 hs hd ha => ?_
 obtain ⟨e0, _⟩ := ha
 replace i0 : (IsV r_) (a.get 0) k := by rw [e0, hk0]; exact i0
 have hQ : Gb.LetsOut (bodyPost Try.prog Try.f34 (RetC noF k0 (IsV r))) := letsOutC
 have hg : Chg noF k0 k := by rw [hk0]; exact Chg.refl _ k0
 refine stepL 2 (⟨some (IsRef r_), [(0, none)]⟩ :: ⟨some (IsV false), []⟩ :: []) rfl ⟨hg, hs, hd⟩ (by kernel_rfl) ⟨ob1 rfl fun _ _ h n => ok_boxR rfl (up i0 h n.1), ob1 rfl fun _ _ h n => ok_assign rfl (isV_bool.2 rfl), trivial⟩ [⟨_, _⟩] (fun b q p => ⟨p.ou 0 1 rfl, trivial⟩) ?_
 rintro a k ⟨⟨hg, hs, hd⟩, i1, _⟩
 refine stepL 33 (_ :: _ :: _ :: _ :: _ :: _ :: _ :: _ :: _ :: _ :: _ :: _ :: _ :: _ :: _ :: _ :: _ :: _ :: _ :: _ :: _ :: _ :: _ :: _ :: _ :: _ :: _ :: _ :: _ :: _ :: _ :: _ :: _ :: []) rfl ⟨hg, hs, hd⟩ (by kernel_rfl) ⟨o1 [(1, none)] rfl fun _ _ h n => ok_fieldAddr rfl fo35_0 (at_Rect_0 _) ((up i1 h n.1)).ptr, o1 [(3, some 0)] rfl fun _ _ h n => ok_load rfl ty3 n.1, o1 [(4, some 1)] rfl fun _ _ h n => ok_geq rfl n.1 (cI rfl), cm 2 rfl rfl, gT [(1, none)] rfl rfl fun hp _ _ h n => ok_fieldAddr rfl fo35_0 (at_Rect_0 _) ((up i1 h n.1)).ptr, gT [(7, some 4)] rfl rfl fun hp _ _ h n => ok_load rfl ty3 (Gd.get n.1 hp), gT [(1, none)] rfl rfl fun hp _ _ h n => ok_fieldAddr rfl fo35_2 (at_Rect_2 _) ((up i1 h n.1)).ptr, gT [(9, some 6)] rfl rfl fun hp _ _ h n => ok_load rfl ty3 (Gd.get n.1 hp), gT [(8, some 5), (10, some 7)] rfl rfl fun hp _ _ h n => ok_lss rfl (Gd.get n.1 hp) (Gd.get n.2.1 hp), o1 [(6, some 3), (11, some 8)] rfl fun _ _ h n => ok_pickAnd rfl n.1 (Gd.get n.2.1) (cB rfl), cm 9 rfl rfl, gT [(1, none)] rfl rfl fun hp _ _ h n => ok_fieldAddr rfl fo35_2 (at_Rect_2 _) ((up i1 h n.1)).ptr, gT [(14, some 11)] rfl rfl fun hp _ _ h n => ok_load rfl ty3 (Gd.get n.1 hp), gT [(15, some 12)] rfl rfl fun hp _ _ h n => ok_leq rfl (Gd.get n.1 hp) (cI rfl), o1 [(13, some 10), (16, some 13)] rfl fun _ _ h n => ok_pickAnd rfl n.1 (Gd.get n.2.1) (cB rfl), cm 14 rfl rfl, gT [(1, none)] rfl rfl fun hp _ _ h n => ok_fieldAddr rfl fo35_1 (at_Rect_1 _) ((up i1 h n.1)).ptr, gT [(19, some 16)] rfl rfl fun hp _ _ h n => ok_load rfl ty3 (Gd.get n.1 hp), gT [(20, some 17)] rfl rfl fun hp _ _ h n => ok_geq rfl (Gd.get n.1 hp) (cI rfl), o1 [(18, some 15), (21, some 18)] rfl fun _ _ h n => ok_pickAnd rfl n.1 (Gd.get n.2.1) (cB rfl), cm 19 rfl rfl, gT [(1, none)] rfl rfl fun hp _ _ h n => ok_fieldAddr rfl fo35_1 (at_Rect_1 _) ((up i1 h n.1)).ptr, gT [(24, some 21)] rfl rfl fun hp _ _ h n => ok_load rfl ty3 (Gd.get n.1 hp), gT [(1, none)] rfl rfl fun hp _ _ h n => ok_fieldAddr rfl fo35_3 (at_Rect_3 _) ((up i1 h n.1)).ptr, gT [(26, some 23)] rfl rfl fun hp _ _ h n => ok_load rfl ty3 (Gd.get n.1 hp), gT [(25, some 22), (27, some 24)] rfl rfl fun hp _ _ h n => ok_lss rfl (Gd.get n.1 hp) (Gd.get n.2.1 hp), o1 [(23, some 20), (28, some 25)] rfl fun _ _ h n => ok_pickAnd rfl n.1 (Gd.get n.2.1) (cB rfl), cm 26 rfl rfl, gT [(1, none)] rfl rfl fun hp _ _ h n => ok_fieldAddr rfl fo35_3 (at_Rect_3 _) ((up i1 h n.1)).ptr, gT [(31, some 28)] rfl rfl fun hp _ _ h n => ok_load rfl ty3 (Gd.get n.1 hp), gT [(32, some 29)] rfl rfl fun hp _ _ h n => ok_leq rfl (Gd.get n.1 hp) (cI rfl), o1 [(30, some 27), (33, some 30)] rfl fun _ _ h n => ok_pickAnd rfl n.1 (Gd.get n.2.1) (cB rfl), cp 31 rfl rfl, trivial⟩ [⟨_, _⟩] (fun b q p => ⟨p.ou 32 2 rfl, trivial⟩) ?_
 rintro a k ⟨⟨hg, hs, hd⟩, i2, _⟩
 refine wp_ret ?_
 obtain rfl := Option.some.inj hr
 exact retC1 rfl hd hg i2
def ref09_RightBox (b_ : Box) : Option (Bool) :=
 (ref06_RightRect b_.Base).bind fun x1 =>
 some (((x1 && (decide (0 ≤ b_.Z0))) && (decide (b_.Z0 < b_.Z1))) && (decide (b_.Z1 ≤ 4096)))
theorem ref09_RightBox_ok {k0 : K} {v0 : Value} {b_ : Box} {r : Bool} (i0 : (IsV b_) v0 k0) (hr : ref09_RightBox b_ = some r) :
  Calls Try.prog 22 #[v0] k0.w (Ret k0 (IsV r)) := by
 unfold ref09_RightBox at hr
 refine Ret.ofC ?_
 refine enterK Try.func22 rfl Try.ntmps22 (show 1 ≤ 23 by decide) fun a k hk0 hs hd ha => ?_
 obtain ⟨e0, _⟩ := ha
 replace i0 : (IsV b_) (a.get 0) k := by rw [e0, hk0]; exact i0
 have hQ : Gb.LetsOut (bodyPost Try.prog Try.f22 (RetC noF k0 (IsV r))) := letsOutC
 have hg : Chg noF k0 k := by rw [hk0]; exact Chg.refl _ k0
 refine stepL 2 (⟨some (IsRef b_), [(0, none)]⟩ :: ⟨some (IsV false), []⟩ :: []) rfl ⟨hg, hs, hd⟩ (by kernel_rfl) ⟨ob1 rfl fun _ _ h n => ok_boxR rfl (up i0 h n.1), ob1 rfl fun _ _ h n => ok_assign rfl (isV_bool.2 rfl), trivial⟩ [⟨_, _⟩] (fun b q p => ⟨p.ou 0 1 rfl, trivial⟩) ?_
 rintro a k ⟨⟨hg, hs, hd⟩, i1, _⟩
 refine wp_seq ?_
 obtain ⟨x1, hx1, hr⟩ := bind_some hr
 refine cut (fun a' k' => Bs noF k0 23 a' k' ∧ (IsV (((x1 && (decide (0 ≤ b_.Z0))) && (decide (b_.Z0 < b_.Z1))) && (decide (b_.Z1 ≤ 4096)))) (a'.get 2) k' ∧ True) ?_ hQ ?_
 ·intro Q1 W1 w1
  refine gS 21 (_ :: _ :: _ :: _ :: _ :: _ :: _ :: _ :: _ :: _ :: _ :: _ :: _ :: _ :: _ :: _ :: _ :: _ :: _ :: _ :: _ :: []) hs (by kernel_rfl) ⟨o1 [(1, none)] rfl fun _ _ h n => ok_fieldAddr rfl fo37_0 (at_Box_0 _) ((up i1 h n.1)).ptr, o1 [(3, some 0)] rfl fun _ _ h n => ok_load rfl ty35 n.1, o1 [(4, some 1)] rfl fun _ _ h n => ok_call rfl Try.call34 (ref06_RightRect_ok n.1 hx1), cm 2 rfl rfl, gT [(1, none)] rfl rfl fun hp _ _ h n => ok_fieldAddr rfl fo37_1 (at_Box_1 _) ((up i1 h n.1)).ptr, gT [(7, some 4)] rfl rfl fun hp _ _ h n => ok_load rfl ty3 (Gd.get n.1 hp), gT [(8, some 5)] rfl rfl fun hp _ _ h n => ok_geq rfl (Gd.get n.1 hp) (cI rfl), o1 [(6, some 3), (9, some 6)] rfl fun _ _ h n => ok_pickAnd rfl n.1 (Gd.get n.2.1) (cB rfl), cm 7 rfl rfl, gT [(1, none)] rfl rfl fun hp _ _ h n => ok_fieldAddr rfl fo37_1 (at_Box_1 _) ((up i1 h n.1)).ptr, gT [(12, some 9)] rfl rfl fun hp _ _ h n => ok_load rfl ty3 (Gd.get n.1 hp), gT [(1, none)] rfl rfl fun hp _ _ h n => ok_fieldAddr rfl fo37_2 (at_Box_2 _) ((up i1 h n.1)).ptr, gT [(14, some 11)] rfl rfl fun hp _ _ h n => ok_load rfl ty3 (Gd.get n.1 hp), gT [(13, some 10), (15, some 12)] rfl rfl fun hp _ _ h n => ok_lss rfl (Gd.get n.1 hp) (Gd.get n.2.1 hp), o1 [(11, some 8), (16, some 13)] rfl fun _ _ h n => ok_pickAnd rfl n.1 (Gd.get n.2.1) (cB rfl), cm 14 rfl rfl, gT [(1, none)] rfl rfl fun hp _ _ h n => ok_fieldAddr rfl fo37_2 (at_Box_2 _) ((up i1 h n.1)).ptr, gT [(19, some 16)] rfl rfl fun hp _ _ h n => ok_load rfl ty3 (Gd.get n.1 hp), gT [(20, some 17)] rfl rfl fun hp _ _ h n => ok_leq rfl (Gd.get n.1 hp) (cI rfl), o1 [(18, some 15), (21, some 18)] rfl fun _ _ h n => ok_pickAnd rfl n.1 (Gd.get n.2.1) (cB rfl), cp 19 rfl rfl, trivial⟩ W1 fun b q p => ?_
  exact tail_done (k := q) (w1 _ _ ⟨Bs.post ⟨hg, hs, hd⟩ p, p.ou 20 2 rfl, trivial⟩)
 rintro a k ⟨⟨hg, hs, hd⟩, i2, _⟩
 refine wp_ret ?_
 obtain rfl := Option.some.inj hr
 exact retC1 rfl hd hg i2
def ref09_insert_L0 (l_ : (List Int)) (n_ : Int) (s1 : Int) : Option (Flow (Int) ((List Int))) :=
 (if (decide (s1 < (l_.length : Int))) then
  (getI l_ s1).bind fun x1 =>
  some (decide (x1 < n_))
 else
  some false).bind fun x2 =>
 if x2 then
  (addI s1 1).bind fun x3 =>
  some (.go x3)
 else
  some (.ex 0 s1)
def ref09_insert (l_ : (List Int)) (n_ : Int) : Option ((List Int)) :=
 (iterL (ref09_insert_L0 l_ n_) (l_.length + 1) 0).bind fun f1 => match f1 with
  | .go _ => none
  | .ex _ s1 =>
   (if (decide (s1 < (l_.length : Int))) then
    (getI l_ s1).bind fun x1 =>
    some (x1 == n_)
   else
    some false).bind fun x2 =>
   if x2 then
    some l_
   else
    (sliceI l_ 0 s1).bind fun x3 =>
    (appI [] x3).bind fun x4 =>
    (appI x4 ([n_])).bind fun x5 =>
    (sliceI l_ s1 (l_.length : Int)).bind fun x6 =>
    (appI x5 x6).bind fun x7 =>
    some x7
  | .ret r1 => some r1
theorem ref09_insert_ok {k0 : K} {v0 v1 : Value} {l_ : (List Int)} {n_ : Int} {r : (List Int)} (i0 : (IsV l_) v0 k0) (i1 : (IsV n_) v1 k0) (hr : ref09_insert l_ n_ = some r) :
  Calls Try.prog 42 #[v0, v1] k0.w (Ret k0 (IsV r)) := by
 unfold ref09_insert at hr
 refine Ret.ofC ?_
 refine enterK Try.func42 rfl Try.ntmps42 (show 2 ≤ 48 by decide) fun a k hk0 hs hd ha => ?_
 obtain ⟨e0, e1, _⟩ := ha
 replace i0 : (IsV l_) (a.get 0) k := by rw [e0, hk0]; exact i0
 replace i1 : (IsV n_) (a.get 1) k := by rw [e1, hk0]; exact i1
 have hQ : Gb.LetsOut (bodyPost Try.prog Try.f42 (RetC noF k0 (IsV r))) := letsOutC
 have hg : Chg noF k0 k := by rw [hk0]; exact Chg.refl _ k0
 refine stepL 1 (⟨some IsE0, []⟩ :: []) rfl ⟨hg, hs, hd⟩ (by kernel_rfl) ⟨ob1 rfl fun b q h n => ok_assign rfl isE0_nil, trivial⟩ [⟨_, _⟩, ⟨_, _⟩] (fun b q p => ⟨p.ke 0 rfl i0, p.ke 1 rfl i1, trivial⟩) ?_
 rintro a k ⟨⟨hg, hs, hd⟩, i0, i1, _⟩
 refine stepL 1 (⟨some (IsI 0), []⟩ :: []) rfl ⟨hg, hs, hd⟩ (by kernel_rfl) ⟨aI rfl rfl, trivial⟩ [⟨_, _⟩, ⟨_, _⟩, ⟨_, _⟩] (fun b q p => ⟨p.ke 0 rfl i0, p.ke 1 rfl i1, p.ou 0 5 rfl, trivial⟩) ?_
 rintro a k ⟨⟨hg, hs, hd⟩, i0, i1, i5, _⟩
 refine wp_seq ?_
 refine wp_block ?_
 obtain ⟨f1, hf1, hr⟩ := bind_some hr
 refine cutFe f1 (fun s' c l => Bs noF k0 48 c l ∧ IsV l_ (c.get 0) l ∧ IsV n_ (c.get 1) l ∧ IsV s' (c.get 5) l ∧ True) (fun i' s' c l => (i' = 0 ∧ Bs noF k0 48 c l ∧ IsV l_ (c.get 0) l ∧ IsV n_ (c.get 1) l ∧ IsV s' (c.get 5) l ∧ True)) (fun r' c l => bodyPost Try.prog Try.f42 (RetC noF k0 (IsV r')) .ret c l.w) ?_ hQ ?_ ?_ ?_
 ·intro Q1 W1 hgo hex hret
  refine sim_loop ?_ _ _ _ _ _ hf1 ⟨⟨hg, hs, hd⟩, i0, i1, i5, trivial⟩ Q1 W1 hgo hex hret
  clear hr hf1 hgo hex hret W1 hQ hg hs hd i0 i1 i5
  intro s1 fl_ a k hr hS Q hQ hgo16 hex17 hret18
  obtain ⟨⟨hg, hs, hd⟩, i0, i1, i5, _⟩ := hS
  unfold ref09_insert_L0 at hr
  refine wp_seq ?_
  refine wp_seq ?_
  obtain ⟨x1, hx1, hr⟩ := bind_some hr
  obtain ⟨x2, hx2, hx1⟩ := ite_bind hx1
  refine cut (fun a' k' => Bs noF k0 48 a' k' ∧ (IsV l_) (a'.get 0) k' ∧ (IsV n_) (a'.get 1) k' ∧ (IsV s1) (a'.get 5) k' ∧ (IsV x1) (a'.get 18) k' ∧ True) ?_ hQ ?_
  ·intro Q2 W2 w1
   refine gS 12 (_ :: _ :: _ :: _ :: _ :: _ :: _ :: _ :: _ :: _ :: _ :: _ :: []) hs (by kernel_rfl) ⟨mu rfl i5, mu rfl i0, o1 [(8, some 1)] rfl fun _ _ h n => ok_len rfl rfl Try.underlying63 (IsV.rd n.1), o1 [(7, some 0), (9, some 2)] rfl fun _ _ h n => ok_lss rfl n.1 n.2.1, cm 3 rfl rfl, mT rfl rfl i0, mT rfl rfl i5, gT [(12, some 5), (13, some 6)] rfl rfl fun hp _ _ h n => ok_indexAddr rfl Try.underlying63 ty3 (IsV.rd (Gd.get n.1 hp)) (Gd.get n.2.1 hp) (hx2 hp), gT [(14, some 7)] rfl rfl fun hp _ _ h n => ok_load rfl ty3 (Gd.get n.1 hp), mT rfl rfl i1, gT [(15, some 8), (16, some 9)] rfl rfl fun hp _ _ h n => ok_lss rfl (Gd.get n.1 hp) (Gd.get n.2.1 hp), o1 [(11, some 4), (17, some 10)] rfl fun _ _ h n => ok_pickM rfl n.1 hx1 (Gd.get n.2.1) (cB rfl), trivial⟩ W2 fun b q p => ?_
   exact tail_done (k := q) (w1 _ _ ⟨Bs.post ⟨hg, hs, hd⟩ p, p.ke 0 rfl i0, p.ke 1 rfl i1, p.ke 5 rfl i5, p.ou 11 18 rfl, trivial⟩)
  rintro a k ⟨⟨hg, hs, hd⟩, i0, i1, i5, i18, _⟩
  refine wp_cond_split (isBool i18) (fun hc23 => ?_) (fun hc23 => ?_)
  ·rw [if_pos hc23] at hr
   refine wp_skip ?_
   refine wp_block ?_
   obtain ⟨x3, hx3, hr⟩ := bind_some hr
   refine cut (fun a' k' => Bs noF k0 48 a' k' ∧ (IsV l_) (a'.get 0) k' ∧ (IsV n_) (a'.get 1) k' ∧ (IsV x3) (a'.get 5) k' ∧ True) ?_ hQ ?_
   ·intro Q3 W3 w2
    refine gS 3 (_ :: _ :: _ :: []) hs (by kernel_rfl) ⟨mu rfl i5, o1 [(19, some 0)] rfl fun _ _ h n => ok_add rfl n.1 (cI rfl) hx3, cp 1 rfl rfl, trivial⟩ W3 fun b q p => ?_
    exact tail_done (k := q) (w2 _ _ ⟨Bs.post ⟨hg, hs, hd⟩ p, p.ke 0 rfl i0, p.ke 1 rfl i1, p.ou 2 5 rfl, trivial⟩)
   rintro a k ⟨⟨hg, hs, hd⟩, i0, i1, i5, _⟩
   exact hgo16 _ _ _ (Option.some.inj hr).symm ⟨⟨hg, hs, hd⟩, i0, i1, i5, trivial⟩
  rw [if_neg (by rw [hc23]; decide)] at hr
  refine wp_exit ?_
  exact hex17 _ _ _ _ (Option.some.inj hr).symm ⟨rfl, ⟨hg, hs, hd⟩, i0, i1, i5, trivial⟩
 ·rintro r1 a k rfl hR
  dsimp only at hr
  obtain rfl := Option.some.inj hr
  exact hR
 ·rintro _ _ _ rfl _
  simp at hr
 clear hf1
 rintro _ s2 a k rfl ⟨rfl, ⟨hg, hs, hd⟩, i0, i1, i5, _⟩
 dsimp only at hr
 refine wp_seq ?_
 refine wp_seq ?_
 obtain ⟨x4, hx4, hr⟩ := bind_some hr
 obtain ⟨x5, hx5, hx4⟩ := ite_bind hx4
 refine cut (fun a' k' => Bs noF k0 48 a' k' ∧ (IsV l_) (a'.get 0) k' ∧ (IsV n_) (a'.get 1) k' ∧ (IsV s2) (a'.get 5) k' ∧ (IsV x4) (a'.get 32) k' ∧ True) ?_ hQ ?_
 ·intro Q4 W4 w3
  refine gS 12 (_ :: _ :: _ :: _ :: _ :: _ :: _ :: _ :: _ :: _ :: _ :: _ :: []) hs (by kernel_rfl) ⟨mu rfl i5, mu rfl i0, o1 [(22, some 1)] rfl fun _ _ h n => ok_len rfl rfl Try.underlying63 (IsV.rd n.1), o1 [(21, some 0), (23, some 2)] rfl fun _ _ h n => ok_lss rfl n.1 n.2.1, cm 3 rfl rfl, mT rfl rfl i0, mT rfl rfl i5, gT [(26, some 5), (27, some 6)] rfl rfl fun hp _ _ h n => ok_indexAddr rfl Try.underlying63 ty3 (IsV.rd (Gd.get n.1 hp)) (Gd.get n.2.1 hp) (hx5 hp), gT [(28, some 7)] rfl rfl fun hp _ _ h n => ok_load rfl ty3 (Gd.get n.1 hp), mT rfl rfl i1, gT [(29, some 8), (30, some 9)] rfl rfl fun hp _ _ h n => ok_eqI rfl (Gd.get n.1 hp) (Gd.get n.2.1 hp), o1 [(25, some 4), (31, some 10)] rfl fun _ _ h n => ok_pickM rfl n.1 hx4 (Gd.get n.2.1) (cB rfl), trivial⟩ W4 fun b q p => ?_
  exact tail_done (k := q) (w3 _ _ ⟨Bs.post ⟨hg, hs, hd⟩ p, p.ke 0 rfl i0, p.ke 1 rfl i1, p.ke 5 rfl i5, p.ou 11 32 rfl, trivial⟩)
 rintro a k ⟨⟨hg, hs, hd⟩, i0, i1, i5, i32, _⟩
 refine wp_cond_split (isBool i32) (fun hc42 => ?_) (fun hc42 => ?_)
 ·rw [if_pos hc42] at hr
  refine stepL 2 (_ :: _ :: []) rfl ⟨hg, hs, hd⟩ (by kernel_rfl) ⟨mu rfl i0, cp 0 rfl rfl, trivial⟩ [⟨_, _⟩] (fun b q p => ⟨p.ou 1 4 rfl, trivial⟩) ?_
  rintro a k ⟨⟨hg, hs, hd⟩, i4, _⟩
  refine wp_ret ?_
  obtain rfl := Option.some.inj hr
  exact retC1 rfl hd hg i4
 rw [if_neg (by rw [hc42]; decide)] at hr
 refine wp_skip ?_
 refine wp_seq ?_
 obtain ⟨x7, hx7, hr⟩ := bind_some hr
 obtain ⟨x8, hx8, hr⟩ := bind_some hr
 refine cut (fun a' k' => Bs noF k0 48 a' k' ∧ (IsV l_) (a'.get 0) k' ∧ (IsV n_) (a'.get 1) k' ∧ (IsV s2) (a'.get 5) k' ∧ IsOwn 0 3 x8 (a'.get 6) k' ∧ Lo k0 (obF (a'.get 6)) ∧ True) ?_ hQ ?_
 ·intro Q5 W5 w4
  refine gS 6 (⟨some IsE0, []⟩ :: _ :: _ :: ⟨some (IsV x7), [(35, some 1), (36, some 2)]⟩ :: ⟨some (IsOwn k.w.heap.size 3 x8), [(34, some 0), (37, some 3)]⟩ :: _ :: []) hs (by kernel_rfl) ⟨ob1 rfl fun b q h n => ok_buildSlice0 rfl Try.underlying63 eo3, mu rfl i0, mu rfl i5, ob1 rfl fun _ _ h n => ok_slice_hi rfl Try.underlying63 szf3 n.1 n.2.1 hx7, ob1 rfl fun _ _ h n => ok_append0 rfl Try.underlying63 eo3 h.size n.1 (IsV.rd n.2.1) hx8, cp 4 rfl rfl, trivial⟩ W5 fun b q p => ?_
  have hgq := hg.then p.grow
  have hsb := p.size.trans hs
  have hdb := p.defers.trans hd
  have j0 := p.ke 0 rfl i0
  have j1 := p.ke 1 rfl i1
  have j5 := p.ke 5 rfl i5
  have j6 : (IsOwn k.w.heap.size 3 x8) (b.get 6) q := p.ou 5 6 rfl
  have x6 : Lo k (obF (b.get 6)) := j6.loF
  have y6 := x6.chg hg
  replace j6 := j6.weaken (Nat.zero_le _)
  exact tail_done (k := q) (w4 _ _ ⟨⟨hgq, hsb, hdb⟩, j0, j1, j5, j6, y6, trivial⟩)
 rintro a k ⟨⟨hg, hs, hd⟩, i0, i1, i5, i6, n6, _⟩
 refine wp_seq ?_
 obtain ⟨x9, hx9, hr⟩ := bind_some hr
 refine cut (fun a' k' => Bs noF k0 48 a' k' ∧ (IsV l_) (a'.get 0) k' ∧ (IsV s2) (a'.get 5) k' ∧ IsOwn 0 3 x9 (a'.get 6) k' ∧ Lo k0 (obF (a'.get 6)) ∧ True) ?_ hQ ?_
 ·intro Q6 W6 w5
  refine gS 3 (⟨some (OwnAt (a.get 6) 0 3 x8), [(6, none)]⟩ :: _ :: ⟨some (IsV (α := (List Int)) ([n_])), [(40, some 1)]⟩ :: []) hs (by kernel_rfl) ⟨ob1 rfl fun _ _ h n => ok_moveOA (.inl rfl) (ownAt n.1 (up i6 h n.1)), mu rfl i1, ob1 rfl fun _ _ h n => ok_buildSlice rfl Try.underlying63 eo3 rfl (by decide) (by decide) ⟨rfl, n.1, trivial⟩, trivial⟩ W6 fun b q p => ?_
  have hgq := hg.then p.grow
  have hsb := p.size.trans hs
  have hdb := p.defers.trans hd
  have j0 := p.ke 0 rfl i0
  have j5 := p.ke 5 rfl i5
  have e39 : b.get 39 = a.get 6 := (p.ou 0 39 rfl).1
  have j39 : IsOwn 0 3 x8 (b.get 39) q := (p.ou 0 39 rfl).2
  have y39 : Lo k0 (obF (b.get 39)) := by rw [e39]; exact n6
  have j41 : (IsV (α := (List Int)) ([n_])) (b.get 41) q := p.ou 2 41 rfl
  have hns := j39.nshF
  refine tail_appendS (i := 3) (d := 42) rfl rfl rfl rfl (by rw [hsb]; decide) (e := 3) Try.underlying63 eo3 j39 (IsV.rd j41) hx9 fun b2 q2 hsz hdf hoth hch hown hob => ?_
  have hle := hch.le hns
  have yn : Lo k0 (obF (b2.get 42)) := y39.app hgq hob
  replace j0 := Pers.pers hle j0
  replace j5 := Pers.pers hle j5
  replace j41 := Pers.pers hle j41
  replace hgq := hgq.step hch y39.wr
  rw [← hoth 0 (by decide)] at j0
  rw [← hoth 5 (by decide)] at j5
  rw [← hoth 41 (by decide)] at j41
  have j42 := hown
  have y42 := yn
  replace hsb := hsz.trans hsb
  replace hdb := hdf.trans hdb
  clear hle hch hown hob hns yn hsz hdf hoth
  obtain ⟨b, hbb⟩ : ∃ b, b = b2 := ⟨b2, rfl⟩
  subst hbb
  obtain ⟨q, hqq⟩ : ∃ q, q = q2 := ⟨q2, rfl⟩
  subst hqq
  refine tail_assign (i := 4) (d := 6) rfl rfl (.inl rfl) rfl (by rw [hsb]; decide) fun b2 hsz hdf hnew hoth => ?_
  have jn : (IsOwn 0 3 x9) (b2.get 6) q := by rw [hnew]; exact j42
  have yn : Lo k0 (obF (b2.get 6)) := by rw [hnew]; exact y42
  rw [← hoth 0 (by decide)] at j0
  rw [← hoth 5 (by decide)] at j5
  rw [← hoth 41 (by decide)] at j41
  have j6 := jn
  have y6 := yn
  replace hsb := hsz.trans hsb
  replace hdb := hdf.trans hdb
  clear hsz hdf hoth
  obtain ⟨b, hbb⟩ : ∃ b, b = b2 := ⟨b2, rfl⟩
  subst hbb
  exact tail_done (k := q) (w5 _ _ ⟨⟨hgq, hsb, hdb⟩, j0, j5, j6, y6, trivial⟩)
 rintro a k ⟨⟨hg, hs, hd⟩, i0, i5, i6, n6, _⟩
 refine wp_seq ?_
 obtain ⟨x10, hx10, hr⟩ := bind_some hr
 obtain ⟨x11, hx11, hr⟩ := bind_some hr
 refine cut (fun a' k' => Bs noF k0 48 a' k' ∧ IsOwn 0 3 x11 (a'.get 4) k' ∧ Lo k0 (obF (a'.get 4)) ∧ True) ?_ hQ ?_
 ·intro Q7 W7 w6
  refine gS 4 (⟨some (OwnAt (a.get 6) 0 3 x9), [(6, none)]⟩ :: _ :: _ :: ⟨some (IsV x10), [(44, some 1), (45, some 2)]⟩ :: []) hs (by kernel_rfl) ⟨ob1 rfl fun _ _ h n => ok_moveOA (.inl rfl) (ownAt n.1 (up i6 h n.1)), mu rfl i0, mu rfl i5, ob1 rfl fun _ _ h n => ok_slice_lo rfl Try.underlying63 szf3 n.1 n.2.1 hx10, trivial⟩ W7 fun b q p => ?_
  have hgq := hg.then p.grow
  have hsb := p.size.trans hs
  have hdb := p.defers.trans hd
  have e43 : b.get 43 = a.get 6 := (p.ou 0 43 rfl).1
  have j43 : IsOwn 0 3 x9 (b.get 43) q := (p.ou 0 43 rfl).2
  have y43 : Lo k0 (obF (b.get 43)) := by rw [e43]; exact n6
  have j46 : (IsV x10) (b.get 46) q := p.ou 3 46 rfl
  have hns := j43.nshF
  refine tail_appendS (i := 4) (d := 47) rfl rfl rfl rfl (by rw [hsb]; decide) (e := 3) Try.underlying63 eo3 j43 (IsV.rd j46) hx11 fun b2 q2 hsz hdf hoth hch hown hob => ?_
  have hle := hch.le hns
  have yn : Lo k0 (obF (b2.get 47)) := y43.app hgq hob
  replace j46 := Pers.pers hle j46
  replace hgq := hgq.step hch y43.wr
  rw [← hoth 46 (by decide)] at j46
  have j47 := hown
  have y47 := yn
  replace hsb := hsz.trans hsb
  replace hdb := hdf.trans hdb
  clear hle hch hown hob hns yn hsz hdf hoth
  obtain ⟨b, hbb⟩ : ∃ b, b = b2 := ⟨b2, rfl⟩
  subst hbb
  obtain ⟨q, hqq⟩ : ∃ q, q = q2 := ⟨q2, rfl⟩
  subst hqq
  refine tail_assign (i := 5) (d := 4) rfl rfl (.inl rfl) rfl (by rw [hsb]; decide) fun b2 hsz hdf hnew hoth => ?_
  have jn : (IsOwn 0 3 x11) (b2.get 4) q := by rw [hnew]; exact j47
  have yn : Lo k0 (obF (b2.get 4)) := by rw [hnew]; exact y47
  rw [← hoth 46 (by decide)] at j46
  have j4 := jn
  have y4 := yn
  replace hsb := hsz.trans hsb
  replace hdb := hdf.trans hdb
  clear hsz hdf hoth
  obtain ⟨b, hbb⟩ : ∃ b, b = b2 := ⟨b2, rfl⟩
  subst hbb
  exact tail_done (k := q) (w6 _ _ ⟨⟨hgq, hsb, hdb⟩, j4, y4, trivial⟩)
 rintro a k ⟨⟨hg, hs, hd⟩, i4, n4, _⟩
 refine wp_ret ?_
 obtain ⟨kk, sh35, ii4⟩ := i4.give
 replace i4 := ii4
 replace hg := hg.hand sh35 n4.wr
 rw [← sh35.w]
 clear sh35
 obtain ⟨k, hkk⟩ : ∃ k, k = kk := ⟨kk, rfl⟩
 subst hkk
 obtain rfl := Option.some.inj hr
 exact retC1 rfl hd hg i4
def ref06_sorted_L1 (l_ : (List Int)) (s1 : (List Int) × Int) (s2 : Int) : Option (Flow (Int) ((List Int))) :=
 (if (decide (0 < s2)) then
  (subI s2 1).bind fun x1 =>
  (getI s1.1 x1).bind fun x2 =>
  (getI l_ s1.2).bind fun x3 =>
  some (decide (x3 < x2))
 else
  some false).bind fun x4 =>
 if x4 then
  (subI s2 1).bind fun x5 =>
  some (.go x5)
 else
  some (.ex 2 s2)
def ref06_sorted_L2 (s1 : Int) (s2 : (List Int) × Int) : Option (Flow ((List Int) × Int) ((List Int))) :=
 if (decide (s1 < s2.2)) then
  (subI s2.2 1).bind fun x1 =>
  (getI s2.1 x1).bind fun x2 =>
  (getI s2.1 s2.2).bind fun x3 =>
  (some (s2.1.set (s2.2).toNat x2)).bind fun x4 =>
  (subI s2.2 1).bind fun x5 =>
  some (.go (x4, x5))
 else
  some (.ex 4 (s2.1, s2.2))
def ref06_sorted_L0 (l_ : (List Int)) (s1 : (List Int) × Int) : Option (Flow ((List Int) × Int) ((List Int))) :=
 if (decide (s1.2 < (l_.length : Int))) then
  ((iterL (ref06_sorted_L1 l_ s1) (l_.length + s1.1.length + 1) (s1.1.length : Int)).bind fun f1 => match f1 with
   | .go _ => none
   | .ex _ s2 =>
    (if (decide (0 < s2)) then
     (subI s2 1).bind fun x1 =>
     (getI s1.1 x1).bind fun x2 =>
     (getI l_ s1.2).bind fun x3 =>
     some (x2 == x3)
    else
     some false).bind fun x4 =>
    if x4 then
     some s1.1
    else
     (appI s1.1 ([0])).bind fun x5 =>
     (subI (x5.length : Int) 1).bind fun x6 =>
     (iterL (ref06_sorted_L2 s2) (l_.length + x5.length + 1) (x5, x6)).bind fun f2 => match f2 with
      | .go _ => none
      | .ex _ s3 =>
       (getI l_ s1.2).bind fun x7 =>
       (getI s3.1 s2).bind fun x8 =>
       (some (s3.1.set (s2).toNat x7)).bind fun x9 =>
       some x9
      | .ret r1 => none
   | .ret r2 => none).bind fun s4 =>
  (addI s1.2 1).bind fun x10 =>
  some (.go (s4, x10))
 else
  some (.ex 0 (s1.1, s1.2))
def ref06_sorted (l_ : (List Int)) : Option ((List Int)) :=
 (iterL (ref06_sorted_L0 l_) (l_.length + ([] : List Int).length + 1) (([] : List Int), 0)).bind fun f1 => match f1 with
  | .go _ => none
  | .ex _ s1 =>
   some s1.1
  | .ret r1 => some r1
theorem ref06_sorted_ok {k0 : K} {v0 : Value} {l_ : (List Int)} {r : (List Int)} (i0 : (IsV l_) v0 k0) (hr : ref06_sorted l_ = some r) :
  Calls Try.prog 86 #[v0] k0.w (Ret k0 (IsV r)) := by
 unfold ref06_sorted at hr
 refine Ret.ofC ?_
 refine enterK Try.func86 rfl Try.ntmps86 (show 1 ≤ 72 by decide) fun a k hk0 hs hd ha => ?_
 obtain ⟨e0, _⟩ := ha
 replace i0 : (IsV l_) (a.get 0) k := by rw [e0, hk0]; exact i0
 have hQ : Gb.LetsOut (bodyPost Try.prog Try.f86 (RetC noF k0 (IsV r))) := letsOutC
 have hg : Chg noF k0 k := by rw [hk0]; exact Chg.refl _ k0
 refine stepL 1 (⟨some IsE0, []⟩ :: []) rfl ⟨hg, hs, hd⟩ (by kernel_rfl) ⟨ob1 rfl fun b q h n => ok_assign rfl isE0_nil, trivial⟩ [⟨_, _⟩] (fun b q p => ⟨p.ke 0 rfl i0, trivial⟩) ?_
 rintro a k ⟨⟨hg, hs, hd⟩, i0, _⟩
 refine cutS (fun c l => Bs noF k0 72 c l ∧ IsV l_ (c.get 0) l ∧ IsOwn 0 3 ([] : List Int) (c.get 3) l ∧ Lo k0 (obF (c.get 3)) ∧ True) ?_ ?_
 ·intro Q1 W1 w1
  refine gS 1 (⟨some IsE0, []⟩ :: []) hs (by kernel_rfl) ⟨ob1 rfl fun b q h n => ok_assign rfl isE0_nil, trivial⟩ W1 fun b q p => ?_
  have hgq := hg.then p.grow
  have hsb := p.size.trans hs
  have hdb := p.defers.trans hd
  have j0 := p.ke 0 rfl i0
  have j3 : IsE0 (b.get 3) q := p.ou 0 3 rfl
  have y3 : Lo k0 (obF (b.get 3)) := j3.lo
  replace j3 : IsOwn 0 3 ([] : List Int) (b.get 3) q := j3.own0
  exact tail_done (k := q) (w1 _ _ ⟨⟨hgq, hsb, hdb⟩, j0, j3, y3, trivial⟩)
 rintro a k ⟨⟨hg, hs, hd⟩, i0, i3, n3, _⟩
 refine wp_seq ?_
 refine cutS (fun c l => Bs noF k0 72 c l ∧ IsV l_ (c.get 0) l ∧ IsOwn 0 3 ([] : List Int) (c.get 3) l ∧ Lo k0 (obF (c.get 3)) ∧ IsI 0 (c.get 4) l ∧ True) ?_ ?_
 ·intro Q2 W2 w2
  refine gS 1 (⟨some (IsI 0), []⟩ :: []) hs (by kernel_rfl) ⟨aI rfl rfl, trivial⟩ W2 fun b q p => ?_
  exact tail_done (k := q) (w2 _ _ ⟨Bs.post ⟨hg, hs, hd⟩ p, p.ke 0 rfl i0, p.ke 3 rfl i3, (by rw [p.old 3 rfl]; exact n3), p.ou 0 4 rfl, trivial⟩)
 rintro a k ⟨⟨hg, hs, hd⟩, i0, i3, n3, i4, _⟩
 refine wp_block ?_
 obtain ⟨f1, hf1, hr⟩ := bind_some hr
 refine cutFe f1 (fun s' c l => Bs noF k0 72 c l ∧ IsV l_ (c.get 0) l ∧ IsOwn 0 3 s'.1 (c.get 3) l ∧ Lo k0 (obF (c.get 3)) ∧ IsV s'.2 (c.get 4) l ∧ True) (fun i' s' c l => (i' = 0 ∧ Bs noF k0 72 c l ∧ IsV s'.1 (c.get 3) l ∧ True)) (fun r' c l => bodyPost Try.prog Try.f86 (RetC noF k0 (IsV r')) .ret c l.w) ?_ hQ ?_ ?_ ?_
 ·intro Q3 W3 hgo hex hret
  refine sim_loop ?_ _ _ _ _ _ hf1 ⟨⟨hg, hs, hd⟩, i0, i3, n3, i4, trivial⟩ Q3 W3 hgo hex hret
  clear hr hf1 hgo hex hret W3 hQ hg hs hd i0 i3 i4 n3
  intro s1 fl_ a k hr hS Q hQ hgo55 hex56 hret57
  obtain ⟨⟨hg, hs, hd⟩, i0, i3, n3, i4, _⟩ := hS
  unfold ref06_sorted_L0 at hr
  refine wp_seq ?_
  refine cutS (fun c l => Bs noF k0 72 c l ∧ IsV l_ (c.get 0) l ∧ IsOwn 0 3 s1.1 (c.get 3) l ∧ Lo k0 (obF (c.get 3)) ∧ IsV s1.2 (c.get 4) l ∧ (IsV (decide (s1.2 < (l_.length : Int)))) (c.get 10) l ∧ True) ?_ ?_
  ·intro Q4 W4 w3
   refine gS 4 (_ :: _ :: _ :: _ :: []) hs (by kernel_rfl) ⟨mu rfl i4, mu rfl i0, o1 [(8, some 1)] rfl fun _ _ h n => ok_len rfl rfl Try.underlying63 (IsV.rd n.1), o1 [(7, some 0), (9, some 2)] rfl fun _ _ h n => ok_lss rfl n.1 n.2.1, trivial⟩ W4 fun b q p => ?_
   exact tail_done (k := q) (w3 _ _ ⟨Bs.post ⟨hg, hs, hd⟩ p, p.ke 0 rfl i0, p.ke 3 rfl i3, (by rw [p.old 3 rfl]; exact n3), p.ke 4 rfl i4, p.ou 3 10 rfl, trivial⟩)
  rintro a k ⟨⟨hg, hs, hd⟩, i0, i3, n3, i4, i10, _⟩
  refine wp_cond_split (isBool i10) (fun hc115 => ?_) (fun hc115 => ?_)
  ·rw [if_pos hc115] at hr
   refine wp_skip ?_
   refine wp_seq ?_
   obtain ⟨s2, hs2, hr⟩ := bind_some hr
   refine cut (fun a' k' => Bs noF k0 72 a' k' ∧ (IsV l_) (a'.get 0) k' ∧ IsOwn 0 3 s2 (a'.get 3) k' ∧ Lo k0 (obF (a'.get 3)) ∧ (IsV s1.2) (a'.get 4) k' ∧ True) ?_ hQ ?_
   ·intro Q5 W5 w4
    replace hr := hs2
    clear hQ
    have hQ := W5
    refine wp_block ?_
    refine cutS (fun c l => Bs noF k0 72 c l ∧ IsV l_ (c.get 0) l ∧ IsOwn 0 3 s1.1 (c.get 3) l ∧ Lo k0 (obF (c.get 3)) ∧ IsV s1.2 (c.get 4) l ∧ IsI (s1.1.length : Int) (c.get 5) l ∧ True) ?_ ?_
    ·intro Q6 W6 w5
     refine gS 3 (⟨some (OwnAt (a.get 3) 0 3 s1.1), [(3, none)]⟩ :: _ :: _ :: []) hs (by kernel_rfl) ⟨ob1 rfl fun _ _ h n => ok_moveOA (.inl rfl) (ownAt n.1 (up i3 h n.1)), o1 [(13, some 0)] rfl fun _ _ h n => ok_len rfl rfl Try.underlying63 (IsOwn.rd (n.1).2), cp 1 rfl rfl, trivial⟩ W6 fun b q p => ?_
     exact tail_done (k := q) (w5 _ _ ⟨Bs.post ⟨hg, hs, hd⟩ p, p.ke 0 rfl i0, p.ke 3 rfl i3, (by rw [p.old 3 rfl]; exact n3), p.ke 4 rfl i4, p.ou 2 5 rfl, trivial⟩)
    rintro a k ⟨⟨hg, hs, hd⟩, i0, i3, n3, i4, i5, _⟩
    refine wp_seq ?_
    refine wp_block ?_
    obtain ⟨f2, hf2, hr⟩ := bind_some hr
    refine cutFe f2 (fun s' c l => Bs noF k0 72 c l ∧ IsV l_ (c.get 0) l ∧ IsOwn 0 3 s1.1 (c.get 3) l ∧ Lo k0 (obF (c.get 3)) ∧ IsV s1.2 (c.get 4) l ∧ IsV s' (c.get 5) l ∧ True) (fun i' s' c l => (i' = 2 ∧ Bs noF k0 72 c l ∧ IsV l_ (c.get 0) l ∧ IsOwn 0 3 s1.1 (c.get 3) l ∧ Lo k0 (obF (c.get 3)) ∧ IsV s1.2 (c.get 4) l ∧ IsV s' (c.get 5) l ∧ True)) (fun r' c l => bodyPost Try.prog Try.f86 (RetC noF k0 (IsV r')) .ret c l.w) ?_ hQ ?_ ?_ ?_
    ·intro Q7 W7 hgo hex hret
     refine sim_loop ?_ _ _ _ _ _ hf2 ⟨⟨hg, hs, hd⟩, i0, i3, n3, i4, i5, trivial⟩ Q7 W7 hgo hex hret
     clear hr hf2 hgo hex hret W7 hQ hg hs hd i0 i3 i4 i5 n3
     intro s3 fl_ a k hr hS Q hQ hgo63 hex64 hret65
     obtain ⟨⟨hg, hs, hd⟩, i0, i3, n3, i4, i5, _⟩ := hS
     unfold ref06_sorted_L1 at hr
     refine wp_seq ?_
     refine wp_seq ?_
     obtain ⟨x1, hx1, hr⟩ := bind_some hr
     obtain ⟨x2, hx2, hx1⟩ := ite_bind hx1
     obtain ⟨x3, hx3, hx1⟩ := ite_bind hx1
     obtain ⟨x4, hx4, hx1⟩ := ite_bind hx1
     refine cut (fun a' k' => Bs noF k0 72 a' k' ∧ (IsV l_) (a'.get 0) k' ∧ IsOwn 0 3 s1.1 (a'.get 3) k' ∧ Lo k0 (obF (a'.get 3)) ∧ (IsV s1.2) (a'.get 4) k' ∧ (IsV s3) (a'.get 5) k' ∧ (IsV x1) (a'.get 28) k' ∧ True) ?_ hQ ?_
     ·intro Q8 W8 w6
      refine region (m := 14) (_ :: _ :: _ :: ⟨some (Gd ((decide (0 < s3)) = true) (OwnAt (a.get 3) 0 3 s1.1)), [(3, none)]⟩ :: _ :: _ :: _ :: _ :: _ :: _ :: _ :: _ :: _ :: _ :: []) hmix hs (by kernel_rfl) ⟨mu rfl i5, o1 [(15, some 0)] rfl fun _ _ h n => ok_gtr rfl n.1 (cI rfl), cm 1 rfl rfl, gdT rfl rfl fun hp _ _ h n => ok_moveOA (.inl rfl) (ownAt n.1 (up i3 h n.1)), mT rfl rfl i5, gT [(19, some 4)] rfl rfl fun hp _ _ h n => ok_sub rfl (Gd.get n.1 hp) (cI rfl) (hx2 hp), gT [(18, some 3), (20, some 5)] rfl rfl fun hp _ _ h n => ok_indexAddr rfl Try.underlying63 ty3 (IsOwn.rd ((Gd.get n.1 hp)).2) (Gd.get n.2.1 hp) (hx3 hp), gT [(21, some 6)] rfl rfl fun hp _ _ h n => ok_load rfl ty3 (Gd.get n.1 hp), mT rfl rfl i0, mT rfl rfl i4, gT [(23, some 8), (24, some 9)] rfl rfl fun hp _ _ h n => ok_indexAddr rfl Try.underlying63 ty3 (IsV.rd (Gd.get n.1 hp)) (Gd.get n.2.1 hp) (hx4 hp), gT [(25, some 10)] rfl rfl fun hp _ _ h n => ok_load rfl ty3 (Gd.get n.1 hp), gT [(22, some 7), (26, some 11)] rfl rfl fun hp _ _ h n => ok_gtr rfl (Gd.get n.1 hp) (Gd.get n.2.1 hp), o1 [(17, some 2), (27, some 12)] rfl fun _ _ h n => ok_pickM rfl n.1 hx1 (Gd.get n.2.1) (cB rfl), trivial⟩ W8 fun b q p => ?_
      exact tail_done (k := q) (w6 _ _ ⟨Bs.post ⟨hg, hs, hd⟩ p, p.ke 0 rfl i0, p.ke 3 rfl i3, (by rw [p.old 3 rfl]; exact n3), p.ke 4 rfl i4, p.ke 5 rfl i5, p.ou 13 28 rfl, trivial⟩)
     rintro a k ⟨⟨hg, hs, hd⟩, i0, i3, n3, i4, i5, i28, _⟩
     refine wp_cond_split (isBool i28) (fun hc70 => ?_) (fun hc70 => ?_)
     ·rw [if_pos hc70] at hr
      refine wp_skip ?_
      refine wp_block ?_
      obtain ⟨x5, hx5, hr⟩ := bind_some hr
      refine cut (fun a' k' => Bs noF k0 72 a' k' ∧ (IsV l_) (a'.get 0) k' ∧ IsOwn 0 3 s1.1 (a'.get 3) k' ∧ Lo k0 (obF (a'.get 3)) ∧ (IsV s1.2) (a'.get 4) k' ∧ (IsV x5) (a'.get 5) k' ∧ True) ?_ hQ ?_
      ·intro Q9 W9 w7
       refine gS 3 (_ :: _ :: _ :: []) hs (by kernel_rfl) ⟨mu rfl i5, o1 [(29, some 0)] rfl fun _ _ h n => ok_sub rfl n.1 (cI rfl) hx5, cp 1 rfl rfl, trivial⟩ W9 fun b q p => ?_
       exact tail_done (k := q) (w7 _ _ ⟨Bs.post ⟨hg, hs, hd⟩ p, p.ke 0 rfl i0, p.ke 3 rfl i3, (by rw [p.old 3 rfl]; exact n3), p.ke 4 rfl i4, p.ou 2 5 rfl, trivial⟩)
      rintro a k ⟨⟨hg, hs, hd⟩, i0, i3, n3, i4, i5, _⟩
      exact hgo63 _ _ _ (Option.some.inj hr).symm ⟨⟨hg, hs, hd⟩, i0, i3, n3, i4, i5, trivial⟩
     rw [if_neg (by rw [hc70]; decide)] at hr
     refine wp_exit ?_
     exact hex64 _ _ _ _ (Option.some.inj hr).symm ⟨rfl, ⟨hg, hs, hd⟩, i0, i3, n3, i4, i5, trivial⟩
    ·rintro r1 a k rfl hR
     dsimp only at hr
     simp at hr
    ·rintro _ _ _ rfl _
     simp at hr
    clear hf2
    rintro _ s4 a k rfl ⟨rfl, ⟨hg, hs, hd⟩, i0, i3, n3, i4, i5, _⟩
    dsimp only at hr
    refine wp_seq ?_
    refine wp_seq ?_
    obtain ⟨x6, hx6, hr⟩ := bind_some hr
    obtain ⟨x7, hx7, hx6⟩ := ite_bind hx6
    obtain ⟨x8, hx8, hx6⟩ := ite_bind hx6
    obtain ⟨x9, hx9, hx6⟩ := ite_bind hx6
    refine cut (fun a' k' => Bs noF k0 72 a' k' ∧ (IsV l_) (a'.get 0) k' ∧ IsOwn 0 3 s1.1 (a'.get 3) k' ∧ Lo k0 (obF (a'.get 3)) ∧ (IsV s1.2) (a'.get 4) k' ∧ (IsV s4) (a'.get 5) k' ∧ (IsV x6) (a'.get 44) k' ∧ True) ?_ hQ ?_
    ·intro Q10 W10 w8
     refine region (m := 14) (_ :: _ :: _ :: ⟨some (Gd ((decide (0 < s4)) = true) (OwnAt (a.get 3) 0 3 s1.1)), [(3, none)]⟩ :: _ :: _ :: _ :: _ :: _ :: _ :: _ :: _ :: _ :: _ :: []) hmix hs (by kernel_rfl) ⟨mu rfl i5, o1 [(31, some 0)] rfl fun _ _ h n => ok_gtr rfl n.1 (cI rfl), cm 1 rfl rfl, gdT rfl rfl fun hp _ _ h n => ok_moveOA (.inl rfl) (ownAt n.1 (up i3 h n.1)), mT rfl rfl i5, gT [(35, some 4)] rfl rfl fun hp _ _ h n => ok_sub rfl (Gd.get n.1 hp) (cI rfl) (hx7 hp), gT [(34, some 3), (36, some 5)] rfl rfl fun hp _ _ h n => ok_indexAddr rfl Try.underlying63 ty3 (IsOwn.rd ((Gd.get n.1 hp)).2) (Gd.get n.2.1 hp) (hx8 hp), gT [(37, some 6)] rfl rfl fun hp _ _ h n => ok_load rfl ty3 (Gd.get n.1 hp), mT rfl rfl i0, mT rfl rfl i4, gT [(39, some 8), (40, some 9)] rfl rfl fun hp _ _ h n => ok_indexAddr rfl Try.underlying63 ty3 (IsV.rd (Gd.get n.1 hp)) (Gd.get n.2.1 hp) (hx9 hp), gT [(41, some 10)] rfl rfl fun hp _ _ h n => ok_load rfl ty3 (Gd.get n.1 hp), gT [(38, some 7), (42, some 11)] rfl rfl fun hp _ _ h n => ok_eqI rfl (Gd.get n.1 hp) (Gd.get n.2.1 hp), o1 [(33, some 2), (43, some 12)] rfl fun _ _ h n => ok_pickM rfl n.1 hx6 (Gd.get n.2.1) (cB rfl), trivial⟩ W10 fun b q p => ?_
     exact tail_done (k := q) (w8 _ _ ⟨Bs.post ⟨hg, hs, hd⟩ p, p.ke 0 rfl i0, p.ke 3 rfl i3, (by rw [p.old 3 rfl]; exact n3), p.ke 4 rfl i4, p.ke 5 rfl i5, p.ou 13 44 rfl, trivial⟩)
    rintro a k ⟨⟨hg, hs, hd⟩, i0, i3, n3, i4, i5, i44, _⟩
    refine wp_cond_split (isBool i44) (fun hc103 => ?_) (fun hc103 => ?_)
    ·rw [if_pos hc103] at hr
     refine wp_exit ?_
     obtain rfl := Option.some.inj hr
     exact w4 _ _ ⟨⟨hg, hs, hd⟩, i0, i3, n3, i4, trivial⟩
    rw [if_neg (by rw [hc103]; decide)] at hr
    refine wp_skip ?_
    refine wp_seq ?_
    obtain ⟨x10, hx10, hr⟩ := bind_some hr
    refine cut (fun a' k' => Bs noF k0 72 a' k' ∧ (IsV l_) (a'.get 0) k' ∧ IsOwn 0 3 x10 (a'.get 3) k' ∧ Lo k0 (obF (a'.get 3)) ∧ (IsV s1.2) (a'.get 4) k' ∧ (IsV s4) (a'.get 5) k' ∧ True) ?_ hQ ?_
    ·intro Q11 W11 w9
     refine gS 2 (⟨some (OwnAt (a.get 3) 0 3 s1.1), [(3, none)]⟩ :: ⟨some (IsV (α := (List Int)) ([0])), []⟩ :: []) hs (by kernel_rfl) ⟨ob1 rfl fun _ _ h n => ok_moveOA (.inl rfl) (ownAt n.1 (up i3 h n.1)), ob1 rfl fun _ _ h n => ok_buildSlice rfl Try.underlying63 eo3 rfl (by decide) (by decide) ⟨rfl, (cI rfl), trivial⟩, trivial⟩ W11 fun b q p => ?_
     have hgq := hg.then p.grow
     have hsb := p.size.trans hs
     have hdb := p.defers.trans hd
     have j0 := p.ke 0 rfl i0
     have j4 := p.ke 4 rfl i4
     have j5 := p.ke 5 rfl i5
     have e45 : b.get 45 = a.get 3 := (p.ou 0 45 rfl).1
     have j45 : IsOwn 0 3 s1.1 (b.get 45) q := (p.ou 0 45 rfl).2
     have y45 : Lo k0 (obF (b.get 45)) := by rw [e45]; exact n3
     have j46 : (IsV (α := (List Int)) ([0])) (b.get 46) q := p.ou 1 46 rfl
     have hns := j45.nshF
     refine tail_appendS (i := 2) (d := 47) rfl rfl rfl rfl (by rw [hsb]; decide) (e := 3) Try.underlying63 eo3 j45 (IsV.rd j46) hx10 fun b2 q2 hsz hdf hoth hch hown hob => ?_
     have hle := hch.le hns
     have yn : Lo k0 (obF (b2.get 47)) := y45.app hgq hob
     replace j0 := Pers.pers hle j0
     replace j4 := Pers.pers hle j4
     replace j5 := Pers.pers hle j5
     replace j46 := Pers.pers hle j46
     replace hgq := hgq.step hch y45.wr
     rw [← hoth 0 (by decide)] at j0
     rw [← hoth 4 (by decide)] at j4
     rw [← hoth 5 (by decide)] at j5
     rw [← hoth 46 (by decide)] at j46
     have j47 := hown
     have y47 := yn
     replace hsb := hsz.trans hsb
     replace hdb := hdf.trans hdb
     clear hle hch hown hob hns yn hsz hdf hoth
     obtain ⟨b, hbb⟩ : ∃ b, b = b2 := ⟨b2, rfl⟩
     subst hbb
     obtain ⟨q, hqq⟩ : ∃ q, q = q2 := ⟨q2, rfl⟩
     subst hqq
     refine tail_assign (i := 3) (d := 3) rfl rfl (.inl rfl) rfl (by rw [hsb]; decide) fun b2 hsz hdf hnew hoth => ?_
     have jn : (IsOwn 0 3 x10) (b2.get 3) q := by rw [hnew]; exact j47
     have yn : Lo k0 (obF (b2.get 3)) := by rw [hnew]; exact y47
     rw [← hoth 0 (by decide)] at j0
     rw [← hoth 4 (by decide)] at j4
     rw [← hoth 5 (by decide)] at j5
     rw [← hoth 46 (by decide)] at j46
     have j3 := jn
     have y3 := yn
     replace hsb := hsz.trans hsb
     replace hdb := hdf.trans hdb
     clear hsz hdf hoth
     obtain ⟨b, hbb⟩ : ∃ b, b = b2 := ⟨b2, rfl⟩
     subst hbb
     exact tail_done (k := q) (w9 _ _ ⟨⟨hgq, hsb, hdb⟩, j0, j3, y3, j4, j5, trivial⟩)
    rintro a k ⟨⟨hg, hs, hd⟩, i0, i3, n3, i4, i5, _⟩
    refine wp_seq ?_
    refine wp_seq ?_
    obtain ⟨x11, hx11, hr⟩ := bind_some hr
    refine cut (fun a' k' => Bs noF k0 72 a' k' ∧ (IsV l_) (a'.get 0) k' ∧ IsOwn 0 3 x10 (a'.get 3) k' ∧ Lo k0 (obF (a'.get 3)) ∧ (IsV s1.2) (a'.get 4) k' ∧ (IsV s4) (a'.get 5) k' ∧ (IsV x11) (a'.get 6) k' ∧ True) ?_ hQ ?_
    ·intro Q12 W12 w10
     refine gS 4 (⟨some (OwnAt (a.get 3) 0 3 x10), [(3, none)]⟩ :: _ :: _ :: _ :: []) hs (by kernel_rfl) ⟨ob1 rfl fun _ _ h n => ok_moveOA (.inl rfl) (ownAt n.1 (up i3 h n.1)), o1 [(48, some 0)] rfl fun _ _ h n => ok_len rfl rfl Try.underlying63 (IsOwn.rd (n.1).2), o1 [(49, some 1)] rfl fun _ _ h n => ok_sub rfl n.1 (cI rfl) hx11, cp 2 rfl rfl, trivial⟩ W12 fun b q p => ?_
     exact tail_done (k := q) (w10 _ _ ⟨Bs.post ⟨hg, hs, hd⟩ p, p.ke 0 rfl i0, p.ke 3 rfl i3, (by rw [p.old 3 rfl]; exact n3), p.ke 4 rfl i4, p.ke 5 rfl i5, p.ou 3 6 rfl, trivial⟩)
    rintro a k ⟨⟨hg, hs, hd⟩, i0, i3, n3, i4, i5, i6, _⟩
    refine wp_block ?_
    obtain ⟨f3, hf3, hr⟩ := bind_some hr
    refine cutFe f3 (fun s' c l => Bs noF k0 72 c l ∧ IsV l_ (c.get 0) l ∧ IsOwn 0 3 s'.1 (c.get 3) l ∧ Lo k0 (obF (c.get 3)) ∧ IsV s1.2 (c.get 4) l ∧ IsV s4 (c.get 5) l ∧ IsV s'.2 (c.get 6) l ∧ True) (fun i' s' c l => (i' = 4 ∧ Bs noF k0 72 c l ∧ IsV l_ (c.get 0) l ∧ IsOwn 0 3 s'.1 (c.get 3) l ∧ Lo k0 (obF (c.get 3)) ∧ IsV s1.2 (c.get 4) l ∧ IsV s4 (c.get 5) l ∧ True)) (fun r' c l => bodyPost Try.prog Try.f86 (RetC noF k0 (IsV r')) .ret c l.w) ?_ hQ ?_ ?_ ?_
    ·intro Q13 W13 hgo hex hret
     refine sim_loop ?_ _ _ _ _ _ hf3 ⟨⟨hg, hs, hd⟩, i0, i3, n3, i4, i5, i6, trivial⟩ Q13 W13 hgo hex hret
     clear hr hf3 hgo hex hret W13 hQ hg hs hd i0 i3 i4 i5 i6 n3
     intro s5 fl_ a k hr hS Q hQ hgo79 hex80 hret81
     obtain ⟨⟨hg, hs, hd⟩, i0, i3, n3, i4, i5, i6, _⟩ := hS
     unfold ref06_sorted_L2 at hr
     refine wp_seq ?_
     refine cutS (fun c l => Bs noF k0 72 c l ∧ IsV l_ (c.get 0) l ∧ IsOwn 0 3 s5.1 (c.get 3) l ∧ Lo k0 (obF (c.get 3)) ∧ IsV s1.2 (c.get 4) l ∧ IsV s4 (c.get 5) l ∧ IsV s5.2 (c.get 6) l ∧ IsV (decide (s4 < s5.2)) (c.get 53) l ∧ True) ?_ ?_
     ·intro Q14 W14 w11
      refine gS 3 (_ :: _ :: _ :: []) hs (by kernel_rfl) ⟨mu rfl i6, mu rfl i5, o1 [(51, some 0), (52, some 1)] rfl fun _ _ h n => ok_gtr rfl n.1 n.2.1, trivial⟩ W14 fun b q p => ?_
      exact tail_done (k := q) (w11 _ _ ⟨Bs.post ⟨hg, hs, hd⟩ p, p.ke 0 rfl i0, p.ke 3 rfl i3, (by rw [p.old 3 rfl]; exact n3), p.ke 4 rfl i4, p.ke 5 rfl i5, p.ke 6 rfl i6, p.ou 2 53 rfl, trivial⟩)
     rintro a k ⟨⟨hg, hs, hd⟩, i0, i3, n3, i4, i5, i6, i53, _⟩
     refine wp_cond_split (isBool i53) (fun hc89 => ?_) (fun hc89 => ?_)
     ·rw [if_pos hc89] at hr
      refine wp_skip ?_
      refine wp_seq ?_
      refine wp_block ?_
      obtain ⟨x12, hx12, hr⟩ := bind_some hr
      obtain ⟨x13, hx13, hr⟩ := bind_some hr
      obtain ⟨x14, hx14, hr⟩ := bind_some hr
      obtain ⟨x15, hx15, hr⟩ := bind_some hr
      refine cut (fun a' k' => Bs noF k0 72 a' k' ∧ (IsV l_) (a'.get 0) k' ∧ IsOwn 0 3 x15 (a'.get 3) k' ∧ Lo k0 (obF (a'.get 3)) ∧ (IsV s1.2) (a'.get 4) k' ∧ (IsV s4) (a'.get 5) k' ∧ (IsV s5.2) (a'.get 6) k' ∧ True) ?_ hQ ?_
      ·intro Q15 W15 w12
       refine gS 8 (⟨some (OwnAt (a.get 3) 0 3 s5.1), [(3, none)]⟩ :: _ :: ⟨some (OwnAt (a.get 3) 0 3 s5.1), [(3, none)]⟩ :: _ :: _ :: _ :: _ :: ⟨some (IsAdrO (a.get 3) ((s5.2).toNat * Enc.sz Int)), [(56, some 0), (57, some 1)]⟩ :: []) hs (by kernel_rfl) ⟨ob1 rfl fun _ _ h n => ok_moveOA (.inl rfl) (ownAt n.1 (up i3 h n.1)), mu rfl i6, ob1 rfl fun _ _ h n => ok_moveOA (.inl rfl) (ownAt n.1 (up i3 h n.1)), mu rfl i6, o1 [(59, some 3)] rfl fun _ _ h n => ok_sub rfl n.1 (cI rfl) hx12, o1 [(58, some 2), (60, some 4)] rfl fun _ _ h n => ok_indexAddr rfl Try.underlying63 ty3 (IsOwn.rd (n.1).2) n.2.1 hx13, o1 [(61, some 5)] rfl fun _ _ h n => ok_load rfl ty3 n.1, ob1 rfl fun _ _ h n => ok_indexO rfl Try.underlying63 ty3 n.1 n.2.1 hx14, trivial⟩ W15 fun b q p => ?_
       have hgq := hg.then p.grow
       have hsb := p.size.trans hs
       have hdb := p.defers.trans hd
       have j0 := p.ke 0 rfl i0
       have j3 := p.ke 3 rfl i3
       have y3 : Lo k0 (obF (b.get 3)) := by rw [p.old 3 rfl]; exact n3
       have j4 := p.ke 4 rfl i4
       have j5 := p.ke 5 rfl i5
       have j6 := p.ke 6 rfl i6
       have j62 : (IsV x13) (b.get 62) q := p.ou 6 62 rfl
       have j63 : IsAdrO (a.get 3) ((s5.2).toNat * Enc.sz Int) (b.get 63) q := p.ou 7 63 rfl
       have eo : b.get 3 = a.get 3 := p.old 3 rfl
       have hns := j3.nshF
       refine tail_storeS (i := 8) (u := b.get 3) (m := (s5.2).toNat) (off := 0) rfl rfl rfl rfl szf3 (Upd.self (α := Int)) (by rw [eo]; exact j63) j3 (getI_spec hx14).2.1 j62 fun q2 hch hz => ?_
       replace hgq := hgq.step hch y3.wr
       have hle := hch.le hns
       replace j0 := Pers.pers hle j0
       replace j4 := Pers.pers hle j4
       replace j5 := Pers.pers hle j5
       replace j6 := Pers.pers hle j6
       replace j62 := Pers.pers hle j62
       replace j63 := Pers.pers hle j63
       replace j3 := hz
       rw [Option.some.inj hx15] at j3
       clear hns hle hch eo hz
       obtain ⟨q, hqq⟩ : ∃ q, q = q2 := ⟨q2, rfl⟩
       subst hqq
       exact tail_done (k := q) (w12 _ _ ⟨⟨hgq, hsb, hdb⟩, j0, j3, y3, j4, j5, j6, trivial⟩)
      rintro a k ⟨⟨hg, hs, hd⟩, i0, i3, n3, i4, i5, i6, _⟩
      obtain ⟨x16, hx16, hr⟩ := bind_some hr
      refine cut (fun a' k' => Bs noF k0 72 a' k' ∧ (IsV l_) (a'.get 0) k' ∧ IsOwn 0 3 x15 (a'.get 3) k' ∧ Lo k0 (obF (a'.get 3)) ∧ (IsV s1.2) (a'.get 4) k' ∧ (IsV s4) (a'.get 5) k' ∧ (IsV x16) (a'.get 6) k' ∧ True) ?_ hQ ?_
      ·intro Q16 W16 w13
       refine gS 3 (_ :: _ :: _ :: []) hs (by kernel_rfl) ⟨mu rfl i6, o1 [(54, some 0)] rfl fun _ _ h n => ok_sub rfl n.1 (cI rfl) hx16, cp 1 rfl rfl, trivial⟩ W16 fun b q p => ?_
       exact tail_done (k := q) (w13 _ _ ⟨Bs.post ⟨hg, hs, hd⟩ p, p.ke 0 rfl i0, p.ke 3 rfl i3, (by rw [p.old 3 rfl]; exact n3), p.ke 4 rfl i4, p.ke 5 rfl i5, p.ou 2 6 rfl, trivial⟩)
      rintro a k ⟨⟨hg, hs, hd⟩, i0, i3, n3, i4, i5, i6, _⟩
      exact hgo79 _ _ _ (Option.some.inj hr).symm ⟨⟨hg, hs, hd⟩, i0, i3, n3, i4, i5, i6, trivial⟩
     rw [if_neg (by rw [hc89]; decide)] at hr
     refine wp_exit ?_
     exact hex80 _ _ _ _ (Option.some.inj hr).symm ⟨rfl, ⟨hg, hs, hd⟩, i0, i3, n3, i4, i5, trivial⟩
    ·rintro r2 a k rfl hR
     dsimp only at hr
     simp at hr
    ·rintro _ _ _ rfl _
     simp at hr
    clear hf3
    rintro _ s6 a k rfl ⟨rfl, ⟨hg, hs, hd⟩, i0, i3, n3, i4, i5, _⟩
    dsimp only at hr
    obtain ⟨x17, hx17, hr⟩ := bind_some hr
    obtain ⟨x18, hx18, hr⟩ := bind_some hr
    obtain ⟨x19, hx19, hr⟩ := bind_some hr
    refine cut (fun a' k' => Bs noF k0 72 a' k' ∧ (IsV l_) (a'.get 0) k' ∧ IsOwn 0 3 x19 (a'.get 3) k' ∧ Lo k0 (obF (a'.get 3)) ∧ (IsV s1.2) (a'.get 4) k' ∧ True) ?_ hQ ?_
    ·intro Q17 W17 w14
     refine gS 7 (⟨some (OwnAt (a.get 3) 0 3 s6.1), [(3, none)]⟩ :: _ :: _ :: _ :: _ :: _ :: ⟨some (IsAdrO (a.get 3) ((s4).toNat * Enc.sz Int)), [(64, some 0), (65, some 1)]⟩ :: []) hs (by kernel_rfl) ⟨ob1 rfl fun _ _ h n => ok_moveOA (.inl rfl) (ownAt n.1 (up i3 h n.1)), mu rfl i5, mu rfl i0, mu rfl i4, o1 [(66, some 2), (67, some 3)] rfl fun _ _ h n => ok_indexAddr rfl Try.underlying63 ty3 (IsV.rd n.1) n.2.1 hx17, o1 [(68, some 4)] rfl fun _ _ h n => ok_load rfl ty3 n.1, ob1 rfl fun _ _ h n => ok_indexO rfl Try.underlying63 ty3 n.1 n.2.1 hx18, trivial⟩ W17 fun b q p => ?_
     have hgq := hg.then p.grow
     have hsb := p.size.trans hs
     have hdb := p.defers.trans hd
     have j0 := p.ke 0 rfl i0
     have j3 := p.ke 3 rfl i3
     have y3 : Lo k0 (obF (b.get 3)) := by rw [p.old 3 rfl]; exact n3
     have j4 := p.ke 4 rfl i4
     have j69 : (IsV x17) (b.get 69) q := p.ou 5 69 rfl
     have j70 : IsAdrO (a.get 3) ((s4).toNat * Enc.sz Int) (b.get 70) q := p.ou 6 70 rfl
     have eo : b.get 3 = a.get 3 := p.old 3 rfl
     have hns := j3.nshF
     refine tail_storeS (i := 7) (u := b.get 3) (m := (s4).toNat) (off := 0) rfl rfl rfl rfl szf3 (Upd.self (α := Int)) (by rw [eo]; exact j70) j3 (getI_spec hx18).2.1 j69 fun q2 hch hz => ?_
     replace hgq := hgq.step hch y3.wr
     have hle := hch.le hns
     replace j0 := Pers.pers hle j0
     replace j4 := Pers.pers hle j4
     replace j69 := Pers.pers hle j69
     replace j70 := Pers.pers hle j70
     replace j3 := hz
     rw [Option.some.inj hx19] at j3
     clear hns hle hch eo hz
     obtain ⟨q, hqq⟩ : ∃ q, q = q2 := ⟨q2, rfl⟩
     subst hqq
     exact tail_done (k := q) (w14 _ _ ⟨⟨hgq, hsb, hdb⟩, j0, j3, y3, j4, trivial⟩)
    rintro a k ⟨⟨hg, hs, hd⟩, i0, i3, n3, i4, _⟩
    obtain rfl := Option.some.inj hr
    exact w4 _ _ ⟨⟨hg, hs, hd⟩, i0, i3, n3, i4, trivial⟩
   clear hs2
   rintro a k ⟨⟨hg, hs, hd⟩, i0, i3, n3, i4, _⟩
   obtain ⟨x20, hx20, hr⟩ := bind_some hr
   refine cut (fun a' k' => Bs noF k0 72 a' k' ∧ (IsV l_) (a'.get 0) k' ∧ IsOwn 0 3 s2 (a'.get 3) k' ∧ Lo k0 (obF (a'.get 3)) ∧ (IsV x20) (a'.get 4) k' ∧ True) ?_ hQ ?_
   ·intro Q18 W18 w15
    refine gS 3 (_ :: _ :: _ :: []) hs (by kernel_rfl) ⟨mu rfl i4, o1 [(11, some 0)] rfl fun _ _ h n => ok_add rfl n.1 (cI rfl) hx20, cp 1 rfl rfl, trivial⟩ W18 fun b q p => ?_
    exact tail_done (k := q) (w15 _ _ ⟨Bs.post ⟨hg, hs, hd⟩ p, p.ke 0 rfl i0, p.ke 3 rfl i3, (by rw [p.old 3 rfl]; exact n3), p.ou 2 4 rfl, trivial⟩)
   rintro a k ⟨⟨hg, hs, hd⟩, i0, i3, n3, i4, _⟩
   exact hgo55 _ _ _ (Option.some.inj hr).symm ⟨⟨hg, hs, hd⟩, i0, i3, n3, i4, trivial⟩
  rw [if_neg (by rw [hc115]; decide)] at hr
  refine wp_exit ?_
  obtain ⟨kk, sh114, ii3⟩ := i3.give
  replace i3 := ii3
  replace hg := hg.hand sh114 n3.wr
  rw [← sh114.w]
  clear sh114
  obtain ⟨k, hkk⟩ : ∃ k, k = kk := ⟨kk, rfl⟩
  subst hkk
  exact hex56 _ _ _ _ (Option.some.inj hr).symm ⟨rfl, ⟨hg, hs, hd⟩, i3, trivial⟩
 ·rintro r3 a k rfl hR
  dsimp only at hr
  obtain rfl := Option.some.inj hr
  exact hR
 ·rintro _ _ _ rfl _
  simp at hr
 clear hf1
 rintro _ s7 a k rfl ⟨rfl, ⟨hg, hs, hd⟩, i3, _⟩
 dsimp only at hr
 refine stepL 2 (_ :: _ :: []) rfl ⟨hg, hs, hd⟩ (by kernel_rfl) ⟨mu rfl i3, cp 0 rfl rfl, trivial⟩ [⟨_, _⟩] (fun b q p => ⟨p.ou 1 2 rfl, trivial⟩) ?_
 rintro a k ⟨⟨hg, hs, hd⟩, i2, _⟩
 refine wp_ret ?_
 obtain rfl := Option.some.inj hr
 exact retC1 rfl hd hg i2
def ref06_edges_L0 (a_ : (List Rect)) (s1 : (List Int) × Int) : Option (Flow ((List Int) × Int) ((List Int))) :=
 if (decide (s1.2 < (a_.length : Int))) then
  (getI a_ s1.2).bind fun x1 =>
  (getI a_ s1.2).bind fun x2 =>
  (appI s1.1 ([x1.X0, x2.X1])).bind fun x3 =>
  (addI s1.2 1).bind fun x4 =>
  some (.go (x3, x4))
 else
  some (.ex 0 (s1.1, s1.2))
def ref06_edges_L1 (b_ : (List Rect)) (s1 : (List Int) × Int) : Option (Flow ((List Int) × Int) ((List Int))) :=
 if (decide (s1.2 < (b_.length : Int))) then
  (getI b_ s1.2).bind fun x1 =>
  (getI b_ s1.2).bind fun x2 =>
  (appI s1.1 ([x1.X0, x2.X1])).bind fun x3 =>
  (addI s1.2 1).bind fun x4 =>
  some (.go (x3, x4))
 else
  some (.ex 2 (s1.1, s1.2))
def ref06_edges (a_ : (List Rect)) (b_ : (List Rect)) : Option ((List Int)) :=
 (iterL (ref06_edges_L0 a_) (a_.length + b_.length + ([] : List Int).length + 1) (([] : List Int), 0)).bind fun f1 => match f1 with
  | .go _ => none
  | .ex _ s1 =>
   (iterL (ref06_edges_L1 b_) (b_.length + s1.1.length + 1) (s1.1, 0)).bind fun f2 => match f2 with
    | .go _ => none
    | .ex _ s2 =>
     (ref06_sorted s2.1).bind fun x1 =>
     some x1
    | .ret r1 => some r1
  | .ret r2 => some r2
theorem ref06_edges_ok {k0 : K} {v0 v1 : Value} {a_ : (List Rect)} {b_ : (List Rect)} {r : (List Int)} (i0 : (IsV a_) v0 k0) (i1 : (IsV b_) v1 k0) (hr : ref06_edges a_ b_ = some r) :
  Calls Try.prog 67 #[v0, v1] k0.w (Ret k0 (IsV r)) := by
 unfold ref06_edges at hr
 refine Ret.ofC ?_
 refine enterK Try.func67 rfl Try.ntmps67 (show 2 ≤ 48 by decide) fun a k hk0 hs hd ha => ?_
 obtain ⟨e0, e1, _⟩ := ha
 replace i0 : (IsV a_) (a.get 0) k := by rw [e0, hk0]; exact i0
 replace i1 : (IsV b_) (a.get 1) k := by rw [e1, hk0]; exact i1
 have hQ : Gb.LetsOut (bodyPost Try.prog Try.f67 (RetC noF k0 (IsV r))) := letsOutC
 have hg : Chg noF k0 k := by rw [hk0]; exact Chg.refl _ k0
 refine stepL 1 (⟨some IsE0, []⟩ :: []) rfl ⟨hg, hs, hd⟩ (by kernel_rfl) ⟨ob1 rfl fun b q h n => ok_assign rfl isE0_nil, trivial⟩ [⟨_, _⟩, ⟨_, _⟩] (fun b q p => ⟨p.ke 0 rfl i0, p.ke 1 rfl i1, trivial⟩) ?_
 rintro a k ⟨⟨hg, hs, hd⟩, i0, i1, _⟩
 refine cutS (fun c l => Bs noF k0 48 c l ∧ IsV a_ (c.get 0) l ∧ IsV b_ (c.get 1) l ∧ IsOwn 0 3 ([] : List Int) (c.get 5) l ∧ Lo k0 (obF (c.get 5)) ∧ True) ?_ ?_
 ·intro Q1 W1 w1
  refine gS 1 (⟨some IsE0, []⟩ :: []) hs (by kernel_rfl) ⟨ob1 rfl fun b q h n => ok_assign rfl isE0_nil, trivial⟩ W1 fun b q p => ?_
  have hgq := hg.then p.grow
  have hsb := p.size.trans hs
  have hdb := p.defers.trans hd
  have j0 := p.ke 0 rfl i0
  have j1 := p.ke 1 rfl i1
  have j5 : IsE0 (b.get 5) q := p.ou 0 5 rfl
  have y5 : Lo k0 (obF (b.get 5)) := j5.lo
  replace j5 : IsOwn 0 3 ([] : List Int) (b.get 5) q := j5.own0
  exact tail_done (k := q) (w1 _ _ ⟨⟨hgq, hsb, hdb⟩, j0, j1, j5, y5, trivial⟩)
 rintro a k ⟨⟨hg, hs, hd⟩, i0, i1, i5, n5, _⟩
 refine wp_seq ?_
 refine cutS (fun c l => Bs noF k0 48 c l ∧ IsV a_ (c.get 0) l ∧ IsV b_ (c.get 1) l ∧ IsOwn 0 3 ([] : List Int) (c.get 5) l ∧ Lo k0 (obF (c.get 5)) ∧ IsI 0 (c.get 6) l ∧ True) ?_ ?_
 ·intro Q2 W2 w2
  refine gS 1 (⟨some (IsI 0), []⟩ :: []) hs (by kernel_rfl) ⟨aI rfl rfl, trivial⟩ W2 fun b q p => ?_
  exact tail_done (k := q) (w2 _ _ ⟨Bs.post ⟨hg, hs, hd⟩ p, p.ke 0 rfl i0, p.ke 1 rfl i1, p.ke 5 rfl i5, (by rw [p.old 5 rfl]; exact n5), p.ou 0 6 rfl, trivial⟩)
 rintro a k ⟨⟨hg, hs, hd⟩, i0, i1, i5, n5, i6, _⟩
 refine wp_block ?_
 obtain ⟨f1, hf1, hr⟩ := bind_some hr
 refine cutFe f1 (fun s' c l => Bs noF k0 48 c l ∧ IsV a_ (c.get 0) l ∧ IsV b_ (c.get 1) l ∧ IsOwn 0 3 s'.1 (c.get 5) l ∧ Lo k0 (obF (c.get 5)) ∧ IsV s'.2 (c.get 6) l ∧ True) (fun i' s' c l => (i' = 0 ∧ Bs noF k0 48 c l ∧ IsV b_ (c.get 1) l ∧ IsOwn 0 3 s'.1 (c.get 5) l ∧ Lo k0 (obF (c.get 5)) ∧ True)) (fun r' c l => bodyPost Try.prog Try.f67 (RetC noF k0 (IsV r')) .ret c l.w) ?_ hQ ?_ ?_ ?_
 ·intro Q3 W3 hgo hex hret
  refine sim_loop ?_ _ _ _ _ _ hf1 ⟨⟨hg, hs, hd⟩, i0, i1, i5, n5, i6, trivial⟩ Q3 W3 hgo hex hret
  clear hr hf1 hgo hex hret W3 hQ hg hs hd i0 i1 i5 i6 n5
  intro s1 fl_ a k hr hS Q hQ hgo135 hex136 hret137
  obtain ⟨⟨hg, hs, hd⟩, i0, i1, i5, n5, i6, _⟩ := hS
  unfold ref06_edges_L0 at hr
  refine wp_seq ?_
  refine cutS (fun c l => Bs noF k0 48 c l ∧ IsV a_ (c.get 0) l ∧ IsV b_ (c.get 1) l ∧ IsOwn 0 3 s1.1 (c.get 5) l ∧ Lo k0 (obF (c.get 5)) ∧ IsV s1.2 (c.get 6) l ∧ (IsV (decide (s1.2 < (a_.length : Int)))) (c.get 11) l ∧ True) ?_ ?_
  ·intro Q4 W4 w3
   refine gS 4 (_ :: _ :: _ :: _ :: []) hs (by kernel_rfl) ⟨mu rfl i6, mu rfl i0, o1 [(9, some 1)] rfl fun _ _ h n => ok_len rfl rfl Try.underlying49 (IsV.rd n.1), o1 [(8, some 0), (10, some 2)] rfl fun _ _ h n => ok_lss rfl n.1 n.2.1, trivial⟩ W4 fun b q p => ?_
   exact tail_done (k := q) (w3 _ _ ⟨Bs.post ⟨hg, hs, hd⟩ p, p.ke 0 rfl i0, p.ke 1 rfl i1, p.ke 5 rfl i5, (by rw [p.old 5 rfl]; exact n5), p.ke 6 rfl i6, p.ou 3 11 rfl, trivial⟩)
  rintro a k ⟨⟨hg, hs, hd⟩, i0, i1, i5, n5, i6, i11, _⟩
  refine wp_cond_split (isBool i11) (fun hc145 => ?_) (fun hc145 => ?_)
  ·rw [if_pos hc145] at hr
   refine wp_skip ?_
   refine wp_seq ?_
   refine wp_block ?_
   obtain ⟨x1, hx1, hr⟩ := bind_some hr
   obtain ⟨x2, hx2, hr⟩ := bind_some hr
   obtain ⟨x3, hx3, hr⟩ := bind_some hr
   refine cut (fun a' k' => Bs noF k0 48 a' k' ∧ (IsV a_) (a'.get 0) k' ∧ (IsV b_) (a'.get 1) k' ∧ IsOwn 0 3 x3 (a'.get 5) k' ∧ Lo k0 (obF (a'.get 5)) ∧ (IsV s1.2) (a'.get 6) k' ∧ True) ?_ hQ ?_
   ·intro Q5 W5 w4
    refine region (m := 12) (⟨some (OwnAt (a.get 5) 0 3 s1.1), [(5, none)]⟩ :: _ :: _ :: _ :: _ :: _ :: _ :: _ :: _ :: _ :: _ :: ⟨some (IsV (α := (List Int)) ([x1.X0, x2.X1])), [(19, some 5), (24, some 10)]⟩ :: []) hmix hs (by kernel_rfl) ⟨ob1 rfl fun _ _ h n => ok_moveOA (.inl rfl) (ownAt n.1 (up i5 h n.1)), mu rfl i0, mu rfl i6, o1 [(15, some 1), (16, some 2)] rfl fun _ _ h n => ok_indexAddr rfl Try.underlying49 ty35 (IsV.rd n.1) n.2.1 hx1, o1 [(17, some 3)] rfl fun _ _ h n => ok_fieldAddr rfl fo35_0 (at_Rect_0 _) n.1, o1 [(18, some 4)] rfl fun _ _ h n => ok_load rfl ty3 n.1, mu rfl i0, mu rfl i6, o1 [(20, some 6), (21, some 7)] rfl fun _ _ h n => ok_indexAddr rfl Try.underlying49 ty35 (IsV.rd n.1) n.2.1 hx2, o1 [(22, some 8)] rfl fun _ _ h n => ok_fieldAddr rfl fo35_2 (at_Rect_2 _) n.1, o1 [(23, some 9)] rfl fun _ _ h n => ok_load rfl ty3 n.1, ob1 rfl fun _ _ h n => ok_buildSlice rfl Try.underlying63 eo3 rfl (by decide) (by decide) ⟨rfl, n.1, rfl, n.2.1, trivial⟩, trivial⟩ W5 fun b q p => ?_
    have hgq := hg.then p.grow
    have hsb := p.size.trans hs
    have hdb := p.defers.trans hd
    have j0 := p.ke 0 rfl i0
    have j1 := p.ke 1 rfl i1
    have j6 := p.ke 6 rfl i6
    have e14 : b.get 14 = a.get 5 := (p.ou 0 14 rfl).1
    have j14 : IsOwn 0 3 s1.1 (b.get 14) q := (p.ou 0 14 rfl).2
    have y14 : Lo k0 (obF (b.get 14)) := by rw [e14]; exact n5
    have j25 : (IsV (α := (List Int)) ([x1.X0, x2.X1])) (b.get 25) q := p.ou 11 25 rfl
    have hns := j14.nshF
    refine tail_appendS (i := 12) (d := 26) rfl rfl rfl rfl (by rw [hsb]; decide) (e := 3) Try.underlying63 eo3 j14 (IsV.rd j25) hx3 fun b2 q2 hsz hdf hoth hch hown hob => ?_
    have hle := hch.le hns
    have yn : Lo k0 (obF (b2.get 26)) := y14.app hgq hob
    replace j0 := Pers.pers hle j0
    replace j1 := Pers.pers hle j1
    replace j6 := Pers.pers hle j6
    replace j25 := Pers.pers hle j25
    replace hgq := hgq.step hch y14.wr
    rw [← hoth 0 (by decide)] at j0
    rw [← hoth 1 (by decide)] at j1
    rw [← hoth 6 (by decide)] at j6
    rw [← hoth 25 (by decide)] at j25
    have j26 := hown
    have y26 := yn
    replace hsb := hsz.trans hsb
    replace hdb := hdf.trans hdb
    clear hle hch hown hob hns yn hsz hdf hoth
    obtain ⟨b, hbb⟩ : ∃ b, b = b2 := ⟨b2, rfl⟩
    subst hbb
    obtain ⟨q, hqq⟩ : ∃ q, q = q2 := ⟨q2, rfl⟩
    subst hqq
    refine tail_assign (i := 13) (d := 5) rfl rfl (.inl rfl) rfl (by rw [hsb]; decide) fun b2 hsz hdf hnew hoth => ?_
    have jn : (IsOwn 0 3 x3) (b2.get 5) q := by rw [hnew]; exact j26
    have yn : Lo k0 (obF (b2.get 5)) := by rw [hnew]; exact y26
    rw [← hoth 0 (by decide)] at j0
    rw [← hoth 1 (by decide)] at j1
    rw [← hoth 6 (by decide)] at j6
    rw [← hoth 25 (by decide)] at j25
    have j5 := jn
    have y5 := yn
    replace hsb := hsz.trans hsb
    replace hdb := hdf.trans hdb
    clear hsz hdf hoth
    obtain ⟨b, hbb⟩ : ∃ b, b = b2 := ⟨b2, rfl⟩
    subst hbb
    exact tail_done (k := q) (w4 _ _ ⟨⟨hgq, hsb, hdb⟩, j0, j1, j5, y5, j6, trivial⟩)
   rintro a k ⟨⟨hg, hs, hd⟩, i0, i1, i5, n5, i6, _⟩
   obtain ⟨x4, hx4, hr⟩ := bind_some hr
   refine cut (fun a' k' => Bs noF k0 48 a' k' ∧ (IsV a_) (a'.get 0) k' ∧ (IsV b_) (a'.get 1) k' ∧ IsOwn 0 3 x3 (a'.get 5) k' ∧ Lo k0 (obF (a'.get 5)) ∧ (IsV x4) (a'.get 6) k' ∧ True) ?_ hQ ?_
   ·intro Q6 W6 w5
    refine gS 3 (_ :: _ :: _ :: []) hs (by kernel_rfl) ⟨mu rfl i6, o1 [(12, some 0)] rfl fun _ _ h n => ok_add rfl n.1 (cI rfl) hx4, cp 1 rfl rfl, trivial⟩ W6 fun b q p => ?_
    exact tail_done (k := q) (w5 _ _ ⟨Bs.post ⟨hg, hs, hd⟩ p, p.ke 0 rfl i0, p.ke 1 rfl i1, p.ke 5 rfl i5, (by rw [p.old 5 rfl]; exact n5), p.ou 2 6 rfl, trivial⟩)
   rintro a k ⟨⟨hg, hs, hd⟩, i0, i1, i5, n5, i6, _⟩
   exact hgo135 _ _ _ (Option.some.inj hr).symm ⟨⟨hg, hs, hd⟩, i0, i1, i5, n5, i6, trivial⟩
  rw [if_neg (by rw [hc145]; decide)] at hr
  refine wp_exit ?_
  exact hex136 _ _ _ _ (Option.some.inj hr).symm ⟨rfl, ⟨hg, hs, hd⟩, i1, i5, n5, trivial⟩
 ·rintro r1 a k rfl hR
  dsimp only at hr
  obtain rfl := Option.some.inj hr
  exact hR
 ·rintro _ _ _ rfl _
  simp at hr
 clear hf1
 rintro _ s2 a k rfl ⟨rfl, ⟨hg, hs, hd⟩, i1, i5, n5, _⟩
 dsimp only at hr
 refine wp_seq ?_
 refine cutS (fun c l => Bs noF k0 48 c l ∧ IsV b_ (c.get 1) l ∧ IsOwn 0 3 s2.1 (c.get 5) l ∧ Lo k0 (obF (c.get 5)) ∧ IsI 0 (c.get 7) l ∧ True) ?_ ?_
 ·intro Q7 W7 w6
  refine gS 1 (⟨some (IsI 0), []⟩ :: []) hs (by kernel_rfl) ⟨aI rfl rfl, trivial⟩ W7 fun b q p => ?_
  exact tail_done (k := q) (w6 _ _ ⟨Bs.post ⟨hg, hs, hd⟩ p, p.ke 1 rfl i1, p.ke 5 rfl i5, (by rw [p.old 5 rfl]; exact n5), p.ou 0 7 rfl, trivial⟩)
 rintro a k ⟨⟨hg, hs, hd⟩, i1, i5, n5, i7, _⟩
 refine wp_block ?_
 obtain ⟨f2, hf2, hr⟩ := bind_some hr
 refine cutFe f2 (fun s' c l => Bs noF k0 48 c l ∧ IsV b_ (c.get 1) l ∧ IsOwn 0 3 s'.1 (c.get 5) l ∧ Lo k0 (obF (c.get 5)) ∧ IsV s'.2 (c.get 7) l ∧ True) (fun i' s' c l => (i' = 2 ∧ Bs noF k0 48 c l ∧ IsV s'.1 (c.get 5) l ∧ True)) (fun r' c l => bodyPost Try.prog Try.f67 (RetC noF k0 (IsV r')) .ret c l.w) ?_ hQ ?_ ?_ ?_
 ·intro Q8 W8 hgo hex hret
  refine sim_loop ?_ _ _ _ _ _ hf2 ⟨⟨hg, hs, hd⟩, i1, i5, n5, i7, trivial⟩ Q8 W8 hgo hex hret
  clear hr hf2 hgo hex hret W8 hQ hg hs hd i1 i5 i7 n5
  intro s3 fl_ a k hr hS Q hQ hgo152 hex153 hret154
  obtain ⟨⟨hg, hs, hd⟩, i1, i5, n5, i7, _⟩ := hS
  unfold ref06_edges_L1 at hr
  refine wp_seq ?_
  refine cutS (fun c l => Bs noF k0 48 c l ∧ IsV b_ (c.get 1) l ∧ IsOwn 0 3 s3.1 (c.get 5) l ∧ Lo k0 (obF (c.get 5)) ∧ IsV s3.2 (c.get 7) l ∧ (IsV (decide (s3.2 < (b_.length : Int)))) (c.get 30) l ∧ True) ?_ ?_
  ·intro Q9 W9 w7
   refine gS 4 (_ :: _ :: _ :: _ :: []) hs (by kernel_rfl) ⟨mu rfl i7, mu rfl i1, o1 [(28, some 1)] rfl fun _ _ h n => ok_len rfl rfl Try.underlying49 (IsV.rd n.1), o1 [(27, some 0), (29, some 2)] rfl fun _ _ h n => ok_lss rfl n.1 n.2.1, trivial⟩ W9 fun b q p => ?_
   exact tail_done (k := q) (w7 _ _ ⟨Bs.post ⟨hg, hs, hd⟩ p, p.ke 1 rfl i1, p.ke 5 rfl i5, (by rw [p.old 5 rfl]; exact n5), p.ke 7 rfl i7, p.ou 3 30 rfl, trivial⟩)
  rintro a k ⟨⟨hg, hs, hd⟩, i1, i5, n5, i7, i30, _⟩
  refine wp_cond_split (isBool i30) (fun hc163 => ?_) (fun hc163 => ?_)
  ·rw [if_pos hc163] at hr
   refine wp_skip ?_
   refine wp_seq ?_
   refine wp_block ?_
   obtain ⟨x5, hx5, hr⟩ := bind_some hr
   obtain ⟨x6, hx6, hr⟩ := bind_some hr
   obtain ⟨x7, hx7, hr⟩ := bind_some hr
   refine cut (fun a' k' => Bs noF k0 48 a' k' ∧ (IsV b_) (a'.get 1) k' ∧ IsOwn 0 3 x7 (a'.get 5) k' ∧ Lo k0 (obF (a'.get 5)) ∧ (IsV s3.2) (a'.get 7) k' ∧ True) ?_ hQ ?_
   ·intro Q10 W10 w8
    refine region (m := 12) (⟨some (OwnAt (a.get 5) 0 3 s3.1), [(5, none)]⟩ :: _ :: _ :: _ :: _ :: _ :: _ :: _ :: _ :: _ :: _ :: ⟨some (IsV (α := (List Int)) ([x5.X0, x6.X1])), [(38, some 5), (43, some 10)]⟩ :: []) hmix hs (by kernel_rfl) ⟨ob1 rfl fun _ _ h n => ok_moveOA (.inl rfl) (ownAt n.1 (up i5 h n.1)), mu rfl i1, mu rfl i7, o1 [(34, some 1), (35, some 2)] rfl fun _ _ h n => ok_indexAddr rfl Try.underlying49 ty35 (IsV.rd n.1) n.2.1 hx5, o1 [(36, some 3)] rfl fun _ _ h n => ok_fieldAddr rfl fo35_0 (at_Rect_0 _) n.1, o1 [(37, some 4)] rfl fun _ _ h n => ok_load rfl ty3 n.1, mu rfl i1, mu rfl i7, o1 [(39, some 6), (40, some 7)] rfl fun _ _ h n => ok_indexAddr rfl Try.underlying49 ty35 (IsV.rd n.1) n.2.1 hx6, o1 [(41, some 8)] rfl fun _ _ h n => ok_fieldAddr rfl fo35_2 (at_Rect_2 _) n.1, o1 [(42, some 9)] rfl fun _ _ h n => ok_load rfl ty3 n.1, ob1 rfl fun _ _ h n => ok_buildSlice rfl Try.underlying63 eo3 rfl (by decide) (by decide) ⟨rfl, n.1, rfl, n.2.1, trivial⟩, trivial⟩ W10 fun b q p => ?_
    have hgq := hg.then p.grow
    have hsb := p.size.trans hs
    have hdb := p.defers.trans hd
    have j1 := p.ke 1 rfl i1
    have j7 := p.ke 7 rfl i7
    have e33 : b.get 33 = a.get 5 := (p.ou 0 33 rfl).1
    have j33 : IsOwn 0 3 s3.1 (b.get 33) q := (p.ou 0 33 rfl).2
    have y33 : Lo k0 (obF (b.get 33)) := by rw [e33]; exact n5
    have j44 : (IsV (α := (List Int)) ([x5.X0, x6.X1])) (b.get 44) q := p.ou 11 44 rfl
    have hns := j33.nshF
    refine tail_appendS (i := 12) (d := 45) rfl rfl rfl rfl (by rw [hsb]; decide) (e := 3) Try.underlying63 eo3 j33 (IsV.rd j44) hx7 fun b2 q2 hsz hdf hoth hch hown hob => ?_
    have hle := hch.le hns
    have yn : Lo k0 (obF (b2.get 45)) := y33.app hgq hob
    replace j1 := Pers.pers hle j1
    replace j7 := Pers.pers hle j7
    replace j44 := Pers.pers hle j44
    replace hgq := hgq.step hch y33.wr
    rw [← hoth 1 (by decide)] at j1
    rw [← hoth 7 (by decide)] at j7
    rw [← hoth 44 (by decide)] at j44
    have j45 := hown
    have y45 := yn
    replace hsb := hsz.trans hsb
    replace hdb := hdf.trans hdb
    clear hle hch hown hob hns yn hsz hdf hoth
    obtain ⟨b, hbb⟩ : ∃ b, b = b2 := ⟨b2, rfl⟩
    subst hbb
    obtain ⟨q, hqq⟩ : ∃ q, q = q2 := ⟨q2, rfl⟩
    subst hqq
    refine tail_assign (i := 13) (d := 5) rfl rfl (.inl rfl) rfl (by rw [hsb]; decide) fun b2 hsz hdf hnew hoth => ?_
    have jn : (IsOwn 0 3 x7) (b2.get 5) q := by rw [hnew]; exact j45
    have yn : Lo k0 (obF (b2.get 5)) := by rw [hnew]; exact y45
    rw [← hoth 1 (by decide)] at j1
    rw [← hoth 7 (by decide)] at j7
    rw [← hoth 44 (by decide)] at j44
    have j5 := jn
    have y5 := yn
    replace hsb := hsz.trans hsb
    replace hdb := hdf.trans hdb
    clear hsz hdf hoth
    obtain ⟨b, hbb⟩ : ∃ b, b = b2 := ⟨b2, rfl⟩
    subst hbb
    exact tail_done (k := q) (w8 _ _ ⟨⟨hgq, hsb, hdb⟩, j1, j5, y5, j7, trivial⟩)
   rintro a k ⟨⟨hg, hs, hd⟩, i1, i5, n5, i7, _⟩
   obtain ⟨x8, hx8, hr⟩ := bind_some hr
   refine cut (fun a' k' => Bs noF k0 48 a' k' ∧ (IsV b_) (a'.get 1) k' ∧ IsOwn 0 3 x7 (a'.get 5) k' ∧ Lo k0 (obF (a'.get 5)) ∧ (IsV x8) (a'.get 7) k' ∧ True) ?_ hQ ?_
   ·intro Q11 W11 w9
    refine gS 3 (_ :: _ :: _ :: []) hs (by kernel_rfl) ⟨mu rfl i7, o1 [(31, some 0)] rfl fun _ _ h n => ok_add rfl n.1 (cI rfl) hx8, cp 1 rfl rfl, trivial⟩ W11 fun b q p => ?_
    exact tail_done (k := q) (w9 _ _ ⟨Bs.post ⟨hg, hs, hd⟩ p, p.ke 1 rfl i1, p.ke 5 rfl i5, (by rw [p.old 5 rfl]; exact n5), p.ou 2 7 rfl, trivial⟩)
   rintro a k ⟨⟨hg, hs, hd⟩, i1, i5, n5, i7, _⟩
   exact hgo152 _ _ _ (Option.some.inj hr).symm ⟨⟨hg, hs, hd⟩, i1, i5, n5, i7, trivial⟩
  rw [if_neg (by rw [hc163]; decide)] at hr
  refine wp_exit ?_
  obtain ⟨kk, sh162, ii5⟩ := i5.give
  replace i5 := ii5
  replace hg := hg.hand sh162 n5.wr
  rw [← sh162.w]
  clear sh162
  obtain ⟨k, hkk⟩ : ∃ k, k = kk := ⟨kk, rfl⟩
  subst hkk
  exact hex153 _ _ _ _ (Option.some.inj hr).symm ⟨rfl, ⟨hg, hs, hd⟩, i5, trivial⟩
 ·rintro r2 a k rfl hR
  dsimp only at hr
  obtain rfl := Option.some.inj hr
  exact hR
 ·rintro _ _ _ rfl _
  simp at hr
 clear hf2
 rintro _ s4 a k rfl ⟨rfl, ⟨hg, hs, hd⟩, i5, _⟩
 dsimp only at hr
 refine wp_seq ?_
 obtain ⟨x9, hx9, hr⟩ := bind_some hr
 refine cut (fun a' k' => Bs noF k0 48 a' k' ∧ (IsV x9) (a'.get 4) k' ∧ True) ?_ hQ ?_
 ·intro Q12 W12 w10
  refine gS 3 (_ :: _ :: _ :: []) hs (by kernel_rfl) ⟨mu rfl i5, o1 [(46, some 0)] rfl fun _ _ h n => ok_call rfl Try.call86 (ref06_sorted_ok n.1 hx9), cp 1 rfl rfl, trivial⟩ W12 fun b q p => ?_
  exact tail_done (k := q) (w10 _ _ ⟨Bs.post ⟨hg, hs, hd⟩ p, p.ou 2 4 rfl, trivial⟩)
 rintro a k ⟨⟨hg, hs, hd⟩, i4, _⟩
 refine wp_ret ?_
 obtain rfl := Option.some.inj hr
 exact retC1 rfl hd hg i4
def ref06_column_L1 (l_ : (List Rect)) (s1 : (List Int) × (List Int) × Int) (s2 : (List Int) × (List Int) × Int) : Option (Flow ((List Int) × (List Int) × Int) ((List Int))) :=
 (if (decide (0 < s2.2.2)) then
  (subI s2.2.2 1).bind fun x1 =>
  (getI s2.1 x1).bind fun x2 =>
  (getI l_ s1.2.2).bind fun x3 =>
  some (decide (x3.Y0 < x2))
 else
  some false).bind fun x4 =>
 if x4 then
  (subI s2.2.2 1).bind fun x5 =>
  (getI s2.1 x5).bind fun x6 =>
  (getI s2.1 s2.2.2).bind fun x7 =>
  (some (s2.1.set (s2.2.2).toNat x6)).bind fun x8 =>
  (subI s2.2.2 1).bind fun x9 =>
  (getI s2.2.1 x9).bind fun x10 =>
  (getI s2.2.1 s2.2.2).bind fun x11 =>
  (some (s2.2.1.set (s2.2.2).toNat x10)).bind fun x12 =>
  (subI s2.2.2 1).bind fun x13 =>
  some (.go (x8, x12, x13))
 else
  some (.ex 2 (s2.1, s2.2.1, s2.2.2))
def ref06_column_L0 (l_ : (List Rect)) (x_ : Int) (s1 : (List Int) × (List Int) × Int) : Option (Flow ((List Int) × (List Int) × Int) ((List Int))) :=
 if (decide (s1.2.2 < (l_.length : Int))) then
  ((getI l_ s1.2.2).bind fun x1 =>
  (if (decide (x_ < x1.X0)) then
   some true
  else
   (getI l_ s1.2.2).bind fun x2 =>
   some (decide (x2.X1 ≤ x_))).bind fun x3 =>
  if x3 then
   some (s1.1, s1.2.1)
  else
   (appI s1.1 ([0])).bind fun x4 =>
   (appI s1.2.1 ([0])).bind fun x5 =>
   (iterL (ref06_column_L1 l_ s1) (l_.length + x4.length + x5.length + 1) (x4, x5, (s1.1.length : Int))).bind fun f1 => match f1 with
    | .go _ => none
    | .ex _ s2 =>
     (getI l_ s1.2.2).bind fun x6 =>
     (getI s2.1 s2.2.2).bind fun x7 =>
     (some (s2.1.set (s2.2.2).toNat x6.Y0)).bind fun x8 =>
     (getI l_ s1.2.2).bind fun x9 =>
     (getI s2.2.1 s2.2.2).bind fun x10 =>
     (some (s2.2.1.set (s2.2.2).toNat x9.Y1)).bind fun x11 =>
     some (x8, x11)
    | .ret r1 => none).bind fun s3 =>
  (addI s1.2.2 1).bind fun x12 =>
  some (.go (s3.1, s3.2, x12))
 else
  some (.ex 0 (s1.1, s1.2.1, s1.2.2))
def ref06_column_L2 (s1 : (List Int) × (List Int) × Int) (s2 : (List Int) × Int) : Option (Flow ((List Int) × Int) ((List Int))) :=
 if (decide (s2.2 < (s1.1.length : Int))) then
  ((if (decide (0 < (s2.1.length : Int))) then
   (getI s1.1 s2.2).bind fun x1 =>
   (subI (s2.1.length : Int) 1).bind fun x2 =>
   (getI s2.1 x2).bind fun x3 =>
   some (decide (x1 ≤ x3))
  else
   some false).bind fun x4 =>
  if x4 then
   (subI (s2.1.length : Int) 1).bind fun x5 =>
   (subI (s2.1.length : Int) 1).bind fun x6 =>
   (getI s2.1 x6).bind fun x7 =>
   (getI s1.2.1 s2.2).bind fun x8 =>
   (getI s2.1 x5).bind fun x9 =>
   (some (s2.1.set (x5).toNat (max x7 x8))).bind fun x10 =>
   some x10
  else
   (getI s1.1 s2.2).bind fun x11 =>
   (getI s1.2.1 s2.2).bind fun x12 =>
   (appI s2.1 ([x11, x12])).bind fun x13 =>
   some x13).bind fun s3 =>
  (addI s2.2 1).bind fun x14 =>
  some (.go (s3, x14))
 else
  some (.ex 4 (s2.1, s2.2))
def ref06_column (l_ : (List Rect)) (x_ : Int) : Option ((List Int)) :=
 (iterL (ref06_column_L0 l_ x_) (l_.length + ([] : List Int).length + ([] : List Int).length + 1) (([] : List Int), ([] : List Int), 0)).bind fun f1 => match f1 with
  | .go _ => none
  | .ex _ s1 =>
   (iterL (ref06_column_L2 s1) (s1.1.length + s1.2.1.length + ([] : List Int).length + 1) (([] : List Int), 0)).bind fun f2 => match f2 with
    | .go _ => none
    | .ex _ s2 =>
     some s2.1
    | .ret r1 => some r1
  | .ret r2 => some r2
theorem ref06_column_ok {k0 : K} {v0 v1 : Value} {l_ : (List Rect)} {x_ : Int} {r : (List Int)} (i0 : (IsV l_) v0 k0) (i1 : (IsV x_) v1 k0) (hr : ref06_column l_ x_ = some r) :
  Calls Try.prog 69 #[v0, v1] k0.w (Ret k0 (IsV r)) := by
 unfold ref06_column at hr
 refine Ret.ofC ?_
 refine enterK Try.func69 rfl Try.ntmps69 (show 2 ≤ 140 by decide) fun a k hk0 hs hd ha => ?_
 obtain ⟨e0, e1, _⟩ := ha
 replace i0 : (IsV l_) (a.get 0) k := by rw [e0, hk0]; exact i0
 replace i1 : (IsV x_) (a.get 1) k := by rw [e1, hk0]; exact i1
 have hQ : Gb.LetsOut (bodyPost Try.prog Try.f69 (RetC noF k0 (IsV r))) := letsOutC
 have hg : Chg noF k0 k := by rw [hk0]; exact Chg.refl _ k0
 refine stepL 1 (⟨some IsE0, []⟩ :: []) rfl ⟨hg, hs, hd⟩ (by kernel_rfl) ⟨ob1 rfl fun b q h n => ok_assign rfl isE0_nil, trivial⟩ [⟨_, _⟩, ⟨_, _⟩] (fun b q p => ⟨p.ke 0 rfl i0, p.ke 1 rfl i1, trivial⟩) ?_
 rintro a k ⟨⟨hg, hs, hd⟩, i0, i1, _⟩
 refine cutS (fun c l => Bs noF k0 140 c l ∧ IsV l_ (c.get 0) l ∧ IsV x_ (c.get 1) l ∧ IsOwn 0 3 ([] : List Int) (c.get 5) l ∧ Lo k0 (obF (c.get 5)) ∧ True) ?_ ?_
 ·intro Q1 W1 w1
  refine gS 1 (⟨some IsE0, []⟩ :: []) hs (by kernel_rfl) ⟨ob1 rfl fun b q h n => ok_assign rfl isE0_nil, trivial⟩ W1 fun b q p => ?_
  have hgq := hg.then p.grow
  have hsb := p.size.trans hs
  have hdb := p.defers.trans hd
  have j0 := p.ke 0 rfl i0
  have j1 := p.ke 1 rfl i1
  have j5 : IsE0 (b.get 5) q := p.ou 0 5 rfl
  have y5 : Lo k0 (obF (b.get 5)) := j5.lo
  replace j5 : IsOwn 0 3 ([] : List Int) (b.get 5) q := j5.own0
  exact tail_done (k := q) (w1 _ _ ⟨⟨hgq, hsb, hdb⟩, j0, j1, j5, y5, trivial⟩)
 rintro a k ⟨⟨hg, hs, hd⟩, i0, i1, i5, n5, _⟩
 refine cutS (fun c l => Bs noF k0 140 c l ∧ IsV l_ (c.get 0) l ∧ IsV x_ (c.get 1) l ∧ IsOwn 0 3 ([] : List Int) (c.get 5) l ∧ Lo k0 (obF (c.get 5)) ∧ IsOwn 0 3 ([] : List Int) (c.get 6) l ∧ Lo k0 (obF (c.get 6)) ∧ Apart (obF (c.get 5)) (obF (c.get 6)) ∧ True) ?_ ?_
 ·intro Q2 W2 w2
  refine gS 1 (⟨some IsE0, []⟩ :: []) hs (by kernel_rfl) ⟨ob1 rfl fun b q h n => ok_assign rfl isE0_nil, trivial⟩ W2 fun b q p => ?_
  have hgq := hg.then p.grow
  have hsb := p.size.trans hs
  have hdb := p.defers.trans hd
  have j0 := p.ke 0 rfl i0
  have j1 := p.ke 1 rfl i1
  have j5 := p.ke 5 rfl i5
  have y5 : Lo k0 (obF (b.get 5)) := by rw [p.old 5 rfl]; exact n5
  have j6 : IsE0 (b.get 6) q := p.ou 0 6 rfl
  have y6 : Lo k0 (obF (b.get 6)) := j6.lo
  have w5_6 : Apart (obF (b.get 5)) (obF (b.get 6)) := j6.apart.symm
  replace j6 : IsOwn 0 3 ([] : List Int) (b.get 6) q := j6.own0
  exact tail_done (k := q) (w2 _ _ ⟨⟨hgq, hsb, hdb⟩, j0, j1, j5, y5, j6, y6, w5_6, trivial⟩)
 rintro a k ⟨⟨hg, hs, hd⟩, i0, i1, i5, n5, i6, n6, d5_6, _⟩
 refine wp_seq ?_
 refine cutS (fun c l => Bs noF k0 140 c l ∧ IsV l_ (c.get 0) l ∧ IsV x_ (c.get 1) l ∧ IsOwn 0 3 ([] : List Int) (c.get 5) l ∧ Lo k0 (obF (c.get 5)) ∧ IsOwn 0 3 ([] : List Int) (c.get 6) l ∧ Lo k0 (obF (c.get 6)) ∧ IsI 0 (c.get 7) l ∧ Apart (obF (c.get 5)) (obF (c.get 6)) ∧ True) ?_ ?_
 ·intro Q3 W3 w3
  refine gS 1 (⟨some (IsI 0), []⟩ :: []) hs (by kernel_rfl) ⟨aI rfl rfl, trivial⟩ W3 fun b q p => ?_
  exact tail_done (k := q) (w3 _ _ ⟨Bs.post ⟨hg, hs, hd⟩ p, p.ke 0 rfl i0, p.ke 1 rfl i1, p.ke 5 rfl i5, (by rw [p.old 5 rfl]; exact n5), p.ke 6 rfl i6, (by rw [p.old 6 rfl]; exact n6), p.ou 0 7 rfl, (by rw [p.old 5 rfl, p.old 6 rfl]; exact d5_6), trivial⟩)
 rintro a k ⟨⟨hg, hs, hd⟩, i0, i1, i5, n5, i6, n6, i7, d5_6, _⟩
 refine wp_block ?_
 obtain ⟨f1, hf1, hr⟩ := bind_some hr
 refine cutFe f1 (fun s' c l => Bs noF k0 140 c l ∧ IsV l_ (c.get 0) l ∧ IsV x_ (c.get 1) l ∧ IsOwn 0 3 s'.1 (c.get 5) l ∧ Lo k0 (obF (c.get 5)) ∧ IsOwn 0 3 s'.2.1 (c.get 6) l ∧ Lo k0 (obF (c.get 6)) ∧ IsV s'.2.2 (c.get 7) l ∧ Apart (obF (c.get 5)) (obF (c.get 6)) ∧ True) (fun i' s' c l => (i' = 0 ∧ Bs noF k0 140 c l ∧ IsV s'.1 (c.get 5) l ∧ IsV s'.2.1 (c.get 6) l ∧ True)) (fun r' c l => bodyPost Try.prog Try.f69 (RetC noF k0 (IsV r')) .ret c l.w) ?_ hQ ?_ ?_ ?_
 ·intro Q4 W4 hgo hex hret
  refine sim_loop ?_ _ _ _ _ _ hf1 ⟨⟨hg, hs, hd⟩, i0, i1, i5, n5, i6, n6, i7, d5_6, trivial⟩ Q4 W4 hgo hex hret
  clear hr hf1 hgo hex hret W4 hQ hg hs hd d5_6 i0 i1 i5 i6 i7 n5 n6
  intro s1 fl_ a k hr hS Q hQ hgo188 hex189 hret190
  obtain ⟨⟨hg, hs, hd⟩, i0, i1, i5, n5, i6, n6, i7, d5_6, _⟩ := hS
  unfold ref06_column_L0 at hr
  refine wp_seq ?_
  refine cutS (fun c l => Bs noF k0 140 c l ∧ IsV l_ (c.get 0) l ∧ IsV x_ (c.get 1) l ∧ IsOwn 0 3 s1.1 (c.get 5) l ∧ Lo k0 (obF (c.get 5)) ∧ IsOwn 0 3 s1.2.1 (c.get 6) l ∧ Lo k0 (obF (c.get 6)) ∧ IsV s1.2.2 (c.get 7) l ∧ (IsV (decide (s1.2.2 < (l_.length : Int)))) (c.get 14) l ∧ Apart (obF (c.get 5)) (obF (c.get 6)) ∧ True) ?_ ?_
  ·intro Q5 W5 w4
   refine gS 4 (_ :: _ :: _ :: _ :: []) hs (by kernel_rfl) ⟨mu rfl i7, mu rfl i0, o1 [(12, some 1)] rfl fun _ _ h n => ok_len rfl rfl Try.underlying49 (IsV.rd n.1), o1 [(11, some 0), (13, some 2)] rfl fun _ _ h n => ok_lss rfl n.1 n.2.1, trivial⟩ W5 fun b q p => ?_
   exact tail_done (k := q) (w4 _ _ ⟨Bs.post ⟨hg, hs, hd⟩ p, p.ke 0 rfl i0, p.ke 1 rfl i1, p.ke 5 rfl i5, (by rw [p.old 5 rfl]; exact n5), p.ke 6 rfl i6, (by rw [p.old 6 rfl]; exact n6), p.ke 7 rfl i7, p.ou 3 14 rfl, (by rw [p.old 5 rfl, p.old 6 rfl]; exact d5_6), trivial⟩)
  rintro a k ⟨⟨hg, hs, hd⟩, i0, i1, i5, n5, i6, n6, i7, i14, d5_6, _⟩
  refine wp_cond_split (isBool i14) (fun hc240 => ?_) (fun hc240 => ?_)
  ·rw [if_pos hc240] at hr
   refine wp_skip ?_
   refine wp_seq ?_
   obtain ⟨s2, hs2, hr⟩ := bind_some hr
   refine cut (fun a' k' => Bs noF k0 140 a' k' ∧ (IsV l_) (a'.get 0) k' ∧ (IsV x_) (a'.get 1) k' ∧ IsOwn 0 3 s2.1 (a'.get 5) k' ∧ Lo k0 (obF (a'.get 5)) ∧ IsOwn 0 3 s2.2 (a'.get 6) k' ∧ Lo k0 (obF (a'.get 6)) ∧ (IsV s1.2.2) (a'.get 7) k' ∧ Apart (obF (a'.get 5)) (obF (a'.get 6)) ∧ True) ?_ hQ ?_
   ·intro Q6 W6 w5
    replace hr := hs2
    clear hQ
    have hQ := W6
    refine wp_block ?_
    refine wp_seq ?_
    refine wp_seq ?_
    obtain ⟨x1, hx1, hr⟩ := bind_some hr
    obtain ⟨x2, hx2, hr⟩ := bind_some hr
    obtain ⟨x3, hx3, hx2⟩ := ite_bindF hx2
    refine cut (fun a' k' => Bs noF k0 140 a' k' ∧ (IsV l_) (a'.get 0) k' ∧ (IsV x_) (a'.get 1) k' ∧ IsOwn 0 3 s1.1 (a'.get 5) k' ∧ Lo k0 (obF (a'.get 5)) ∧ IsOwn 0 3 s1.2.1 (a'.get 6) k' ∧ Lo k0 (obF (a'.get 6)) ∧ (IsV s1.2.2) (a'.get 7) k' ∧ (IsV x2) (a'.get 32) k' ∧ Apart (obF (a'.get 5)) (obF (a'.get 6)) ∧ True) ?_ hQ ?_
    ·intro Q7 W7 w6
     refine gS 16 (_ :: _ :: _ :: _ :: _ :: _ :: _ :: _ :: _ :: _ :: _ :: _ :: _ :: _ :: _ :: _ :: []) hs (by kernel_rfl) ⟨mu rfl i0, mu rfl i7, o1 [(17, some 0), (18, some 1)] rfl fun _ _ h n => ok_indexAddr rfl Try.underlying49 ty35 (IsV.rd n.1) n.2.1 hx1, o1 [(19, some 2)] rfl fun _ _ h n => ok_fieldAddr rfl fo35_0 (at_Rect_0 _) n.1, o1 [(20, some 3)] rfl fun _ _ h n => ok_load rfl ty3 n.1, mu rfl i1, o1 [(21, some 4), (22, some 5)] rfl fun _ _ h n => ok_gtr rfl n.1 n.2.1, cm 6 rfl rfl, mF rfl rfl i0, mF rfl rfl i7, gF [(25, some 8), (26, some 9)] rfl rfl fun hp _ _ h n => ok_indexAddr rfl Try.underlying49 ty35 (IsV.rd (Gd.get n.1 hp)) (Gd.get n.2.1 hp) (hx3 hp), gF [(27, some 10)] rfl rfl fun hp _ _ h n => ok_fieldAddr rfl fo35_2 (at_Rect_2 _) (Gd.get n.1 hp), gF [(28, some 11)] rfl rfl fun hp _ _ h n => ok_load rfl ty3 (Gd.get n.1 hp), mF rfl rfl i1, gF [(29, some 12), (30, some 13)] rfl rfl fun hp _ _ h n => ok_leq rfl (Gd.get n.1 hp) (Gd.get n.2.1 hp), o1 [(24, some 7), (31, some 14)] rfl fun _ _ h n => ok_pickM rfl n.1 hx2 (cB rfl) (Gd.get n.2.1), trivial⟩ W7 fun b q p => ?_
     exact tail_done (k := q) (w6 _ _ ⟨Bs.post ⟨hg, hs, hd⟩ p, p.ke 0 rfl i0, p.ke 1 rfl i1, p.ke 5 rfl i5, (by rw [p.old 5 rfl]; exact n5), p.ke 6 rfl i6, (by rw [p.old 6 rfl]; exact n6), p.ke 7 rfl i7, p.ou 15 32 rfl, (by rw [p.old 5 rfl, p.old 6 rfl]; exact d5_6), trivial⟩)
    rintro a k ⟨⟨hg, hs, hd⟩, i0, i1, i5, n5, i6, n6, i7, i32, d5_6, _⟩
    refine wp_cond_split (isBool i32) (fun hc231 => ?_) (fun hc231 => ?_)
    ·rw [if_pos hc231] at hr
     refine wp_exit ?_
     obtain rfl := Option.some.inj hr
     exact w5 _ _ ⟨⟨hg, hs, hd⟩, i0, i1, i5, n5, i6, n6, i7, d5_6, trivial⟩
    rw [if_neg (by rw [hc231]; decide)] at hr
    refine wp_skip ?_
    refine cutS (fun c l => Bs noF k0 140 c l ∧ IsV l_ (c.get 0) l ∧ IsV x_ (c.get 1) l ∧ IsOwn 0 3 s1.1 (c.get 5) l ∧ Lo k0 (obF (c.get 5)) ∧ IsOwn 0 3 s1.2.1 (c.get 6) l ∧ Lo k0 (obF (c.get 6)) ∧ IsV s1.2.2 (c.get 7) l ∧ IsI (s1.1.length : Int) (c.get 8) l ∧ Apart (obF (c.get 5)) (obF (c.get 6)) ∧ True) ?_ ?_
    ·intro Q8 W8 w7
     refine gS 3 (⟨some (OwnAt (a.get 5) 0 3 s1.1), [(5, none)]⟩ :: _ :: _ :: []) hs (by kernel_rfl) ⟨ob1 rfl fun _ _ h n => ok_moveOA (.inl rfl) (ownAt n.1 (up i5 h n.1)), o1 [(33, some 0)] rfl fun _ _ h n => ok_len rfl rfl Try.underlying63 (IsOwn.rd (n.1).2), cp 1 rfl rfl, trivial⟩ W8 fun b q p => ?_
     exact tail_done (k := q) (w7 _ _ ⟨Bs.post ⟨hg, hs, hd⟩ p, p.ke 0 rfl i0, p.ke 1 rfl i1, p.ke 5 rfl i5, (by rw [p.old 5 rfl]; exact n5), p.ke 6 rfl i6, (by rw [p.old 6 rfl]; exact n6), p.ke 7 rfl i7, p.ou 2 8 rfl, (by rw [p.old 5 rfl, p.old 6 rfl]; exact d5_6), trivial⟩)
    rintro a k ⟨⟨hg, hs, hd⟩, i0, i1, i5, n5, i6, n6, i7, i8, d5_6, _⟩
    refine wp_seq ?_
    obtain ⟨x4, hx4, hr⟩ := bind_some hr
    refine cut (fun a' k' => Bs noF k0 140 a' k' ∧ (IsV l_) (a'.get 0) k' ∧ (IsV x_) (a'.get 1) k' ∧ IsOwn 0 3 x4 (a'.get 5) k' ∧ Lo k0 (obF (a'.get 5)) ∧ IsOwn 0 3 s1.2.1 (a'.get 6) k' ∧ Lo k0 (obF (a'.get 6)) ∧ (IsV s1.2.2) (a'.get 7) k' ∧ (IsI (s1.1.length : Int)) (a'.get 8) k' ∧ Apart (obF (a'.get 5)) (obF (a'.get 6)) ∧ True) ?_ hQ ?_
    ·intro Q9 W9 w8
     refine gS 2 (⟨some (OwnAt (a.get 5) 0 3 s1.1), [(5, none)]⟩ :: ⟨some (IsV (α := (List Int)) ([0])), []⟩ :: []) hs (by kernel_rfl) ⟨ob1 rfl fun _ _ h n => ok_moveOA (.inl rfl) (ownAt n.1 (up i5 h n.1)), ob1 rfl fun _ _ h n => ok_buildSlice rfl Try.underlying63 eo3 rfl (by decide) (by decide) ⟨rfl, (cI rfl), trivial⟩, trivial⟩ W9 fun b q p => ?_
     have hgq := hg.then p.grow
     have hsb := p.size.trans hs
     have hdb := p.defers.trans hd
     have j0 := p.ke 0 rfl i0
     have j1 := p.ke 1 rfl i1
     have j6 := p.ke 6 rfl i6
     have y6 : Lo k0 (obF (b.get 6)) := by rw [p.old 6 rfl]; exact n6
     have j7 := p.ke 7 rfl i7
     have j8 := p.ke 8 rfl i8
     have e35 : b.get 35 = a.get 5 := (p.ou 0 35 rfl).1
     have j35 : IsOwn 0 3 s1.1 (b.get 35) q := (p.ou 0 35 rfl).2
     have y35 : Lo k0 (obF (b.get 35)) := by rw [e35]; exact n5
     have j36 : (IsV (α := (List Int)) ([0])) (b.get 36) q := p.ou 1 36 rfl
     have w6_35 : Apart (obF (b.get 6)) (obF (b.get 35)) := by rw [p.old 6 rfl, e35]; exact (d5_6.symm)
     have hns := j35.nshF
     refine tail_appendS (i := 2) (d := 37) rfl rfl rfl rfl (by rw [hsb]; decide) (e := 3) Try.underlying63 eo3 j35 (IsV.rd j36) hx4 fun b2 q2 hsz hdf hoth hch hown hob => ?_
     have hle := hch.le hns
     have yn : Lo k0 (obF (b2.get 37)) := y35.app hgq hob
     have v6 : Apart (obF (b.get 6)) (obF (b2.get 37)) := Apart.app w6_35 j6.ltF hob
     replace j0 := Pers.pers hle j0
     replace j1 := Pers.pers hle j1
     replace j6 := j6.keep hch w6_35 hns
     replace j7 := Pers.pers hle j7
     replace j8 := Pers.pers hle j8
     replace j36 := Pers.pers hle j36
     replace hgq := hgq.step hch y35.wr
     rw [← hoth 0 (by decide)] at j0
     rw [← hoth 1 (by decide)] at j1
     rw [← hoth 6 (by decide)] at j6
     rw [← hoth 6 (by decide)] at y6
     rw [← hoth 7 (by decide)] at j7
     rw [← hoth 8 (by decide)] at j8
     rw [← hoth 36 (by decide)] at j36
     rw [← hoth 6 (by decide)] at v6
     have w6_37 := v6
     have j37 := hown
     have y37 := yn
     replace hsb := hsz.trans hsb
     replace hdb := hdf.trans hdb
     clear hle hch hown hob hns yn hsz hdf hoth
     obtain ⟨b, hbb⟩ : ∃ b, b = b2 := ⟨b2, rfl⟩
     subst hbb
     obtain ⟨q, hqq⟩ : ∃ q, q = q2 := ⟨q2, rfl⟩
     subst hqq
     refine tail_assign (i := 3) (d := 5) rfl rfl (.inl rfl) rfl (by rw [hsb]; decide) fun b2 hsz hdf hnew hoth => ?_
     have jn : (IsOwn 0 3 x4) (b2.get 5) q := by rw [hnew]; exact j37
     have yn : Lo k0 (obF (b2.get 5)) := by rw [hnew]; exact y37
     have v6 : Apart (obF (b.get 6)) (obF (b2.get 5)) := by rw [hnew]; exact w6_37
     rw [← hoth 0 (by decide)] at j0
     rw [← hoth 1 (by decide)] at j1
     rw [← hoth 6 (by decide)] at j6
     rw [← hoth 6 (by decide)] at y6
     rw [← hoth 7 (by decide)] at j7
     rw [← hoth 8 (by decide)] at j8
     rw [← hoth 36 (by decide)] at j36
     rw [← hoth 6 (by decide)] at v6
     have w5_6 := v6.symm
     have j5 := jn
     have y5 := yn
     replace hsb := hsz.trans hsb
     replace hdb := hdf.trans hdb
     clear hsz hdf hoth
     obtain ⟨b, hbb⟩ : ∃ b, b = b2 := ⟨b2, rfl⟩
     subst hbb
     exact tail_done (k := q) (w8 _ _ ⟨⟨hgq, hsb, hdb⟩, j0, j1, j5, y5, j6, y6, j7, j8, w5_6, trivial⟩)
    rintro a k ⟨⟨hg, hs, hd⟩, i0, i1, i5, n5, i6, n6, i7, i8, d5_6, _⟩
    refine wp_seq ?_
    obtain ⟨x5, hx5, hr⟩ := bind_some hr
    refine cut (fun a' k' => Bs noF k0 140 a' k' ∧ (IsV l_) (a'.get 0) k' ∧ (IsV x_) (a'.get 1) k' ∧ IsOwn 0 3 x4 (a'.get 5) k' ∧ Lo k0 (obF (a'.get 5)) ∧ IsOwn 0 3 x5 (a'.get 6) k' ∧ Lo k0 (obF (a'.get 6)) ∧ (IsV s1.2.2) (a'.get 7) k' ∧ (IsI (s1.1.length : Int)) (a'.get 8) k' ∧ Apart (obF (a'.get 5)) (obF (a'.get 6)) ∧ True) ?_ hQ ?_
    ·intro Q10 W10 w9
     refine gS 2 (⟨some (OwnAt (a.get 6) 0 3 s1.2.1), [(6, none)]⟩ :: ⟨some (IsV (α := (List Int)) ([0])), []⟩ :: []) hs (by kernel_rfl) ⟨ob1 rfl fun _ _ h n => ok_moveOA (.inl rfl) (ownAt n.1 (up i6 h n.1)), ob1 rfl fun _ _ h n => ok_buildSlice rfl Try.underlying63 eo3 rfl (by decide) (by decide) ⟨rfl, (cI rfl), trivial⟩, trivial⟩ W10 fun b q p => ?_
     have hgq := hg.then p.grow
     have hsb := p.size.trans hs
     have hdb := p.defers.trans hd
     have j0 := p.ke 0 rfl i0
     have j1 := p.ke 1 rfl i1
     have j5 := p.ke 5 rfl i5
     have y5 : Lo k0 (obF (b.get 5)) := by rw [p.old 5 rfl]; exact n5
     have j7 := p.ke 7 rfl i7
     have j8 := p.ke 8 rfl i8
     have e38 : b.get 38 = a.get 6 := (p.ou 0 38 rfl).1
     have j38 : IsOwn 0 3 s1.2.1 (b.get 38) q := (p.ou 0 38 rfl).2
     have y38 : Lo k0 (obF (b.get 38)) := by rw [e38]; exact n6
     have j39 : (IsV (α := (List Int)) ([0])) (b.get 39) q := p.ou 1 39 rfl
     have w5_38 : Apart (obF (b.get 5)) (obF (b.get 38)) := by rw [p.old 5 rfl, e38]; exact d5_6
     have hns := j38.nshF
     refine tail_appendS (i := 2) (d := 40) rfl rfl rfl rfl (by rw [hsb]; decide) (e := 3) Try.underlying63 eo3 j38 (IsV.rd j39) hx5 fun b2 q2 hsz hdf hoth hch hown hob => ?_
     have hle := hch.le hns
     have yn : Lo k0 (obF (b2.get 40)) := y38.app hgq hob
     have v5 : Apart (obF (b.get 5)) (obF (b2.get 40)) := Apart.app w5_38 j5.ltF hob
     replace j0 := Pers.pers hle j0
     replace j1 := Pers.pers hle j1
     replace j5 := j5.keep hch w5_38 hns
     replace j7 := Pers.pers hle j7
     replace j8 := Pers.pers hle j8
     replace j39 := Pers.pers hle j39
     replace hgq := hgq.step hch y38.wr
     rw [← hoth 0 (by decide)] at j0
     rw [← hoth 1 (by decide)] at j1
     rw [← hoth 5 (by decide)] at j5
     rw [← hoth 5 (by decide)] at y5
     rw [← hoth 7 (by decide)] at j7
     rw [← hoth 8 (by decide)] at j8
     rw [← hoth 39 (by decide)] at j39
     rw [← hoth 5 (by decide)] at v5
     have w5_40 := v5
     have j40 := hown
     have y40 := yn
     replace hsb := hsz.trans hsb
     replace hdb := hdf.trans hdb
     clear hle hch hown hob hns yn hsz hdf hoth
     obtain ⟨b, hbb⟩ : ∃ b, b = b2 := ⟨b2, rfl⟩
     subst hbb
     obtain ⟨q, hqq⟩ : ∃ q, q = q2 := ⟨q2, rfl⟩
     subst hqq
     refine tail_assign (i := 3) (d := 6) rfl rfl (.inl rfl) rfl (by rw [hsb]; decide) fun b2 hsz hdf hnew hoth => ?_
     have jn : (IsOwn 0 3 x5) (b2.get 6) q := by rw [hnew]; exact j40
     have yn : Lo k0 (obF (b2.get 6)) := by rw [hnew]; exact y40
     have v5 : Apart (obF (b.get 5)) (obF (b2.get 6)) := by rw [hnew]; exact w5_40
     rw [← hoth 0 (by decide)] at j0
     rw [← hoth 1 (by decide)] at j1
     rw [← hoth 5 (by decide)] at j5
     rw [← hoth 5 (by decide)] at y5
     rw [← hoth 7 (by decide)] at j7
     rw [← hoth 8 (by decide)] at j8
     rw [← hoth 39 (by decide)] at j39
     rw [← hoth 5 (by decide)] at v5
     have w5_6 := v5
     have j6 := jn
     have y6 := yn
     replace hsb := hsz.trans hsb
     replace hdb := hdf.trans hdb
     clear hsz hdf hoth
     obtain ⟨b, hbb⟩ : ∃ b, b = b2 := ⟨b2, rfl⟩
     subst hbb
     exact tail_done (k := q) (w9 _ _ ⟨⟨hgq, hsb, hdb⟩, j0, j1, j5, y5, j6, y6, j7, j8, w5_6, trivial⟩)
    rintro a k ⟨⟨hg, hs, hd⟩, i0, i1, i5, n5, i6, n6, i7, i8, d5_6, _⟩
    refine wp_seq ?_
    refine wp_block ?_
    obtain ⟨f2, hf2, hr⟩ := bind_some hr
    refine cutFe f2 (fun s' c l => Bs noF k0 140 c l ∧ IsV l_ (c.get 0) l ∧ IsV x_ (c.get 1) l ∧ IsOwn 0 3 s'.1 (c.get 5) l ∧ Lo k0 (obF (c.get 5)) ∧ IsOwn 0 3 s'.2.1 (c.get 6) l ∧ Lo k0 (obF (c.get 6)) ∧ IsV s1.2.2 (c.get 7) l ∧ IsV s'.2.2 (c.get 8) l ∧ Apart (obF (c.get 5)) (obF (c.get 6)) ∧ True) (fun i' s' c l => (i' = 2 ∧ Bs noF k0 140 c l ∧ IsV l_ (c.get 0) l ∧ IsV x_ (c.get 1) l ∧ IsOwn 0 3 s'.1 (c.get 5) l ∧ Lo k0 (obF (c.get 5)) ∧ IsOwn 0 3 s'.2.1 (c.get 6) l ∧ Lo k0 (obF (c.get 6)) ∧ IsV s1.2.2 (c.get 7) l ∧ IsV s'.2.2 (c.get 8) l ∧ Apart (obF (c.get 5)) (obF (c.get 6)) ∧ True)) (fun r' c l => bodyPost Try.prog Try.f69 (RetC noF k0 (IsV r')) .ret c l.w) ?_ hQ ?_ ?_ ?_
    ·intro Q11 W11 hgo hex hret
     refine sim_loop ?_ _ _ _ _ _ hf2 ⟨⟨hg, hs, hd⟩, i0, i1, i5, n5, i6, n6, i7, i8, d5_6, trivial⟩ Q11 W11 hgo hex hret
     clear hr hf2 hgo hex hret W11 hQ hg hs hd d5_6 i0 i1 i5 i6 i7 i8 n5 n6
     intro s3 fl_ a k hr hS Q hQ hgo199 hex200 hret201
     obtain ⟨⟨hg, hs, hd⟩, i0, i1, i5, n5, i6, n6, i7, i8, d5_6, _⟩ := hS
     unfold ref06_column_L1 at hr
     refine wp_seq ?_
     refine wp_seq ?_
     obtain ⟨x6, hx6, hr⟩ := bind_some hr
     obtain ⟨x7, hx7, hx6⟩ := ite_bind hx6
     obtain ⟨x8, hx8, hx6⟩ := ite_bind hx6
     obtain ⟨x9, hx9, hx6⟩ := ite_bind hx6
     refine cut (fun a' k' => Bs noF k0 140 a' k' ∧ (IsV l_) (a'.get 0) k' ∧ (IsV x_) (a'.get 1) k' ∧ IsOwn 0 3 s3.1 (a'.get 5) k' ∧ Lo k0 (obF (a'.get 5)) ∧ IsOwn 0 3 s3.2.1 (a'.get 6) k' ∧ Lo k0 (obF (a'.get 6)) ∧ (IsV s1.2.2) (a'.get 7) k' ∧ (IsV s3.2.2) (a'.get 8) k' ∧ (IsV x6) (a'.get 55) k' ∧ Apart (obF (a'.get 5)) (obF (a'.get 6)) ∧ True) ?_ hQ ?_
     ·intro Q12 W12 w10
      refine region (m := 15) (_ :: _ :: _ :: ⟨some (Gd ((decide (0 < s3.2.2)) = true) (OwnAt (a.get 5) 0 3 s3.1)), [(5, none)]⟩ :: _ :: _ :: _ :: _ :: _ :: _ :: _ :: _ :: _ :: _ :: _ :: []) hmix hs (by kernel_rfl) ⟨mu rfl i8, o1 [(41, some 0)] rfl fun _ _ h n => ok_gtr rfl n.1 (cI rfl), cm 1 rfl rfl, gdT rfl rfl fun hp _ _ h n => ok_moveOA (.inl rfl) (ownAt n.1 (up i5 h n.1)), mT rfl rfl i8, gT [(45, some 4)] rfl rfl fun hp _ _ h n => ok_sub rfl (Gd.get n.1 hp) (cI rfl) (hx7 hp), gT [(44, some 3), (46, some 5)] rfl rfl fun hp _ _ h n => ok_indexAddr rfl Try.underlying63 ty3 (IsOwn.rd ((Gd.get n.1 hp)).2) (Gd.get n.2.1 hp) (hx8 hp), gT [(47, some 6)] rfl rfl fun hp _ _ h n => ok_load rfl ty3 (Gd.get n.1 hp), mT rfl rfl i0, mT rfl rfl i7, gT [(49, some 8), (50, some 9)] rfl rfl fun hp _ _ h n => ok_indexAddr rfl Try.underlying49 ty35 (IsV.rd (Gd.get n.1 hp)) (Gd.get n.2.1 hp) (hx9 hp), gT [(51, some 10)] rfl rfl fun hp _ _ h n => ok_fieldAddr rfl fo35_1 (at_Rect_1 _) (Gd.get n.1 hp), gT [(52, some 11)] rfl rfl fun hp _ _ h n => ok_load rfl ty3 (Gd.get n.1 hp), gT [(48, some 7), (53, some 12)] rfl rfl fun hp _ _ h n => ok_gtr rfl (Gd.get n.1 hp) (Gd.get n.2.1 hp), o1 [(43, some 2), (54, some 13)] rfl fun _ _ h n => ok_pickM rfl n.1 hx6 (Gd.get n.2.1) (cB rfl), trivial⟩ W12 fun b q p => ?_
      exact tail_done (k := q) (w10 _ _ ⟨Bs.post ⟨hg, hs, hd⟩ p, p.ke 0 rfl i0, p.ke 1 rfl i1, p.ke 5 rfl i5, (by rw [p.old 5 rfl]; exact n5), p.ke 6 rfl i6, (by rw [p.old 6 rfl]; exact n6), p.ke 7 rfl i7, p.ke 8 rfl i8, p.ou 14 55 rfl, (by rw [p.old 5 rfl, p.old 6 rfl]; exact d5_6), trivial⟩)
     rintro a k ⟨⟨hg, hs, hd⟩, i0, i1, i5, n5, i6, n6, i7, i8, i55, d5_6, _⟩
     refine wp_cond_split (isBool i55) (fun hc212 => ?_) (fun hc212 => ?_)
     ·rw [if_pos hc212] at hr
      refine wp_skip ?_
      refine wp_block ?_
      refine wp_seq ?_
      obtain ⟨x10, hx10, hr⟩ := bind_some hr
      obtain ⟨x11, hx11, hr⟩ := bind_some hr
      obtain ⟨x12, hx12, hr⟩ := bind_some hr
      obtain ⟨x13, hx13, hr⟩ := bind_some hr
      refine cut (fun a' k' => Bs noF k0 140 a' k' ∧ (IsV l_) (a'.get 0) k' ∧ (IsV x_) (a'.get 1) k' ∧ IsOwn 0 3 x13 (a'.get 5) k' ∧ Lo k0 (obF (a'.get 5)) ∧ IsOwn 0 3 s3.2.1 (a'.get 6) k' ∧ Lo k0 (obF (a'.get 6)) ∧ (IsV s1.2.2) (a'.get 7) k' ∧ (IsV s3.2.2) (a'.get 8) k' ∧ Apart (obF (a'.get 5)) (obF (a'.get 6)) ∧ True) ?_ hQ ?_
      ·intro Q13 W13 w11
       refine gS 8 (⟨some (OwnAt (a.get 5) 0 3 s3.1), [(5, none)]⟩ :: _ :: ⟨some (OwnAt (a.get 5) 0 3 s3.1), [(5, none)]⟩ :: _ :: _ :: _ :: _ :: ⟨some (IsAdrO (a.get 5) ((s3.2.2).toNat * Enc.sz Int)), [(56, some 0), (57, some 1)]⟩ :: []) hs (by kernel_rfl) ⟨ob1 rfl fun _ _ h n => ok_moveOA (.inl rfl) (ownAt n.1 (up i5 h n.1)), mu rfl i8, ob1 rfl fun _ _ h n => ok_moveOA (.inl rfl) (ownAt n.1 (up i5 h n.1)), mu rfl i8, o1 [(59, some 3)] rfl fun _ _ h n => ok_sub rfl n.1 (cI rfl) hx10, o1 [(58, some 2), (60, some 4)] rfl fun _ _ h n => ok_indexAddr rfl Try.underlying63 ty3 (IsOwn.rd (n.1).2) n.2.1 hx11, o1 [(61, some 5)] rfl fun _ _ h n => ok_load rfl ty3 n.1, ob1 rfl fun _ _ h n => ok_indexO rfl Try.underlying63 ty3 n.1 n.2.1 hx12, trivial⟩ W13 fun b q p => ?_
       have hgq := hg.then p.grow
       have hsb := p.size.trans hs
       have hdb := p.defers.trans hd
       have j0 := p.ke 0 rfl i0
       have j1 := p.ke 1 rfl i1
       have j5 := p.ke 5 rfl i5
       have y5 : Lo k0 (obF (b.get 5)) := by rw [p.old 5 rfl]; exact n5
       have j6 := p.ke 6 rfl i6
       have y6 : Lo k0 (obF (b.get 6)) := by rw [p.old 6 rfl]; exact n6
       have j7 := p.ke 7 rfl i7
       have j8 := p.ke 8 rfl i8
       have j62 : (IsV x11) (b.get 62) q := p.ou 6 62 rfl
       have j63 : IsAdrO (a.get 5) ((s3.2.2).toNat * Enc.sz Int) (b.get 63) q := p.ou 7 63 rfl
       have w5_6 : Apart (obF (b.get 5)) (obF (b.get 6)) := by rw [p.old 5 rfl, p.old 6 rfl]; exact d5_6
       have eo : b.get 5 = a.get 5 := p.old 5 rfl
       have hns := j5.nshF
       refine tail_storeS (i := 8) (u := b.get 5) (m := (s3.2.2).toNat) (off := 0) rfl rfl rfl rfl szf3 (Upd.self (α := Int)) (by rw [eo]; exact j63) j5 (getI_spec hx12).2.1 j62 fun q2 hch hz => ?_
       replace hgq := hgq.step hch y5.wr
       have hle := hch.le hns
       replace j0 := Pers.pers hle j0
       replace j1 := Pers.pers hle j1
       replace j6 := j6.keep hch (w5_6.symm) hns
       replace j7 := Pers.pers hle j7
       replace j8 := Pers.pers hle j8
       replace j62 := Pers.pers hle j62
       replace j63 := Pers.pers hle j63
       replace j5 := hz
       rw [Option.some.inj hx13] at j5
       clear hns hle hch eo hz
       obtain ⟨q, hqq⟩ : ∃ q, q = q2 := ⟨q2, rfl⟩
       subst hqq
       exact tail_done (k := q) (w11 _ _ ⟨⟨hgq, hsb, hdb⟩, j0, j1, j5, y5, j6, y6, j7, j8, w5_6, trivial⟩)
      rintro a k ⟨⟨hg, hs, hd⟩, i0, i1, i5, n5, i6, n6, i7, i8, d5_6, _⟩
      refine wp_seq ?_
      obtain ⟨x14, hx14, hr⟩ := bind_some hr
      obtain ⟨x15, hx15, hr⟩ := bind_some hr
      obtain ⟨x16, hx16, hr⟩ := bind_some hr
      obtain ⟨x17, hx17, hr⟩ := bind_some hr
      refine cut (fun a' k' => Bs noF k0 140 a' k' ∧ (IsV l_) (a'.get 0) k' ∧ (IsV x_) (a'.get 1) k' ∧ IsOwn 0 3 x13 (a'.get 5) k' ∧ Lo k0 (obF (a'.get 5)) ∧ IsOwn 0 3 x17 (a'.get 6) k' ∧ Lo k0 (obF (a'.get 6)) ∧ (IsV s1.2.2) (a'.get 7) k' ∧ (IsV s3.2.2) (a'.get 8) k' ∧ Apart (obF (a'.get 5)) (obF (a'.get 6)) ∧ True) ?_ hQ ?_
      ·intro Q14 W14 w12
       refine gS 8 (⟨some (OwnAt (a.get 6) 0 3 s3.2.1), [(6, none)]⟩ :: _ :: ⟨some (OwnAt (a.get 6) 0 3 s3.2.1), [(6, none)]⟩ :: _ :: _ :: _ :: _ :: ⟨some (IsAdrO (a.get 6) ((s3.2.2).toNat * Enc.sz Int)), [(64, some 0), (65, some 1)]⟩ :: []) hs (by kernel_rfl) ⟨ob1 rfl fun _ _ h n => ok_moveOA (.inl rfl) (ownAt n.1 (up i6 h n.1)), mu rfl i8, ob1 rfl fun _ _ h n => ok_moveOA (.inl rfl) (ownAt n.1 (up i6 h n.1)), mu rfl i8, o1 [(67, some 3)] rfl fun _ _ h n => ok_sub rfl n.1 (cI rfl) hx14, o1 [(66, some 2), (68, some 4)] rfl fun _ _ h n => ok_indexAddr rfl Try.underlying63 ty3 (IsOwn.rd (n.1).2) n.2.1 hx15, o1 [(69, some 5)] rfl fun _ _ h n => ok_load rfl ty3 n.1, ob1 rfl fun _ _ h n => ok_indexO rfl Try.underlying63 ty3 n.1 n.2.1 hx16, trivial⟩ W14 fun b q p => ?_
       have hgq := hg.then p.grow
       have hsb := p.size.trans hs
       have hdb := p.defers.trans hd
       have j0 := p.ke 0 rfl i0
       have j1 := p.ke 1 rfl i1
       have j5 := p.ke 5 rfl i5
       have y5 : Lo k0 (obF (b.get 5)) := by rw [p.old 5 rfl]; exact n5
       have j6 := p.ke 6 rfl i6
       have y6 : Lo k0 (obF (b.get 6)) := by rw [p.old 6 rfl]; exact n6
       have j7 := p.ke 7 rfl i7
       have j8 := p.ke 8 rfl i8
       have j70 : (IsV x15) (b.get 70) q := p.ou 6 70 rfl
       have j71 : IsAdrO (a.get 6) ((s3.2.2).toNat * Enc.sz Int) (b.get 71) q := p.ou 7 71 rfl
       have w5_6 : Apart (obF (b.get 5)) (obF (b.get 6)) := by rw [p.old 5 rfl, p.old 6 rfl]; exact d5_6
       have eo : b.get 6 = a.get 6 := p.old 6 rfl
       have hns := j6.nshF
       refine tail_storeS (i := 8) (u := b.get 6) (m := (s3.2.2).toNat) (off := 0) rfl rfl rfl rfl szf3 (Upd.self (α := Int)) (by rw [eo]; exact j71) j6 (getI_spec hx16).2.1 j70 fun q2 hch hz => ?_
       replace hgq := hgq.step hch y6.wr
       have hle := hch.le hns
       replace j0 := Pers.pers hle j0
       replace j1 := Pers.pers hle j1
       replace j5 := j5.keep hch w5_6 hns
       replace j7 := Pers.pers hle j7
       replace j8 := Pers.pers hle j8
       replace j70 := Pers.pers hle j70
       replace j71 := Pers.pers hle j71
       replace j6 := hz
       rw [Option.some.inj hx17] at j6
       clear hns hle hch eo hz
       obtain ⟨q, hqq⟩ : ∃ q, q = q2 := ⟨q2, rfl⟩
       subst hqq
       exact tail_done (k := q) (w12 _ _ ⟨⟨hgq, hsb, hdb⟩, j0, j1, j5, y5, j6, y6, j7, j8, w5_6, trivial⟩)
      rintro a k ⟨⟨hg, hs, hd⟩, i0, i1, i5, n5, i6, n6, i7, i8, d5_6, _⟩
      obtain ⟨x18, hx18, hr⟩ := bind_some hr
      refine cut (fun a' k' => Bs noF k0 140 a' k' ∧ (IsV l_) (a'.get 0) k' ∧ (IsV x_) (a'.get 1) k' ∧ IsOwn 0 3 x13 (a'.get 5) k' ∧ Lo k0 (obF (a'.get 5)) ∧ IsOwn 0 3 x17 (a'.get 6) k' ∧ Lo k0 (obF (a'.get 6)) ∧ (IsV s1.2.2) (a'.get 7) k' ∧ (IsV x18) (a'.get 8) k' ∧ Apart (obF (a'.get 5)) (obF (a'.get 6)) ∧ True) ?_ hQ ?_
      ·intro Q15 W15 w13
       refine gS 3 (_ :: _ :: _ :: []) hs (by kernel_rfl) ⟨mu rfl i8, o1 [(72, some 0)] rfl fun _ _ h n => ok_sub rfl n.1 (cI rfl) hx18, cp 1 rfl rfl, trivial⟩ W15 fun b q p => ?_
       exact tail_done (k := q) (w13 _ _ ⟨Bs.post ⟨hg, hs, hd⟩ p, p.ke 0 rfl i0, p.ke 1 rfl i1, p.ke 5 rfl i5, (by rw [p.old 5 rfl]; exact n5), p.ke 6 rfl i6, (by rw [p.old 6 rfl]; exact n6), p.ke 7 rfl i7, p.ou 2 8 rfl, (by rw [p.old 5 rfl, p.old 6 rfl]; exact d5_6), trivial⟩)
      rintro a k ⟨⟨hg, hs, hd⟩, i0, i1, i5, n5, i6, n6, i7, i8, d5_6, _⟩
      exact hgo199 _ _ _ (Option.some.inj hr).symm ⟨⟨hg, hs, hd⟩, i0, i1, i5, n5, i6, n6, i7, i8, d5_6, trivial⟩
     rw [if_neg (by rw [hc212]; decide)] at hr
     refine wp_exit ?_
     exact hex200 _ _ _ _ (Option.some.inj hr).symm ⟨rfl, ⟨hg, hs, hd⟩, i0, i1, i5, n5, i6, n6, i7, i8, d5_6, trivial⟩
    ·rintro r1 a k rfl hR
     dsimp only at hr
     simp at hr
    ·rintro _ _ _ rfl _
     simp at hr
    clear hf2
    rintro _ s4 a k rfl ⟨rfl, ⟨hg, hs, hd⟩, i0, i1, i5, n5, i6, n6, i7, i8, d5_6, _⟩
    dsimp only at hr
    refine wp_seq ?_
    obtain ⟨x19, hx19, hr⟩ := bind_some hr
    obtain ⟨x20, hx20, hr⟩ := bind_some hr
    obtain ⟨x21, hx21, hr⟩ := bind_some hr
    refine cut (fun a' k' => Bs noF k0 140 a' k' ∧ (IsV l_) (a'.get 0) k' ∧ (IsV x_) (a'.get 1) k' ∧ IsOwn 0 3 x21 (a'.get 5) k' ∧ Lo k0 (obF (a'.get 5)) ∧ IsOwn 0 3 s4.2.1 (a'.get 6) k' ∧ Lo k0 (obF (a'.get 6)) ∧ (IsV s1.2.2) (a'.get 7) k' ∧ (IsV s4.2.2) (a'.get 8) k' ∧ Apart (obF (a'.get 5)) (obF (a'.get 6)) ∧ True) ?_ hQ ?_
    ·intro Q16 W16 w14
     refine gS 8 (⟨some (OwnAt (a.get 5) 0 3 s4.1), [(5, none)]⟩ :: _ :: _ :: _ :: _ :: _ :: _ :: ⟨some (IsAdrO (a.get 5) ((s4.2.2).toNat * Enc.sz Int)), [(74, some 0), (75, some 1)]⟩ :: []) hs (by kernel_rfl) ⟨ob1 rfl fun _ _ h n => ok_moveOA (.inl rfl) (ownAt n.1 (up i5 h n.1)), mu rfl i8, mu rfl i0, mu rfl i7, o1 [(76, some 2), (77, some 3)] rfl fun _ _ h n => ok_indexAddr rfl Try.underlying49 ty35 (IsV.rd n.1) n.2.1 hx19, o1 [(78, some 4)] rfl fun _ _ h n => ok_fieldAddr rfl fo35_1 (at_Rect_1 _) n.1, o1 [(79, some 5)] rfl fun _ _ h n => ok_load rfl ty3 n.1, ob1 rfl fun _ _ h n => ok_indexO rfl Try.underlying63 ty3 n.1 n.2.1 hx20, trivial⟩ W16 fun b q p => ?_
     have hgq := hg.then p.grow
     have hsb := p.size.trans hs
     have hdb := p.defers.trans hd
     have j0 := p.ke 0 rfl i0
     have j1 := p.ke 1 rfl i1
     have j5 := p.ke 5 rfl i5
     have y5 : Lo k0 (obF (b.get 5)) := by rw [p.old 5 rfl]; exact n5
     have j6 := p.ke 6 rfl i6
     have y6 : Lo k0 (obF (b.get 6)) := by rw [p.old 6 rfl]; exact n6
     have j7 := p.ke 7 rfl i7
     have j8 := p.ke 8 rfl i8
     have j80 : (IsV x19.Y0) (b.get 80) q := p.ou 6 80 rfl
     have j81 : IsAdrO (a.get 5) ((s4.2.2).toNat * Enc.sz Int) (b.get 81) q := p.ou 7 81 rfl
     have w5_6 : Apart (obF (b.get 5)) (obF (b.get 6)) := by rw [p.old 5 rfl, p.old 6 rfl]; exact d5_6
     have eo : b.get 5 = a.get 5 := p.old 5 rfl
     have hns := j5.nshF
     refine tail_storeS (i := 8) (u := b.get 5) (m := (s4.2.2).toNat) (off := 0) rfl rfl rfl rfl szf3 (Upd.self (α := Int)) (by rw [eo]; exact j81) j5 (getI_spec hx20).2.1 j80 fun q2 hch hz => ?_
     replace hgq := hgq.step hch y5.wr
     have hle := hch.le hns
     replace j0 := Pers.pers hle j0
     replace j1 := Pers.pers hle j1
     replace j6 := j6.keep hch (w5_6.symm) hns
     replace j7 := Pers.pers hle j7
     replace j8 := Pers.pers hle j8
     replace j80 := Pers.pers hle j80
     replace j81 := Pers.pers hle j81
     replace j5 := hz
     rw [Option.some.inj hx21] at j5
     clear hns hle hch eo hz
     obtain ⟨q, hqq⟩ : ∃ q, q = q2 := ⟨q2, rfl⟩
     subst hqq
     exact tail_done (k := q) (w14 _ _ ⟨⟨hgq, hsb, hdb⟩, j0, j1, j5, y5, j6, y6, j7, j8, w5_6, trivial⟩)
    rintro a k ⟨⟨hg, hs, hd⟩, i0, i1, i5, n5, i6, n6, i7, i8, d5_6, _⟩
    obtain ⟨x22, hx22, hr⟩ := bind_some hr
    obtain ⟨x23, hx23, hr⟩ := bind_some hr
    obtain ⟨x24, hx24, hr⟩ := bind_some hr
    refine cut (fun a' k' => Bs noF k0 140 a' k' ∧ (IsV l_) (a'.get 0) k' ∧ (IsV x_) (a'.get 1) k' ∧ IsOwn 0 3 x21 (a'.get 5) k' ∧ Lo k0 (obF (a'.get 5)) ∧ IsOwn 0 3 x24 (a'.get 6) k' ∧ Lo k0 (obF (a'.get 6)) ∧ (IsV s1.2.2) (a'.get 7) k' ∧ Apart (obF (a'.get 5)) (obF (a'.get 6)) ∧ True) ?_ hQ ?_
    ·intro Q17 W17 w15
     refine gS 8 (⟨some (OwnAt (a.get 6) 0 3 s4.2.1), [(6, none)]⟩ :: _ :: _ :: _ :: _ :: _ :: _ :: ⟨some (IsAdrO (a.get 6) ((s4.2.2).toNat * Enc.sz Int)), [(82, some 0), (83, some 1)]⟩ :: []) hs (by kernel_rfl) ⟨ob1 rfl fun _ _ h n => ok_moveOA (.inl rfl) (ownAt n.1 (up i6 h n.1)), mu rfl i8, mu rfl i0, mu rfl i7, o1 [(84, some 2), (85, some 3)] rfl fun _ _ h n => ok_indexAddr rfl Try.underlying49 ty35 (IsV.rd n.1) n.2.1 hx22, o1 [(86, some 4)] rfl fun _ _ h n => ok_fieldAddr rfl fo35_3 (at_Rect_3 _) n.1, o1 [(87, some 5)] rfl fun _ _ h n => ok_load rfl ty3 n.1, ob1 rfl fun _ _ h n => ok_indexO rfl Try.underlying63 ty3 n.1 n.2.1 hx23, trivial⟩ W17 fun b q p => ?_
     have hgq := hg.then p.grow
     have hsb := p.size.trans hs
     have hdb := p.defers.trans hd
     have j0 := p.ke 0 rfl i0
     have j1 := p.ke 1 rfl i1
     have j5 := p.ke 5 rfl i5
     have y5 : Lo k0 (obF (b.get 5)) := by rw [p.old 5 rfl]; exact n5
     have j6 := p.ke 6 rfl i6
     have y6 : Lo k0 (obF (b.get 6)) := by rw [p.old 6 rfl]; exact n6
     have j7 := p.ke 7 rfl i7
     have j88 : (IsV x22.Y1) (b.get 88) q := p.ou 6 88 rfl
     have j89 : IsAdrO (a.get 6) ((s4.2.2).toNat * Enc.sz Int) (b.get 89) q := p.ou 7 89 rfl
     have w5_6 : Apart (obF (b.get 5)) (obF (b.get 6)) := by rw [p.old 5 rfl, p.old 6 rfl]; exact d5_6
     have eo : b.get 6 = a.get 6 := p.old 6 rfl
     have hns := j6.nshF
     refine tail_storeS (i := 8) (u := b.get 6) (m := (s4.2.2).toNat) (off := 0) rfl rfl rfl rfl szf3 (Upd.self (α := Int)) (by rw [eo]; exact j89) j6 (getI_spec hx23).2.1 j88 fun q2 hch hz => ?_
     replace hgq := hgq.step hch y6.wr
     have hle := hch.le hns
     replace j0 := Pers.pers hle j0
     replace j1 := Pers.pers hle j1
     replace j5 := j5.keep hch w5_6 hns
     replace j7 := Pers.pers hle j7
     replace j88 := Pers.pers hle j88
     replace j89 := Pers.pers hle j89
     replace j6 := hz
     rw [Option.some.inj hx24] at j6
     clear hns hle hch eo hz
     obtain ⟨q, hqq⟩ : ∃ q, q = q2 := ⟨q2, rfl⟩
     subst hqq
     exact tail_done (k := q) (w15 _ _ ⟨⟨hgq, hsb, hdb⟩, j0, j1, j5, y5, j6, y6, j7, w5_6, trivial⟩)
    rintro a k ⟨⟨hg, hs, hd⟩, i0, i1, i5, n5, i6, n6, i7, d5_6, _⟩
    obtain rfl := Option.some.inj hr
    exact w5 _ _ ⟨⟨hg, hs, hd⟩, i0, i1, i5, n5, i6, n6, i7, d5_6, trivial⟩
   clear hs2
   rintro a k ⟨⟨hg, hs, hd⟩, i0, i1, i5, n5, i6, n6, i7, d5_6, _⟩
   obtain ⟨x25, hx25, hr⟩ := bind_some hr
   refine cut (fun a' k' => Bs noF k0 140 a' k' ∧ (IsV l_) (a'.get 0) k' ∧ (IsV x_) (a'.get 1) k' ∧ IsOwn 0 3 s2.1 (a'.get 5) k' ∧ Lo k0 (obF (a'.get 5)) ∧ IsOwn 0 3 s2.2 (a'.get 6) k' ∧ Lo k0 (obF (a'.get 6)) ∧ (IsV x25) (a'.get 7) k' ∧ Apart (obF (a'.get 5)) (obF (a'.get 6)) ∧ True) ?_ hQ ?_
   ·intro Q18 W18 w16
    refine gS 3 (_ :: _ :: _ :: []) hs (by kernel_rfl) ⟨mu rfl i7, o1 [(15, some 0)] rfl fun _ _ h n => ok_add rfl n.1 (cI rfl) hx25, cp 1 rfl rfl, trivial⟩ W18 fun b q p => ?_
    exact tail_done (k := q) (w16 _ _ ⟨Bs.post ⟨hg, hs, hd⟩ p, p.ke 0 rfl i0, p.ke 1 rfl i1, p.ke 5 rfl i5, (by rw [p.old 5 rfl]; exact n5), p.ke 6 rfl i6, (by rw [p.old 6 rfl]; exact n6), p.ou 2 7 rfl, (by rw [p.old 5 rfl, p.old 6 rfl]; exact d5_6), trivial⟩)
   rintro a k ⟨⟨hg, hs, hd⟩, i0, i1, i5, n5, i6, n6, i7, d5_6, _⟩
   exact hgo188 _ _ _ (Option.some.inj hr).symm ⟨⟨hg, hs, hd⟩, i0, i1, i5, n5, i6, n6, i7, d5_6, trivial⟩
  rw [if_neg (by rw [hc240]; decide)] at hr
  refine wp_exit ?_
  obtain ⟨kk, sh238, ii5⟩ := i5.give
  replace i6 := i6.handed sh238 (d5_6.symm)
  replace i5 := ii5
  replace hg := hg.hand sh238 n5.wr
  rw [← sh238.w]
  clear sh238
  obtain ⟨k, hkk⟩ : ∃ k, k = kk := ⟨kk, rfl⟩
  subst hkk
  obtain ⟨kk, sh239, ii6⟩ := i6.give
  replace i5 := Pers.pers sh239.le i5
  replace i6 := ii6
  replace hg := hg.hand sh239 n6.wr
  rw [← sh239.w]
  clear sh239
  obtain ⟨k, hkk⟩ : ∃ k, k = kk := ⟨kk, rfl⟩
  subst hkk
  exact hex189 _ _ _ _ (Option.some.inj hr).symm ⟨rfl, ⟨hg, hs, hd⟩, i5, i6, trivial⟩
 ·rintro r2 a k rfl hR
  dsimp only at hr
  obtain rfl := Option.some.inj hr
  exact hR
 ·rintro _ _ _ rfl _
  simp at hr
 clear hf1
 rintro _ s5 a k rfl ⟨rfl, ⟨hg, hs, hd⟩, i5, i6, _⟩
 dsimp only at hr
 refine cutS (fun c l => Bs noF k0 140 c l ∧ IsV s5.1 (c.get 5) l ∧ IsV s5.2.1 (c.get 6) l ∧ IsOwn 0 3 ([] : List Int) (c.get 9) l ∧ Lo k0 (obF (c.get 9)) ∧ True) ?_ ?_
 ·intro Q19 W19 w17
  refine gS 1 (⟨some IsE0, []⟩ :: []) hs (by kernel_rfl) ⟨ob1 rfl fun b q h n => ok_assign rfl isE0_nil, trivial⟩ W19 fun b q p => ?_
  have hgq := hg.then p.grow
  have hsb := p.size.trans hs
  have hdb := p.defers.trans hd
  have j5 := p.ke 5 rfl i5
  have j6 := p.ke 6 rfl i6
  have j9 : IsE0 (b.get 9) q := p.ou 0 9 rfl
  have y9 : Lo k0 (obF (b.get 9)) := j9.lo
  replace j9 : IsOwn 0 3 ([] : List Int) (b.get 9) q := j9.own0
  exact tail_done (k := q) (w17 _ _ ⟨⟨hgq, hsb, hdb⟩, j5, j6, j9, y9, trivial⟩)
 rintro a k ⟨⟨hg, hs, hd⟩, i5, i6, i9, n9, _⟩
 refine wp_seq ?_
 refine cutS (fun c l => Bs noF k0 140 c l ∧ IsV s5.1 (c.get 5) l ∧ IsV s5.2.1 (c.get 6) l ∧ IsOwn 0 3 ([] : List Int) (c.get 9) l ∧ Lo k0 (obF (c.get 9)) ∧ IsI 0 (c.get 10) l ∧ True) ?_ ?_
 ·intro Q20 W20 w18
  refine gS 1 (⟨some (IsI 0), []⟩ :: []) hs (by kernel_rfl) ⟨aI rfl rfl, trivial⟩ W20 fun b q p => ?_
  exact tail_done (k := q) (w18 _ _ ⟨Bs.post ⟨hg, hs, hd⟩ p, p.ke 5 rfl i5, p.ke 6 rfl i6, p.ke 9 rfl i9, (by rw [p.old 9 rfl]; exact n9), p.ou 0 10 rfl, trivial⟩)
 rintro a k ⟨⟨hg, hs, hd⟩, i5, i6, i9, n9, i10, _⟩
 refine wp_block ?_
 obtain ⟨f3, hf3, hr⟩ := bind_some hr
 refine cutFe f3 (fun s' c l => Bs noF k0 140 c l ∧ IsV s5.1 (c.get 5) l ∧ IsV s5.2.1 (c.get 6) l ∧ IsOwn 0 3 s'.1 (c.get 9) l ∧ Lo k0 (obF (c.get 9)) ∧ IsV s'.2 (c.get 10) l ∧ True) (fun i' s' c l => (i' = 4 ∧ Bs noF k0 140 c l ∧ IsV s'.1 (c.get 9) l ∧ True)) (fun r' c l => bodyPost Try.prog Try.f69 (RetC noF k0 (IsV r')) .ret c l.w) ?_ hQ ?_ ?_ ?_
 ·intro Q21 W21 hgo hex hret
  refine sim_loop ?_ _ _ _ _ _ hf3 ⟨⟨hg, hs, hd⟩, i5, i6, i9, n9, i10, trivial⟩ Q21 W21 hgo hex hret
  clear hr hf3 hgo hex hret W21 hQ hg hs hd i10 i5 i6 i9 n9
  intro s6 fl_ a k hr hS Q hQ hgo248 hex249 hret250
  obtain ⟨⟨hg, hs, hd⟩, i5, i6, i9, n9, i10, _⟩ := hS
  unfold ref06_column_L2 at hr
  refine wp_seq ?_
  refine cutS (fun c l => Bs noF k0 140 c l ∧ IsV s5.1 (c.get 5) l ∧ IsV s5.2.1 (c.get 6) l ∧ IsOwn 0 3 s6.1 (c.get 9) l ∧ Lo k0 (obF (c.get 9)) ∧ IsV s6.2 (c.get 10) l ∧ (IsV (decide (s6.2 < (s5.1.length : Int)))) (c.get 93) l ∧ True) ?_ ?_
  ·intro Q22 W22 w19
   refine gS 4 (_ :: _ :: _ :: _ :: []) hs (by kernel_rfl) ⟨mu rfl i10, mu rfl i5, o1 [(91, some 1)] rfl fun _ _ h n => ok_len rfl rfl Try.underlying63 (IsV.rd n.1), o1 [(90, some 0), (92, some 2)] rfl fun _ _ h n => ok_lss rfl n.1 n.2.1, trivial⟩ W22 fun b q p => ?_
   exact tail_done (k := q) (w19 _ _ ⟨Bs.post ⟨hg, hs, hd⟩ p, p.ke 5 rfl i5, p.ke 6 rfl i6, p.ke 9 rfl i9, (by rw [p.old 9 rfl]; exact n9), p.ke 10 rfl i10, p.ou 3 93 rfl, trivial⟩)
  rintro a k ⟨⟨hg, hs, hd⟩, i5, i6, i9, n9, i10, i93, _⟩
  refine wp_cond_split (isBool i93) (fun hc269 => ?_) (fun hc269 => ?_)
  ·rw [if_pos hc269] at hr
   refine wp_skip ?_
   refine wp_seq ?_
   obtain ⟨s7, hs7, hr⟩ := bind_some hr
   refine cut (fun a' k' => Bs noF k0 140 a' k' ∧ (IsV s5.1) (a'.get 5) k' ∧ (IsV s5.2.1) (a'.get 6) k' ∧ IsOwn 0 3 s7 (a'.get 9) k' ∧ Lo k0 (obF (a'.get 9)) ∧ (IsV s6.2) (a'.get 10) k' ∧ True) ?_ hQ ?_
   ·intro Q23 W23 w20
    replace hr := hs7
    clear hQ
    have hQ := W23
    refine wp_block ?_
    refine wp_seq ?_
    refine wp_seq ?_
    obtain ⟨x26, hx26, hr⟩ := bind_some hr
    obtain ⟨x27, hx27, hx26⟩ := ite_bind hx26
    obtain ⟨x28, hx28, hx26⟩ := ite_bind hx26
    obtain ⟨x29, hx29, hx26⟩ := ite_bind hx26
    refine cut (fun a' k' => Bs noF k0 140 a' k' ∧ (IsV s5.1) (a'.get 5) k' ∧ (IsV s5.2.1) (a'.get 6) k' ∧ IsOwn 0 3 s6.1 (a'.get 9) k' ∧ Lo k0 (obF (a'.get 9)) ∧ (IsV s6.2) (a'.get 10) k' ∧ (IsV x26) (a'.get 111) k' ∧ True) ?_ hQ ?_
    ·intro Q24 W24 w21
     refine region (m := 16) (⟨some (OwnAt (a.get 9) 0 3 s6.1), [(9, none)]⟩ :: _ :: _ :: _ :: _ :: _ :: _ :: _ :: ⟨some (Gd ((decide (0 < (s6.1.length : Int))) = true) (OwnAt (a.get 9) 0 3 s6.1)), [(9, none)]⟩ :: ⟨some (Gd ((decide (0 < (s6.1.length : Int))) = true) (OwnAt (a.get 9) 0 3 s6.1)), [(9, none)]⟩ :: _ :: _ :: _ :: _ :: _ :: _ :: []) hmix hs (by kernel_rfl) ⟨ob1 rfl fun _ _ h n => ok_moveOA (.inl rfl) (ownAt n.1 (up i9 h n.1)), o1 [(96, some 0)] rfl fun _ _ h n => ok_len rfl rfl Try.underlying63 (IsOwn.rd (n.1).2), o1 [(97, some 1)] rfl fun _ _ h n => ok_gtr rfl n.1 (cI rfl), cm 2 rfl rfl, mT rfl rfl i5, mT rfl rfl i10, gT [(100, some 4), (101, some 5)] rfl rfl fun hp _ _ h n => ok_indexAddr rfl Try.underlying63 ty3 (IsV.rd (Gd.get n.1 hp)) (Gd.get n.2.1 hp) (hx27 hp), gT [(102, some 6)] rfl rfl fun hp _ _ h n => ok_load rfl ty3 (Gd.get n.1 hp), gdT rfl rfl fun hp _ _ h n => ok_moveOA (.inl rfl) (ownAt n.1 (up i9 h n.1)), gdT rfl rfl fun hp _ _ h n => ok_moveOA (.inl rfl) (ownAt n.1 (up i9 h n.1)), gT [(105, some 9)] rfl rfl fun hp _ _ h n => ok_len rfl rfl Try.underlying63 (IsOwn.rd ((Gd.get n.1 hp)).2), gT [(106, some 10)] rfl rfl fun hp _ _ h n => ok_sub rfl (Gd.get n.1 hp) (cI rfl) (hx28 hp), gT [(104, some 8), (107, some 11)] rfl rfl fun hp _ _ h n => ok_indexAddr rfl Try.underlying63 ty3 (IsOwn.rd ((Gd.get n.1 hp)).2) (Gd.get n.2.1 hp) (hx29 hp), gT [(108, some 12)] rfl rfl fun hp _ _ h n => ok_load rfl ty3 (Gd.get n.1 hp), gT [(103, some 7), (109, some 13)] rfl rfl fun hp _ _ h n => ok_leq rfl (Gd.get n.1 hp) (Gd.get n.2.1 hp), o1 [(99, some 3), (110, some 14)] rfl fun _ _ h n => ok_pickM rfl n.1 hx26 (Gd.get n.2.1) (cB rfl), trivial⟩ W24 fun b q p => ?_
     exact tail_done (k := q) (w21 _ _ ⟨Bs.post ⟨hg, hs, hd⟩ p, p.ke 5 rfl i5, p.ke 6 rfl i6, p.ke 9 rfl i9, (by rw [p.old 9 rfl]; exact n9), p.ke 10 rfl i10, p.ou 15 111 rfl, trivial⟩)
    rintro a k ⟨⟨hg, hs, hd⟩, i5, i6, i9, n9, i10, i111, _⟩
    refine wp_cond_split (isBool i111) (fun hc261 => ?_) (fun hc261 => ?_)
    ·rw [if_pos hc261] at hr
     refine wp_seq ?_
     obtain ⟨x30, hx30, hr⟩ := bind_some hr
     obtain ⟨x31, hx31, hr⟩ := bind_some hr
     obtain ⟨x32, hx32, hr⟩ := bind_some hr
     obtain ⟨x33, hx33, hr⟩ := bind_some hr
     obtain ⟨x34, hx34, hr⟩ := bind_some hr
     obtain ⟨x35, hx35, hr⟩ := bind_some hr
     refine cut (fun a' k' => Bs noF k0 140 a' k' ∧ (IsV s5.1) (a'.get 5) k' ∧ (IsV s5.2.1) (a'.get 6) k' ∧ IsOwn 0 3 x35 (a'.get 9) k' ∧ Lo k0 (obF (a'.get 9)) ∧ (IsV s6.2) (a'.get 10) k' ∧ True) ?_ hQ ?_
     ·intro Q25 W25 w22
      refine region (m := 16) (⟨some (OwnAt (a.get 9) 0 3 s6.1), [(9, none)]⟩ :: ⟨some (OwnAt (a.get 9) 0 3 s6.1), [(9, none)]⟩ :: _ :: _ :: ⟨some (OwnAt (a.get 9) 0 3 s6.1), [(9, none)]⟩ :: ⟨some (OwnAt (a.get 9) 0 3 s6.1), [(9, none)]⟩ :: _ :: _ :: _ :: _ :: _ :: _ :: _ :: _ :: _ :: ⟨some (IsAdrO (a.get 9) ((x30).toNat * Enc.sz Int)), [(112, some 0), (115, some 3)]⟩ :: []) hmix hs (by kernel_rfl) ⟨ob1 rfl fun _ _ h n => ok_moveOA (.inl rfl) (ownAt n.1 (up i9 h n.1)), ob1 rfl fun _ _ h n => ok_moveOA (.inl rfl) (ownAt n.1 (up i9 h n.1)), o1 [(113, some 1)] rfl fun _ _ h n => ok_len rfl rfl Try.underlying63 (IsOwn.rd (n.1).2), o1 [(114, some 2)] rfl fun _ _ h n => ok_sub rfl n.1 (cI rfl) hx30, ob1 rfl fun _ _ h n => ok_moveOA (.inl rfl) (ownAt n.1 (up i9 h n.1)), ob1 rfl fun _ _ h n => ok_moveOA (.inl rfl) (ownAt n.1 (up i9 h n.1)), o1 [(117, some 5)] rfl fun _ _ h n => ok_len rfl rfl Try.underlying63 (IsOwn.rd (n.1).2), o1 [(118, some 6)] rfl fun _ _ h n => ok_sub rfl n.1 (cI rfl) hx31, o1 [(116, some 4), (119, some 7)] rfl fun _ _ h n => ok_indexAddr rfl Try.underlying63 ty3 (IsOwn.rd (n.1).2) n.2.1 hx32, o1 [(120, some 8)] rfl fun _ _ h n => ok_load rfl ty3 n.1, mu rfl i6, mu rfl i10, o1 [(122, some 10), (123, some 11)] rfl fun _ _ h n => ok_indexAddr rfl Try.underlying63 ty3 (IsV.rd n.1) n.2.1 hx33, o1 [(124, some 12)] rfl fun _ _ h n => ok_load rfl ty3 n.1, o1 [(121, some 9), (125, some 13)] rfl fun _ _ h n => ok_max2 rfl n.1 n.2.1, ob1 rfl fun _ _ h n => ok_indexO rfl Try.underlying63 ty3 n.1 n.2.1 hx34, trivial⟩ W25 fun b q p => ?_
      have hgq := hg.then p.grow
      have hsb := p.size.trans hs
      have hdb := p.defers.trans hd
      have j5 := p.ke 5 rfl i5
      have j6 := p.ke 6 rfl i6
      have j9 := p.ke 9 rfl i9
      have y9 : Lo k0 (obF (b.get 9)) := by rw [p.old 9 rfl]; exact n9
      have j10 := p.ke 10 rfl i10
      have j126 : (IsI (max x32 x33)) (b.get 126) q := p.ou 14 126 rfl
      have j127 : IsAdrO (a.get 9) ((x30).toNat * Enc.sz Int) (b.get 127) q := p.ou 15 127 rfl
      have eo : b.get 9 = a.get 9 := p.old 9 rfl
      have hns := j9.nshF
      refine tail_storeS (i := 16) (u := b.get 9) (m := (x30).toNat) (off := 0) rfl rfl rfl rfl szf3 (Upd.self (α := Int)) (by rw [eo]; exact j127) j9 (getI_spec hx34).2.1 j126 fun q2 hch hz => ?_
      replace hgq := hgq.step hch y9.wr
      have hle := hch.le hns
      replace j5 := Pers.pers hle j5
      replace j6 := Pers.pers hle j6
      replace j10 := Pers.pers hle j10
      replace j126 := Pers.pers hle j126
      replace j127 := Pers.pers hle j127
      replace j9 := hz
      rw [Option.some.inj hx35] at j9
      clear hns hle hch eo hz
      obtain ⟨q, hqq⟩ : ∃ q, q = q2 := ⟨q2, rfl⟩
      subst hqq
      exact tail_done (k := q) (w22 _ _ ⟨⟨hgq, hsb, hdb⟩, j5, j6, j9, y9, j10, trivial⟩)
     rintro a k ⟨⟨hg, hs, hd⟩, i5, i6, i9, n9, i10, _⟩
     refine wp_exit ?_
     obtain rfl := Option.some.inj hr
     exact w20 _ _ ⟨⟨hg, hs, hd⟩, i5, i6, i9, n9, i10, trivial⟩
    rw [if_neg (by rw [hc261]; decide)] at hr
    refine wp_skip ?_
    obtain ⟨x36, hx36, hr⟩ := bind_some hr
    obtain ⟨x37, hx37, hr⟩ := bind_some hr
    obtain ⟨x38, hx38, hr⟩ := bind_some hr
    refine cut (fun a' k' => Bs noF k0 140 a' k' ∧ (IsV s5.1) (a'.get 5) k' ∧ (IsV s5.2.1) (a'.get 6) k' ∧ IsOwn 0 3 x38 (a'.get 9) k' ∧ Lo k0 (obF (a'.get 9)) ∧ (IsV s6.2) (a'.get 10) k' ∧ True) ?_ hQ ?_
    ·intro Q26 W26 w23
     refine region (m := 10) (⟨some (OwnAt (a.get 9) 0 3 s6.1), [(9, none)]⟩ :: _ :: _ :: _ :: _ :: _ :: _ :: _ :: _ :: ⟨some (IsV (α := (List Int)) ([x36, x37])), [(132, some 4), (136, some 8)]⟩ :: []) hmix hs (by kernel_rfl) ⟨ob1 rfl fun _ _ h n => ok_moveOA (.inl rfl) (ownAt n.1 (up i9 h n.1)), mu rfl i5, mu rfl i10, o1 [(129, some 1), (130, some 2)] rfl fun _ _ h n => ok_indexAddr rfl Try.underlying63 ty3 (IsV.rd n.1) n.2.1 hx36, o1 [(131, some 3)] rfl fun _ _ h n => ok_load rfl ty3 n.1, mu rfl i6, mu rfl i10, o1 [(133, some 5), (134, some 6)] rfl fun _ _ h n => ok_indexAddr rfl Try.underlying63 ty3 (IsV.rd n.1) n.2.1 hx37, o1 [(135, some 7)] rfl fun _ _ h n => ok_load rfl ty3 n.1, ob1 rfl fun _ _ h n => ok_buildSlice rfl Try.underlying63 eo3 rfl (by decide) (by decide) ⟨rfl, n.1, rfl, n.2.1, trivial⟩, trivial⟩ W26 fun b q p => ?_
     have hgq := hg.then p.grow
     have hsb := p.size.trans hs
     have hdb := p.defers.trans hd
     have j5 := p.ke 5 rfl i5
     have j6 := p.ke 6 rfl i6
     have j10 := p.ke 10 rfl i10
     have e128 : b.get 128 = a.get 9 := (p.ou 0 128 rfl).1
     have j128 : IsOwn 0 3 s6.1 (b.get 128) q := (p.ou 0 128 rfl).2
     have y128 : Lo k0 (obF (b.get 128)) := by rw [e128]; exact n9
     have j137 : (IsV (α := (List Int)) ([x36, x37])) (b.get 137) q := p.ou 9 137 rfl
     have hns := j128.nshF
     refine tail_appendS (i := 10) (d := 138) rfl rfl rfl rfl (by rw [hsb]; decide) (e := 3) Try.underlying63 eo3 j128 (IsV.rd j137) hx38 fun b2 q2 hsz hdf hoth hch hown hob => ?_
     have hle := hch.le hns
     have yn : Lo k0 (obF (b2.get 138)) := y128.app hgq hob
     replace j5 := Pers.pers hle j5
     replace j6 := Pers.pers hle j6
     replace j10 := Pers.pers hle j10
     replace j137 := Pers.pers hle j137
     replace hgq := hgq.step hch y128.wr
     rw [← hoth 5 (by decide)] at j5
     rw [← hoth 6 (by decide)] at j6
     rw [← hoth 10 (by decide)] at j10
     rw [← hoth 137 (by decide)] at j137
     have j138 := hown
     have y138 := yn
     replace hsb := hsz.trans hsb
     replace hdb := hdf.trans hdb
     clear hle hch hown hob hns yn hsz hdf hoth
     obtain ⟨b, hbb⟩ : ∃ b, b = b2 := ⟨b2, rfl⟩
     subst hbb
     obtain ⟨q, hqq⟩ : ∃ q, q = q2 := ⟨q2, rfl⟩
     subst hqq
     refine tail_assign (i := 11) (d := 9) rfl rfl (.inl rfl) rfl (by rw [hsb]; decide) fun b2 hsz hdf hnew hoth => ?_
     have jn : (IsOwn 0 3 x38) (b2.get 9) q := by rw [hnew]; exact j138
     have yn : Lo k0 (obF (b2.get 9)) := by rw [hnew]; exact y138
     rw [← hoth 5 (by decide)] at j5
     rw [← hoth 6 (by decide)] at j6
     rw [← hoth 10 (by decide)] at j10
     rw [← hoth 137 (by decide)] at j137
     have j9 := jn
     have y9 := yn
     replace hsb := hsz.trans hsb
     replace hdb := hdf.trans hdb
     clear hsz hdf hoth
     obtain ⟨b, hbb⟩ : ∃ b, b = b2 := ⟨b2, rfl⟩
     subst hbb
     exact tail_done (k := q) (w23 _ _ ⟨⟨hgq, hsb, hdb⟩, j5, j6, j9, y9, j10, trivial⟩)
    rintro a k ⟨⟨hg, hs, hd⟩, i5, i6, i9, n9, i10, _⟩
    obtain rfl := Option.some.inj hr
    exact w20 _ _ ⟨⟨hg, hs, hd⟩, i5, i6, i9, n9, i10, trivial⟩
   clear hs7
   rintro a k ⟨⟨hg, hs, hd⟩, i5, i6, i9, n9, i10, _⟩
   obtain ⟨x39, hx39, hr⟩ := bind_some hr
   refine cut (fun a' k' => Bs noF k0 140 a' k' ∧ (IsV s5.1) (a'.get 5) k' ∧ (IsV s5.2.1) (a'.get 6) k' ∧ IsOwn 0 3 s7 (a'.get 9) k' ∧ Lo k0 (obF (a'.get 9)) ∧ (IsV x39) (a'.get 10) k' ∧ True) ?_ hQ ?_
   ·intro Q27 W27 w24
    refine gS 3 (_ :: _ :: _ :: []) hs (by kernel_rfl) ⟨mu rfl i10, o1 [(94, some 0)] rfl fun _ _ h n => ok_add rfl n.1 (cI rfl) hx39, cp 1 rfl rfl, trivial⟩ W27 fun b q p => ?_
    exact tail_done (k := q) (w24 _ _ ⟨Bs.post ⟨hg, hs, hd⟩ p, p.ke 5 rfl i5, p.ke 6 rfl i6, p.ke 9 rfl i9, (by rw [p.old 9 rfl]; exact n9), p.ou 2 10 rfl, trivial⟩)
   rintro a k ⟨⟨hg, hs, hd⟩, i5, i6, i9, n9, i10, _⟩
   exact hgo248 _ _ _ (Option.some.inj hr).symm ⟨⟨hg, hs, hd⟩, i5, i6, i9, n9, i10, trivial⟩
  rw [if_neg (by rw [hc269]; decide)] at hr
  refine wp_exit ?_
  obtain ⟨kk, sh268, ii9⟩ := i9.give
  replace i9 := ii9
  replace hg := hg.hand sh268 n9.wr
  rw [← sh268.w]
  clear sh268
  obtain ⟨k, hkk⟩ : ∃ k, k = kk := ⟨kk, rfl⟩
  subst hkk
  exact hex249 _ _ _ _ (Option.some.inj hr).symm ⟨rfl, ⟨hg, hs, hd⟩, i9, trivial⟩
 ·rintro r3 a k rfl hR
  dsimp only at hr
  obtain rfl := Option.some.inj hr
  exact hR
 ·rintro _ _ _ rfl _
  simp at hr
 clear hf3
 rintro _ s8 a k rfl ⟨rfl, ⟨hg, hs, hd⟩, i9, _⟩
 dsimp only at hr
 refine stepL 2 (_ :: _ :: []) rfl ⟨hg, hs, hd⟩ (by kernel_rfl) ⟨mu rfl i9, cp 0 rfl rfl, trivial⟩ [⟨_, _⟩] (fun b q p => ⟨p.ou 1 4 rfl, trivial⟩) ?_
 rintro a k ⟨⟨hg, hs, hd⟩, i4, _⟩
 refine wp_ret ?_
 obtain rfl := Option.some.inj hr
 exact retC1 rfl hd hg i4
def ref06_combine_L0 (a_ : (List Int)) (b_ : (List Int)) (op_ : Int) (s1 : (List Int) × Int × Int × Bool) : Option (Flow ((List Int) × Int × Int × Bool) ((List Int))) :=
 if ((decide (s1.2.1 < (a_.length : Int))) || (decide (s1.2.2.1 < (b_.length : Int)))) then
  (if (decide (s1.2.1 < (a_.length : Int))) then
   (if (decide ((b_.length : Int) ≤ s1.2.2.1)) then
    some true
   else
    (getI a_ s1.2.1).bind fun x1 =>
    (subI (b_.length : Int) 1).bind fun x2 =>
    (getI b_ (min s1.2.2.1 x2)).bind fun x3 =>
    some (decide (x1 ≤ x3))).bind fun x4 =>
   some x4
  else
   some false).bind fun x5 =>
  (if x5 then
   (getI a_ s1.2.1).bind fun x6 =>
   some x6
  else
   (getI b_ s1.2.2.1).bind fun x7 =>
   some x7).bind fun s2 =>
  (if (decide (s1.2.1 < (a_.length : Int))) then
   (getI a_ s1.2.1).bind fun x8 =>
   some (x8 == s2)
  else
   some false).bind fun x9 =>
  (if x9 then
   (addI s1.2.1 1).bind fun x10 =>
   some x10
  else
   some s1.2.1).bind fun s3 =>
  (if (decide (s1.2.2.1 < (b_.length : Int))) then
   (getI b_ s1.2.2.1).bind fun x11 =>
   some (x11 == s2)
  else
   some false).bind fun x12 =>
  (if x12 then
   (addI s1.2.2.1 1).bind fun x13 =>
   some x13
  else
   some s1.2.2.1).bind fun s4 =>
  (remI s3 2).bind fun x14 =>
  (remI s4 2).bind fun x15 =>
  (if (op_ == 1) then
   some ((x14 == 1) && (x15 == 1))
  else
   some ((x14 == 1) || (x15 == 1))).bind fun s5 =>
  (if (op_ == 2) then
   some ((x14 == 1) && (!(x15 == 1)))
  else
   some s5).bind fun s6 =>
  (if (s6 != s1.2.2.2) then
   (appI s1.1 ([s2])).bind fun x16 =>
   some x16
  else
   some s1.1).bind fun s7 =>
  some (.go (s7, s3, s4, s6))
 else
  some (.ex 0 (s1.1, s1.2.1, s1.2.2.1, s1.2.2.2))
def ref06_combine (a_ : (List Int)) (b_ : (List Int)) (op_ : Int) : Option ((List Int)) :=
 (iterL (ref06_combine_L0 a_ b_ op_) (a_.length + b_.length + ([] : List Int).length + 1) (([] : List Int), 0, 0, false)).bind fun f1 => match f1 with
  | .go _ => none
  | .ex _ s1 =>
   some s1.1
  | .ret r1 => some r1
theorem ref06_combine_ok {k0 : K} {v0 v1 v2 : Value} {a_ : (List Int)} {b_ : (List Int)} {op_ : Int} {r : (List Int)} (i0 : (IsV a_) v0 k0) (i1 : (IsV b_) v1 k0) (i2 : (IsV op_) v2 k0) (hr : ref06_combine a_ b_ op_ = some r) :
  Calls Try.prog 68 #[v0, v1, v2] k0.w (Ret k0 (IsV r)) := by
 unfold ref06_combine at hr
 refine Ret.ofC ?_
 refine enterK Try.func68 rfl Try.ntmps68 (show 3 ≤ 118 by decide) fun a k hk0 hs hd ha => ?_
 obtain ⟨e0, e1, e2, _⟩ := ha
 replace i0 : (IsV a_) (a.get 0) k := by rw [e0, hk0]; exact i0
 replace i1 : (IsV b_) (a.get 1) k := by rw [e1, hk0]; exact i1
 replace i2 : (IsV op_) (a.get 2) k := by rw [e2, hk0]; exact i2
 have hQ : Gb.LetsOut (bodyPost Try.prog Try.f68 (RetC noF k0 (IsV r))) := letsOutC
 have hg : Chg noF k0 k := by rw [hk0]; exact Chg.refl _ k0
 refine stepL 1 (⟨some IsE0, []⟩ :: []) rfl ⟨hg, hs, hd⟩ (by kernel_rfl) ⟨ob1 rfl fun b q h n => ok_assign rfl isE0_nil, trivial⟩ [⟨_, _⟩, ⟨_, _⟩, ⟨_, _⟩] (fun b q p => ⟨p.ke 0 rfl i0, p.ke 1 rfl i1, p.ke 2 rfl i2, trivial⟩) ?_
 rintro a k ⟨⟨hg, hs, hd⟩, i0, i1, i2, _⟩
 refine cutS (fun c l => Bs noF k0 118 c l ∧ IsV a_ (c.get 0) l ∧ IsV b_ (c.get 1) l ∧ IsV op_ (c.get 2) l ∧ IsOwn 0 3 ([] : List Int) (c.get 7) l ∧ Lo k0 (obF (c.get 7)) ∧ True) ?_ ?_
 ·intro Q1 W1 w1
  refine gS 1 (⟨some IsE0, []⟩ :: []) hs (by kernel_rfl) ⟨ob1 rfl fun b q h n => ok_assign rfl isE0_nil, trivial⟩ W1 fun b q p => ?_
  have hgq := hg.then p.grow
  have hsb := p.size.trans hs
  have hdb := p.defers.trans hd
  have j0 := p.ke 0 rfl i0
  have j1 := p.ke 1 rfl i1
  have j2 := p.ke 2 rfl i2
  have j7 : IsE0 (b.get 7) q := p.ou 0 7 rfl
  have y7 : Lo k0 (obF (b.get 7)) := j7.lo
  replace j7 : IsOwn 0 3 ([] : List Int) (b.get 7) q := j7.own0
  exact tail_done (k := q) (w1 _ _ ⟨⟨hgq, hsb, hdb⟩, j0, j1, j2, j7, y7, trivial⟩)
 rintro a k ⟨⟨hg, hs, hd⟩, i0, i1, i2, i7, n7, _⟩
 refine cutS (fun c l => Bs noF k0 118 c l ∧ IsV a_ (c.get 0) l ∧ IsV b_ (c.get 1) l ∧ IsV op_ (c.get 2) l ∧ IsOwn 0 3 ([] : List Int) (c.get 7) l ∧ Lo k0 (obF (c.get 7)) ∧ IsI 0 (c.get 8) l ∧ True) ?_ ?_
 ·intro Q2 W2 w2
  refine gS 1 (⟨some (IsI 0), []⟩ :: []) hs (by kernel_rfl) ⟨aI rfl rfl, trivial⟩ W2 fun b q p => ?_
  exact tail_done (k := q) (w2 _ _ ⟨Bs.post ⟨hg, hs, hd⟩ p, p.ke 0 rfl i0, p.ke 1 rfl i1, p.ke 2 rfl i2, p.ke 7 rfl i7, (by rw [p.old 7 rfl]; exact n7), p.ou 0 8 rfl, trivial⟩)
 rintro a k ⟨⟨hg, hs, hd⟩, i0, i1, i2, i7, n7, i8, _⟩
 refine cutS (fun c l => Bs noF k0 118 c l ∧ IsV a_ (c.get 0) l ∧ IsV b_ (c.get 1) l ∧ IsV op_ (c.get 2) l ∧ IsOwn 0 3 ([] : List Int) (c.get 7) l ∧ Lo k0 (obF (c.get 7)) ∧ IsI 0 (c.get 8) l ∧ IsI 0 (c.get 9) l ∧ True) ?_ ?_
 ·intro Q3 W3 w3
  refine gS 1 (⟨some (IsI 0), []⟩ :: []) hs (by kernel_rfl) ⟨aI rfl rfl, trivial⟩ W3 fun b q p => ?_
  exact tail_done (k := q) (w3 _ _ ⟨Bs.post ⟨hg, hs, hd⟩ p, p.ke 0 rfl i0, p.ke 1 rfl i1, p.ke 2 rfl i2, p.ke 7 rfl i7, (by rw [p.old 7 rfl]; exact n7), p.ke 8 rfl i8, p.ou 0 9 rfl, trivial⟩)
 rintro a k ⟨⟨hg, hs, hd⟩, i0, i1, i2, i7, n7, i8, i9, _⟩
 refine cutS (fun c l => Bs noF k0 118 c l ∧ IsV a_ (c.get 0) l ∧ IsV b_ (c.get 1) l ∧ IsV op_ (c.get 2) l ∧ IsOwn 0 3 ([] : List Int) (c.get 7) l ∧ Lo k0 (obF (c.get 7)) ∧ IsI 0 (c.get 8) l ∧ IsI 0 (c.get 9) l ∧ IsV false (c.get 10) l ∧ True) ?_ ?_
 ·intro Q4 W4 w4
  refine gS 1 (⟨some (IsV false), []⟩ :: []) hs (by kernel_rfl) ⟨ob1 rfl fun _ _ h n => ok_assign rfl (isV_bool.2 rfl), trivial⟩ W4 fun b q p => ?_
  exact tail_done (k := q) (w4 _ _ ⟨Bs.post ⟨hg, hs, hd⟩ p, p.ke 0 rfl i0, p.ke 1 rfl i1, p.ke 2 rfl i2, p.ke 7 rfl i7, (by rw [p.old 7 rfl]; exact n7), p.ke 8 rfl i8, p.ke 9 rfl i9, p.ou 0 10 rfl, trivial⟩)
 rintro a k ⟨⟨hg, hs, hd⟩, i0, i1, i2, i7, n7, i8, i9, i10, _⟩
 refine wp_seq ?_
 refine wp_block ?_
 obtain ⟨f1, hf1, hr⟩ := bind_some hr
 refine cutFe f1 (fun s' c l => Bs noF k0 118 c l ∧ IsV a_ (c.get 0) l ∧ IsV b_ (c.get 1) l ∧ IsV op_ (c.get 2) l ∧ IsOwn 0 3 s'.1 (c.get 7) l ∧ Lo k0 (obF (c.get 7)) ∧ IsV s'.2.1 (c.get 8) l ∧ IsV s'.2.2.1 (c.get 9) l ∧ IsV s'.2.2.2 (c.get 10) l ∧ True) (fun i' s' c l => (i' = 0 ∧ Bs noF k0 118 c l ∧ IsV s'.1 (c.get 7) l ∧ True)) (fun r' c l => bodyPost Try.prog Try.f68 (RetC noF k0 (IsV r')) .ret c l.w) ?_ hQ ?_ ?_ ?_
 ·intro Q5 W5 hgo hex hret
  refine sim_loop ?_ _ _ _ _ _ hf1 ⟨⟨hg, hs, hd⟩, i0, i1, i2, i7, n7, i8, i9, i10, trivial⟩ Q5 W5 hgo hex hret
  clear hr hf1 hgo hex hret W5 hQ hg hs hd i0 i1 i10 i2 i7 i8 i9 n7
  intro s1 fl_ a k hr hS Q hQ hgo299 hex300 hret301
  obtain ⟨⟨hg, hs, hd⟩, i0, i1, i2, i7, n7, i8, i9, i10, _⟩ := hS
  unfold ref06_combine_L0 at hr
  refine wp_seq ?_
  refine cutS (fun c l => Bs noF k0 118 c l ∧ IsV a_ (c.get 0) l ∧ IsV b_ (c.get 1) l ∧ IsV op_ (c.get 2) l ∧ IsOwn 0 3 s1.1 (c.get 7) l ∧ Lo k0 (obF (c.get 7)) ∧ IsV s1.2.1 (c.get 8) l ∧ IsV s1.2.2.1 (c.get 9) l ∧ IsV s1.2.2.2 (c.get 10) l ∧ (IsV ((decide (s1.2.1 < (a_.length : Int))) || (decide (s1.2.2.1 < (b_.length : Int))))) (c.get 24) l ∧ True) ?_ ?_
  ·intro Q6 W6 w5
   refine gS 10 (_ :: _ :: _ :: _ :: _ :: _ :: _ :: _ :: _ :: _ :: []) hs (by kernel_rfl) ⟨mu rfl i8, mu rfl i0, o1 [(16, some 1)] rfl fun _ _ h n => ok_len rfl rfl Try.underlying63 (IsV.rd n.1), o1 [(15, some 0), (17, some 2)] rfl fun _ _ h n => ok_lss rfl n.1 n.2.1, cm 3 rfl rfl, mF rfl rfl i9, mF rfl rfl i1, gF [(21, some 6)] rfl rfl fun hp _ _ h n => ok_len rfl rfl Try.underlying63 (IsV.rd (Gd.get n.1 hp)), gF [(20, some 5), (22, some 7)] rfl rfl fun hp _ _ h n => ok_lss rfl (Gd.get n.1 hp) (Gd.get n.2.1 hp), o1 [(19, some 4), (23, some 8)] rfl fun _ _ h n => ok_pickOr rfl n.1 (cB rfl) (Gd.get n.2.1), trivial⟩ W6 fun b q p => ?_
   exact tail_done (k := q) (w5 _ _ ⟨Bs.post ⟨hg, hs, hd⟩ p, p.ke 0 rfl i0, p.ke 1 rfl i1, p.ke 2 rfl i2, p.ke 7 rfl i7, (by rw [p.old 7 rfl]; exact n7), p.ke 8 rfl i8, p.ke 9 rfl i9, p.ke 10 rfl i10, p.ou 9 24 rfl, trivial⟩)
  rintro a k ⟨⟨hg, hs, hd⟩, i0, i1, i2, i7, n7, i8, i9, i10, i24, _⟩
  refine wp_cond_split (isBool i24) (fun hc382 => ?_) (fun hc382 => ?_)
  ·rw [if_pos hc382] at hr
   refine wp_skip ?_
   refine wp_block ?_
   refine cutS (fun c l => Bs noF k0 118 c l ∧ IsV a_ (c.get 0) l ∧ IsV b_ (c.get 1) l ∧ IsV op_ (c.get 2) l ∧ IsOwn 0 3 s1.1 (c.get 7) l ∧ Lo k0 (obF (c.get 7)) ∧ IsV s1.2.1 (c.get 8) l ∧ IsV s1.2.2.1 (c.get 9) l ∧ IsV s1.2.2.2 (c.get 10) l ∧ True) ?_ ?_
   ·intro Q7 W7 w6
    refine gS 1 (⟨some (IsI 0), []⟩ :: []) hs (by kernel_rfl) ⟨aI rfl rfl, trivial⟩ W7 fun b q p => ?_
    exact tail_done (k := q) (w6 _ _ ⟨Bs.post ⟨hg, hs, hd⟩ p, p.ke 0 rfl i0, p.ke 1 rfl i1, p.ke 2 rfl i2, p.ke 7 rfl i7, (by rw [p.old 7 rfl]; exact n7), p.ke 8 rfl i8, p.ke 9 rfl i9, p.ke 10 rfl i10, trivial⟩)
   rintro a k ⟨⟨hg, hs, hd⟩, i0, i1, i2, i7, n7, i8, i9, i10, _⟩
   refine wp_seq ?_
   refine wp_seq ?_
   obtain ⟨x1, hx1, hr⟩ := bind_some hr
   obtain ⟨x2, hx2, hx1⟩ := ite_bind hx1
   obtain ⟨x3, hx3, hx2⟩ := ite_bindFP hx2
   obtain ⟨x4, hx4, hx2⟩ := ite_bindFP hx2
   obtain ⟨x5, hx5, hx2⟩ := ite_bindFP hx2
   refine cut (fun a' k' => Bs noF k0 118 a' k' ∧ (IsV a_) (a'.get 0) k' ∧ (IsV b_) (a'.get 1) k' ∧ (IsV op_) (a'.get 2) k' ∧ IsOwn 0 3 s1.1 (a'.get 7) k' ∧ Lo k0 (obF (a'.get 7)) ∧ (IsV s1.2.1) (a'.get 8) k' ∧ (IsV s1.2.2.1) (a'.get 9) k' ∧ (IsV s1.2.2.2) (a'.get 10) k' ∧ (IsV x1) (a'.get 49) k' ∧ True) ?_ hQ ?_
   ·intro Q8 W8 w7
    refine region (m := 25) (_ :: _ :: _ :: _ :: _ :: _ :: _ :: _ :: _ :: ⟨some (Gd ((decide (s1.2.1 < (a_.length : Int))) = true) (IsV (decide ((b_.length : Int) ≤ s1.2.2.1)))), [(33, some 8)]⟩ :: ⟨some (Gd (((decide (s1.2.1 < (a_.length : Int))) = true) ∧ (decide ((b_.length : Int) ≤ s1.2.2.1)) = false) (IsV a_)), [(0, none)]⟩ :: ⟨some (Gd (((decide (s1.2.1 < (a_.length : Int))) = true) ∧ (decide ((b_.length : Int) ≤ s1.2.2.1)) = false) (IsV s1.2.1)), [(8, none)]⟩ :: ⟨some (Gd (((decide (s1.2.1 < (a_.length : Int))) = true) ∧ (decide ((b_.length : Int) ≤ s1.2.2.1)) = false) (IsPtr x3)), [(35, some 10), (36, some 11)]⟩ :: ⟨some (Gd (((decide (s1.2.1 < (a_.length : Int))) = true) ∧ (decide ((b_.length : Int) ≤ s1.2.2.1)) = false) (IsV x3)), [(37, some 12)]⟩ :: ⟨some (Gd (((decide (s1.2.1 < (a_.length : Int))) = true) ∧ (decide ((b_.length : Int) ≤ s1.2.2.1)) = false) (IsV b_)), [(1, none)]⟩ :: ⟨some (Gd (((decide (s1.2.1 < (a_.length : Int))) = true) ∧ (decide ((b_.length : Int) ≤ s1.2.2.1)) = false) (IsV s1.2.2.1)), [(9, none)]⟩ :: ⟨some (Gd (((decide (s1.2.1 < (a_.length : Int))) = true) ∧ (decide ((b_.length : Int) ≤ s1.2.2.1)) = false) (IsV b_)), [(1, none)]⟩ :: ⟨some (Gd (((decide (s1.2.1 < (a_.length : Int))) = true) ∧ (decide ((b_.length : Int) ≤ s1.2.2.1)) = false) (IsL b_)), [(41, some 16)]⟩ :: ⟨some (Gd (((decide (s1.2.1 < (a_.length : Int))) = true) ∧ (decide ((b_.length : Int) ≤ s1.2.2.1)) = false) (IsV x4)), [(42, some 17)]⟩ :: ⟨some (Gd (((decide (s1.2.1 < (a_.length : Int))) = true) ∧ (decide ((b_.length : Int) ≤ s1.2.2.1)) = false) (IsI (min s1.2.2.1 x4))), [(40, some 15), (43, some 18)]⟩ :: ⟨some (Gd (((decide (s1.2.1 < (a_.length : Int))) = true) ∧ (decide ((b_.length : Int) ≤ s1.2.2.1)) = false) (IsPtr x5)), [(39, some 14), (44, some 19)]⟩ :: ⟨some (Gd (((decide (s1.2.1 < (a_.length : Int))) = true) ∧ (decide ((b_.length : Int) ≤ s1.2.2.1)) = false) (IsV x5)), [(45, some 20)]⟩ :: ⟨some (Gd (((decide (s1.2.1 < (a_.length : Int))) = true) ∧ (decide ((b_.length : Int) ≤ s1.2.2.1)) = false) (IsV (decide (x3 ≤ x5)))), [(38, some 13), (46, some 21)]⟩ :: _ :: _ :: []) hmix hs (by kernel_rfl) ⟨mu rfl i8, mu rfl i0, o1 [(26, some 1)] rfl fun _ _ h n => ok_len rfl rfl Try.underlying63 (IsV.rd n.1), o1 [(25, some 0), (27, some 2)] rfl fun _ _ h n => ok_lss rfl n.1 n.2.1, cm 3 rfl rfl, mT rfl rfl i9, mT rfl rfl i1, gT [(31, some 6)] rfl rfl fun hp _ _ h n => ok_len rfl rfl Try.underlying63 (IsV.rd (Gd.get n.1 hp)), gT [(30, some 5), (32, some 7)] rfl rfl fun hp _ _ h n => ok_geq rfl (Gd.get n.1 hp) (Gd.get n.2.1 hp), gdT rfl rfl fun hp _ _ h n => ok_move rfl (Gd.get n.1 hp), gdTF rfl rfl fun hp b q h n => ok_move rfl (up i0 h n.1), gdTF rfl rfl fun hp b q h n => ok_move rfl (up i8 h n.1), gdTF rfl rfl fun hp b q h n => ok_indexAddr rfl Try.underlying63 ty3 (IsV.rd (Gd.get n.1 hp)) (Gd.get n.2.1 hp) (hx3 hp), gdTF rfl rfl fun hp b q h n => ok_load rfl ty3 (Gd.get n.1 hp), gdTF rfl rfl fun hp b q h n => ok_move rfl (up i1 h n.1), gdTF rfl rfl fun hp b q h n => ok_move rfl (up i9 h n.1), gdTF rfl rfl fun hp b q h n => ok_move rfl (up i1 h n.1), gdTF rfl rfl fun hp b q h n => ok_len rfl rfl Try.underlying63 (IsV.rd (Gd.get n.1 hp)), gdTF rfl rfl fun hp b q h n => ok_sub rfl (Gd.get n.1 hp) (cI rfl) (hx4 hp), gdTF rfl rfl fun hp b q h n => ok_min2 rfl (Gd.get n.1 hp) (Gd.get n.2.1 hp), gdTF rfl rfl fun hp b q h n => ok_indexAddr rfl Try.underlying63 ty3 (IsV.rd (Gd.get n.1 hp)) (Gd.get n.2.1 hp) (hx5 hp), gdTF rfl rfl fun hp b q h n => ok_load rfl ty3 (Gd.get n.1 hp), gdTF rfl rfl fun hp b q h n => ok_leq rfl (Gd.get n.1 hp) (Gd.get n.2.1 hp), gT [(34, some 9), (47, some 22)] rfl rfl fun hp _ _ h n => ok_pickM rfl (Gd.get n.1 hp) (hx2 hp) (cB rfl) (fun hm => (Gd.get n.2.1 ⟨hp, hm⟩)), o1 [(29, some 4), (48, some 23)] rfl fun _ _ h n => ok_pickM rfl n.1 hx1 (Gd.get n.2.1) (cB rfl), trivial⟩ W8 fun b q p => ?_
    exact tail_done (k := q) (w7 _ _ ⟨Bs.post ⟨hg, hs, hd⟩ p, p.ke 0 rfl i0, p.ke 1 rfl i1, p.ke 2 rfl i2, p.ke 7 rfl i7, (by rw [p.old 7 rfl]; exact n7), p.ke 8 rfl i8, p.ke 9 rfl i9, p.ke 10 rfl i10, p.ou 24 49 rfl, trivial⟩)
   rintro a k ⟨⟨hg, hs, hd⟩, i0, i1, i2, i7, n7, i8, i9, i10, i49, _⟩
   obtain ⟨s2, hs2, hr⟩ := bind_some hr
   refine cut (fun a' k' => Bs noF k0 118 a' k' ∧ (IsV a_) (a'.get 0) k' ∧ (IsV b_) (a'.get 1) k' ∧ (IsV op_) (a'.get 2) k' ∧ IsOwn 0 3 s1.1 (a'.get 7) k' ∧ Lo k0 (obF (a'.get 7)) ∧ (IsV s1.2.1) (a'.get 8) k' ∧ (IsV s1.2.2.1) (a'.get 9) k' ∧ (IsV s1.2.2.2) (a'.get 10) k' ∧ (IsV s2) (a'.get 11) k' ∧ True) ?_ hQ ?_
   ·intro Q9 W9 w8
    replace hr := hs2
    clear hQ
    have hQ := W9
    refine wp_cond_split (isBool i49) (fun hc313 => ?_) (fun hc313 => ?_)
    ·rw [if_pos hc313] at hr
     obtain ⟨x6, hx6, hr⟩ := bind_some hr
     refine cut (fun a' k' => Bs noF k0 118 a' k' ∧ (IsV a_) (a'.get 0) k' ∧ (IsV b_) (a'.get 1) k' ∧ (IsV op_) (a'.get 2) k' ∧ IsOwn 0 3 s1.1 (a'.get 7) k' ∧ Lo k0 (obF (a'.get 7)) ∧ (IsV s1.2.1) (a'.get 8) k' ∧ (IsV s1.2.2.1) (a'.get 9) k' ∧ (IsV s1.2.2.2) (a'.get 10) k' ∧ (IsV x6) (a'.get 11) k' ∧ True) ?_ hQ ?_
     ·intro Q10 W10 w9
      refine gS 5 (_ :: _ :: _ :: _ :: _ :: []) hs (by kernel_rfl) ⟨mu rfl i0, mu rfl i8, o1 [(50, some 0), (51, some 1)] rfl fun _ _ h n => ok_indexAddr rfl Try.underlying63 ty3 (IsV.rd n.1) n.2.1 hx6, o1 [(52, some 2)] rfl fun _ _ h n => ok_load rfl ty3 n.1, cp 3 rfl rfl, trivial⟩ W10 fun b q p => ?_
      exact tail_done (k := q) (w9 _ _ ⟨Bs.post ⟨hg, hs, hd⟩ p, p.ke 0 rfl i0, p.ke 1 rfl i1, p.ke 2 rfl i2, p.ke 7 rfl i7, (by rw [p.old 7 rfl]; exact n7), p.ke 8 rfl i8, p.ke 9 rfl i9, p.ke 10 rfl i10, p.ou 4 11 rfl, trivial⟩)
     rintro a k ⟨⟨hg, hs, hd⟩, i0, i1, i2, i7, n7, i8, i9, i10, i11, _⟩
     obtain rfl := Option.some.inj hr
     exact w8 _ _ ⟨⟨hg, hs, hd⟩, i0, i1, i2, i7, n7, i8, i9, i10, i11, trivial⟩
    rw [if_neg (by rw [hc313]; decide)] at hr
    obtain ⟨x7, hx7, hr⟩ := bind_some hr
    refine cut (fun a' k' => Bs noF k0 118 a' k' ∧ (IsV a_) (a'.get 0) k' ∧ (IsV b_) (a'.get 1) k' ∧ (IsV op_) (a'.get 2) k' ∧ IsOwn 0 3 s1.1 (a'.get 7) k' ∧ Lo k0 (obF (a'.get 7)) ∧ (IsV s1.2.1) (a'.get 8) k' ∧ (IsV s1.2.2.1) (a'.get 9) k' ∧ (IsV s1.2.2.2) (a'.get 10) k' ∧ (IsV x7) (a'.get 11) k' ∧ True) ?_ hQ ?_
    ·intro Q11 W11 w10
     refine gS 5 (_ :: _ :: _ :: _ :: _ :: []) hs (by kernel_rfl) ⟨mu rfl i1, mu rfl i9, o1 [(54, some 0), (55, some 1)] rfl fun _ _ h n => ok_indexAddr rfl Try.underlying63 ty3 (IsV.rd n.1) n.2.1 hx7, o1 [(56, some 2)] rfl fun _ _ h n => ok_load rfl ty3 n.1, cp 3 rfl rfl, trivial⟩ W11 fun b q p => ?_
     exact tail_done (k := q) (w10 _ _ ⟨Bs.post ⟨hg, hs, hd⟩ p, p.ke 0 rfl i0, p.ke 1 rfl i1, p.ke 2 rfl i2, p.ke 7 rfl i7, (by rw [p.old 7 rfl]; exact n7), p.ke 8 rfl i8, p.ke 9 rfl i9, p.ke 10 rfl i10, p.ou 4 11 rfl, trivial⟩)
    rintro a k ⟨⟨hg, hs, hd⟩, i0, i1, i2, i7, n7, i8, i9, i10, i11, _⟩
    obtain rfl := Option.some.inj hr
    exact w8 _ _ ⟨⟨hg, hs, hd⟩, i0, i1, i2, i7, n7, i8, i9, i10, i11, trivial⟩
   clear hs2
   rintro a k ⟨⟨hg, hs, hd⟩, i0, i1, i2, i7, n7, i8, i9, i10, i11, _⟩
   refine wp_seq ?_
   refine wp_seq ?_
   obtain ⟨x8, hx8, hr⟩ := bind_some hr
   obtain ⟨x9, hx9, hx8⟩ := ite_bind hx8
   refine cut (fun a' k' => Bs noF k0 118 a' k' ∧ (IsV a_) (a'.get 0) k' ∧ (IsV b_) (a'.get 1) k' ∧ (IsV op_) (a'.get 2) k' ∧ IsOwn 0 3 s1.1 (a'.get 7) k' ∧ Lo k0 (obF (a'.get 7)) ∧ (IsV s1.2.1) (a'.get 8) k' ∧ (IsV s1.2.2.1) (a'.get 9) k' ∧ (IsV s1.2.2.2) (a'.get 10) k' ∧ (IsV s2) (a'.get 11) k' ∧ (IsV x8) (a'.get 69) k' ∧ True) ?_ hQ ?_
   ·intro Q12 W12 w11
    refine gS 12 (_ :: _ :: _ :: _ :: _ :: _ :: _ :: _ :: _ :: _ :: _ :: _ :: []) hs (by kernel_rfl) ⟨mu rfl i8, mu rfl i0, o1 [(59, some 1)] rfl fun _ _ h n => ok_len rfl rfl Try.underlying63 (IsV.rd n.1), o1 [(58, some 0), (60, some 2)] rfl fun _ _ h n => ok_lss rfl n.1 n.2.1, cm 3 rfl rfl, mT rfl rfl i0, mT rfl rfl i8, gT [(63, some 5), (64, some 6)] rfl rfl fun hp _ _ h n => ok_indexAddr rfl Try.underlying63 ty3 (IsV.rd (Gd.get n.1 hp)) (Gd.get n.2.1 hp) (hx9 hp), gT [(65, some 7)] rfl rfl fun hp _ _ h n => ok_load rfl ty3 (Gd.get n.1 hp), mT rfl rfl i11, gT [(66, some 8), (67, some 9)] rfl rfl fun hp _ _ h n => ok_eqI rfl (Gd.get n.1 hp) (Gd.get n.2.1 hp), o1 [(62, some 4), (68, some 10)] rfl fun _ _ h n => ok_pickM rfl n.1 hx8 (Gd.get n.2.1) (cB rfl), trivial⟩ W12 fun b q p => ?_
    exact tail_done (k := q) (w11 _ _ ⟨Bs.post ⟨hg, hs, hd⟩ p, p.ke 0 rfl i0, p.ke 1 rfl i1, p.ke 2 rfl i2, p.ke 7 rfl i7, (by rw [p.old 7 rfl]; exact n7), p.ke 8 rfl i8, p.ke 9 rfl i9, p.ke 10 rfl i10, p.ke 11 rfl i11, p.ou 11 69 rfl, trivial⟩)
   rintro a k ⟨⟨hg, hs, hd⟩, i0, i1, i2, i7, n7, i8, i9, i10, i11, i69, _⟩
   obtain ⟨s3, hs3, hr⟩ := bind_some hr
   refine cut (fun a' k' => Bs noF k0 118 a' k' ∧ (IsV a_) (a'.get 0) k' ∧ (IsV b_) (a'.get 1) k' ∧ (IsV op_) (a'.get 2) k' ∧ IsOwn 0 3 s1.1 (a'.get 7) k' ∧ Lo k0 (obF (a'.get 7)) ∧ (IsV s3) (a'.get 8) k' ∧ (IsV s1.2.2.1) (a'.get 9) k' ∧ (IsV s1.2.2.2) (a'.get 10) k' ∧ (IsV s2) (a'.get 11) k' ∧ True) ?_ hQ ?_
   ·intro Q13 W13 w12
    replace hr := hs3
    clear hQ
    have hQ := W13
    refine wp_cond_split (isBool i69) (fun hc320 => ?_) (fun hc320 => ?_)
    ·rw [if_pos hc320] at hr
     obtain ⟨x10, hx10, hr⟩ := bind_some hr
     refine cut (fun a' k' => Bs noF k0 118 a' k' ∧ (IsV a_) (a'.get 0) k' ∧ (IsV b_) (a'.get 1) k' ∧ (IsV op_) (a'.get 2) k' ∧ IsOwn 0 3 s1.1 (a'.get 7) k' ∧ Lo k0 (obF (a'.get 7)) ∧ (IsV x10) (a'.get 8) k' ∧ (IsV s1.2.2.1) (a'.get 9) k' ∧ (IsV s1.2.2.2) (a'.get 10) k' ∧ (IsV s2) (a'.get 11) k' ∧ True) ?_ hQ ?_
     ·intro Q14 W14 w13
      refine gS 3 (_ :: _ :: _ :: []) hs (by kernel_rfl) ⟨mu rfl i8, o1 [(70, some 0)] rfl fun _ _ h n => ok_add rfl n.1 (cI rfl) hx10, cp 1 rfl rfl, trivial⟩ W14 fun b q p => ?_
      exact tail_done (k := q) (w13 _ _ ⟨Bs.post ⟨hg, hs, hd⟩ p, p.ke 0 rfl i0, p.ke 1 rfl i1, p.ke 2 rfl i2, p.ke 7 rfl i7, (by rw [p.old 7 rfl]; exact n7), p.ou 2 8 rfl, p.ke 9 rfl i9, p.ke 10 rfl i10, p.ke 11 rfl i11, trivial⟩)
     rintro a k ⟨⟨hg, hs, hd⟩, i0, i1, i2, i7, n7, i8, i9, i10, i11, _⟩
     obtain rfl := Option.some.inj hr
     exact w12 _ _ ⟨⟨hg, hs, hd⟩, i0, i1, i2, i7, n7, i8, i9, i10, i11, trivial⟩
    rw [if_neg (by rw [hc320]; decide)] at hr
    refine wp_skip ?_
    obtain rfl := Option.some.inj hr
    exact w12 _ _ ⟨⟨hg, hs, hd⟩, i0, i1, i2, i7, n7, i8, i9, i10, i11, trivial⟩
   clear hs3
   rintro a k ⟨⟨hg, hs, hd⟩, i0, i1, i2, i7, n7, i8, i9, i10, i11, _⟩
   refine wp_seq ?_
   refine wp_seq ?_
   obtain ⟨x11, hx11, hr⟩ := bind_some hr
   obtain ⟨x12, hx12, hx11⟩ := ite_bind hx11
   refine cut (fun a' k' => Bs noF k0 118 a' k' ∧ (IsV a_) (a'.get 0) k' ∧ (IsV b_) (a'.get 1) k' ∧ (IsV op_) (a'.get 2) k' ∧ IsOwn 0 3 s1.1 (a'.get 7) k' ∧ Lo k0 (obF (a'.get 7)) ∧ (IsV s3) (a'.get 8) k' ∧ (IsV s1.2.2.1) (a'.get 9) k' ∧ (IsV s1.2.2.2) (a'.get 10) k' ∧ (IsV s2) (a'.get 11) k' ∧ (IsV x11) (a'.get 83) k' ∧ True) ?_ hQ ?_
   ·intro Q15 W15 w14
    refine gS 12 (_ :: _ :: _ :: _ :: _ :: _ :: _ :: _ :: _ :: _ :: _ :: _ :: []) hs (by kernel_rfl) ⟨mu rfl i9, mu rfl i1, o1 [(73, some 1)] rfl fun _ _ h n => ok_len rfl rfl Try.underlying63 (IsV.rd n.1), o1 [(72, some 0), (74, some 2)] rfl fun _ _ h n => ok_lss rfl n.1 n.2.1, cm 3 rfl rfl, mT rfl rfl i1, mT rfl rfl i9, gT [(77, some 5), (78, some 6)] rfl rfl fun hp _ _ h n => ok_indexAddr rfl Try.underlying63 ty3 (IsV.rd (Gd.get n.1 hp)) (Gd.get n.2.1 hp) (hx12 hp), gT [(79, some 7)] rfl rfl fun hp _ _ h n => ok_load rfl ty3 (Gd.get n.1 hp), mT rfl rfl i11, gT [(80, some 8), (81, some 9)] rfl rfl fun hp _ _ h n => ok_eqI rfl (Gd.get n.1 hp) (Gd.get n.2.1 hp), o1 [(76, some 4), (82, some 10)] rfl fun _ _ h n => ok_pickM rfl n.1 hx11 (Gd.get n.2.1) (cB rfl), trivial⟩ W15 fun b q p => ?_
    exact tail_done (k := q) (w14 _ _ ⟨Bs.post ⟨hg, hs, hd⟩ p, p.ke 0 rfl i0, p.ke 1 rfl i1, p.ke 2 rfl i2, p.ke 7 rfl i7, (by rw [p.old 7 rfl]; exact n7), p.ke 8 rfl i8, p.ke 9 rfl i9, p.ke 10 rfl i10, p.ke 11 rfl i11, p.ou 11 83 rfl, trivial⟩)
   rintro a k ⟨⟨hg, hs, hd⟩, i0, i1, i2, i7, n7, i8, i9, i10, i11, i83, _⟩
   obtain ⟨s4, hs4, hr⟩ := bind_some hr
   refine cut (fun a' k' => Bs noF k0 118 a' k' ∧ (IsV a_) (a'.get 0) k' ∧ (IsV b_) (a'.get 1) k' ∧ (IsV op_) (a'.get 2) k' ∧ IsOwn 0 3 s1.1 (a'.get 7) k' ∧ Lo k0 (obF (a'.get 7)) ∧ (IsV s3) (a'.get 8) k' ∧ (IsV s4) (a'.get 9) k' ∧ (IsV s1.2.2.2) (a'.get 10) k' ∧ (IsV s2) (a'.get 11) k' ∧ True) ?_ hQ ?_
   ·intro Q16 W16 w15
    replace hr := hs4
    clear hQ
    have hQ := W16
    refine wp_cond_split (isBool i83) (fun hc327 => ?_) (fun hc327 => ?_)
    ·rw [if_pos hc327] at hr
     obtain ⟨x13, hx13, hr⟩ := bind_some hr
     refine cut (fun a' k' => Bs noF k0 118 a' k' ∧ (IsV a_) (a'.get 0) k' ∧ (IsV b_) (a'.get 1) k' ∧ (IsV op_) (a'.get 2) k' ∧ IsOwn 0 3 s1.1 (a'.get 7) k' ∧ Lo k0 (obF (a'.get 7)) ∧ (IsV s3) (a'.get 8) k' ∧ (IsV x13) (a'.get 9) k' ∧ (IsV s1.2.2.2) (a'.get 10) k' ∧ (IsV s2) (a'.get 11) k' ∧ True) ?_ hQ ?_
     ·intro Q17 W17 w16
      refine gS 3 (_ :: _ :: _ :: []) hs (by kernel_rfl) ⟨mu rfl i9, o1 [(84, some 0)] rfl fun _ _ h n => ok_add rfl n.1 (cI rfl) hx13, cp 1 rfl rfl, trivial⟩ W17 fun b q p => ?_
      exact tail_done (k := q) (w16 _ _ ⟨Bs.post ⟨hg, hs, hd⟩ p, p.ke 0 rfl i0, p.ke 1 rfl i1, p.ke 2 rfl i2, p.ke 7 rfl i7, (by rw [p.old 7 rfl]; exact n7), p.ke 8 rfl i8, p.ou 2 9 rfl, p.ke 10 rfl i10, p.ke 11 rfl i11, trivial⟩)
     rintro a k ⟨⟨hg, hs, hd⟩, i0, i1, i2, i7, n7, i8, i9, i10, i11, _⟩
     obtain rfl := Option.some.inj hr
     exact w15 _ _ ⟨⟨hg, hs, hd⟩, i0, i1, i2, i7, n7, i8, i9, i10, i11, trivial⟩
    rw [if_neg (by rw [hc327]; decide)] at hr
    refine wp_skip ?_
    obtain rfl := Option.some.inj hr
    exact w15 _ _ ⟨⟨hg, hs, hd⟩, i0, i1, i2, i7, n7, i8, i9, i10, i11, trivial⟩
   clear hs4
   rintro a k ⟨⟨hg, hs, hd⟩, i0, i1, i2, i7, n7, i8, i9, i10, i11, _⟩
   refine wp_seq ?_
   obtain ⟨x14, hx14, hr⟩ := bind_some hr
   refine cut (fun a' k' => Bs noF k0 118 a' k' ∧ (IsV a_) (a'.get 0) k' ∧ (IsV b_) (a'.get 1) k' ∧ (IsV op_) (a'.get 2) k' ∧ IsOwn 0 3 s1.1 (a'.get 7) k' ∧ Lo k0 (obF (a'.get 7)) ∧ (IsV s3) (a'.get 8) k' ∧ (IsV s4) (a'.get 9) k' ∧ (IsV s1.2.2.2) (a'.get 10) k' ∧ (IsV s2) (a'.get 11) k' ∧ (IsV (x14 == 1)) (a'.get 12) k' ∧ True) ?_ hQ ?_
   ·intro Q18 W18 w17
    refine gS 4 (_ :: _ :: _ :: _ :: []) hs (by kernel_rfl) ⟨mu rfl i8, o1 [(86, some 0)] rfl fun _ _ h n => ok_rem rfl n.1 (cI rfl) hx14, o1 [(87, some 1)] rfl fun _ _ h n => ok_eqI rfl n.1 (cI rfl), cp 2 rfl rfl, trivial⟩ W18 fun b q p => ?_
    exact tail_done (k := q) (w17 _ _ ⟨Bs.post ⟨hg, hs, hd⟩ p, p.ke 0 rfl i0, p.ke 1 rfl i1, p.ke 2 rfl i2, p.ke 7 rfl i7, (by rw [p.old 7 rfl]; exact n7), p.ke 8 rfl i8, p.ke 9 rfl i9, p.ke 10 rfl i10, p.ke 11 rfl i11, p.ou 3 12 rfl, trivial⟩)
   rintro a k ⟨⟨hg, hs, hd⟩, i0, i1, i2, i7, n7, i8, i9, i10, i11, i12, _⟩
   refine wp_seq ?_
   obtain ⟨x15, hx15, hr⟩ := bind_some hr
   refine cut (fun a' k' => Bs noF k0 118 a' k' ∧ (IsV a_) (a'.get 0) k' ∧ (IsV b_) (a'.get 1) k' ∧ (IsV op_) (a'.get 2) k' ∧ IsOwn 0 3 s1.1 (a'.get 7) k' ∧ Lo k0 (obF (a'.get 7)) ∧ (IsV s3) (a'.get 8) k' ∧ (IsV s4) (a'.get 9) k' ∧ (IsV s1.2.2.2) (a'.get 10) k' ∧ (IsV s2) (a'.get 11) k' ∧ (IsV (x14 == 1)) (a'.get 12) k' ∧ (IsV (x15 == 1)) (a'.get 13) k' ∧ True) ?_ hQ ?_
   ·intro Q19 W19 w18
    refine gS 4 (_ :: _ :: _ :: _ :: []) hs (by kernel_rfl) ⟨mu rfl i9, o1 [(89, some 0)] rfl fun _ _ h n => ok_rem rfl n.1 (cI rfl) hx15, o1 [(90, some 1)] rfl fun _ _ h n => ok_eqI rfl n.1 (cI rfl), cp 2 rfl rfl, trivial⟩ W19 fun b q p => ?_
    exact tail_done (k := q) (w18 _ _ ⟨Bs.post ⟨hg, hs, hd⟩ p, p.ke 0 rfl i0, p.ke 1 rfl i1, p.ke 2 rfl i2, p.ke 7 rfl i7, (by rw [p.old 7 rfl]; exact n7), p.ke 8 rfl i8, p.ke 9 rfl i9, p.ke 10 rfl i10, p.ke 11 rfl i11, p.ke 12 rfl i12, p.ou 3 13 rfl, trivial⟩)
   rintro a k ⟨⟨hg, hs, hd⟩, i0, i1, i2, i7, n7, i8, i9, i10, i11, i12, i13, _⟩
   refine cutS (fun c l => Bs noF k0 118 c l ∧ IsV a_ (c.get 0) l ∧ IsV b_ (c.get 1) l ∧ IsV op_ (c.get 2) l ∧ IsOwn 0 3 s1.1 (c.get 7) l ∧ Lo k0 (obF (c.get 7)) ∧ IsV s3 (c.get 8) l ∧ IsV s4 (c.get 9) l ∧ IsV s1.2.2.2 (c.get 10) l ∧ IsV s2 (c.get 11) l ∧ IsV (x14 == 1) (c.get 12) l ∧ IsV (x15 == 1) (c.get 13) l ∧ IsV ((x14 == 1) || (x15 == 1)) (c.get 14) l ∧ True) ?_ ?_
   ·intro Q20 W20 w19
    refine gS 5 (_ :: _ :: _ :: _ :: _ :: []) hs (by kernel_rfl) ⟨mu rfl i12, cm 0 rfl rfl, mF rfl rfl i13, o1 [(93, some 1), (94, some 2)] rfl fun _ _ h n => ok_pickOr rfl n.1 (cB rfl) (Gd.get n.2.1), cp 3 rfl rfl, trivial⟩ W20 fun b q p => ?_
    exact tail_done (k := q) (w19 _ _ ⟨Bs.post ⟨hg, hs, hd⟩ p, p.ke 0 rfl i0, p.ke 1 rfl i1, p.ke 2 rfl i2, p.ke 7 rfl i7, (by rw [p.old 7 rfl]; exact n7), p.ke 8 rfl i8, p.ke 9 rfl i9, p.ke 10 rfl i10, p.ke 11 rfl i11, p.ke 12 rfl i12, p.ke 13 rfl i13, p.ou 4 14 rfl, trivial⟩)
   rintro a k ⟨⟨hg, hs, hd⟩, i0, i1, i2, i7, n7, i8, i9, i10, i11, i12, i13, i14, _⟩
   refine wp_seq ?_
   refine cutS (fun c l => Bs noF k0 118 c l ∧ IsV a_ (c.get 0) l ∧ IsV b_ (c.get 1) l ∧ IsV op_ (c.get 2) l ∧ IsOwn 0 3 s1.1 (c.get 7) l ∧ Lo k0 (obF (c.get 7)) ∧ IsV s3 (c.get 8) l ∧ IsV s4 (c.get 9) l ∧ IsV s1.2.2.2 (c.get 10) l ∧ IsV s2 (c.get 11) l ∧ IsV (x14 == 1) (c.get 12) l ∧ IsV (x15 == 1) (c.get 13) l ∧ IsV ((x14 == 1) || (x15 == 1)) (c.get 14) l ∧ IsV (op_ == 1) (c.get 97) l ∧ True) ?_ ?_
   ·intro Q21 W21 w20
    refine gS 2 (_ :: _ :: []) hs (by kernel_rfl) ⟨mu rfl i2, o1 [(96, some 0)] rfl fun _ _ h n => ok_eqI rfl n.1 (cI rfl), trivial⟩ W21 fun b q p => ?_
    exact tail_done (k := q) (w20 _ _ ⟨Bs.post ⟨hg, hs, hd⟩ p, p.ke 0 rfl i0, p.ke 1 rfl i1, p.ke 2 rfl i2, p.ke 7 rfl i7, (by rw [p.old 7 rfl]; exact n7), p.ke 8 rfl i8, p.ke 9 rfl i9, p.ke 10 rfl i10, p.ke 11 rfl i11, p.ke 12 rfl i12, p.ke 13 rfl i13, p.ke 14 rfl i14, p.ou 1 97 rfl, trivial⟩)
   rintro a k ⟨⟨hg, hs, hd⟩, i0, i1, i2, i7, n7, i8, i9, i10, i11, i12, i13, i14, i97, _⟩
   obtain ⟨s5, hs5, hr⟩ := bind_some hr
   refine cut (fun a' k' => Bs noF k0 118 a' k' ∧ (IsV a_) (a'.get 0) k' ∧ (IsV b_) (a'.get 1) k' ∧ (IsV op_) (a'.get 2) k' ∧ IsOwn 0 3 s1.1 (a'.get 7) k' ∧ Lo k0 (obF (a'.get 7)) ∧ (IsV s3) (a'.get 8) k' ∧ (IsV s4) (a'.get 9) k' ∧ (IsV s1.2.2.2) (a'.get 10) k' ∧ (IsV s2) (a'.get 11) k' ∧ (IsV (x14 == 1)) (a'.get 12) k' ∧ (IsV (x15 == 1)) (a'.get 13) k' ∧ (IsV s5) (a'.get 14) k' ∧ True) ?_ hQ ?_
   ·intro Q22 W22 w21
    replace hr := hs5
    clear hQ
    have hQ := W22
    refine wp_cond_split (isBool i97) (fun hc337 => ?_) (fun hc337 => ?_)
    ·rw [if_pos hc337] at hr
     refine cut (fun a' k' => Bs noF k0 118 a' k' ∧ (IsV a_) (a'.get 0) k' ∧ (IsV b_) (a'.get 1) k' ∧ (IsV op_) (a'.get 2) k' ∧ IsOwn 0 3 s1.1 (a'.get 7) k' ∧ Lo k0 (obF (a'.get 7)) ∧ (IsV s3) (a'.get 8) k' ∧ (IsV s4) (a'.get 9) k' ∧ (IsV s1.2.2.2) (a'.get 10) k' ∧ (IsV s2) (a'.get 11) k' ∧ (IsV (x14 == 1)) (a'.get 12) k' ∧ (IsV (x15 == 1)) (a'.get 13) k' ∧ (IsV ((x14 == 1) && (x15 == 1))) (a'.get 14) k' ∧ True) ?_ hQ ?_
     ·intro Q23 W23 w22
      refine gS 5 (_ :: _ :: _ :: _ :: _ :: []) hs (by kernel_rfl) ⟨mu rfl i12, cm 0 rfl rfl, mT rfl rfl i13, o1 [(99, some 1), (100, some 2)] rfl fun _ _ h n => ok_pickAnd rfl n.1 (Gd.get n.2.1) (cB rfl), cp 3 rfl rfl, trivial⟩ W23 fun b q p => ?_
      exact tail_done (k := q) (w22 _ _ ⟨Bs.post ⟨hg, hs, hd⟩ p, p.ke 0 rfl i0, p.ke 1 rfl i1, p.ke 2 rfl i2, p.ke 7 rfl i7, (by rw [p.old 7 rfl]; exact n7), p.ke 8 rfl i8, p.ke 9 rfl i9, p.ke 10 rfl i10, p.ke 11 rfl i11, p.ke 12 rfl i12, p.ke 13 rfl i13, p.ou 4 14 rfl, trivial⟩)
     rintro a k ⟨⟨hg, hs, hd⟩, i0, i1, i2, i7, n7, i8, i9, i10, i11, i12, i13, i14, _⟩
     obtain rfl := Option.some.inj hr
     exact w21 _ _ ⟨⟨hg, hs, hd⟩, i0, i1, i2, i7, n7, i8, i9, i10, i11, i12, i13, i14, trivial⟩
    rw [if_neg (by rw [hc337]; decide)] at hr
    refine wp_skip ?_
    obtain rfl := Option.some.inj hr
    exact w21 _ _ ⟨⟨hg, hs, hd⟩, i0, i1, i2, i7, n7, i8, i9, i10, i11, i12, i13, i14, trivial⟩
   clear hs5
   rintro a k ⟨⟨hg, hs, hd⟩, i0, i1, i2, i7, n7, i8, i9, i10, i11, i12, i13, i14, _⟩
   refine wp_seq ?_
   refine cutS (fun c l => Bs noF k0 118 c l ∧ IsV a_ (c.get 0) l ∧ IsV b_ (c.get 1) l ∧ IsV op_ (c.get 2) l ∧ IsOwn 0 3 s1.1 (c.get 7) l ∧ Lo k0 (obF (c.get 7)) ∧ IsV s3 (c.get 8) l ∧ IsV s4 (c.get 9) l ∧ IsV s1.2.2.2 (c.get 10) l ∧ IsV s2 (c.get 11) l ∧ IsV (x14 == 1) (c.get 12) l ∧ IsV (x15 == 1) (c.get 13) l ∧ IsV s5 (c.get 14) l ∧ IsV (op_ == 2) (c.get 103) l ∧ True) ?_ ?_
   ·intro Q24 W24 w23
    refine gS 2 (_ :: _ :: []) hs (by kernel_rfl) ⟨mu rfl i2, o1 [(102, some 0)] rfl fun _ _ h n => ok_eqI rfl n.1 (cI rfl), trivial⟩ W24 fun b q p => ?_
    exact tail_done (k := q) (w23 _ _ ⟨Bs.post ⟨hg, hs, hd⟩ p, p.ke 0 rfl i0, p.ke 1 rfl i1, p.ke 2 rfl i2, p.ke 7 rfl i7, (by rw [p.old 7 rfl]; exact n7), p.ke 8 rfl i8, p.ke 9 rfl i9, p.ke 10 rfl i10, p.ke 11 rfl i11, p.ke 12 rfl i12, p.ke 13 rfl i13, p.ke 14 rfl i14, p.ou 1 103 rfl, trivial⟩)
   rintro a k ⟨⟨hg, hs, hd⟩, i0, i1, i2, i7, n7, i8, i9, i10, i11, i12, i13, i14, i103, _⟩
   obtain ⟨s6, hs6, hr⟩ := bind_some hr
   refine cut (fun a' k' => Bs noF k0 118 a' k' ∧ (IsV a_) (a'.get 0) k' ∧ (IsV b_) (a'.get 1) k' ∧ (IsV op_) (a'.get 2) k' ∧ IsOwn 0 3 s1.1 (a'.get 7) k' ∧ Lo k0 (obF (a'.get 7)) ∧ (IsV s3) (a'.get 8) k' ∧ (IsV s4) (a'.get 9) k' ∧ (IsV s1.2.2.2) (a'.get 10) k' ∧ (IsV s2) (a'.get 11) k' ∧ (IsV s6) (a'.get 14) k' ∧ True) ?_ hQ ?_
   ·intro Q25 W25 w24
    replace hr := hs6
    clear hQ
    have hQ := W25
    refine wp_cond_split (isBool i103) (fun hc344 => ?_) (fun hc344 => ?_)
    ·rw [if_pos hc344] at hr
     refine cut (fun a' k' => Bs noF k0 118 a' k' ∧ (IsV a_) (a'.get 0) k' ∧ (IsV b_) (a'.get 1) k' ∧ (IsV op_) (a'.get 2) k' ∧ IsOwn 0 3 s1.1 (a'.get 7) k' ∧ Lo k0 (obF (a'.get 7)) ∧ (IsV s3) (a'.get 8) k' ∧ (IsV s4) (a'.get 9) k' ∧ (IsV s1.2.2.2) (a'.get 10) k' ∧ (IsV s2) (a'.get 11) k' ∧ (IsV ((x14 == 1) && (!(x15 == 1)))) (a'.get 14) k' ∧ True) ?_ hQ ?_
     ·intro Q26 W26 w25
      refine gS 6 (_ :: _ :: _ :: _ :: _ :: _ :: []) hs (by kernel_rfl) ⟨mu rfl i12, cm 0 rfl rfl, mT rfl rfl i13, gT [(106, some 2)] rfl rfl fun hp _ _ h n => ok_not rfl (Gd.get n.1 hp), o1 [(105, some 1), (107, some 3)] rfl fun _ _ h n => ok_pickAnd rfl n.1 (Gd.get n.2.1) (cB rfl), cp 4 rfl rfl, trivial⟩ W26 fun b q p => ?_
      exact tail_done (k := q) (w25 _ _ ⟨Bs.post ⟨hg, hs, hd⟩ p, p.ke 0 rfl i0, p.ke 1 rfl i1, p.ke 2 rfl i2, p.ke 7 rfl i7, (by rw [p.old 7 rfl]; exact n7), p.ke 8 rfl i8, p.ke 9 rfl i9, p.ke 10 rfl i10, p.ke 11 rfl i11, p.ou 5 14 rfl, trivial⟩)
     rintro a k ⟨⟨hg, hs, hd⟩, i0, i1, i2, i7, n7, i8, i9, i10, i11, i14, _⟩
     obtain rfl := Option.some.inj hr
     exact w24 _ _ ⟨⟨hg, hs, hd⟩, i0, i1, i2, i7, n7, i8, i9, i10, i11, i14, trivial⟩
    rw [if_neg (by rw [hc344]; decide)] at hr
    refine wp_skip ?_
    obtain rfl := Option.some.inj hr
    exact w24 _ _ ⟨⟨hg, hs, hd⟩, i0, i1, i2, i7, n7, i8, i9, i10, i11, i14, trivial⟩
   clear hs6
   rintro a k ⟨⟨hg, hs, hd⟩, i0, i1, i2, i7, n7, i8, i9, i10, i11, i14, _⟩
   refine wp_seq ?_
   refine cutS (fun c l => Bs noF k0 118 c l ∧ IsV a_ (c.get 0) l ∧ IsV b_ (c.get 1) l ∧ IsV op_ (c.get 2) l ∧ IsOwn 0 3 s1.1 (c.get 7) l ∧ Lo k0 (obF (c.get 7)) ∧ IsV s3 (c.get 8) l ∧ IsV s4 (c.get 9) l ∧ IsV s2 (c.get 11) l ∧ IsV s6 (c.get 14) l ∧ IsV (s6 != s1.2.2.2) (c.get 111) l ∧ True) ?_ ?_
   ·intro Q27 W27 w26
    refine gS 3 (_ :: _ :: ⟨some (IsV (s6 != s1.2.2.2)), [(109, some 0), (110, some 1)]⟩ :: []) hs (by kernel_rfl) ⟨mu rfl i14, mu rfl i10, ob1 rfl fun _ _ h n => ok_neB rfl Try.underlying4 n.1 n.2.1, trivial⟩ W27 fun b q p => ?_
    exact tail_done (k := q) (w26 _ _ ⟨Bs.post ⟨hg, hs, hd⟩ p, p.ke 0 rfl i0, p.ke 1 rfl i1, p.ke 2 rfl i2, p.ke 7 rfl i7, (by rw [p.old 7 rfl]; exact n7), p.ke 8 rfl i8, p.ke 9 rfl i9, p.ke 11 rfl i11, p.ke 14 rfl i14, p.ou 2 111 rfl, trivial⟩)
   rintro a k ⟨⟨hg, hs, hd⟩, i0, i1, i2, i7, n7, i8, i9, i11, i14, i111, _⟩
   obtain ⟨s7, hs7, hr⟩ := bind_some hr
   refine cut (fun a' k' => Bs noF k0 118 a' k' ∧ (IsV a_) (a'.get 0) k' ∧ (IsV b_) (a'.get 1) k' ∧ (IsV op_) (a'.get 2) k' ∧ IsOwn 0 3 s7 (a'.get 7) k' ∧ Lo k0 (obF (a'.get 7)) ∧ (IsV s3) (a'.get 8) k' ∧ (IsV s4) (a'.get 9) k' ∧ (IsV s6) (a'.get 14) k' ∧ True) ?_ hQ ?_
   ·intro Q28 W28 w27
    replace hr := hs7
    clear hQ
    have hQ := W28
    refine wp_cond_split (isBool i111) (fun hc351 => ?_) (fun hc351 => ?_)
    ·rw [if_pos hc351] at hr
     obtain ⟨x16, hx16, hr⟩ := bind_some hr
     refine cut (fun a' k' => Bs noF k0 118 a' k' ∧ (IsV a_) (a'.get 0) k' ∧ (IsV b_) (a'.get 1) k' ∧ (IsV op_) (a'.get 2) k' ∧ IsOwn 0 3 x16 (a'.get 7) k' ∧ Lo k0 (obF (a'.get 7)) ∧ (IsV s3) (a'.get 8) k' ∧ (IsV s4) (a'.get 9) k' ∧ (IsV s6) (a'.get 14) k' ∧ True) ?_ hQ ?_
     ·intro Q29 W29 w28
      refine gS 3 (⟨some (OwnAt (a.get 7) 0 3 s1.1), [(7, none)]⟩ :: _ :: ⟨some (IsV (α := (List Int)) ([s2])), [(113, some 1)]⟩ :: []) hs (by kernel_rfl) ⟨ob1 rfl fun _ _ h n => ok_moveOA (.inl rfl) (ownAt n.1 (up i7 h n.1)), mu rfl i11, ob1 rfl fun _ _ h n => ok_buildSlice rfl Try.underlying63 eo3 rfl (by decide) (by decide) ⟨rfl, n.1, trivial⟩, trivial⟩ W29 fun b q p => ?_
      have hgq := hg.then p.grow
      have hsb := p.size.trans hs
      have hdb := p.defers.trans hd
      have j0 := p.ke 0 rfl i0
      have j1 := p.ke 1 rfl i1
      have j2 := p.ke 2 rfl i2
      have j8 := p.ke 8 rfl i8
      have j9 := p.ke 9 rfl i9
      have j14 := p.ke 14 rfl i14
      have e112 : b.get 112 = a.get 7 := (p.ou 0 112 rfl).1
      have j112 : IsOwn 0 3 s1.1 (b.get 112) q := (p.ou 0 112 rfl).2
      have y112 : Lo k0 (obF (b.get 112)) := by rw [e112]; exact n7
      have j114 : (IsV (α := (List Int)) ([s2])) (b.get 114) q := p.ou 2 114 rfl
      have hns := j112.nshF
      refine tail_appendS (i := 3) (d := 115) rfl rfl rfl rfl (by rw [hsb]; decide) (e := 3) Try.underlying63 eo3 j112 (IsV.rd j114) hx16 fun b2 q2 hsz hdf hoth hch hown hob => ?_
      have hle := hch.le hns
      have yn : Lo k0 (obF (b2.get 115)) := y112.app hgq hob
      replace j0 := Pers.pers hle j0
      replace j1 := Pers.pers hle j1
      replace j2 := Pers.pers hle j2
      replace j8 := Pers.pers hle j8
      replace j9 := Pers.pers hle j9
      replace j14 := Pers.pers hle j14
      replace j114 := Pers.pers hle j114
      replace hgq := hgq.step hch y112.wr
      rw [← hoth 0 (by decide)] at j0
      rw [← hoth 1 (by decide)] at j1
      rw [← hoth 2 (by decide)] at j2
      rw [← hoth 8 (by decide)] at j8
      rw [← hoth 9 (by decide)] at j9
      rw [← hoth 14 (by decide)] at j14
      rw [← hoth 114 (by decide)] at j114
      have j115 := hown
      have y115 := yn
      replace hsb := hsz.trans hsb
      replace hdb := hdf.trans hdb
      clear hle hch hown hob hns yn hsz hdf hoth
      obtain ⟨b, hbb⟩ : ∃ b, b = b2 := ⟨b2, rfl⟩
      subst hbb
      obtain ⟨q, hqq⟩ : ∃ q, q = q2 := ⟨q2, rfl⟩
      subst hqq
      refine tail_assign (i := 4) (d := 7) rfl rfl (.inl rfl) rfl (by rw [hsb]; decide) fun b2 hsz hdf hnew hoth => ?_
      have jn : (IsOwn 0 3 x16) (b2.get 7) q := by rw [hnew]; exact j115
      have yn : Lo k0 (obF (b2.get 7)) := by rw [hnew]; exact y115
      rw [← hoth 0 (by decide)] at j0
      rw [← hoth 1 (by decide)] at j1
      rw [← hoth 2 (by decide)] at j2
      rw [← hoth 8 (by decide)] at j8
      rw [← hoth 9 (by decide)] at j9
      rw [← hoth 14 (by decide)] at j14
      rw [← hoth 114 (by decide)] at j114
      have j7 := jn
      have y7 := yn
      replace hsb := hsz.trans hsb
      replace hdb := hdf.trans hdb
      clear hsz hdf hoth
      obtain ⟨b, hbb⟩ : ∃ b, b = b2 := ⟨b2, rfl⟩
      subst hbb
      exact tail_done (k := q) (w28 _ _ ⟨⟨hgq, hsb, hdb⟩, j0, j1, j2, j7, y7, j8, j9, j14, trivial⟩)
     rintro a k ⟨⟨hg, hs, hd⟩, i0, i1, i2, i7, n7, i8, i9, i14, _⟩
     obtain rfl := Option.some.inj hr
     exact w27 _ _ ⟨⟨hg, hs, hd⟩, i0, i1, i2, i7, n7, i8, i9, i14, trivial⟩
    rw [if_neg (by rw [hc351]; decide)] at hr
    refine wp_skip ?_
    obtain rfl := Option.some.inj hr
    exact w27 _ _ ⟨⟨hg, hs, hd⟩, i0, i1, i2, i7, n7, i8, i9, i14, trivial⟩
   clear hs7
   rintro a k ⟨⟨hg, hs, hd⟩, i0, i1, i2, i7, n7, i8, i9, i14, _⟩
   refine cut (fun a' k' => Bs noF k0 118 a' k' ∧ (IsV a_) (a'.get 0) k' ∧ (IsV b_) (a'.get 1) k' ∧ (IsV op_) (a'.get 2) k' ∧ IsOwn 0 3 s7 (a'.get 7) k' ∧ Lo k0 (obF (a'.get 7)) ∧ (IsV s3) (a'.get 8) k' ∧ (IsV s4) (a'.get 9) k' ∧ (IsV s6) (a'.get 10) k' ∧ True) ?_ hQ ?_
   ·intro Q30 W30 w29
    refine gS 2 (_ :: _ :: []) hs (by kernel_rfl) ⟨mu rfl i14, cp 0 rfl rfl, trivial⟩ W30 fun b q p => ?_
    exact tail_done (k := q) (w29 _ _ ⟨Bs.post ⟨hg, hs, hd⟩ p, p.ke 0 rfl i0, p.ke 1 rfl i1, p.ke 2 rfl i2, p.ke 7 rfl i7, (by rw [p.old 7 rfl]; exact n7), p.ke 8 rfl i8, p.ke 9 rfl i9, p.ou 1 10 rfl, trivial⟩)
   rintro a k ⟨⟨hg, hs, hd⟩, i0, i1, i2, i7, n7, i8, i9, i10, _⟩
   exact hgo299 _ _ _ (Option.some.inj hr).symm ⟨⟨hg, hs, hd⟩, i0, i1, i2, i7, n7, i8, i9, i10, trivial⟩
  rw [if_neg (by rw [hc382]; decide)] at hr
  refine wp_exit ?_
  obtain ⟨kk, sh381, ii7⟩ := i7.give
  replace i7 := ii7
  replace hg := hg.hand sh381 n7.wr
  rw [← sh381.w]
  clear sh381
  obtain ⟨k, hkk⟩ : ∃ k, k = kk := ⟨kk, rfl⟩
  subst hkk
  exact hex300 _ _ _ _ (Option.some.inj hr).symm ⟨rfl, ⟨hg, hs, hd⟩, i7, trivial⟩
 ·rintro r1 a k rfl hR
  dsimp only at hr
  obtain rfl := Option.some.inj hr
  exact hR
 ·rintro _ _ _ rfl _
  simp at hr
 clear hf1
 rintro _ s8 a k rfl ⟨rfl, ⟨hg, hs, hd⟩, i7, _⟩
 dsimp only at hr
 refine stepL 2 (_ :: _ :: []) rfl ⟨hg, hs, hd⟩ (by kernel_rfl) ⟨mu rfl i7, cp 0 rfl rfl, trivial⟩ [⟨_, _⟩] (fun b q p => ⟨p.ou 1 6 rfl, trivial⟩) ?_
 rintro a k ⟨⟨hg, hs, hd⟩, i6, _⟩
 refine wp_ret ?_
 obtain rfl := Option.some.inj hr
 exact retC1 rfl hd hg i6
def ref06_ints_L0 (a_ : (List Int)) (b_ : (List Int)) (s1 : Int) : Option (Flow (Int) (Bool)) :=
 if (decide (s1 < (a_.length : Int))) then
  (getI a_ s1).bind fun x1 =>
  (getI b_ s1).bind fun x2 =>
  if (x1 != x2) then
   some (.ret false)
  else
   (addI s1 1).bind fun x3 =>
   some (.go x3)
 else
  some (.ex 0 s1)
def ref06_ints (a_ : (List Int)) (b_ : (List Int)) : Option (Bool) :=
 if ((a_.length : Int) != (b_.length : Int)) then
  some false
 else
  (iterL (ref06_ints_L0 a_ b_) (a_.length + b_.length + 1) 0).bind fun f1 => match f1 with
   | .go _ => none
   | .ex _ _ =>
    some true
   | .ret r1 => some r1
theorem ref06_ints_ok {k0 : K} {v0 v1 : Value} {a_ : (List Int)} {b_ : (List Int)} {r : Bool} (i0 : (IsV a_) v0 k0) (i1 : (IsV b_) v1 k0) (hr : ref06_ints a_ b_ = some r) :
  Calls Try.prog 70 #[v0, v1] k0.w (Ret k0 (IsV r)) := by
 unfold ref06_ints at hr
 refine Ret.ofC ?_
 refine enterK Try.func70 rfl Try.ntmps70 (show 2 ≤ 26 by decide) fun a k hk0 hs hd ha => ?_
 obtain ⟨e0, e1, _⟩ := ha
 replace i0 : (IsV a_) (a.get 0) k := by rw [e0, hk0]; exact i0
 replace i1 : (IsV b_) (a.get 1) k := by rw [e1, hk0]; exact i1
 have hQ : Gb.LetsOut (bodyPost Try.prog Try.f70 (RetC noF k0 (IsV r))) := letsOutC
 have hg : Chg noF k0 k := by rw [hk0]; exact Chg.refl _ k0
 refine stepL 1 (⟨some (IsV false), []⟩ :: []) rfl ⟨hg, hs, hd⟩ (by kernel_rfl) ⟨ob1 rfl fun _ _ h n => ok_assign rfl (isV_bool.2 rfl), trivial⟩ [⟨_, _⟩, ⟨_, _⟩] (fun b q p => ⟨p.ke 0 rfl i0, p.ke 1 rfl i1, trivial⟩) ?_
 rintro a k ⟨⟨hg, hs, hd⟩, i0, i1, _⟩
 refine wp_seq ?_
 refine stepL 5 (_ :: _ :: _ :: _ :: ⟨some (IsV ((a_.length : Int) != (b_.length : Int))), [(7, some 1), (9, some 3)]⟩ :: []) rfl ⟨hg, hs, hd⟩ (by kernel_rfl) ⟨mu rfl i0, o1 [(6, some 0)] rfl fun _ _ h n => ok_len rfl rfl Try.underlying63 (IsV.rd n.1), mu rfl i1, o1 [(8, some 2)] rfl fun _ _ h n => ok_len rfl rfl Try.underlying63 (IsV.rd n.1), ob1 rfl fun _ _ h n => ok_neI rfl n.1 n.2.1, trivial⟩ [⟨_, _⟩, ⟨_, _⟩, ⟨_, _⟩] (fun b q p => ⟨p.ke 0 rfl i0, p.ke 1 rfl i1, p.ou 4 10 rfl, trivial⟩) ?_
 rintro a k ⟨⟨hg, hs, hd⟩, i0, i1, i10, _⟩
 refine wp_cond_split (isBool i10) (fun hc435 => ?_) (fun hc435 => ?_)
 ·rw [if_pos hc435] at hr
  refine stepL 1 (⟨some (IsV false), []⟩ :: []) rfl ⟨hg, hs, hd⟩ (by kernel_rfl) ⟨ob1 rfl fun _ _ h n => ok_assign rfl (isV_bool.2 rfl), trivial⟩ [⟨_, _⟩] (fun b q p => ⟨p.ou 0 4 rfl, trivial⟩) ?_
  rintro a k ⟨⟨hg, hs, hd⟩, i4, _⟩
  refine wp_ret ?_
  obtain rfl := Option.some.inj hr
  exact retC1 rfl hd hg i4
 rw [if_neg (by rw [hc435]; decide)] at hr
 refine wp_skip ?_
 refine wp_seq ?_
 refine stepL 1 (⟨some (IsI 0), []⟩ :: []) rfl ⟨hg, hs, hd⟩ (by kernel_rfl) ⟨aI rfl rfl, trivial⟩ [⟨_, _⟩, ⟨_, _⟩, ⟨_, _⟩] (fun b q p => ⟨p.ke 0 rfl i0, p.ke 1 rfl i1, p.ou 0 5 rfl, trivial⟩) ?_
 rintro a k ⟨⟨hg, hs, hd⟩, i0, i1, i5, _⟩
 refine wp_block ?_
 obtain ⟨f1, hf1, hr⟩ := bind_some hr
 refine cutFe f1 (fun s' c l => Bs noF k0 26 c l ∧ IsV a_ (c.get 0) l ∧ IsV b_ (c.get 1) l ∧ IsV s' (c.get 5) l ∧ True) (fun i' s' c l => (i' = 0 ∧ Bs noF k0 26 c l ∧ True)) (fun r' c l => bodyPost Try.prog Try.f70 (RetC noF k0 (IsV r')) .ret c l.w) ?_ hQ ?_ ?_ ?_
 ·intro Q1 W1 hgo hex hret
  refine sim_loop ?_ _ _ _ _ _ hf1 ⟨⟨hg, hs, hd⟩, i0, i1, i5, trivial⟩ Q1 W1 hgo hex hret
  clear hr hf1 hgo hex hret W1 hQ hg hs hd i0 i1 i5
  intro s1 fl_ a k hr hS Q hQ hgo409 hex410 hret411
  obtain ⟨⟨hg, hs, hd⟩, i0, i1, i5, _⟩ := hS
  unfold ref06_ints_L0 at hr
  refine wp_seq ?_
  refine stepL 4 (_ :: _ :: _ :: _ :: []) rfl ⟨hg, hs, hd⟩ (by kernel_rfl) ⟨mu rfl i5, mu rfl i0, o1 [(12, some 1)] rfl fun _ _ h n => ok_len rfl rfl Try.underlying63 (IsV.rd n.1), o1 [(11, some 0), (13, some 2)] rfl fun _ _ h n => ok_lss rfl n.1 n.2.1, trivial⟩ [⟨_, _⟩, ⟨_, _⟩, ⟨_, _⟩, ⟨_, _⟩] (fun b q p => ⟨p.ke 0 rfl i0, p.ke 1 rfl i1, p.ke 5 rfl i5, p.ou 3 14 rfl, trivial⟩) ?_
  rintro a k ⟨⟨hg, hs, hd⟩, i0, i1, i5, i14, _⟩
  refine wp_cond_split (isBool i14) (fun hc423 => ?_) (fun hc423 => ?_)
  ·rw [if_pos hc423] at hr
   refine wp_skip ?_
   refine wp_seq ?_
   refine wp_block ?_
   refine wp_seq ?_
   obtain ⟨x1, hx1, hr⟩ := bind_some hr
   obtain ⟨x2, hx2, hr⟩ := bind_some hr
   refine cut (fun a' k' => Bs noF k0 26 a' k' ∧ (IsV a_) (a'.get 0) k' ∧ (IsV b_) (a'.get 1) k' ∧ (IsV s1) (a'.get 5) k' ∧ (IsV (x1 != x2)) (a'.get 25) k' ∧ True) ?_ hQ ?_
   ·intro Q2 W2 w1
    refine region (m := 9) (_ :: _ :: _ :: _ :: _ :: _ :: _ :: _ :: ⟨some (IsV (x1 != x2)), [(20, some 3), (24, some 7)]⟩ :: []) hmix hs (by kernel_rfl) ⟨mu rfl i0, mu rfl i5, o1 [(17, some 0), (18, some 1)] rfl fun _ _ h n => ok_indexAddr rfl Try.underlying63 ty3 (IsV.rd n.1) n.2.1 hx1, o1 [(19, some 2)] rfl fun _ _ h n => ok_load rfl ty3 n.1, mu rfl i1, mu rfl i5, o1 [(21, some 4), (22, some 5)] rfl fun _ _ h n => ok_indexAddr rfl Try.underlying63 ty3 (IsV.rd n.1) n.2.1 hx2, o1 [(23, some 6)] rfl fun _ _ h n => ok_load rfl ty3 n.1, ob1 rfl fun _ _ h n => ok_neI rfl n.1 n.2.1, trivial⟩ W2 fun b q p => ?_
    exact tail_done (k := q) (w1 _ _ ⟨Bs.post ⟨hg, hs, hd⟩ p, p.ke 0 rfl i0, p.ke 1 rfl i1, p.ke 5 rfl i5, p.ou 8 25 rfl, trivial⟩)
   rintro a k ⟨⟨hg, hs, hd⟩, i0, i1, i5, i25, _⟩
   refine wp_cond_split (isBool i25) (fun hc420 => ?_) (fun hc420 => ?_)
   ·rw [if_pos hc420] at hr
    refine stepL 1 (⟨some (IsV false), []⟩ :: []) rfl ⟨hg, hs, hd⟩ (by kernel_rfl) ⟨ob1 rfl fun _ _ h n => ok_assign rfl (isV_bool.2 rfl), trivial⟩ [⟨_, _⟩] (fun b q p => ⟨p.ou 0 4 rfl, trivial⟩) ?_
    rintro a k ⟨⟨hg, hs, hd⟩, i4, _⟩
    refine wp_ret ?_
    exact hret411 _ _ _ (Option.some.inj hr).symm (retC1 rfl hd hg i4)
   rw [if_neg (by rw [hc420]; decide)] at hr
   refine wp_skip ?_
   obtain ⟨x3, hx3, hr⟩ := bind_some hr
   refine cut (fun a' k' => Bs noF k0 26 a' k' ∧ (IsV a_) (a'.get 0) k' ∧ (IsV b_) (a'.get 1) k' ∧ (IsV x3) (a'.get 5) k' ∧ True) ?_ hQ ?_
   ·intro Q3 W3 w2
    refine gS 3 (_ :: _ :: _ :: []) hs (by kernel_rfl) ⟨mu rfl i5, o1 [(15, some 0)] rfl fun _ _ h n => ok_add rfl n.1 (cI rfl) hx3, cp 1 rfl rfl, trivial⟩ W3 fun b q p => ?_
    exact tail_done (k := q) (w2 _ _ ⟨Bs.post ⟨hg, hs, hd⟩ p, p.ke 0 rfl i0, p.ke 1 rfl i1, p.ou 2 5 rfl, trivial⟩)
   rintro a k ⟨⟨hg, hs, hd⟩, i0, i1, i5, _⟩
   exact hgo409 _ _ _ (Option.some.inj hr).symm ⟨⟨hg, hs, hd⟩, i0, i1, i5, trivial⟩
  rw [if_neg (by rw [hc423]; decide)] at hr
  refine wp_exit ?_
  exact hex410 _ _ _ _ (Option.some.inj hr).symm ⟨rfl, ⟨hg, hs, hd⟩, trivial⟩
 ·rintro r1 a k rfl hR
  dsimp only at hr
  obtain rfl := Option.some.inj hr
  exact hR
 ·rintro _ _ _ rfl _
  simp at hr
 clear hf1
 rintro _ s2 a k rfl ⟨rfl, ⟨hg, hs, hd⟩, _⟩
 dsimp only at hr
 refine stepL 1 (⟨some (IsV true), []⟩ :: []) rfl ⟨hg, hs, hd⟩ (by kernel_rfl) ⟨ob1 rfl fun _ _ h n => ok_assign rfl (isV_bool.2 rfl), trivial⟩ [⟨_, _⟩] (fun b q p => ⟨p.ou 0 4 rfl, trivial⟩) ?_
 rintro a k ⟨⟨hg, hs, hd⟩, i4, _⟩
 refine wp_ret ?_
 obtain rfl := Option.some.inj hr
 exact retC1 rfl hd hg i4
end Go.Proofs.Ytbpecfmimgjakaa
