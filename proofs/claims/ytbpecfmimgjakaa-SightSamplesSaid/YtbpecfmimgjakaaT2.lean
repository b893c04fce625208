/- What the functions compute that the law reaches, part 2 -/
import Derived.Test.YtbpecfmimgjakaaT1
namespace Go.Proofs.Ytbpecfmimgjakaa
open Go.Gb
set_option linter.unusedVariables false
set_option linter.unusedSimpArgs false
set_option maxRecDepth 100000
def ref06_RightRect (r_ : Rect) : Option (Bool) :=
 some ((((((decide (0 ≤ r_.X0)) && (decide (r_.X0 < r_.X1))) && (decide (r_.X1 ≤ 1048576))) && (decide (0 ≤ r_.Y0))) && (decide (r_.Y0 < r_.Y1))) && (decide (r_.Y1 ≤ 1048576)))
theorem ref06_RightRect_ok {k0 : K} {v0 : Value} {r_ : Rect} {r : Bool} (i0 : (IsV r_) v0 k0) (hr : ref06_RightRect r_ = some r) :
  Calls Try.prog 34 #[v0] k0.w (Ret k0 (IsV r)) := by
 unfold ref06_RightRect at hr
 refine Ret.ofC ?_
 refine enterK Try.func34 rfl Try.ntmps34 (show 1 ≤ 35 by decide) fun a k hk0 hs hd ha => ?_
 obtain ⟨e0, _⟩ := ha
 replace i0 : (IsV r_) (a.get 0) k := by rw [e0, hk0]; exact i0
 have hQ : Gb.LetsOut (bodyPost Try.prog Try.f34 (RetC noF k0 (IsV r))) := letsOutC
 have hg : Chg noF k0 k := by rw [hk0]; exact Chg.refl _ k0
 refine stepL 2 (⟨some (IsRef r_), [(0, none)]⟩ :: ⟨some (IsV false), []⟩ :: []) rfl ⟨hg, hs, hd⟩ (by kernel_rfl) ⟨ob1 rfl fun _ _ h n => ok_boxR rfl (up i0 h n.1), ob1 rfl fun _ _ h n => ok_assign rfl (isV_bool.2 rfl), trivial⟩ [⟨_, _⟩] (fun b q p => ⟨p.ou 0 1 rfl, trivial⟩) ?_
 rintro a k ⟨⟨hg, hs, hd⟩, i1, _⟩
 refine stepL 33 (_ :: _ :: _ :: _ :: _ :: _ :: _ :: _ :: _ :: _ :: _ :: _ :: _ :: _ :: _ :: _ :: _ :: _ :: _ :: _ :: _ :: _ :: _ :: _ :: _ :: _ :: _ :: _ :: _ :: _ :: _ :: _ :: _ :: []) rfl ⟨hg, hs, hd⟩ (by kernel_rfl) ⟨o1 [(1, none)] rfl fun _ _ h n => ok_fieldAddr rfl fo35_0 (at_Rect_0 _) ((up i1 h n.1)).ptr, o1 [(3, some 0)] rfl fun _ _ h n => ok_load rfl ty3 n.1, o1 [(4, some 1)] rfl fun _ _ h n => ok_geq rfl n.1 (cI rfl), cm 2 rfl rfl, gT [(1, none)] rfl rfl fun hp _ _ h n => ok_fieldAddr rfl fo35_0 (at_Rect_0 _) ((up i1 h n.1)).ptr, gT [(7, some 4)] rfl rfl fun hp _ _ h n => ok_load rfl ty3 (Gd.get n.1 hp), gT [(1, none)] rfl rfl fun hp _ _ h n => ok_fieldAddr rfl fo35_2 (at_Rect_2 _) ((up i1 h n.1)).ptr, gT [(9, some 6)] rfl rfl fun hp _ _ h n => ok_load rfl ty3 (Gd.get n.1 hp), gT [(8, some 5), (10, some 7)] rfl rfl fun hp _ _ h n => ok_lss rfl (Gd.get n.1 hp) (Gd.get n.2.1 hp), o1 [(6, some 3), (11, some 8)] rfl fun _ _ h n => ok_pickAnd rfl n.1 (Gd.get n.2.1) (cB rfl), cm 9 rfl rfl, gT [(1, none)] rfl rfl fun hp _ _ h n => ok_fieldAddr rfl fo35_2 (at_Rect_2 _) ((up i1 h n.1)).ptr, gT [(14, some 11)] rfl rfl fun hp _ _ h n => ok_load rfl ty3 (Gd.get n.1 hp), gT [(15, some 12)] rfl rfl fun hp _ _ h n => ok_leq rfl (Gd.get n.1 hp) (cI rfl), o1 [(13, some 10), (16, some 13)] rfl fun _ _ h n => ok_pickAnd rfl n.1 (Gd.get n.2.1) (cB rfl), cm 14 rfl rfl, gT [(1, none)] rfl rfl fun hp _ _ h n => ok_fieldAddr rfl fo35_1 (at_Rect_1 _) ((up i1 h n.1)).ptr, gT [(19, some 16)] rfl rfl fun hp _ _ h n => ok_load rfl ty3 (Gd.get n.1 hp), gT [(20, some 17)] rfl rfl fun hp _ _ h n => ok_geq rfl (Gd.get n.1 hp) (cI rfl), o1 [(18, some 15), (21, some 18)] rfl fun _ _ h n => ok_pickAnd rfl n.1 (Gd.get n.2.1) (cB rfl), cm 19 rfl rfl, gT [(1, none)] rfl rfl fun hp _ _ h n => ok_fieldAddr rfl fo35_1 (at_Rect_1 _) ((up i1 h n.1)).ptr, gT [(24, some 21)] rfl rfl fun hp _ _ h n => ok_load rfl ty3 (Gd.get n.1 hp), gT [(1, none)] rfl rfl fun hp _ _ h n => ok_fieldAddr rfl fo35_3 (at_Rect_3 _) ((up i1 h n.1)).ptr, gT [(26, some 23)] rfl rfl fun hp _ _ h n => ok_load rfl ty3 (Gd.get n.1 hp), gT [(25, some 22), (27, some 24)] rfl rfl fun hp _ _ h n => ok_lss rfl (Gd.get n.1 hp) (Gd.get n.2.1 hp), o1 [(23, some 20), (28, some 25)] rfl fun _ _ h n => ok_pickAnd rfl n.1 (Gd.get n.2.1) (cB rfl), cm 26 rfl rfl, gT [(1, none)] rfl rfl fun hp _ _ h n => ok_fieldAddr rfl fo35_3 (at_Rect_3 _) ((up i1 h n.1)).ptr, gT [(31, some 28)] rfl rfl fun hp _ _ h n => ok_load rfl ty3 (Gd.get n.1 hp), gT [(32, some 29)] rfl rfl fun hp _ _ h n => ok_leq rfl (Gd.get n.1 hp) (cI rfl), o1 [(30, some 27), (33, some 30)] rfl fun _ _ h n => ok_pickAnd rfl n.1 (Gd.get n.2.1) (cB rfl), cp 31 rfl rfl, trivial⟩ [⟨_, _⟩] (fun b q p => ⟨p.ou 32 2 rfl, trivial⟩) ?_
 rintro a k ⟨⟨hg, hs, hd⟩, i2, _⟩
 refine wp_ret ?_
 obtain rfl := Option.some.inj hr
 exact retC1 rfl hd hg i2
def ref09_RightBox (b_ : Box) : Option (Bool) :=
 (ref06_RightRect b_.Base).bind fun x8_2 =>
 some (((x8_2 && (decide (0 ≤ b_.Z0))) && (decide (b_.Z0 < b_.Z1))) && (decide (b_.Z1 ≤ 4096)))
theorem ref09_RightBox_ok {k0 : K} {v0 : Value} {b_ : Box} {r : Bool} (i0 : (IsV b_) v0 k0) (hr : ref09_RightBox b_ = some r) :
  Calls Try.prog 22 #[v0] k0.w (Ret k0 (IsV r)) := by
 unfold ref09_RightBox at hr
 refine Ret.ofC ?_
 refine enterK Try.func22 rfl Try.ntmps22 (show 1 ≤ 23 by decide) fun a k hk0 hs hd ha => ?_
 obtain ⟨e0, _⟩ := ha
 replace i0 : (IsV b_) (a.get 0) k := by rw [e0, hk0]; exact i0
 have hQ : Gb.LetsOut (bodyPost Try.prog Try.f22 (RetC noF k0 (IsV r))) := letsOutC
 have hg : Chg noF k0 k := by rw [hk0]; exact Chg.refl _ k0
 refine stepL 2 (⟨some (IsRef b_), [(0, none)]⟩ :: ⟨some (IsV false), []⟩ :: []) rfl ⟨hg, hs, hd⟩ (by kernel_rfl) ⟨ob1 rfl fun _ _ h n => ok_boxR rfl (up i0 h n.1), ob1 rfl fun _ _ h n => ok_assign rfl (isV_bool.2 rfl), trivial⟩ [⟨_, _⟩] (fun b q p => ⟨p.ou 0 1 rfl, trivial⟩) ?_
 rintro a k ⟨⟨hg, hs, hd⟩, i1, _⟩
 refine wp_seq ?_
 obtain ⟨x8_2, hx8_2, hr⟩ := bind_some hr
 refine cut (fun a' k' => Bs noF k0 23 a' k' ∧ (IsV (((x8_2 && (decide (0 ≤ b_.Z0))) && (decide (b_.Z0 < b_.Z1))) && (decide (b_.Z1 ≤ 4096)))) (a'.get 2) k' ∧ True) ?_ hQ ?_
 ·intro Q9 hQQ9 hp10
  refine gS 21 (_ :: _ :: _ :: _ :: _ :: _ :: _ :: _ :: _ :: _ :: _ :: _ :: _ :: _ :: _ :: _ :: _ :: _ :: _ :: _ :: _ :: []) hs (by kernel_rfl) ⟨o1 [(1, none)] rfl fun _ _ h n => ok_fieldAddr rfl fo37_0 (at_Box_0 _) ((up i1 h n.1)).ptr, o1 [(3, some 0)] rfl fun _ _ h n => ok_load rfl ty35 n.1, o1 [(4, some 1)] rfl fun _ _ h n => ok_call rfl Try.call34 (ref06_RightRect_ok n.1 hx8_2), cm 2 rfl rfl, gT [(1, none)] rfl rfl fun hp _ _ h n => ok_fieldAddr rfl fo37_1 (at_Box_1 _) ((up i1 h n.1)).ptr, gT [(7, some 4)] rfl rfl fun hp _ _ h n => ok_load rfl ty3 (Gd.get n.1 hp), gT [(8, some 5)] rfl rfl fun hp _ _ h n => ok_geq rfl (Gd.get n.1 hp) (cI rfl), o1 [(6, some 3), (9, some 6)] rfl fun _ _ h n => ok_pickAnd rfl n.1 (Gd.get n.2.1) (cB rfl), cm 7 rfl rfl, gT [(1, none)] rfl rfl fun hp _ _ h n => ok_fieldAddr rfl fo37_1 (at_Box_1 _) ((up i1 h n.1)).ptr, gT [(12, some 9)] rfl rfl fun hp _ _ h n => ok_load rfl ty3 (Gd.get n.1 hp), gT [(1, none)] rfl rfl fun hp _ _ h n => ok_fieldAddr rfl fo37_2 (at_Box_2 _) ((up i1 h n.1)).ptr, gT [(14, some 11)] rfl rfl fun hp _ _ h n => ok_load rfl ty3 (Gd.get n.1 hp), gT [(13, some 10), (15, some 12)] rfl rfl fun hp _ _ h n => ok_lss rfl (Gd.get n.1 hp) (Gd.get n.2.1 hp), o1 [(11, some 8), (16, some 13)] rfl fun _ _ h n => ok_pickAnd rfl n.1 (Gd.get n.2.1) (cB rfl), cm 14 rfl rfl, gT [(1, none)] rfl rfl fun hp _ _ h n => ok_fieldAddr rfl fo37_2 (at_Box_2 _) ((up i1 h n.1)).ptr, gT [(19, some 16)] rfl rfl fun hp _ _ h n => ok_load rfl ty3 (Gd.get n.1 hp), gT [(20, some 17)] rfl rfl fun hp _ _ h n => ok_leq rfl (Gd.get n.1 hp) (cI rfl), o1 [(18, some 15), (21, some 18)] rfl fun _ _ h n => ok_pickAnd rfl n.1 (Gd.get n.2.1) (cB rfl), cp 19 rfl rfl, trivial⟩ hQQ9 fun b q p => ?_
  exact tail_done (k := q) (hp10 _ _ ⟨Bs.post ⟨hg, hs, hd⟩ p, p.ou 20 2 rfl, trivial⟩)
 rintro a k ⟨⟨hg, hs, hd⟩, i2, _⟩
 refine wp_ret ?_
 obtain rfl := Option.some.inj hr
 exact retC1 rfl hd hg i2
def ref09_insert_L0 (l_ : (List Int)) (n_ : Int) (s15 : Int) : Option (Flow (Int) ((List Int))) :=
 (if (decide (s15 < (l_.length : Int))) then
  (getI l_ s15).bind fun x19_7 =>
  some (decide (x19_7 < n_))
 else
  some false).bind fun x19_11 =>
 if x19_11 then
  (addI s15 1).bind fun x20_1 =>
  some (.go x20_1)
 else
  some (.ex 0 s15)
def ref09_insert (l_ : (List Int)) (n_ : Int) : Option ((List Int)) :=
 (iterL (ref09_insert_L0 l_ n_) (l_.length + 1) 0).bind fun f26 => match f26 with
  | .go _ => none
  | .ex _ s27 =>
   (if (decide (s27 < (l_.length : Int))) then
    (getI l_ s27).bind fun x28_7 =>
    some (x28_7 == n_)
   else
    some false).bind fun x28_11 =>
   if x28_11 then
    some l_
   else
    (sliceI l_ 0 s27).bind fun x32_3 =>
    (appI [] x32_3).bind fun x32_4 =>
    (appI x32_4 ([n_])).bind fun x33_3 =>
    (sliceI l_ s27 (l_.length : Int)).bind fun x34_3 =>
    (appI x33_3 x34_3).bind fun x34_4 =>
    some x34_4
  | .ret r45 => some r45
theorem ref09_insert_ok {k0 : K} {v0 v1 : Value} {l_ : (List Int)} {n_ : Int} {r : (List Int)} (i0 : (IsV l_) v0 k0) (i1 : (IsV n_) v1 k0) (hr : ref09_insert l_ n_ = some r) :
  Calls Try.prog 42 #[v0, v1] k0.w (Ret k0 (IsV r)) := by
 unfold ref09_insert at hr
 refine Ret.ofC ?_
 refine enterK Try.func42 rfl Try.ntmps42 (show 2 ≤ 48 by decide) fun a k hk0 hs hd ha => ?_
 obtain ⟨e0, e1, _⟩ := ha
 replace i0 : (IsV l_) (a.get 0) k := by rw [e0, hk0]; exact i0
 replace i1 : (IsV n_) (a.get 1) k := by rw [e1, hk0]; exact i1
 have hQ : Gb.LetsOut (bodyPost Try.prog Try.f42 (RetC noF k0 (IsV r))) := letsOutC
 have hg : Chg noF k0 k := by rw [hk0]; exact Chg.refl _ k0
 refine stepL 1 (⟨some IsE0, []⟩ :: []) rfl ⟨hg, hs, hd⟩ (by kernel_rfl) ⟨ob1 rfl fun b q h n => ok_assign rfl isE0_nil, trivial⟩ [⟨_, _⟩, ⟨_, _⟩] (fun b q p => ⟨p.ke 0 rfl i0, p.ke 1 rfl i1, trivial⟩) ?_
 rintro a k ⟨⟨hg, hs, hd⟩, i0, i1, _⟩
 refine stepL 1 (⟨some (IsI 0), []⟩ :: []) rfl ⟨hg, hs, hd⟩ (by kernel_rfl) ⟨aI rfl rfl, trivial⟩ [⟨_, _⟩, ⟨_, _⟩, ⟨_, _⟩] (fun b q p => ⟨p.ke 0 rfl i0, p.ke 1 rfl i1, p.ou 0 5 rfl, trivial⟩) ?_
 rintro a k ⟨⟨hg, hs, hd⟩, i0, i1, i5, _⟩
 refine wp_seq ?_
 refine wp_block ?_
 obtain ⟨f26, hf26, hr⟩ := bind_some hr
 refine cutFe f26 (fun s' a' k' => Bs noF k0 48 a' k' ∧ (IsV l_) (a'.get 0) k' ∧ (IsV n_) (a'.get 1) k' ∧ (IsV s') (a'.get 5) k' ∧ True) (fun i' s' a' k' => (i' = 0 ∧ Bs noF k0 48 a' k' ∧ (IsV l_) (a'.get 0) k' ∧ (IsV n_) (a'.get 1) k' ∧ (IsV s') (a'.get 5) k' ∧ True)) (fun r' a' k' => bodyPost Try.prog Try.f42 (RetC noF k0 (IsV r')) .ret a' k'.w) ?_ hQ ?_ ?_ ?_
 ·intro Q46 hQQ46 hgo hex hret
  refine sim_loop ?_ _ _ _ _ _ hf26 ⟨⟨hg, hs, hd⟩, i0, i1, i5, trivial⟩ Q46 hQQ46 hgo hex hret
  clear hr hf26 hgo hex hret hQQ46 hQ hg hs hd i0 i1 i5
  intro s15 fl_ a k hr hS Q hQ hgo16 hex17 hret18
  obtain ⟨⟨hg, hs, hd⟩, i0, i1, i5, _⟩ := hS
  unfold ref09_insert_L0 at hr
  refine wp_seq ?_
  refine wp_seq ?_
  obtain ⟨x19_11, hx19_11, hr⟩ := bind_some hr
  obtain ⟨x19_7, hx19_7, hx19_11⟩ := ite_bind hx19_11
  refine cut (fun a' k' => Bs noF k0 48 a' k' ∧ (IsV l_) (a'.get 0) k' ∧ (IsV n_) (a'.get 1) k' ∧ (IsV s15) (a'.get 5) k' ∧ (IsV x19_11) (a'.get 18) k' ∧ True) ?_ hQ ?_
  ·intro Q24 hQQ24 hp25
   refine gS 12 (_ :: _ :: _ :: _ :: _ :: _ :: _ :: _ :: _ :: _ :: _ :: _ :: []) hs (by kernel_rfl) ⟨mu rfl i5, mu rfl i0, o1 [(8, some 1)] rfl fun _ _ h n => ok_len rfl rfl Try.underlying63 (IsV.rd n.1), o1 [(7, some 0), (9, some 2)] rfl fun _ _ h n => ok_lss rfl n.1 n.2.1, cm 3 rfl rfl, mT rfl rfl i0, mT rfl rfl i5, gT [(12, some 5), (13, some 6)] rfl rfl fun hp _ _ h n => ok_indexAddr rfl Try.underlying63 ty3 (IsV.rd (Gd.get n.1 hp)) (Gd.get n.2.1 hp) (hx19_7 hp), gT [(14, some 7)] rfl rfl fun hp _ _ h n => ok_load rfl ty3 (Gd.get n.1 hp), mT rfl rfl i1, gT [(15, some 8), (16, some 9)] rfl rfl fun hp _ _ h n => ok_lss rfl (Gd.get n.1 hp) (Gd.get n.2.1 hp), o1 [(11, some 4), (17, some 10)] rfl fun _ _ h n => ok_pickM rfl n.1 hx19_11 (Gd.get n.2.1) (cB rfl), trivial⟩ hQQ24 fun b q p => ?_
   exact tail_done (k := q) (hp25 _ _ ⟨Bs.post ⟨hg, hs, hd⟩ p, p.ke 0 rfl i0, p.ke 1 rfl i1, p.ke 5 rfl i5, p.ou 11 18 rfl, trivial⟩)
  rintro a k ⟨⟨hg, hs, hd⟩, i0, i1, i5, i18, _⟩
  refine wp_cond_split (isBool i18) (fun hc23 => ?_) (fun hc23 => ?_)
  ·rw [if_pos hc23] at hr
   refine wp_skip ?_
   refine wp_block ?_
   obtain ⟨x20_1, hx20_1, hr⟩ := bind_some hr
   refine cut (fun a' k' => Bs noF k0 48 a' k' ∧ (IsV l_) (a'.get 0) k' ∧ (IsV n_) (a'.get 1) k' ∧ (IsV x20_1) (a'.get 5) k' ∧ True) ?_ hQ ?_
   ·intro Q21 hQQ21 hp22
    refine gS 3 (_ :: _ :: _ :: []) hs (by kernel_rfl) ⟨mu rfl i5, o1 [(19, some 0)] rfl fun _ _ h n => ok_add rfl n.1 (cI rfl) hx20_1, cp 1 rfl rfl, trivial⟩ hQQ21 fun b q p => ?_
    exact tail_done (k := q) (hp22 _ _ ⟨Bs.post ⟨hg, hs, hd⟩ p, p.ke 0 rfl i0, p.ke 1 rfl i1, p.ou 2 5 rfl, trivial⟩)
   rintro a k ⟨⟨hg, hs, hd⟩, i0, i1, i5, _⟩
   exact hgo16 _ _ _ (Option.some.inj hr).symm ⟨⟨hg, hs, hd⟩, i0, i1, i5, trivial⟩
  rw [if_neg (by rw [hc23]; decide)] at hr
  refine wp_exit ?_
  exact hex17 _ _ _ _ (Option.some.inj hr).symm ⟨rfl, ⟨hg, hs, hd⟩, i0, i1, i5, trivial⟩
 ·rintro r45 a k rfl hR
  dsimp only at hr
  obtain rfl := Option.some.inj hr
  exact hR
 ·rintro _ _ _ rfl _
  simp at hr
 clear hf26
 rintro _ s27 a k rfl ⟨rfl, ⟨hg, hs, hd⟩, i0, i1, i5, _⟩
 dsimp only at hr
 refine wp_seq ?_
 refine wp_seq ?_
 obtain ⟨x28_11, hx28_11, hr⟩ := bind_some hr
 obtain ⟨x28_7, hx28_7, hx28_11⟩ := ite_bind hx28_11
 refine cut (fun a' k' => Bs noF k0 48 a' k' ∧ (IsV l_) (a'.get 0) k' ∧ (IsV n_) (a'.get 1) k' ∧ (IsV s27) (a'.get 5) k' ∧ (IsV x28_11) (a'.get 32) k' ∧ True) ?_ hQ ?_
 ·intro Q43 hQQ43 hp44
  refine gS 12 (_ :: _ :: _ :: _ :: _ :: _ :: _ :: _ :: _ :: _ :: _ :: _ :: []) hs (by kernel_rfl) ⟨mu rfl i5, mu rfl i0, o1 [(22, some 1)] rfl fun _ _ h n => ok_len rfl rfl Try.underlying63 (IsV.rd n.1), o1 [(21, some 0), (23, some 2)] rfl fun _ _ h n => ok_lss rfl n.1 n.2.1, cm 3 rfl rfl, mT rfl rfl i0, mT rfl rfl i5, gT [(26, some 5), (27, some 6)] rfl rfl fun hp _ _ h n => ok_indexAddr rfl Try.underlying63 ty3 (IsV.rd (Gd.get n.1 hp)) (Gd.get n.2.1 hp) (hx28_7 hp), gT [(28, some 7)] rfl rfl fun hp _ _ h n => ok_load rfl ty3 (Gd.get n.1 hp), mT rfl rfl i1, gT [(29, some 8), (30, some 9)] rfl rfl fun hp _ _ h n => ok_eqI rfl (Gd.get n.1 hp) (Gd.get n.2.1 hp), o1 [(25, some 4), (31, some 10)] rfl fun _ _ h n => ok_pickM rfl n.1 hx28_11 (Gd.get n.2.1) (cB rfl), trivial⟩ hQQ43 fun b q p => ?_
  exact tail_done (k := q) (hp44 _ _ ⟨Bs.post ⟨hg, hs, hd⟩ p, p.ke 0 rfl i0, p.ke 1 rfl i1, p.ke 5 rfl i5, p.ou 11 32 rfl, trivial⟩)
 rintro a k ⟨⟨hg, hs, hd⟩, i0, i1, i5, i32, _⟩
 refine wp_cond_split (isBool i32) (fun hc42 => ?_) (fun hc42 => ?_)
 ·rw [if_pos hc42] at hr
  refine stepL 2 (_ :: _ :: []) rfl ⟨hg, hs, hd⟩ (by kernel_rfl) ⟨mu rfl i0, cp 0 rfl rfl, trivial⟩ [⟨_, _⟩] (fun b q p => ⟨p.ou 1 4 rfl, trivial⟩) ?_
  rintro a k ⟨⟨hg, hs, hd⟩, i4, _⟩
  refine wp_ret ?_
  obtain rfl := Option.some.inj hr
  exact retC1 rfl hd hg i4
 rw [if_neg (by rw [hc42]; decide)] at hr
 refine wp_skip ?_
 refine wp_seq ?_
 obtain ⟨x32_3, hx32_3, hr⟩ := bind_some hr
 obtain ⟨x32_4, hx32_4, hr⟩ := bind_some hr
 refine cut (fun a' k' => Bs noF k0 48 a' k' ∧ (IsV l_) (a'.get 0) k' ∧ (IsV n_) (a'.get 1) k' ∧ (IsV s27) (a'.get 5) k' ∧ IsOwn 0 3 x32_4 (a'.get 6) k' ∧ Lo k0 (obF (a'.get 6)) ∧ True) ?_ hQ ?_
 ·intro Q40 hQQ40 hp41
  refine gS 6 (⟨some IsE0, []⟩ :: _ :: _ :: ⟨some (IsV x32_3), [(35, some 1), (36, some 2)]⟩ :: ⟨some (IsOwn k.w.heap.size 3 x32_4), [(34, some 0), (37, some 3)]⟩ :: _ :: []) hs (by kernel_rfl) ⟨ob1 rfl fun b q h n => ok_buildSlice0 rfl Try.underlying63 eo3, mu rfl i0, mu rfl i5, ob1 rfl fun _ _ h n => ok_slice_hi rfl Try.underlying63 szf3 n.1 n.2.1 hx32_3, ob1 rfl fun _ _ h n => ok_append0 rfl Try.underlying63 eo3 h.size n.1 (IsV.rd n.2.1) hx32_4, cp 4 rfl rfl, trivial⟩ hQQ40 fun b q p => ?_
  have hgq := hg.then p.grow
  have hsb := p.size.trans hs
  have hdb := p.defers.trans hd
  have j0 := p.ke 0 rfl i0
  have j1 := p.ke 1 rfl i1
  have j5 := p.ke 5 rfl i5
  have j6 : (IsOwn k.w.heap.size 3 x32_4) (b.get 6) q := p.ou 5 6 rfl
  have x6 : Lo k (obF (b.get 6)) := j6.loF
  have y6 := x6.chg hg
  replace j6 := j6.weaken (Nat.zero_le _)
  exact tail_done (k := q) (hp41 _ _ ⟨⟨hgq, hsb, hdb⟩, j0, j1, j5, j6, y6, trivial⟩)
 rintro a k ⟨⟨hg, hs, hd⟩, i0, i1, i5, i6, n6, _⟩
 refine wp_seq ?_
 obtain ⟨x33_3, hx33_3, hr⟩ := bind_some hr
 refine cut (fun a' k' => Bs noF k0 48 a' k' ∧ (IsV l_) (a'.get 0) k' ∧ (IsV s27) (a'.get 5) k' ∧ IsOwn 0 3 x33_3 (a'.get 6) k' ∧ Lo k0 (obF (a'.get 6)) ∧ True) ?_ hQ ?_
 ·intro Q38 hQQ38 hp39
  refine gS 3 (⟨some (OwnAt (a.get 6) 0 3 x32_4), [(6, none)]⟩ :: _ :: ⟨some (IsV (α := (List Int)) ([n_])), [(40, some 1)]⟩ :: []) hs (by kernel_rfl) ⟨ob1 rfl fun _ _ h n => ok_moveOA (.inl rfl) (ownAt n.1 (up i6 h n.1)), mu rfl i1, ob1 rfl fun _ _ h n => ok_buildSlice rfl Try.underlying63 eo3 rfl (by decide) (by decide) ⟨rfl, n.1, trivial⟩, trivial⟩ hQQ38 fun b q p => ?_
  have hgq := hg.then p.grow
  have hsb := p.size.trans hs
  have hdb := p.defers.trans hd
  have j0 := p.ke 0 rfl i0
  have j5 := p.ke 5 rfl i5
  have e39 : b.get 39 = a.get 6 := (p.ou 0 39 rfl).1
  have j39 : IsOwn 0 3 x32_4 (b.get 39) q := (p.ou 0 39 rfl).2
  have y39 : Lo k0 (obF (b.get 39)) := by rw [e39]; exact n6
  have j41 : (IsV (α := (List Int)) ([n_])) (b.get 41) q := p.ou 2 41 rfl
  have hns := j39.nshF
  refine tail_appendS (i := 3) (d := 42) rfl rfl rfl rfl (by rw [hsb]; decide) (e := 3) Try.underlying63 eo3 j39 (IsV.rd j41) hx33_3 fun b2 q2 hsz hdf hoth hch hown hob => ?_
  have hle := hch.le hns
  have yn : Lo k0 (obF (b2.get 42)) := y39.app hgq hob
  replace j0 := Pers.pers hle j0
  replace j5 := Pers.pers hle j5
  replace j41 := Pers.pers hle j41
  replace hgq := hgq.step hch y39.wr
  rw [← hoth 0 (by decide)] at j0
  rw [← hoth 5 (by decide)] at j5
  rw [← hoth 41 (by decide)] at j41
  have j42 := hown
  have y42 := yn
  replace hsb := hsz.trans hsb
  replace hdb := hdf.trans hdb
  clear hle hch hown hob hns yn hsz hdf hoth
  obtain ⟨b, hbb⟩ : ∃ b, b = b2 := ⟨b2, rfl⟩
  subst hbb
  obtain ⟨q, hqq⟩ : ∃ q, q = q2 := ⟨q2, rfl⟩
  subst hqq
  refine tail_assign (i := 4) (d := 6) rfl rfl (.inl rfl) rfl (by rw [hsb]; decide) fun b2 hsz hdf hnew hoth => ?_
  have jn : (IsOwn 0 3 x33_3) (b2.get 6) q := by rw [hnew]; exact j42
  have yn : Lo k0 (obF (b2.get 6)) := by rw [hnew]; exact y42
  rw [← hoth 0 (by decide)] at j0
  rw [← hoth 5 (by decide)] at j5
  rw [← hoth 41 (by decide)] at j41
  have j6 := jn
  have y6 := yn
  replace hsb := hsz.trans hsb
  replace hdb := hdf.trans hdb
  clear hsz hdf hoth
  obtain ⟨b, hbb⟩ : ∃ b, b = b2 := ⟨b2, rfl⟩
  subst hbb
  exact tail_done (k := q) (hp39 _ _ ⟨⟨hgq, hsb, hdb⟩, j0, j5, j6, y6, trivial⟩)
 rintro a k ⟨⟨hg, hs, hd⟩, i0, i5, i6, n6, _⟩
 refine wp_seq ?_
 obtain ⟨x34_3, hx34_3, hr⟩ := bind_some hr
 obtain ⟨x34_4, hx34_4, hr⟩ := bind_some hr
 refine cut (fun a' k' => Bs noF k0 48 a' k' ∧ IsOwn 0 3 x34_4 (a'.get 4) k' ∧ Lo k0 (obF (a'.get 4)) ∧ True) ?_ hQ ?_
 ·intro Q36 hQQ36 hp37
  refine gS 4 (⟨some (OwnAt (a.get 6) 0 3 x33_3), [(6, none)]⟩ :: _ :: _ :: ⟨some (IsV x34_3), [(44, some 1), (45, some 2)]⟩ :: []) hs (by kernel_rfl) ⟨ob1 rfl fun _ _ h n => ok_moveOA (.inl rfl) (ownAt n.1 (up i6 h n.1)), mu rfl i0, mu rfl i5, ob1 rfl fun _ _ h n => ok_slice_lo rfl Try.underlying63 szf3 n.1 n.2.1 hx34_3, trivial⟩ hQQ36 fun b q p => ?_
  have hgq := hg.then p.grow
  have hsb := p.size.trans hs
  have hdb := p.defers.trans hd
  have e43 : b.get 43 = a.get 6 := (p.ou 0 43 rfl).1
  have j43 : IsOwn 0 3 x33_3 (b.get 43) q := (p.ou 0 43 rfl).2
  have y43 : Lo k0 (obF (b.get 43)) := by rw [e43]; exact n6
  have j46 : (IsV x34_3) (b.get 46) q := p.ou 3 46 rfl
  have hns := j43.nshF
  refine tail_appendS (i := 4) (d := 47) rfl rfl rfl rfl (by rw [hsb]; decide) (e := 3) Try.underlying63 eo3 j43 (IsV.rd j46) hx34_4 fun b2 q2 hsz hdf hoth hch hown hob => ?_
  have hle := hch.le hns
  have yn : Lo k0 (obF (b2.get 47)) := y43.app hgq hob
  replace j46 := Pers.pers hle j46
  replace hgq := hgq.step hch y43.wr
  rw [← hoth 46 (by decide)] at j46
  have j47 := hown
  have y47 := yn
  replace hsb := hsz.trans hsb
  replace hdb := hdf.trans hdb
  clear hle hch hown hob hns yn hsz hdf hoth
  obtain ⟨b, hbb⟩ : ∃ b, b = b2 := ⟨b2, rfl⟩
  subst hbb
  obtain ⟨q, hqq⟩ : ∃ q, q = q2 := ⟨q2, rfl⟩
  subst hqq
  refine tail_assign (i := 5) (d := 4) rfl rfl (.inl rfl) rfl (by rw [hsb]; decide) fun b2 hsz hdf hnew hoth => ?_
  have jn : (IsOwn 0 3 x34_4) (b2.get 4) q := by rw [hnew]; exact j47
  have yn : Lo k0 (obF (b2.get 4)) := by rw [hnew]; exact y47
  rw [← hoth 46 (by decide)] at j46
  have j4 := jn
  have y4 := yn
  replace hsb := hsz.trans hsb
  replace hdb := hdf.trans hdb
  clear hsz hdf hoth
  obtain ⟨b, hbb⟩ : ∃ b, b = b2 := ⟨b2, rfl⟩
  subst hbb
  exact tail_done (k := q) (hp37 _ _ ⟨⟨hgq, hsb, hdb⟩, j4, y4, trivial⟩)
 rintro a k ⟨⟨hg, hs, hd⟩, i4, n4, _⟩
 refine wp_ret ?_
 obtain ⟨kk, sh35, ii4⟩ := i4.give
 replace i4 := ii4
 replace hg := hg.hand sh35 n4.wr
 rw [← sh35.w]
 clear sh35
 obtain ⟨k, hkk⟩ : ∃ k, k = kk := ⟨kk, rfl⟩
 subst hkk
 obtain rfl := Option.some.inj hr
 exact retC1 rfl hd hg i4
def ref06_sorted_L1 (l_ : (List Int)) (s54 : (List Int) × Int) (s62 : Int) : Option (Flow (Int) ((List Int))) :=
 (if (decide (0 < s62)) then
  (subI s62 1).bind fun x66_5 =>
  (getI s54.1 x66_5).bind fun x66_6 =>
  (getI l_ s54.2).bind fun x66_10 =>
  some (decide (x66_10 < x66_6))
 else
  some false).bind fun x66_13 =>
 if x66_13 then
  (subI s62 1).bind fun x67_1 =>
  some (.go x67_1)
 else
  some (.ex 2 s62)
def ref06_sorted_L2 (s74 : Int) (s78 : (List Int) × Int) : Option (Flow ((List Int) × Int) ((List Int))) :=
 if (decide (s74 < s78.2)) then
  (subI s78.2 1).bind fun x83_4 =>
  (getI s78.1 x83_4).bind fun x83_5 =>
  (getI s78.1 s78.2).bind fun x83_7 =>
  (some (s78.1.set (s78.2).toNat x83_5)).bind fun x83_8 =>
  (subI s78.2 1).bind fun x84_1 =>
  some (.go (x83_8, x84_1))
 else
  some (.ex 4 (s78.1, s78.2))
def ref06_sorted_L0 (l_ : (List Int)) (s54 : (List Int) × Int) : Option (Flow ((List Int) × Int) ((List Int))) :=
 if (decide (s54.2 < (l_.length : Int))) then
  ((iterL (ref06_sorted_L1 l_ s54) (l_.length + s54.1.length + 1) (s54.1.length : Int)).bind fun f73 => match f73 with
   | .go _ => none
   | .ex _ s74 =>
    (if (decide (0 < s74)) then
     (subI s74 1).bind fun x75_5 =>
     (getI s54.1 x75_5).bind fun x75_6 =>
     (getI l_ s54.2).bind fun x75_10 =>
     some (x75_6 == x75_10)
    else
     some false).bind fun x75_13 =>
    if x75_13 then
     some s54.1
    else
     (appI s54.1 ([0])).bind fun x76_2 =>
     (subI (x76_2.length : Int) 1).bind fun x77_2 =>
     (iterL (ref06_sorted_L2 s74) (l_.length + x76_2.length + 1) (x76_2, x77_2)).bind fun f92 => match f92 with
      | .go _ => none
      | .ex _ s93 =>
       (getI l_ s54.2).bind fun x94_4 =>
       (getI s93.1 s74).bind fun x94_6 =>
       (some (s93.1.set (s74).toNat x94_4)).bind fun x94_7 =>
       some x94_7
      | .ret r97 => none
   | .ret r106 => none).bind fun s59 =>
  (addI s54.2 1).bind fun x110_1 =>
  some (.go (s59, x110_1))
 else
  some (.ex 0 (s54.1, s54.2))
def ref06_sorted (l_ : (List Int)) : Option ((List Int)) :=
 (iterL (ref06_sorted_L0 l_) (l_.length + ([] : List Int).length + 1) (([] : List Int), 0)).bind fun f118 => match f118 with
  | .go _ => none
  | .ex _ s119 =>
   some s119.1
  | .ret r123 => some r123
theorem ref06_sorted_ok {k0 : K} {v0 : Value} {l_ : (List Int)} {r : (List Int)} (i0 : (IsV l_) v0 k0) (hr : ref06_sorted l_ = some r) :
  Calls Try.prog 86 #[v0] k0.w (Ret k0 (IsV r)) := by
 unfold ref06_sorted at hr
 refine Ret.ofC ?_
 refine enterK Try.func86 rfl Try.ntmps86 (show 1 ≤ 72 by decide) fun a k hk0 hs hd ha => ?_
 obtain ⟨e0, _⟩ := ha
 replace i0 : (IsV l_) (a.get 0) k := by rw [e0, hk0]; exact i0
 have hQ : Gb.LetsOut (bodyPost Try.prog Try.f86 (RetC noF k0 (IsV r))) := letsOutC
 have hg : Chg noF k0 k := by rw [hk0]; exact Chg.refl _ k0
 refine stepL 1 (⟨some IsE0, []⟩ :: []) rfl ⟨hg, hs, hd⟩ (by kernel_rfl) ⟨ob1 rfl fun b q h n => ok_assign rfl isE0_nil, trivial⟩ [⟨_, _⟩] (fun b q p => ⟨p.ke 0 rfl i0, trivial⟩) ?_
 rintro a k ⟨⟨hg, hs, hd⟩, i0, _⟩
 refine cutS (fun a' k' => Bs noF k0 72 a' k' ∧ (IsV l_) (a'.get 0) k' ∧ IsOwn 0 3 ([] : List Int) (a'.get 3) k' ∧ Lo k0 (obF (a'.get 3)) ∧ True) ?_ ?_
 ·intro Q127 hQQ127 hp128
  refine gS 1 (⟨some IsE0, []⟩ :: []) hs (by kernel_rfl) ⟨ob1 rfl fun b q h n => ok_assign rfl isE0_nil, trivial⟩ hQQ127 fun b q p => ?_
  have hgq := hg.then p.grow
  have hsb := p.size.trans hs
  have hdb := p.defers.trans hd
  have j0 := p.ke 0 rfl i0
  have j3 : IsE0 (b.get 3) q := p.ou 0 3 rfl
  have y3 : Lo k0 (obF (b.get 3)) := j3.lo
  replace j3 : IsOwn 0 3 ([] : List Int) (b.get 3) q := j3.own0
  exact tail_done (k := q) (hp128 _ _ ⟨⟨hgq, hsb, hdb⟩, j0, j3, y3, trivial⟩)
 rintro a k ⟨⟨hg, hs, hd⟩, i0, i3, n3, _⟩
 refine wp_seq ?_
 refine cutS (fun a' k' => Bs noF k0 72 a' k' ∧ (IsV l_) (a'.get 0) k' ∧ IsOwn 0 3 ([] : List Int) (a'.get 3) k' ∧ Lo k0 (obF (a'.get 3)) ∧ (IsI 0) (a'.get 4) k' ∧ True) ?_ ?_
 ·intro Q125 hQQ125 hp126
  refine gS 1 (⟨some (IsI 0), []⟩ :: []) hs (by kernel_rfl) ⟨aI rfl rfl, trivial⟩ hQQ125 fun b q p => ?_
  exact tail_done (k := q) (hp126 _ _ ⟨Bs.post ⟨hg, hs, hd⟩ p, p.ke 0 rfl i0, p.ke 3 rfl i3, (by rw [p.old 3 rfl]; exact n3), p.ou 0 4 rfl, trivial⟩)
 rintro a k ⟨⟨hg, hs, hd⟩, i0, i3, n3, i4, _⟩
 refine wp_block ?_
 obtain ⟨f118, hf118, hr⟩ := bind_some hr
 refine cutFe f118 (fun s' a' k' => Bs noF k0 72 a' k' ∧ (IsV l_) (a'.get 0) k' ∧ IsOwn 0 3 s'.1 (a'.get 3) k' ∧ Lo k0 (obF (a'.get 3)) ∧ (IsV s'.2) (a'.get 4) k' ∧ True) (fun i' s' a' k' => (i' = 0 ∧ Bs noF k0 72 a' k' ∧ (IsV s'.1) (a'.get 3) k' ∧ True)) (fun r' a' k' => bodyPost Try.prog Try.f86 (RetC noF k0 (IsV r')) .ret a' k'.w) ?_ hQ ?_ ?_ ?_
 ·intro Q124 hQQ124 hgo hex hret
  refine sim_loop ?_ _ _ _ _ _ hf118 ⟨⟨hg, hs, hd⟩, i0, i3, n3, i4, trivial⟩ Q124 hQQ124 hgo hex hret
  clear hr hf118 hgo hex hret hQQ124 hQ hg hs hd i0 i3 i4 n3
  intro s54 fl_ a k hr hS Q hQ hgo55 hex56 hret57
  obtain ⟨⟨hg, hs, hd⟩, i0, i3, n3, i4, _⟩ := hS
  unfold ref06_sorted_L0 at hr
  refine wp_seq ?_
  refine cutS (fun a' k' => Bs noF k0 72 a' k' ∧ (IsV l_) (a'.get 0) k' ∧ IsOwn 0 3 s54.1 (a'.get 3) k' ∧ Lo k0 (obF (a'.get 3)) ∧ (IsV s54.2) (a'.get 4) k' ∧ (IsV (decide (s54.2 < (l_.length : Int)))) (a'.get 10) k' ∧ True) ?_ ?_
  ·intro Q116 hQQ116 hp117
   refine gS 4 (_ :: _ :: _ :: _ :: []) hs (by kernel_rfl) ⟨mu rfl i4, mu rfl i0, o1 [(8, some 1)] rfl fun _ _ h n => ok_len rfl rfl Try.underlying63 (IsV.rd n.1), o1 [(7, some 0), (9, some 2)] rfl fun _ _ h n => ok_lss rfl n.1 n.2.1, trivial⟩ hQQ116 fun b q p => ?_
   exact tail_done (k := q) (hp117 _ _ ⟨Bs.post ⟨hg, hs, hd⟩ p, p.ke 0 rfl i0, p.ke 3 rfl i3, (by rw [p.old 3 rfl]; exact n3), p.ke 4 rfl i4, p.ou 3 10 rfl, trivial⟩)
  rintro a k ⟨⟨hg, hs, hd⟩, i0, i3, n3, i4, i10, _⟩
  refine wp_cond_split (isBool i10) (fun hc115 => ?_) (fun hc115 => ?_)
  ·rw [if_pos hc115] at hr
   refine wp_skip ?_
   refine wp_seq ?_
   obtain ⟨s59, hs59, hr⟩ := bind_some hr
   refine cut (fun a' k' => Bs noF k0 72 a' k' ∧ (IsV l_) (a'.get 0) k' ∧ IsOwn 0 3 s59 (a'.get 3) k' ∧ Lo k0 (obF (a'.get 3)) ∧ (IsV s54.2) (a'.get 4) k' ∧ True) ?_ hQ ?_
   ·intro Q113 hQQ113 hp60
    replace hr := hs59
    clear hQ
    have hQ := hQQ113
    refine wp_block ?_
    refine cutS (fun a' k' => Bs noF k0 72 a' k' ∧ (IsV l_) (a'.get 0) k' ∧ IsOwn 0 3 s54.1 (a'.get 3) k' ∧ Lo k0 (obF (a'.get 3)) ∧ (IsV s54.2) (a'.get 4) k' ∧ (IsI (s54.1.length : Int)) (a'.get 5) k' ∧ True) ?_ ?_
    ·intro Q108 hQQ108 hp109
     refine gS 3 (⟨some (OwnAt (a.get 3) 0 3 s54.1), [(3, none)]⟩ :: _ :: _ :: []) hs (by kernel_rfl) ⟨ob1 rfl fun _ _ h n => ok_moveOA (.inl rfl) (ownAt n.1 (up i3 h n.1)), o1 [(13, some 0)] rfl fun _ _ h n => ok_len rfl rfl Try.underlying63 (IsOwn.rd (n.1).2), cp 1 rfl rfl, trivial⟩ hQQ108 fun b q p => ?_
     exact tail_done (k := q) (hp109 _ _ ⟨Bs.post ⟨hg, hs, hd⟩ p, p.ke 0 rfl i0, p.ke 3 rfl i3, (by rw [p.old 3 rfl]; exact n3), p.ke 4 rfl i4, p.ou 2 5 rfl, trivial⟩)
    rintro a k ⟨⟨hg, hs, hd⟩, i0, i3, n3, i4, i5, _⟩
    refine wp_seq ?_
    refine wp_block ?_
    obtain ⟨f73, hf73, hr⟩ := bind_some hr
    refine cutFe f73 (fun s' a' k' => Bs noF k0 72 a' k' ∧ (IsV l_) (a'.get 0) k' ∧ IsOwn 0 3 s54.1 (a'.get 3) k' ∧ Lo k0 (obF (a'.get 3)) ∧ (IsV s54.2) (a'.get 4) k' ∧ (IsV s') (a'.get 5) k' ∧ True) (fun i' s' a' k' => (i' = 2 ∧ Bs noF k0 72 a' k' ∧ (IsV l_) (a'.get 0) k' ∧ IsOwn 0 3 s54.1 (a'.get 3) k' ∧ Lo k0 (obF (a'.get 3)) ∧ (IsV s54.2) (a'.get 4) k' ∧ (IsV s') (a'.get 5) k' ∧ True)) (fun r' a' k' => bodyPost Try.prog Try.f86 (RetC noF k0 (IsV r')) .ret a' k'.w) ?_ hQ ?_ ?_ ?_
    ·intro Q107 hQQ107 hgo hex hret
     refine sim_loop ?_ _ _ _ _ _ hf73 ⟨⟨hg, hs, hd⟩, i0, i3, n3, i4, i5, trivial⟩ Q107 hQQ107 hgo hex hret
     clear hr hf73 hgo hex hret hQQ107 hQ hg hs hd i0 i3 i4 i5 n3
     intro s62 fl_ a k hr hS Q hQ hgo63 hex64 hret65
     obtain ⟨⟨hg, hs, hd⟩, i0, i3, n3, i4, i5, _⟩ := hS
     unfold ref06_sorted_L1 at hr
     refine wp_seq ?_
     refine wp_seq ?_
     obtain ⟨x66_13, hx66_13, hr⟩ := bind_some hr
     obtain ⟨x66_5, hx66_5, hx66_13⟩ := ite_bind hx66_13
     obtain ⟨x66_6, hx66_6, hx66_13⟩ := ite_bind hx66_13
     obtain ⟨x66_10, hx66_10, hx66_13⟩ := ite_bind hx66_13
     refine cut (fun a' k' => Bs noF k0 72 a' k' ∧ (IsV l_) (a'.get 0) k' ∧ IsOwn 0 3 s54.1 (a'.get 3) k' ∧ Lo k0 (obF (a'.get 3)) ∧ (IsV s54.2) (a'.get 4) k' ∧ (IsV s62) (a'.get 5) k' ∧ (IsV x66_13) (a'.get 28) k' ∧ True) ?_ hQ ?_
     ·intro Q71 hQQ71 hp72
      refine region (a0 := a) (k0 := k) (n := 72) (m := 14) (⟨some (IsV s62), [(5, none)]⟩ :: ⟨some (IsV (decide (0 < s62))), [(15, some 0)]⟩ :: ⟨some (IsV (decide (0 < s62))), [(16, some 1)]⟩ :: ⟨some (Gd ((decide (0 < s62)) = true) (OwnAt (a.get 3) 0 3 s54.1)), [(3, none)]⟩ :: ⟨some (Gd ((decide (0 < s62)) = true) (IsV s62)), [(5, none)]⟩ :: ⟨some (Gd ((decide (0 < s62)) = true) (IsV x66_5)), [(19, some 4)]⟩ :: ⟨some (Gd ((decide (0 < s62)) = true) (IsPtr x66_6)), [(18, some 3), (20, some 5)]⟩ :: ⟨some (Gd ((decide (0 < s62)) = true) (IsV x66_6)), [(21, some 6)]⟩ :: ⟨some (Gd ((decide (0 < s62)) = true) (IsV l_)), [(0, none)]⟩ :: ⟨some (Gd ((decide (0 < s62)) = true) (IsV s54.2)), [(4, none)]⟩ :: ⟨some (Gd ((decide (0 < s62)) = true) (IsPtr x66_10)), [(23, some 8), (24, some 9)]⟩ :: ⟨some (Gd ((decide (0 < s62)) = true) (IsV x66_10)), [(25, some 10)]⟩ :: ⟨some (Gd ((decide (0 < s62)) = true) (IsV (decide (x66_10 < x66_6)))), [(22, some 7), (26, some 11)]⟩ :: ⟨some (IsV x66_13), [(17, some 2), (27, some 12)]⟩ :: []) hmix hs (by kernel_rfl) ⟨ob1 rfl fun b q hk hn => ok_move rfl (up i5 hk hn.1), ob1 rfl fun b q hk hn => ok_gtr rfl hn.1 (isV_int.2 rfl), ob1 rfl fun b q hk hn => ok_move rfl hn.1, gdT rfl rfl fun hp b q hk hn => ok_moveOA (.inl rfl) (ownAt hn.1 (up i3 hk hn.1)), gdT rfl rfl fun hp b q hk hn => ok_move rfl (up i5 hk hn.1), gdT rfl rfl fun hp b q hk hn => ok_sub rfl (Gd.get hn.1 hp) (isV_int.2 rfl) (hx66_5 hp), gdT rfl rfl fun hp b q hk hn => ok_indexAddr rfl Try.underlying63 ty3 (IsOwn.rd ((Gd.get hn.1 hp)).2) (Gd.get hn.2.1 hp) (hx66_6 hp), gdT rfl rfl fun hp b q hk hn => ok_load rfl ty3 (Gd.get hn.1 hp), gdT rfl rfl fun hp b q hk hn => ok_move rfl (up i0 hk hn.1), gdT rfl rfl fun hp b q hk hn => ok_move rfl (up i4 hk hn.1), gdT rfl rfl fun hp b q hk hn => ok_indexAddr rfl Try.underlying63 ty3 (IsV.rd (Gd.get hn.1 hp)) (Gd.get hn.2.1 hp) (hx66_10 hp), gdT rfl rfl fun hp b q hk hn => ok_load rfl ty3 (Gd.get hn.1 hp), gdT rfl rfl fun hp b q hk hn => ok_gtr rfl (Gd.get hn.1 hp) (Gd.get hn.2.1 hp), ob1 rfl fun b q hk hn => ok_pickM rfl hn.1 hx66_13 (fun hm => (Gd.get hn.2.1 hm)) (fun _ => (isV_bool.2 rfl)), trivial⟩ hQQ71 fun b q p => ?_
      exact tail_done (k := q) (hp72 _ _ ⟨Bs.post ⟨hg, hs, hd⟩ p, p.ke 0 rfl i0, p.ke 3 rfl i3, (by rw [p.old 3 rfl]; exact n3), p.ke 4 rfl i4, p.ke 5 rfl i5, p.ou 13 28 rfl, trivial⟩)
     rintro a k ⟨⟨hg, hs, hd⟩, i0, i3, n3, i4, i5, i28, _⟩
     refine wp_cond_split (isBool i28) (fun hc70 => ?_) (fun hc70 => ?_)
     ·rw [if_pos hc70] at hr
      refine wp_skip ?_
      refine wp_block ?_
      obtain ⟨x67_1, hx67_1, hr⟩ := bind_some hr
      refine cut (fun a' k' => Bs noF k0 72 a' k' ∧ (IsV l_) (a'.get 0) k' ∧ IsOwn 0 3 s54.1 (a'.get 3) k' ∧ Lo k0 (obF (a'.get 3)) ∧ (IsV s54.2) (a'.get 4) k' ∧ (IsV x67_1) (a'.get 5) k' ∧ True) ?_ hQ ?_
      ·intro Q68 hQQ68 hp69
       refine gS 3 (_ :: _ :: _ :: []) hs (by kernel_rfl) ⟨mu rfl i5, o1 [(29, some 0)] rfl fun _ _ h n => ok_sub rfl n.1 (cI rfl) hx67_1, cp 1 rfl rfl, trivial⟩ hQQ68 fun b q p => ?_
       exact tail_done (k := q) (hp69 _ _ ⟨Bs.post ⟨hg, hs, hd⟩ p, p.ke 0 rfl i0, p.ke 3 rfl i3, (by rw [p.old 3 rfl]; exact n3), p.ke 4 rfl i4, p.ou 2 5 rfl, trivial⟩)
      rintro a k ⟨⟨hg, hs, hd⟩, i0, i3, n3, i4, i5, _⟩
      exact hgo63 _ _ _ (Option.some.inj hr).symm ⟨⟨hg, hs, hd⟩, i0, i3, n3, i4, i5, trivial⟩
     rw [if_neg (by rw [hc70]; decide)] at hr
     refine wp_exit ?_
     exact hex64 _ _ _ _ (Option.some.inj hr).symm ⟨rfl, ⟨hg, hs, hd⟩, i0, i3, n3, i4, i5, trivial⟩
    ·rintro r106 a k rfl hR
     dsimp only at hr
     simp at hr
    ·rintro _ _ _ rfl _
     simp at hr
    clear hf73
    rintro _ s74 a k rfl ⟨rfl, ⟨hg, hs, hd⟩, i0, i3, n3, i4, i5, _⟩
    dsimp only at hr
    refine wp_seq ?_
    refine wp_seq ?_
    obtain ⟨x75_13, hx75_13, hr⟩ := bind_some hr
    obtain ⟨x75_5, hx75_5, hx75_13⟩ := ite_bind hx75_13
    obtain ⟨x75_6, hx75_6, hx75_13⟩ := ite_bind hx75_13
    obtain ⟨x75_10, hx75_10, hx75_13⟩ := ite_bind hx75_13
    refine cut (fun a' k' => Bs noF k0 72 a' k' ∧ (IsV l_) (a'.get 0) k' ∧ IsOwn 0 3 s54.1 (a'.get 3) k' ∧ Lo k0 (obF (a'.get 3)) ∧ (IsV s54.2) (a'.get 4) k' ∧ (IsV s74) (a'.get 5) k' ∧ (IsV x75_13) (a'.get 44) k' ∧ True) ?_ hQ ?_
    ·intro Q104 hQQ104 hp105
     refine region (a0 := a) (k0 := k) (n := 72) (m := 14) (⟨some (IsV s74), [(5, none)]⟩ :: ⟨some (IsV (decide (0 < s74))), [(31, some 0)]⟩ :: ⟨some (IsV (decide (0 < s74))), [(32, some 1)]⟩ :: ⟨some (Gd ((decide (0 < s74)) = true) (OwnAt (a.get 3) 0 3 s54.1)), [(3, none)]⟩ :: ⟨some (Gd ((decide (0 < s74)) = true) (IsV s74)), [(5, none)]⟩ :: ⟨some (Gd ((decide (0 < s74)) = true) (IsV x75_5)), [(35, some 4)]⟩ :: ⟨some (Gd ((decide (0 < s74)) = true) (IsPtr x75_6)), [(34, some 3), (36, some 5)]⟩ :: ⟨some (Gd ((decide (0 < s74)) = true) (IsV x75_6)), [(37, some 6)]⟩ :: ⟨some (Gd ((decide (0 < s74)) = true) (IsV l_)), [(0, none)]⟩ :: ⟨some (Gd ((decide (0 < s74)) = true) (IsV s54.2)), [(4, none)]⟩ :: ⟨some (Gd ((decide (0 < s74)) = true) (IsPtr x75_10)), [(39, some 8), (40, some 9)]⟩ :: ⟨some (Gd ((decide (0 < s74)) = true) (IsV x75_10)), [(41, some 10)]⟩ :: ⟨some (Gd ((decide (0 < s74)) = true) (IsV (x75_6 == x75_10))), [(38, some 7), (42, some 11)]⟩ :: ⟨some (IsV x75_13), [(33, some 2), (43, some 12)]⟩ :: []) hmix hs (by kernel_rfl) ⟨ob1 rfl fun b q hk hn => ok_move rfl (up i5 hk hn.1), ob1 rfl fun b q hk hn => ok_gtr rfl hn.1 (isV_int.2 rfl), ob1 rfl fun b q hk hn => ok_move rfl hn.1, gdT rfl rfl fun hp b q hk hn => ok_moveOA (.inl rfl) (ownAt hn.1 (up i3 hk hn.1)), gdT rfl rfl fun hp b q hk hn => ok_move rfl (up i5 hk hn.1), gdT rfl rfl fun hp b q hk hn => ok_sub rfl (Gd.get hn.1 hp) (isV_int.2 rfl) (hx75_5 hp), gdT rfl rfl fun hp b q hk hn => ok_indexAddr rfl Try.underlying63 ty3 (IsOwn.rd ((Gd.get hn.1 hp)).2) (Gd.get hn.2.1 hp) (hx75_6 hp), gdT rfl rfl fun hp b q hk hn => ok_load rfl ty3 (Gd.get hn.1 hp), gdT rfl rfl fun hp b q hk hn => ok_move rfl (up i0 hk hn.1), gdT rfl rfl fun hp b q hk hn => ok_move rfl (up i4 hk hn.1), gdT rfl rfl fun hp b q hk hn => ok_indexAddr rfl Try.underlying63 ty3 (IsV.rd (Gd.get hn.1 hp)) (Gd.get hn.2.1 hp) (hx75_10 hp), gdT rfl rfl fun hp b q hk hn => ok_load rfl ty3 (Gd.get hn.1 hp), gdT rfl rfl fun hp b q hk hn => ok_eqI rfl (Gd.get hn.1 hp) (Gd.get hn.2.1 hp), ob1 rfl fun b q hk hn => ok_pickM rfl hn.1 hx75_13 (fun hm => (Gd.get hn.2.1 hm)) (fun _ => (isV_bool.2 rfl)), trivial⟩ hQQ104 fun b q p => ?_
     exact tail_done (k := q) (hp105 _ _ ⟨Bs.post ⟨hg, hs, hd⟩ p, p.ke 0 rfl i0, p.ke 3 rfl i3, (by rw [p.old 3 rfl]; exact n3), p.ke 4 rfl i4, p.ke 5 rfl i5, p.ou 13 44 rfl, trivial⟩)
    rintro a k ⟨⟨hg, hs, hd⟩, i0, i3, n3, i4, i5, i44, _⟩
    refine wp_cond_split (isBool i44) (fun hc103 => ?_) (fun hc103 => ?_)
    ·rw [if_pos hc103] at hr
     refine wp_exit ?_
     obtain rfl := Option.some.inj hr
     exact hp60 _ _ ⟨⟨hg, hs, hd⟩, i0, i3, n3, i4, trivial⟩
    rw [if_neg (by rw [hc103]; decide)] at hr
    refine wp_skip ?_
    refine wp_seq ?_
    obtain ⟨x76_2, hx76_2, hr⟩ := bind_some hr
    refine cut (fun a' k' => Bs noF k0 72 a' k' ∧ (IsV l_) (a'.get 0) k' ∧ IsOwn 0 3 x76_2 (a'.get 3) k' ∧ Lo k0 (obF (a'.get 3)) ∧ (IsV s54.2) (a'.get 4) k' ∧ (IsV s74) (a'.get 5) k' ∧ True) ?_ hQ ?_
    ·intro Q101 hQQ101 hp102
     refine gS 2 (⟨some (OwnAt (a.get 3) 0 3 s54.1), [(3, none)]⟩ :: ⟨some (IsV (α := (List Int)) ([0])), []⟩ :: []) hs (by kernel_rfl) ⟨ob1 rfl fun _ _ h n => ok_moveOA (.inl rfl) (ownAt n.1 (up i3 h n.1)), ob1 rfl fun _ _ h n => ok_buildSlice rfl Try.underlying63 eo3 rfl (by decide) (by decide) ⟨rfl, (cI rfl), trivial⟩, trivial⟩ hQQ101 fun b q p => ?_
     have hgq := hg.then p.grow
     have hsb := p.size.trans hs
     have hdb := p.defers.trans hd
     have j0 := p.ke 0 rfl i0
     have j4 := p.ke 4 rfl i4
     have j5 := p.ke 5 rfl i5
     have e45 : b.get 45 = a.get 3 := (p.ou 0 45 rfl).1
     have j45 : IsOwn 0 3 s54.1 (b.get 45) q := (p.ou 0 45 rfl).2
     have y45 : Lo k0 (obF (b.get 45)) := by rw [e45]; exact n3
     have j46 : (IsV (α := (List Int)) ([0])) (b.get 46) q := p.ou 1 46 rfl
     have hns := j45.nshF
     refine tail_appendS (i := 2) (d := 47) rfl rfl rfl rfl (by rw [hsb]; decide) (e := 3) Try.underlying63 eo3 j45 (IsV.rd j46) hx76_2 fun b2 q2 hsz hdf hoth hch hown hob => ?_
     have hle := hch.le hns
     have yn : Lo k0 (obF (b2.get 47)) := y45.app hgq hob
     replace j0 := Pers.pers hle j0
     replace j4 := Pers.pers hle j4
     replace j5 := Pers.pers hle j5
     replace j46 := Pers.pers hle j46
     replace hgq := hgq.step hch y45.wr
     rw [← hoth 0 (by decide)] at j0
     rw [← hoth 4 (by decide)] at j4
     rw [← hoth 5 (by decide)] at j5
     rw [← hoth 46 (by decide)] at j46
     have j47 := hown
     have y47 := yn
     replace hsb := hsz.trans hsb
     replace hdb := hdf.trans hdb
     clear hle hch hown hob hns yn hsz hdf hoth
     obtain ⟨b, hbb⟩ : ∃ b, b = b2 := ⟨b2, rfl⟩
     subst hbb
     obtain ⟨q, hqq⟩ : ∃ q, q = q2 := ⟨q2, rfl⟩
     subst hqq
     refine tail_assign (i := 3) (d := 3) rfl rfl (.inl rfl) rfl (by rw [hsb]; decide) fun b2 hsz hdf hnew hoth => ?_
     have jn : (IsOwn 0 3 x76_2) (b2.get 3) q := by rw [hnew]; exact j47
     have yn : Lo k0 (obF (b2.get 3)) := by rw [hnew]; exact y47
     rw [← hoth 0 (by decide)] at j0
     rw [← hoth 4 (by decide)] at j4
     rw [← hoth 5 (by decide)] at j5
     rw [← hoth 46 (by decide)] at j46
     have j3 := jn
     have y3 := yn
     replace hsb := hsz.trans hsb
     replace hdb := hdf.trans hdb
     clear hsz hdf hoth
     obtain ⟨b, hbb⟩ : ∃ b, b = b2 := ⟨b2, rfl⟩
     subst hbb
     exact tail_done (k := q) (hp102 _ _ ⟨⟨hgq, hsb, hdb⟩, j0, j3, y3, j4, j5, trivial⟩)
    rintro a k ⟨⟨hg, hs, hd⟩, i0, i3, n3, i4, i5, _⟩
    refine wp_seq ?_
    refine wp_seq ?_
    obtain ⟨x77_2, hx77_2, hr⟩ := bind_some hr
    refine cut (fun a' k' => Bs noF k0 72 a' k' ∧ (IsV l_) (a'.get 0) k' ∧ IsOwn 0 3 x76_2 (a'.get 3) k' ∧ Lo k0 (obF (a'.get 3)) ∧ (IsV s54.2) (a'.get 4) k' ∧ (IsV s74) (a'.get 5) k' ∧ (IsV x77_2) (a'.get 6) k' ∧ True) ?_ hQ ?_
    ·intro Q99 hQQ99 hp100
     refine gS 4 (⟨some (OwnAt (a.get 3) 0 3 x76_2), [(3, none)]⟩ :: _ :: _ :: _ :: []) hs (by kernel_rfl) ⟨ob1 rfl fun _ _ h n => ok_moveOA (.inl rfl) (ownAt n.1 (up i3 h n.1)), o1 [(48, some 0)] rfl fun _ _ h n => ok_len rfl rfl Try.underlying63 (IsOwn.rd (n.1).2), o1 [(49, some 1)] rfl fun _ _ h n => ok_sub rfl n.1 (cI rfl) hx77_2, cp 2 rfl rfl, trivial⟩ hQQ99 fun b q p => ?_
     exact tail_done (k := q) (hp100 _ _ ⟨Bs.post ⟨hg, hs, hd⟩ p, p.ke 0 rfl i0, p.ke 3 rfl i3, (by rw [p.old 3 rfl]; exact n3), p.ke 4 rfl i4, p.ke 5 rfl i5, p.ou 3 6 rfl, trivial⟩)
    rintro a k ⟨⟨hg, hs, hd⟩, i0, i3, n3, i4, i5, i6, _⟩
    refine wp_block ?_
    obtain ⟨f92, hf92, hr⟩ := bind_some hr
    refine cutFe f92 (fun s' a' k' => Bs noF k0 72 a' k' ∧ (IsV l_) (a'.get 0) k' ∧ IsOwn 0 3 s'.1 (a'.get 3) k' ∧ Lo k0 (obF (a'.get 3)) ∧ (IsV s54.2) (a'.get 4) k' ∧ (IsV s74) (a'.get 5) k' ∧ (IsV s'.2) (a'.get 6) k' ∧ True) (fun i' s' a' k' => (i' = 4 ∧ Bs noF k0 72 a' k' ∧ (IsV l_) (a'.get 0) k' ∧ IsOwn 0 3 s'.1 (a'.get 3) k' ∧ Lo k0 (obF (a'.get 3)) ∧ (IsV s54.2) (a'.get 4) k' ∧ (IsV s74) (a'.get 5) k' ∧ True)) (fun r' a' k' => bodyPost Try.prog Try.f86 (RetC noF k0 (IsV r')) .ret a' k'.w) ?_ hQ ?_ ?_ ?_
    ·intro Q98 hQQ98 hgo hex hret
     refine sim_loop ?_ _ _ _ _ _ hf92 ⟨⟨hg, hs, hd⟩, i0, i3, n3, i4, i5, i6, trivial⟩ Q98 hQQ98 hgo hex hret
     clear hr hf92 hgo hex hret hQQ98 hQ hg hs hd i0 i3 i4 i5 i6 n3
     intro s78 fl_ a k hr hS Q hQ hgo79 hex80 hret81
     obtain ⟨⟨hg, hs, hd⟩, i0, i3, n3, i4, i5, i6, _⟩ := hS
     unfold ref06_sorted_L2 at hr
     refine wp_seq ?_
     refine cutS (fun a' k' => Bs noF k0 72 a' k' ∧ (IsV l_) (a'.get 0) k' ∧ IsOwn 0 3 s78.1 (a'.get 3) k' ∧ Lo k0 (obF (a'.get 3)) ∧ (IsV s54.2) (a'.get 4) k' ∧ (IsV s74) (a'.get 5) k' ∧ (IsV s78.2) (a'.get 6) k' ∧ (IsV (decide (s74 < s78.2))) (a'.get 53) k' ∧ True) ?_ ?_
     ·intro Q90 hQQ90 hp91
      refine gS 3 (_ :: _ :: _ :: []) hs (by kernel_rfl) ⟨mu rfl i6, mu rfl i5, o1 [(51, some 0), (52, some 1)] rfl fun _ _ h n => ok_gtr rfl n.1 n.2.1, trivial⟩ hQQ90 fun b q p => ?_
      exact tail_done (k := q) (hp91 _ _ ⟨Bs.post ⟨hg, hs, hd⟩ p, p.ke 0 rfl i0, p.ke 3 rfl i3, (by rw [p.old 3 rfl]; exact n3), p.ke 4 rfl i4, p.ke 5 rfl i5, p.ke 6 rfl i6, p.ou 2 53 rfl, trivial⟩)
     rintro a k ⟨⟨hg, hs, hd⟩, i0, i3, n3, i4, i5, i6, i53, _⟩
     refine wp_cond_split (isBool i53) (fun hc89 => ?_) (fun hc89 => ?_)
     ·rw [if_pos hc89] at hr
      refine wp_skip ?_
      refine wp_seq ?_
      refine wp_block ?_
      obtain ⟨x83_4, hx83_4, hr⟩ := bind_some hr
      obtain ⟨x83_5, hx83_5, hr⟩ := bind_some hr
      obtain ⟨x83_7, hx83_7, hr⟩ := bind_some hr
      obtain ⟨x83_8, hx83_8, hr⟩ := bind_some hr
      refine cut (fun a' k' => Bs noF k0 72 a' k' ∧ (IsV l_) (a'.get 0) k' ∧ IsOwn 0 3 x83_8 (a'.get 3) k' ∧ Lo k0 (obF (a'.get 3)) ∧ (IsV s54.2) (a'.get 4) k' ∧ (IsV s74) (a'.get 5) k' ∧ (IsV s78.2) (a'.get 6) k' ∧ True) ?_ hQ ?_
      ·intro Q87 hQQ87 hp88
       refine gS 8 (⟨some (OwnAt (a.get 3) 0 3 s78.1), [(3, none)]⟩ :: _ :: ⟨some (OwnAt (a.get 3) 0 3 s78.1), [(3, none)]⟩ :: _ :: _ :: _ :: _ :: ⟨some (IsAdrO (a.get 3) ((s78.2).toNat * Enc.sz Int)), [(56, some 0), (57, some 1)]⟩ :: []) hs (by kernel_rfl) ⟨ob1 rfl fun _ _ h n => ok_moveOA (.inl rfl) (ownAt n.1 (up i3 h n.1)), mu rfl i6, ob1 rfl fun _ _ h n => ok_moveOA (.inl rfl) (ownAt n.1 (up i3 h n.1)), mu rfl i6, o1 [(59, some 3)] rfl fun _ _ h n => ok_sub rfl n.1 (cI rfl) hx83_4, o1 [(58, some 2), (60, some 4)] rfl fun _ _ h n => ok_indexAddr rfl Try.underlying63 ty3 (IsOwn.rd (n.1).2) n.2.1 hx83_5, o1 [(61, some 5)] rfl fun _ _ h n => ok_load rfl ty3 n.1, ob1 rfl fun _ _ h n => ok_indexO rfl Try.underlying63 ty3 n.1 n.2.1 hx83_7, trivial⟩ hQQ87 fun b q p => ?_
       have hgq := hg.then p.grow
       have hsb := p.size.trans hs
       have hdb := p.defers.trans hd
       have j0 := p.ke 0 rfl i0
       have j3 := p.ke 3 rfl i3
       have y3 : Lo k0 (obF (b.get 3)) := by rw [p.old 3 rfl]; exact n3
       have j4 := p.ke 4 rfl i4
       have j5 := p.ke 5 rfl i5
       have j6 := p.ke 6 rfl i6
       have j62 : (IsV x83_5) (b.get 62) q := p.ou 6 62 rfl
       have j63 : IsAdrO (a.get 3) ((s78.2).toNat * Enc.sz Int) (b.get 63) q := p.ou 7 63 rfl
       have eo : b.get 3 = a.get 3 := p.old 3 rfl
       have hns := j3.nshF
       refine tail_storeS (i := 8) (u := b.get 3) (m := (s78.2).toNat) (off := 0) rfl rfl rfl rfl szf3 (Upd.self (α := Int)) (by rw [eo]; exact j63) j3 (getI_spec hx83_7).2.1 j62 fun q2 hch hz => ?_
       replace hgq := hgq.step hch y3.wr
       have hle := hch.le hns
       replace j0 := Pers.pers hle j0
       replace j4 := Pers.pers hle j4
       replace j5 := Pers.pers hle j5
       replace j6 := Pers.pers hle j6
       replace j62 := Pers.pers hle j62
       replace j63 := Pers.pers hle j63
       replace j3 := hz
       rw [Option.some.inj hx83_8] at j3
       clear hns hle hch eo hz
       obtain ⟨q, hqq⟩ : ∃ q, q = q2 := ⟨q2, rfl⟩
       subst hqq
       exact tail_done (k := q) (hp88 _ _ ⟨⟨hgq, hsb, hdb⟩, j0, j3, y3, j4, j5, j6, trivial⟩)
      rintro a k ⟨⟨hg, hs, hd⟩, i0, i3, n3, i4, i5, i6, _⟩
      obtain ⟨x84_1, hx84_1, hr⟩ := bind_some hr
      refine cut (fun a' k' => Bs noF k0 72 a' k' ∧ (IsV l_) (a'.get 0) k' ∧ IsOwn 0 3 x83_8 (a'.get 3) k' ∧ Lo k0 (obF (a'.get 3)) ∧ (IsV s54.2) (a'.get 4) k' ∧ (IsV s74) (a'.get 5) k' ∧ (IsV x84_1) (a'.get 6) k' ∧ True) ?_ hQ ?_
      ·intro Q85 hQQ85 hp86
       refine gS 3 (_ :: _ :: _ :: []) hs (by kernel_rfl) ⟨mu rfl i6, o1 [(54, some 0)] rfl fun _ _ h n => ok_sub rfl n.1 (cI rfl) hx84_1, cp 1 rfl rfl, trivial⟩ hQQ85 fun b q p => ?_
       exact tail_done (k := q) (hp86 _ _ ⟨Bs.post ⟨hg, hs, hd⟩ p, p.ke 0 rfl i0, p.ke 3 rfl i3, (by rw [p.old 3 rfl]; exact n3), p.ke 4 rfl i4, p.ke 5 rfl i5, p.ou 2 6 rfl, trivial⟩)
      rintro a k ⟨⟨hg, hs, hd⟩, i0, i3, n3, i4, i5, i6, _⟩
      exact hgo79 _ _ _ (Option.some.inj hr).symm ⟨⟨hg, hs, hd⟩, i0, i3, n3, i4, i5, i6, trivial⟩
     rw [if_neg (by rw [hc89]; decide)] at hr
     refine wp_exit ?_
     exact hex80 _ _ _ _ (Option.some.inj hr).symm ⟨rfl, ⟨hg, hs, hd⟩, i0, i3, n3, i4, i5, trivial⟩
    ·rintro r97 a k rfl hR
     dsimp only at hr
     simp at hr
    ·rintro _ _ _ rfl _
     simp at hr
    clear hf92
    rintro _ s93 a k rfl ⟨rfl, ⟨hg, hs, hd⟩, i0, i3, n3, i4, i5, _⟩
    dsimp only at hr
    obtain ⟨x94_4, hx94_4, hr⟩ := bind_some hr
    obtain ⟨x94_6, hx94_6, hr⟩ := bind_some hr
    obtain ⟨x94_7, hx94_7, hr⟩ := bind_some hr
    refine cut (fun a' k' => Bs noF k0 72 a' k' ∧ (IsV l_) (a'.get 0) k' ∧ IsOwn 0 3 x94_7 (a'.get 3) k' ∧ Lo k0 (obF (a'.get 3)) ∧ (IsV s54.2) (a'.get 4) k' ∧ True) ?_ hQ ?_
    ·intro Q95 hQQ95 hp96
     refine gS 7 (⟨some (OwnAt (a.get 3) 0 3 s93.1), [(3, none)]⟩ :: _ :: _ :: _ :: _ :: _ :: ⟨some (IsAdrO (a.get 3) ((s74).toNat * Enc.sz Int)), [(64, some 0), (65, some 1)]⟩ :: []) hs (by kernel_rfl) ⟨ob1 rfl fun _ _ h n => ok_moveOA (.inl rfl) (ownAt n.1 (up i3 h n.1)), mu rfl i5, mu rfl i0, mu rfl i4, o1 [(66, some 2), (67, some 3)] rfl fun _ _ h n => ok_indexAddr rfl Try.underlying63 ty3 (IsV.rd n.1) n.2.1 hx94_4, o1 [(68, some 4)] rfl fun _ _ h n => ok_load rfl ty3 n.1, ob1 rfl fun _ _ h n => ok_indexO rfl Try.underlying63 ty3 n.1 n.2.1 hx94_6, trivial⟩ hQQ95 fun b q p => ?_
     have hgq := hg.then p.grow
     have hsb := p.size.trans hs
     have hdb := p.defers.trans hd
     have j0 := p.ke 0 rfl i0
     have j3 := p.ke 3 rfl i3
     have y3 : Lo k0 (obF (b.get 3)) := by rw [p.old 3 rfl]; exact n3
     have j4 := p.ke 4 rfl i4
     have j69 : (IsV x94_4) (b.get 69) q := p.ou 5 69 rfl
     have j70 : IsAdrO (a.get 3) ((s74).toNat * Enc.sz Int) (b.get 70) q := p.ou 6 70 rfl
     have eo : b.get 3 = a.get 3 := p.old 3 rfl
     have hns := j3.nshF
     refine tail_storeS (i := 7) (u := b.get 3) (m := (s74).toNat) (off := 0) rfl rfl rfl rfl szf3 (Upd.self (α := Int)) (by rw [eo]; exact j70) j3 (getI_spec hx94_6).2.1 j69 fun q2 hch hz => ?_
     replace hgq := hgq.step hch y3.wr
     have hle := hch.le hns
     replace j0 := Pers.pers hle j0
     replace j4 := Pers.pers hle j4
     replace j69 := Pers.pers hle j69
     replace j70 := Pers.pers hle j70
     replace j3 := hz
     rw [Option.some.inj hx94_7] at j3
     clear hns hle hch eo hz
     obtain ⟨q, hqq⟩ : ∃ q, q = q2 := ⟨q2, rfl⟩
     subst hqq
     exact tail_done (k := q) (hp96 _ _ ⟨⟨hgq, hsb, hdb⟩, j0, j3, y3, j4, trivial⟩)
    rintro a k ⟨⟨hg, hs, hd⟩, i0, i3, n3, i4, _⟩
    obtain rfl := Option.some.inj hr
    exact hp60 _ _ ⟨⟨hg, hs, hd⟩, i0, i3, n3, i4, trivial⟩
   clear hs59
   rintro a k ⟨⟨hg, hs, hd⟩, i0, i3, n3, i4, _⟩
   obtain ⟨x110_1, hx110_1, hr⟩ := bind_some hr
   refine cut (fun a' k' => Bs noF k0 72 a' k' ∧ (IsV l_) (a'.get 0) k' ∧ IsOwn 0 3 s59 (a'.get 3) k' ∧ Lo k0 (obF (a'.get 3)) ∧ (IsV x110_1) (a'.get 4) k' ∧ True) ?_ hQ ?_
   ·intro Q111 hQQ111 hp112
    refine gS 3 (_ :: _ :: _ :: []) hs (by kernel_rfl) ⟨mu rfl i4, o1 [(11, some 0)] rfl fun _ _ h n => ok_add rfl n.1 (cI rfl) hx110_1, cp 1 rfl rfl, trivial⟩ hQQ111 fun b q p => ?_
    exact tail_done (k := q) (hp112 _ _ ⟨Bs.post ⟨hg, hs, hd⟩ p, p.ke 0 rfl i0, p.ke 3 rfl i3, (by rw [p.old 3 rfl]; exact n3), p.ou 2 4 rfl, trivial⟩)
   rintro a k ⟨⟨hg, hs, hd⟩, i0, i3, n3, i4, _⟩
   exact hgo55 _ _ _ (Option.some.inj hr).symm ⟨⟨hg, hs, hd⟩, i0, i3, n3, i4, trivial⟩
  rw [if_neg (by rw [hc115]; decide)] at hr
  refine wp_exit ?_
  obtain ⟨kk, sh114, ii3⟩ := i3.give
  replace i3 := ii3
  replace hg := hg.hand sh114 n3.wr
  rw [← sh114.w]
  clear sh114
  obtain ⟨k, hkk⟩ : ∃ k, k = kk := ⟨kk, rfl⟩
  subst hkk
  exact hex56 _ _ _ _ (Option.some.inj hr).symm ⟨rfl, ⟨hg, hs, hd⟩, i3, trivial⟩
 ·rintro r123 a k rfl hR
  dsimp only at hr
  obtain rfl := Option.some.inj hr
  exact hR
 ·rintro _ _ _ rfl _
  simp at hr
 clear hf118
 rintro _ s119 a k rfl ⟨rfl, ⟨hg, hs, hd⟩, i3, _⟩
 dsimp only at hr
 refine stepL 2 (_ :: _ :: []) rfl ⟨hg, hs, hd⟩ (by kernel_rfl) ⟨mu rfl i3, cp 0 rfl rfl, trivial⟩ [⟨_, _⟩] (fun b q p => ⟨p.ou 1 2 rfl, trivial⟩) ?_
 rintro a k ⟨⟨hg, hs, hd⟩, i2, _⟩
 refine wp_ret ?_
 obtain rfl := Option.some.inj hr
 exact retC1 rfl hd hg i2
def ref06_edges_L0 (a_ : (List Rect)) (s134 : (List Int) × Int) : Option (Flow ((List Int) × Int) ((List Int))) :=
 if (decide (s134.2 < (a_.length : Int))) then
  (getI a_ s134.2).bind fun x139_3 =>
  (getI a_ s134.2).bind fun x139_8 =>
  (appI s134.1 ([x139_3.X0, x139_8.X1])).bind fun x139_12 =>
  (addI s134.2 1).bind fun x140_1 =>
  some (.go (x139_12, x140_1))
 else
  some (.ex 0 (s134.1, s134.2))
def ref06_edges_L1 (b_ : (List Rect)) (s151 : (List Int) × Int) : Option (Flow ((List Int) × Int) ((List Int))) :=
 if (decide (s151.2 < (b_.length : Int))) then
  (getI b_ s151.2).bind fun x156_3 =>
  (getI b_ s151.2).bind fun x156_8 =>
  (appI s151.1 ([x156_3.X0, x156_8.X1])).bind fun x156_12 =>
  (addI s151.2 1).bind fun x157_1 =>
  some (.go (x156_12, x157_1))
 else
  some (.ex 2 (s151.1, s151.2))
def ref06_edges (a_ : (List Rect)) (b_ : (List Rect)) : Option ((List Int)) :=
 (iterL (ref06_edges_L0 a_) (a_.length + b_.length + ([] : List Int).length + 1) (([] : List Int), 0)).bind fun f148 => match f148 with
  | .go _ => none
  | .ex _ s149 =>
   (iterL (ref06_edges_L1 b_) (b_.length + s149.1.length + 1) (s149.1, 0)).bind fun f166 => match f166 with
    | .go _ => none
    | .ex _ s167 =>
     (ref06_sorted s167.1).bind fun x168_1 =>
     some x168_1
    | .ret r171 => some r171
  | .ret r175 => some r175
theorem ref06_edges_ok {k0 : K} {v0 v1 : Value} {a_ : (List Rect)} {b_ : (List Rect)} {r : (List Int)} (i0 : (IsV a_) v0 k0) (i1 : (IsV b_) v1 k0) (hr : ref06_edges a_ b_ = some r) :
  Calls Try.prog 67 #[v0, v1] k0.w (Ret k0 (IsV r)) := by
 unfold ref06_edges at hr
 refine Ret.ofC ?_
 refine enterK Try.func67 rfl Try.ntmps67 (show 2 ≤ 48 by decide) fun a k hk0 hs hd ha => ?_
 obtain ⟨e0, e1, _⟩ := ha
 replace i0 : (IsV a_) (a.get 0) k := by rw [e0, hk0]; exact i0
 replace i1 : (IsV b_) (a.get 1) k := by rw [e1, hk0]; exact i1
 have hQ : Gb.LetsOut (bodyPost Try.prog Try.f67 (RetC noF k0 (IsV r))) := letsOutC
 have hg : Chg noF k0 k := by rw [hk0]; exact Chg.refl _ k0
 refine stepL 1 (⟨some IsE0, []⟩ :: []) rfl ⟨hg, hs, hd⟩ (by kernel_rfl) ⟨ob1 rfl fun b q h n => ok_assign rfl isE0_nil, trivial⟩ [⟨_, _⟩, ⟨_, _⟩] (fun b q p => ⟨p.ke 0 rfl i0, p.ke 1 rfl i1, trivial⟩) ?_
 rintro a k ⟨⟨hg, hs, hd⟩, i0, i1, _⟩
 refine cutS (fun a' k' => Bs noF k0 48 a' k' ∧ (IsV a_) (a'.get 0) k' ∧ (IsV b_) (a'.get 1) k' ∧ IsOwn 0 3 ([] : List Int) (a'.get 5) k' ∧ Lo k0 (obF (a'.get 5)) ∧ True) ?_ ?_
 ·intro Q179 hQQ179 hp180
  refine gS 1 (⟨some IsE0, []⟩ :: []) hs (by kernel_rfl) ⟨ob1 rfl fun b q h n => ok_assign rfl isE0_nil, trivial⟩ hQQ179 fun b q p => ?_
  have hgq := hg.then p.grow
  have hsb := p.size.trans hs
  have hdb := p.defers.trans hd
  have j0 := p.ke 0 rfl i0
  have j1 := p.ke 1 rfl i1
  have j5 : IsE0 (b.get 5) q := p.ou 0 5 rfl
  have y5 : Lo k0 (obF (b.get 5)) := j5.lo
  replace j5 : IsOwn 0 3 ([] : List Int) (b.get 5) q := j5.own0
  exact tail_done (k := q) (hp180 _ _ ⟨⟨hgq, hsb, hdb⟩, j0, j1, j5, y5, trivial⟩)
 rintro a k ⟨⟨hg, hs, hd⟩, i0, i1, i5, n5, _⟩
 refine wp_seq ?_
 refine cutS (fun a' k' => Bs noF k0 48 a' k' ∧ (IsV a_) (a'.get 0) k' ∧ (IsV b_) (a'.get 1) k' ∧ IsOwn 0 3 ([] : List Int) (a'.get 5) k' ∧ Lo k0 (obF (a'.get 5)) ∧ (IsI 0) (a'.get 6) k' ∧ True) ?_ ?_
 ·intro Q177 hQQ177 hp178
  refine gS 1 (⟨some (IsI 0), []⟩ :: []) hs (by kernel_rfl) ⟨aI rfl rfl, trivial⟩ hQQ177 fun b q p => ?_
  exact tail_done (k := q) (hp178 _ _ ⟨Bs.post ⟨hg, hs, hd⟩ p, p.ke 0 rfl i0, p.ke 1 rfl i1, p.ke 5 rfl i5, (by rw [p.old 5 rfl]; exact n5), p.ou 0 6 rfl, trivial⟩)
 rintro a k ⟨⟨hg, hs, hd⟩, i0, i1, i5, n5, i6, _⟩
 refine wp_block ?_
 obtain ⟨f148, hf148, hr⟩ := bind_some hr
 refine cutFe f148 (fun s' a' k' => Bs noF k0 48 a' k' ∧ (IsV a_) (a'.get 0) k' ∧ (IsV b_) (a'.get 1) k' ∧ IsOwn 0 3 s'.1 (a'.get 5) k' ∧ Lo k0 (obF (a'.get 5)) ∧ (IsV s'.2) (a'.get 6) k' ∧ True) (fun i' s' a' k' => (i' = 0 ∧ Bs noF k0 48 a' k' ∧ (IsV b_) (a'.get 1) k' ∧ IsOwn 0 3 s'.1 (a'.get 5) k' ∧ Lo k0 (obF (a'.get 5)) ∧ True)) (fun r' a' k' => bodyPost Try.prog Try.f67 (RetC noF k0 (IsV r')) .ret a' k'.w) ?_ hQ ?_ ?_ ?_
 ·intro Q176 hQQ176 hgo hex hret
  refine sim_loop ?_ _ _ _ _ _ hf148 ⟨⟨hg, hs, hd⟩, i0, i1, i5, n5, i6, trivial⟩ Q176 hQQ176 hgo hex hret
  clear hr hf148 hgo hex hret hQQ176 hQ hg hs hd i0 i1 i5 i6 n5
  intro s134 fl_ a k hr hS Q hQ hgo135 hex136 hret137
  obtain ⟨⟨hg, hs, hd⟩, i0, i1, i5, n5, i6, _⟩ := hS
  unfold ref06_edges_L0 at hr
  refine wp_seq ?_
  refine cutS (fun a' k' => Bs noF k0 48 a' k' ∧ (IsV a_) (a'.get 0) k' ∧ (IsV b_) (a'.get 1) k' ∧ IsOwn 0 3 s134.1 (a'.get 5) k' ∧ Lo k0 (obF (a'.get 5)) ∧ (IsV s134.2) (a'.get 6) k' ∧ (IsV (decide (s134.2 < (a_.length : Int)))) (a'.get 11) k' ∧ True) ?_ ?_
  ·intro Q146 hQQ146 hp147
   refine gS 4 (_ :: _ :: _ :: _ :: []) hs (by kernel_rfl) ⟨mu rfl i6, mu rfl i0, o1 [(9, some 1)] rfl fun _ _ h n => ok_len rfl rfl Try.underlying49 (IsV.rd n.1), o1 [(8, some 0), (10, some 2)] rfl fun _ _ h n => ok_lss rfl n.1 n.2.1, trivial⟩ hQQ146 fun b q p => ?_
   exact tail_done (k := q) (hp147 _ _ ⟨Bs.post ⟨hg, hs, hd⟩ p, p.ke 0 rfl i0, p.ke 1 rfl i1, p.ke 5 rfl i5, (by rw [p.old 5 rfl]; exact n5), p.ke 6 rfl i6, p.ou 3 11 rfl, trivial⟩)
  rintro a k ⟨⟨hg, hs, hd⟩, i0, i1, i5, n5, i6, i11, _⟩
  refine wp_cond_split (isBool i11) (fun hc145 => ?_) (fun hc145 => ?_)
  ·rw [if_pos hc145] at hr
   refine wp_skip ?_
   refine wp_seq ?_
   refine wp_block ?_
   obtain ⟨x139_3, hx139_3, hr⟩ := bind_some hr
   obtain ⟨x139_8, hx139_8, hr⟩ := bind_some hr
   obtain ⟨x139_12, hx139_12, hr⟩ := bind_some hr
   refine cut (fun a' k' => Bs noF k0 48 a' k' ∧ (IsV a_) (a'.get 0) k' ∧ (IsV b_) (a'.get 1) k' ∧ IsOwn 0 3 x139_12 (a'.get 5) k' ∧ Lo k0 (obF (a'.get 5)) ∧ (IsV s134.2) (a'.get 6) k' ∧ True) ?_ hQ ?_
   ·intro Q143 hQQ143 hp144
    refine region (a0 := a) (k0 := k) (n := 48) (m := 12) (⟨some (OwnAt (a.get 5) 0 3 s134.1), [(5, none)]⟩ :: ⟨some (IsV a_), [(0, none)]⟩ :: ⟨some (IsV s134.2), [(6, none)]⟩ :: ⟨some (IsPtr x139_3), [(15, some 1), (16, some 2)]⟩ :: ⟨some (IsPtr x139_3.X0), [(17, some 3)]⟩ :: ⟨some (IsV x139_3.X0), [(18, some 4)]⟩ :: ⟨some (IsV a_), [(0, none)]⟩ :: ⟨some (IsV s134.2), [(6, none)]⟩ :: ⟨some (IsPtr x139_8), [(20, some 6), (21, some 7)]⟩ :: ⟨some (IsPtr x139_8.X1), [(22, some 8)]⟩ :: ⟨some (IsV x139_8.X1), [(23, some 9)]⟩ :: ⟨some (IsV (α := (List Int)) ([x139_3.X0, x139_8.X1])), [(19, some 5), (24, some 10)]⟩ :: []) hmix hs (by kernel_rfl) ⟨ob1 rfl fun b q hk hn => ok_moveOA (.inl rfl) (ownAt hn.1 (up i5 hk hn.1)), ob1 rfl fun b q hk hn => ok_move rfl (up i0 hk hn.1), ob1 rfl fun b q hk hn => ok_move rfl (up i6 hk hn.1), ob1 rfl fun b q hk hn => ok_indexAddr rfl Try.underlying49 ty35 (IsV.rd hn.1) hn.2.1 hx139_3, ob1 rfl fun b q hk hn => ok_fieldAddr rfl fo35_0 (at_Rect_0 _) hn.1, ob1 rfl fun b q hk hn => ok_load rfl ty3 hn.1, ob1 rfl fun b q hk hn => ok_move rfl (up i0 hk hn.1), ob1 rfl fun b q hk hn => ok_move rfl (up i6 hk hn.1), ob1 rfl fun b q hk hn => ok_indexAddr rfl Try.underlying49 ty35 (IsV.rd hn.1) hn.2.1 hx139_8, ob1 rfl fun b q hk hn => ok_fieldAddr rfl fo35_2 (at_Rect_2 _) hn.1, ob1 rfl fun b q hk hn => ok_load rfl ty3 hn.1, ob1 rfl fun b q hk hn => ok_buildSlice rfl Try.underlying63 eo3 rfl (by decide) (by decide) ⟨rfl, hn.1, rfl, hn.2.1, trivial⟩, trivial⟩ hQQ143 fun b q p => ?_
    have hgq := hg.then p.grow
    have hsb := p.size.trans hs
    have hdb := p.defers.trans hd
    have j0 := p.ke 0 rfl i0
    have j1 := p.ke 1 rfl i1
    have j6 := p.ke 6 rfl i6
    have e14 : b.get 14 = a.get 5 := (p.ou 0 14 rfl).1
    have j14 : IsOwn 0 3 s134.1 (b.get 14) q := (p.ou 0 14 rfl).2
    have y14 : Lo k0 (obF (b.get 14)) := by rw [e14]; exact n5
    have j25 : (IsV (α := (List Int)) ([x139_3.X0, x139_8.X1])) (b.get 25) q := p.ou 11 25 rfl
    have hns := j14.nshF
    refine tail_appendS (i := 12) (d := 26) rfl rfl rfl rfl (by rw [hsb]; decide) (e := 3) Try.underlying63 eo3 j14 (IsV.rd j25) hx139_12 fun b2 q2 hsz hdf hoth hch hown hob => ?_
    have hle := hch.le hns
    have yn : Lo k0 (obF (b2.get 26)) := y14.app hgq hob
    replace j0 := Pers.pers hle j0
    replace j1 := Pers.pers hle j1
    replace j6 := Pers.pers hle j6
    replace j25 := Pers.pers hle j25
    replace hgq := hgq.step hch y14.wr
    rw [← hoth 0 (by decide)] at j0
    rw [← hoth 1 (by decide)] at j1
    rw [← hoth 6 (by decide)] at j6
    rw [← hoth 25 (by decide)] at j25
    have j26 := hown
    have y26 := yn
    replace hsb := hsz.trans hsb
    replace hdb := hdf.trans hdb
    clear hle hch hown hob hns yn hsz hdf hoth
    obtain ⟨b, hbb⟩ : ∃ b, b = b2 := ⟨b2, rfl⟩
    subst hbb
    obtain ⟨q, hqq⟩ : ∃ q, q = q2 := ⟨q2, rfl⟩
    subst hqq
    refine tail_assign (i := 13) (d := 5) rfl rfl (.inl rfl) rfl (by rw [hsb]; decide) fun b2 hsz hdf hnew hoth => ?_
    have jn : (IsOwn 0 3 x139_12) (b2.get 5) q := by rw [hnew]; exact j26
    have yn : Lo k0 (obF (b2.get 5)) := by rw [hnew]; exact y26
    rw [← hoth 0 (by decide)] at j0
    rw [← hoth 1 (by decide)] at j1
    rw [← hoth 6 (by decide)] at j6
    rw [← hoth 25 (by decide)] at j25
    have j5 := jn
    have y5 := yn
    replace hsb := hsz.trans hsb
    replace hdb := hdf.trans hdb
    clear hsz hdf hoth
    obtain ⟨b, hbb⟩ : ∃ b, b = b2 := ⟨b2, rfl⟩
    subst hbb
    exact tail_done (k := q) (hp144 _ _ ⟨⟨hgq, hsb, hdb⟩, j0, j1, j5, y5, j6, trivial⟩)
   rintro a k ⟨⟨hg, hs, hd⟩, i0, i1, i5, n5, i6, _⟩
   obtain ⟨x140_1, hx140_1, hr⟩ := bind_some hr
   refine cut (fun a' k' => Bs noF k0 48 a' k' ∧ (IsV a_) (a'.get 0) k' ∧ (IsV b_) (a'.get 1) k' ∧ IsOwn 0 3 x139_12 (a'.get 5) k' ∧ Lo k0 (obF (a'.get 5)) ∧ (IsV x140_1) (a'.get 6) k' ∧ True) ?_ hQ ?_
   ·intro Q141 hQQ141 hp142
    refine gS 3 (_ :: _ :: _ :: []) hs (by kernel_rfl) ⟨mu rfl i6, o1 [(12, some 0)] rfl fun _ _ h n => ok_add rfl n.1 (cI rfl) hx140_1, cp 1 rfl rfl, trivial⟩ hQQ141 fun b q p => ?_
    exact tail_done (k := q) (hp142 _ _ ⟨Bs.post ⟨hg, hs, hd⟩ p, p.ke 0 rfl i0, p.ke 1 rfl i1, p.ke 5 rfl i5, (by rw [p.old 5 rfl]; exact n5), p.ou 2 6 rfl, trivial⟩)
   rintro a k ⟨⟨hg, hs, hd⟩, i0, i1, i5, n5, i6, _⟩
   exact hgo135 _ _ _ (Option.some.inj hr).symm ⟨⟨hg, hs, hd⟩, i0, i1, i5, n5, i6, trivial⟩
  rw [if_neg (by rw [hc145]; decide)] at hr
  refine wp_exit ?_
  exact hex136 _ _ _ _ (Option.some.inj hr).symm ⟨rfl, ⟨hg, hs, hd⟩, i1, i5, n5, trivial⟩
 ·rintro r175 a k rfl hR
  dsimp only at hr
  obtain rfl := Option.some.inj hr
  exact hR
 ·rintro _ _ _ rfl _
  simp at hr
 clear hf148
 rintro _ s149 a k rfl ⟨rfl, ⟨hg, hs, hd⟩, i1, i5, n5, _⟩
 dsimp only at hr
 refine wp_seq ?_
 refine cutS (fun a' k' => Bs noF k0 48 a' k' ∧ (IsV b_) (a'.get 1) k' ∧ IsOwn 0 3 s149.1 (a'.get 5) k' ∧ Lo k0 (obF (a'.get 5)) ∧ (IsI 0) (a'.get 7) k' ∧ True) ?_ ?_
 ·intro Q173 hQQ173 hp174
  refine gS 1 (⟨some (IsI 0), []⟩ :: []) hs (by kernel_rfl) ⟨aI rfl rfl, trivial⟩ hQQ173 fun b q p => ?_
  exact tail_done (k := q) (hp174 _ _ ⟨Bs.post ⟨hg, hs, hd⟩ p, p.ke 1 rfl i1, p.ke 5 rfl i5, (by rw [p.old 5 rfl]; exact n5), p.ou 0 7 rfl, trivial⟩)
 rintro a k ⟨⟨hg, hs, hd⟩, i1, i5, n5, i7, _⟩
 refine wp_block ?_
 obtain ⟨f166, hf166, hr⟩ := bind_some hr
 refine cutFe f166 (fun s' a' k' => Bs noF k0 48 a' k' ∧ (IsV b_) (a'.get 1) k' ∧ IsOwn 0 3 s'.1 (a'.get 5) k' ∧ Lo k0 (obF (a'.get 5)) ∧ (IsV s'.2) (a'.get 7) k' ∧ True) (fun i' s' a' k' => (i' = 2 ∧ Bs noF k0 48 a' k' ∧ (IsV s'.1) (a'.get 5) k' ∧ True)) (fun r' a' k' => bodyPost Try.prog Try.f67 (RetC noF k0 (IsV r')) .ret a' k'.w) ?_ hQ ?_ ?_ ?_
 ·intro Q172 hQQ172 hgo hex hret
  refine sim_loop ?_ _ _ _ _ _ hf166 ⟨⟨hg, hs, hd⟩, i1, i5, n5, i7, trivial⟩ Q172 hQQ172 hgo hex hret
  clear hr hf166 hgo hex hret hQQ172 hQ hg hs hd i1 i5 i7 n5
  intro s151 fl_ a k hr hS Q hQ hgo152 hex153 hret154
  obtain ⟨⟨hg, hs, hd⟩, i1, i5, n5, i7, _⟩ := hS
  unfold ref06_edges_L1 at hr
  refine wp_seq ?_
  refine cutS (fun a' k' => Bs noF k0 48 a' k' ∧ (IsV b_) (a'.get 1) k' ∧ IsOwn 0 3 s151.1 (a'.get 5) k' ∧ Lo k0 (obF (a'.get 5)) ∧ (IsV s151.2) (a'.get 7) k' ∧ (IsV (decide (s151.2 < (b_.length : Int)))) (a'.get 30) k' ∧ True) ?_ ?_
  ·intro Q164 hQQ164 hp165
   refine gS 4 (_ :: _ :: _ :: _ :: []) hs (by kernel_rfl) ⟨mu rfl i7, mu rfl i1, o1 [(28, some 1)] rfl fun _ _ h n => ok_len rfl rfl Try.underlying49 (IsV.rd n.1), o1 [(27, some 0), (29, some 2)] rfl fun _ _ h n => ok_lss rfl n.1 n.2.1, trivial⟩ hQQ164 fun b q p => ?_
   exact tail_done (k := q) (hp165 _ _ ⟨Bs.post ⟨hg, hs, hd⟩ p, p.ke 1 rfl i1, p.ke 5 rfl i5, (by rw [p.old 5 rfl]; exact n5), p.ke 7 rfl i7, p.ou 3 30 rfl, trivial⟩)
  rintro a k ⟨⟨hg, hs, hd⟩, i1, i5, n5, i7, i30, _⟩
  refine wp_cond_split (isBool i30) (fun hc163 => ?_) (fun hc163 => ?_)
  ·rw [if_pos hc163] at hr
   refine wp_skip ?_
   refine wp_seq ?_
   refine wp_block ?_
   obtain ⟨x156_3, hx156_3, hr⟩ := bind_some hr
   obtain ⟨x156_8, hx156_8, hr⟩ := bind_some hr
   obtain ⟨x156_12, hx156_12, hr⟩ := bind_some hr
   refine cut (fun a' k' => Bs noF k0 48 a' k' ∧ (IsV b_) (a'.get 1) k' ∧ IsOwn 0 3 x156_12 (a'.get 5) k' ∧ Lo k0 (obF (a'.get 5)) ∧ (IsV s151.2) (a'.get 7) k' ∧ True) ?_ hQ ?_
   ·intro Q160 hQQ160 hp161
    refine region (a0 := a) (k0 := k) (n := 48) (m := 12) (⟨some (OwnAt (a.get 5) 0 3 s151.1), [(5, none)]⟩ :: ⟨some (IsV b_), [(1, none)]⟩ :: ⟨some (IsV s151.2), [(7, none)]⟩ :: ⟨some (IsPtr x156_3), [(34, some 1), (35, some 2)]⟩ :: ⟨some (IsPtr x156_3.X0), [(36, some 3)]⟩ :: ⟨some (IsV x156_3.X0), [(37, some 4)]⟩ :: ⟨some (IsV b_), [(1, none)]⟩ :: ⟨some (IsV s151.2), [(7, none)]⟩ :: ⟨some (IsPtr x156_8), [(39, some 6), (40, some 7)]⟩ :: ⟨some (IsPtr x156_8.X1), [(41, some 8)]⟩ :: ⟨some (IsV x156_8.X1), [(42, some 9)]⟩ :: ⟨some (IsV (α := (List Int)) ([x156_3.X0, x156_8.X1])), [(38, some 5), (43, some 10)]⟩ :: []) hmix hs (by kernel_rfl) ⟨ob1 rfl fun b q hk hn => ok_moveOA (.inl rfl) (ownAt hn.1 (up i5 hk hn.1)), ob1 rfl fun b q hk hn => ok_move rfl (up i1 hk hn.1), ob1 rfl fun b q hk hn => ok_move rfl (up i7 hk hn.1), ob1 rfl fun b q hk hn => ok_indexAddr rfl Try.underlying49 ty35 (IsV.rd hn.1) hn.2.1 hx156_3, ob1 rfl fun b q hk hn => ok_fieldAddr rfl fo35_0 (at_Rect_0 _) hn.1, ob1 rfl fun b q hk hn => ok_load rfl ty3 hn.1, ob1 rfl fun b q hk hn => ok_move rfl (up i1 hk hn.1), ob1 rfl fun b q hk hn => ok_move rfl (up i7 hk hn.1), ob1 rfl fun b q hk hn => ok_indexAddr rfl Try.underlying49 ty35 (IsV.rd hn.1) hn.2.1 hx156_8, ob1 rfl fun b q hk hn => ok_fieldAddr rfl fo35_2 (at_Rect_2 _) hn.1, ob1 rfl fun b q hk hn => ok_load rfl ty3 hn.1, ob1 rfl fun b q hk hn => ok_buildSlice rfl Try.underlying63 eo3 rfl (by decide) (by decide) ⟨rfl, hn.1, rfl, hn.2.1, trivial⟩, trivial⟩ hQQ160 fun b q p => ?_
    have hgq := hg.then p.grow
    have hsb := p.size.trans hs
    have hdb := p.defers.trans hd
    have j1 := p.ke 1 rfl i1
    have j7 := p.ke 7 rfl i7
    have e33 : b.get 33 = a.get 5 := (p.ou 0 33 rfl).1
    have j33 : IsOwn 0 3 s151.1 (b.get 33) q := (p.ou 0 33 rfl).2
    have y33 : Lo k0 (obF (b.get 33)) := by rw [e33]; exact n5
    have j44 : (IsV (α := (List Int)) ([x156_3.X0, x156_8.X1])) (b.get 44) q := p.ou 11 44 rfl
    have hns := j33.nshF
    refine tail_appendS (i := 12) (d := 45) rfl rfl rfl rfl (by rw [hsb]; decide) (e := 3) Try.underlying63 eo3 j33 (IsV.rd j44) hx156_12 fun b2 q2 hsz hdf hoth hch hown hob => ?_
    have hle := hch.le hns
    have yn : Lo k0 (obF (b2.get 45)) := y33.app hgq hob
    replace j1 := Pers.pers hle j1
    replace j7 := Pers.pers hle j7
    replace j44 := Pers.pers hle j44
    replace hgq := hgq.step hch y33.wr
    rw [← hoth 1 (by decide)] at j1
    rw [← hoth 7 (by decide)] at j7
    rw [← hoth 44 (by decide)] at j44
    have j45 := hown
    have y45 := yn
    replace hsb := hsz.trans hsb
    replace hdb := hdf.trans hdb
    clear hle hch hown hob hns yn hsz hdf hoth
    obtain ⟨b, hbb⟩ : ∃ b, b = b2 := ⟨b2, rfl⟩
    subst hbb
    obtain ⟨q, hqq⟩ : ∃ q, q = q2 := ⟨q2, rfl⟩
    subst hqq
    refine tail_assign (i := 13) (d := 5) rfl rfl (.inl rfl) rfl (by rw [hsb]; decide) fun b2 hsz hdf hnew hoth => ?_
    have jn : (IsOwn 0 3 x156_12) (b2.get 5) q := by rw [hnew]; exact j45
    have yn : Lo k0 (obF (b2.get 5)) := by rw [hnew]; exact y45
    rw [← hoth 1 (by decide)] at j1
    rw [← hoth 7 (by decide)] at j7
    rw [← hoth 44 (by decide)] at j44
    have j5 := jn
    have y5 := yn
    replace hsb := hsz.trans hsb
    replace hdb := hdf.trans hdb
    clear hsz hdf hoth
    obtain ⟨b, hbb⟩ : ∃ b, b = b2 := ⟨b2, rfl⟩
    subst hbb
    exact tail_done (k := q) (hp161 _ _ ⟨⟨hgq, hsb, hdb⟩, j1, j5, y5, j7, trivial⟩)
   rintro a k ⟨⟨hg, hs, hd⟩, i1, i5, n5, i7, _⟩
   obtain ⟨x157_1, hx157_1, hr⟩ := bind_some hr
   refine cut (fun a' k' => Bs noF k0 48 a' k' ∧ (IsV b_) (a'.get 1) k' ∧ IsOwn 0 3 x156_12 (a'.get 5) k' ∧ Lo k0 (obF (a'.get 5)) ∧ (IsV x157_1) (a'.get 7) k' ∧ True) ?_ hQ ?_
   ·intro Q158 hQQ158 hp159
    refine gS 3 (_ :: _ :: _ :: []) hs (by kernel_rfl) ⟨mu rfl i7, o1 [(31, some 0)] rfl fun _ _ h n => ok_add rfl n.1 (cI rfl) hx157_1, cp 1 rfl rfl, trivial⟩ hQQ158 fun b q p => ?_
    exact tail_done (k := q) (hp159 _ _ ⟨Bs.post ⟨hg, hs, hd⟩ p, p.ke 1 rfl i1, p.ke 5 rfl i5, (by rw [p.old 5 rfl]; exact n5), p.ou 2 7 rfl, trivial⟩)
   rintro a k ⟨⟨hg, hs, hd⟩, i1, i5, n5, i7, _⟩
   exact hgo152 _ _ _ (Option.some.inj hr).symm ⟨⟨hg, hs, hd⟩, i1, i5, n5, i7, trivial⟩
  rw [if_neg (by rw [hc163]; decide)] at hr
  refine wp_exit ?_
  obtain ⟨kk, sh162, ii5⟩ := i5.give
  replace i5 := ii5
  replace hg := hg.hand sh162 n5.wr
  rw [← sh162.w]
  clear sh162
  obtain ⟨k, hkk⟩ : ∃ k, k = kk := ⟨kk, rfl⟩
  subst hkk
  exact hex153 _ _ _ _ (Option.some.inj hr).symm ⟨rfl, ⟨hg, hs, hd⟩, i5, trivial⟩
 ·rintro r171 a k rfl hR
  dsimp only at hr
  obtain rfl := Option.some.inj hr
  exact hR
 ·rintro _ _ _ rfl _
  simp at hr
 clear hf166
 rintro _ s167 a k rfl ⟨rfl, ⟨hg, hs, hd⟩, i5, _⟩
 dsimp only at hr
 refine wp_seq ?_
 obtain ⟨x168_1, hx168_1, hr⟩ := bind_some hr
 refine cut (fun a' k' => Bs noF k0 48 a' k' ∧ (IsV x168_1) (a'.get 4) k' ∧ True) ?_ hQ ?_
 ·intro Q169 hQQ169 hp170
  refine gS 3 (_ :: _ :: _ :: []) hs (by kernel_rfl) ⟨mu rfl i5, o1 [(46, some 0)] rfl fun _ _ h n => ok_call rfl Try.call86 (ref06_sorted_ok n.1 hx168_1), cp 1 rfl rfl, trivial⟩ hQQ169 fun b q p => ?_
  exact tail_done (k := q) (hp170 _ _ ⟨Bs.post ⟨hg, hs, hd⟩ p, p.ou 2 4 rfl, trivial⟩)
 rintro a k ⟨⟨hg, hs, hd⟩, i4, _⟩
 refine wp_ret ?_
 obtain rfl := Option.some.inj hr
 exact retC1 rfl hd hg i4
def ref06_column_L1 (l_ : (List Rect)) (s187 : (List Int) × (List Int) × Int) (s198 : (List Int) × (List Int) × Int) : Option (Flow ((List Int) × (List Int) × Int) ((List Int))) :=
 (if (decide (0 < s198.2.2)) then
  (subI s198.2.2 1).bind fun x202_5 =>
  (getI s198.1 x202_5).bind fun x202_6 =>
  (getI l_ s187.2.2).bind fun x202_10 =>
  some (decide (x202_10.Y0 < x202_6))
 else
  some false).bind fun x202_14 =>
 if x202_14 then
  (subI s198.2.2 1).bind fun x203_4 =>
  (getI s198.1 x203_4).bind fun x203_5 =>
  (getI s198.1 s198.2.2).bind fun x203_7 =>
  (some (s198.1.set (s198.2.2).toNat x203_5)).bind fun x203_8 =>
  (subI s198.2.2 1).bind fun x204_4 =>
  (getI s198.2.1 x204_4).bind fun x204_5 =>
  (getI s198.2.1 s198.2.2).bind fun x204_7 =>
  (some (s198.2.1.set (s198.2.2).toNat x204_5)).bind fun x204_8 =>
  (subI s198.2.2 1).bind fun x205_1 =>
  some (.go (x203_8, x204_8, x205_1))
 else
  some (.ex 2 (s198.1, s198.2.1, s198.2.2))
def ref06_column_L0 (l_ : (List Rect)) (x_ : Int) (s187 : (List Int) × (List Int) × Int) : Option (Flow ((List Int) × (List Int) × Int) ((List Int))) :=
 if (decide (s187.2.2 < (l_.length : Int))) then
  ((getI l_ s187.2.2).bind fun x194_2 =>
  (if (decide (x_ < x194_2.X0)) then
   some true
  else
   (getI l_ s187.2.2).bind fun x194_10 =>
   some (decide (x194_10.X1 ≤ x_))).bind fun x194_15 =>
  if x194_15 then
   some (s187.1, s187.2.1)
  else
   (appI s187.1 ([0])).bind fun x196_2 =>
   (appI s187.2.1 ([0])).bind fun x197_2 =>
   (iterL (ref06_column_L1 l_ s187) (l_.length + x196_2.length + x197_2.length + 1) (x196_2, x197_2, (s187.1.length : Int))).bind fun f215 => match f215 with
    | .go _ => none
    | .ex _ s216 =>
     (getI l_ s187.2.2).bind fun x217_4 =>
     (getI s216.1 s216.2.2).bind fun x217_7 =>
     (some (s216.1.set (s216.2.2).toNat x217_4.Y0)).bind fun x217_8 =>
     (getI l_ s187.2.2).bind fun x218_4 =>
     (getI s216.2.1 s216.2.2).bind fun x218_7 =>
     (some (s216.2.1.set (s216.2.2).toNat x218_4.Y1)).bind fun x218_8 =>
     some (x217_8, x218_8)
    | .ret r223 => none).bind fun s192 =>
  (addI s187.2.2 1).bind fun x234_1 =>
  some (.go (s192.1, s192.2, x234_1))
 else
  some (.ex 0 (s187.1, s187.2.1, s187.2.2))
def ref06_column_L2 (s244 : (List Int) × (List Int) × Int) (s247 : (List Int) × Int) : Option (Flow ((List Int) × Int) ((List Int))) :=
 if (decide (s247.2 < (s244.1.length : Int))) then
  ((if (decide (0 < (s247.1.length : Int))) then
   (getI s244.1 s247.2).bind fun x254_6 =>
   (subI (s247.1.length : Int) 1).bind fun x254_11 =>
   (getI s247.1 x254_11).bind fun x254_12 =>
   some (decide (x254_6 ≤ x254_12))
  else
   some false).bind fun x254_15 =>
  if x254_15 then
   (subI (s247.1.length : Int) 1).bind fun x255_3 =>
   (subI (s247.1.length : Int) 1).bind fun x255_7 =>
   (getI s247.1 x255_7).bind fun x255_8 =>
   (getI s244.2.1 s247.2).bind fun x255_12 =>
   (getI s247.1 x255_3).bind fun x255_15 =>
   (some (s247.1.set (x255_3).toNat (max x255_8 x255_12))).bind fun x255_16 =>
   some x255_16
  else
   (getI s244.1 s247.2).bind fun x258_3 =>
   (getI s244.2.1 s247.2).bind fun x258_7 =>
   (appI s247.1 ([x258_3, x258_7])).bind fun x258_10 =>
   some x258_10).bind fun s252 =>
  (addI s247.2 1).bind fun x264_1 =>
  some (.go (s252, x264_1))
 else
  some (.ex 4 (s247.1, s247.2))
def ref06_column (l_ : (List Rect)) (x_ : Int) : Option ((List Int)) :=
 (iterL (ref06_column_L0 l_ x_) (l_.length + ([] : List Int).length + ([] : List Int).length + 1) (([] : List Int), ([] : List Int), 0)).bind fun f243 => match f243 with
  | .go _ => none
  | .ex _ s244 =>
   (iterL (ref06_column_L2 s244) (s244.1.length + s244.2.1.length + ([] : List Int).length + 1) (([] : List Int), 0)).bind fun f272 => match f272 with
    | .go _ => none
    | .ex _ s273 =>
     some s273.1
    | .ret r277 => some r277
  | .ret r283 => some r283
theorem ref06_column_ok {k0 : K} {v0 v1 : Value} {l_ : (List Rect)} {x_ : Int} {r : (List Int)} (i0 : (IsV l_) v0 k0) (i1 : (IsV x_) v1 k0) (hr : ref06_column l_ x_ = some r) :
  Calls Try.prog 69 #[v0, v1] k0.w (Ret k0 (IsV r)) := by
 unfold ref06_column at hr
 refine Ret.ofC ?_
 refine enterK Try.func69 rfl Try.ntmps69 (show 2 ≤ 140 by decide) fun a k hk0 hs hd ha => ?_
 obtain ⟨e0, e1, _⟩ := ha
 replace i0 : (IsV l_) (a.get 0) k := by rw [e0, hk0]; exact i0
 replace i1 : (IsV x_) (a.get 1) k := by rw [e1, hk0]; exact i1
 have hQ : Gb.LetsOut (bodyPost Try.prog Try.f69 (RetC noF k0 (IsV r))) := letsOutC
 have hg : Chg noF k0 k := by rw [hk0]; exact Chg.refl _ k0
 refine stepL 1 (⟨some IsE0, []⟩ :: []) rfl ⟨hg, hs, hd⟩ (by kernel_rfl) ⟨ob1 rfl fun b q h n => ok_assign rfl isE0_nil, trivial⟩ [⟨_, _⟩, ⟨_, _⟩] (fun b q p => ⟨p.ke 0 rfl i0, p.ke 1 rfl i1, trivial⟩) ?_
 rintro a k ⟨⟨hg, hs, hd⟩, i0, i1, _⟩
 refine cutS (fun a' k' => Bs noF k0 140 a' k' ∧ (IsV l_) (a'.get 0) k' ∧ (IsV x_) (a'.get 1) k' ∧ IsOwn 0 3 ([] : List Int) (a'.get 5) k' ∧ Lo k0 (obF (a'.get 5)) ∧ True) ?_ ?_
 ·intro Q289 hQQ289 hp290
  refine gS 1 (⟨some IsE0, []⟩ :: []) hs (by kernel_rfl) ⟨ob1 rfl fun b q h n => ok_assign rfl isE0_nil, trivial⟩ hQQ289 fun b q p => ?_
  have hgq := hg.then p.grow
  have hsb := p.size.trans hs
  have hdb := p.defers.trans hd
  have j0 := p.ke 0 rfl i0
  have j1 := p.ke 1 rfl i1
  have j5 : IsE0 (b.get 5) q := p.ou 0 5 rfl
  have y5 : Lo k0 (obF (b.get 5)) := j5.lo
  replace j5 : IsOwn 0 3 ([] : List Int) (b.get 5) q := j5.own0
  exact tail_done (k := q) (hp290 _ _ ⟨⟨hgq, hsb, hdb⟩, j0, j1, j5, y5, trivial⟩)
 rintro a k ⟨⟨hg, hs, hd⟩, i0, i1, i5, n5, _⟩
 refine cutS (fun a' k' => Bs noF k0 140 a' k' ∧ (IsV l_) (a'.get 0) k' ∧ (IsV x_) (a'.get 1) k' ∧ IsOwn 0 3 ([] : List Int) (a'.get 5) k' ∧ Lo k0 (obF (a'.get 5)) ∧ IsOwn 0 3 ([] : List Int) (a'.get 6) k' ∧ Lo k0 (obF (a'.get 6)) ∧ Apart (obF (a'.get 5)) (obF (a'.get 6)) ∧ True) ?_ ?_
 ·intro Q287 hQQ287 hp288
  refine gS 1 (⟨some IsE0, []⟩ :: []) hs (by kernel_rfl) ⟨ob1 rfl fun b q h n => ok_assign rfl isE0_nil, trivial⟩ hQQ287 fun b q p => ?_
  have hgq := hg.then p.grow
  have hsb := p.size.trans hs
  have hdb := p.defers.trans hd
  have j0 := p.ke 0 rfl i0
  have j1 := p.ke 1 rfl i1
  have j5 := p.ke 5 rfl i5
  have y5 : Lo k0 (obF (b.get 5)) := by rw [p.old 5 rfl]; exact n5
  have j6 : IsE0 (b.get 6) q := p.ou 0 6 rfl
  have y6 : Lo k0 (obF (b.get 6)) := j6.lo
  have w5_6 : Apart (obF (b.get 5)) (obF (b.get 6)) := j6.apart.symm
  replace j6 : IsOwn 0 3 ([] : List Int) (b.get 6) q := j6.own0
  exact tail_done (k := q) (hp288 _ _ ⟨⟨hgq, hsb, hdb⟩, j0, j1, j5, y5, j6, y6, w5_6, trivial⟩)
 rintro a k ⟨⟨hg, hs, hd⟩, i0, i1, i5, n5, i6, n6, d5_6, _⟩
 refine wp_seq ?_
 refine cutS (fun a' k' => Bs noF k0 140 a' k' ∧ (IsV l_) (a'.get 0) k' ∧ (IsV x_) (a'.get 1) k' ∧ IsOwn 0 3 ([] : List Int) (a'.get 5) k' ∧ Lo k0 (obF (a'.get 5)) ∧ IsOwn 0 3 ([] : List Int) (a'.get 6) k' ∧ Lo k0 (obF (a'.get 6)) ∧ (IsI 0) (a'.get 7) k' ∧ Apart (obF (a'.get 5)) (obF (a'.get 6)) ∧ True) ?_ ?_
 ·intro Q285 hQQ285 hp286
  refine gS 1 (⟨some (IsI 0), []⟩ :: []) hs (by kernel_rfl) ⟨aI rfl rfl, trivial⟩ hQQ285 fun b q p => ?_
  exact tail_done (k := q) (hp286 _ _ ⟨Bs.post ⟨hg, hs, hd⟩ p, p.ke 0 rfl i0, p.ke 1 rfl i1, p.ke 5 rfl i5, (by rw [p.old 5 rfl]; exact n5), p.ke 6 rfl i6, (by rw [p.old 6 rfl]; exact n6), p.ou 0 7 rfl, (by rw [p.old 5 rfl, p.old 6 rfl]; exact d5_6), trivial⟩)
 rintro a k ⟨⟨hg, hs, hd⟩, i0, i1, i5, n5, i6, n6, i7, d5_6, _⟩
 refine wp_block ?_
 obtain ⟨f243, hf243, hr⟩ := bind_some hr
 refine cutFe f243 (fun s' a' k' => Bs noF k0 140 a' k' ∧ (IsV l_) (a'.get 0) k' ∧ (IsV x_) (a'.get 1) k' ∧ IsOwn 0 3 s'.1 (a'.get 5) k' ∧ Lo k0 (obF (a'.get 5)) ∧ IsOwn 0 3 s'.2.1 (a'.get 6) k' ∧ Lo k0 (obF (a'.get 6)) ∧ (IsV s'.2.2) (a'.get 7) k' ∧ Apart (obF (a'.get 5)) (obF (a'.get 6)) ∧ True) (fun i' s' a' k' => (i' = 0 ∧ Bs noF k0 140 a' k' ∧ (IsV s'.1) (a'.get 5) k' ∧ (IsV s'.2.1) (a'.get 6) k' ∧ True)) (fun r' a' k' => bodyPost Try.prog Try.f69 (RetC noF k0 (IsV r')) .ret a' k'.w) ?_ hQ ?_ ?_ ?_
 ·intro Q284 hQQ284 hgo hex hret
  refine sim_loop ?_ _ _ _ _ _ hf243 ⟨⟨hg, hs, hd⟩, i0, i1, i5, n5, i6, n6, i7, d5_6, trivial⟩ Q284 hQQ284 hgo hex hret
  clear hr hf243 hgo hex hret hQQ284 hQ hg hs hd d5_6 i0 i1 i5 i6 i7 n5 n6
  intro s187 fl_ a k hr hS Q hQ hgo188 hex189 hret190
  obtain ⟨⟨hg, hs, hd⟩, i0, i1, i5, n5, i6, n6, i7, d5_6, _⟩ := hS
  unfold ref06_column_L0 at hr
  refine wp_seq ?_
  refine cutS (fun a' k' => Bs noF k0 140 a' k' ∧ (IsV l_) (a'.get 0) k' ∧ (IsV x_) (a'.get 1) k' ∧ IsOwn 0 3 s187.1 (a'.get 5) k' ∧ Lo k0 (obF (a'.get 5)) ∧ IsOwn 0 3 s187.2.1 (a'.get 6) k' ∧ Lo k0 (obF (a'.get 6)) ∧ (IsV s187.2.2) (a'.get 7) k' ∧ (IsV (decide (s187.2.2 < (l_.length : Int)))) (a'.get 14) k' ∧ Apart (obF (a'.get 5)) (obF (a'.get 6)) ∧ True) ?_ ?_
  ·intro Q241 hQQ241 hp242
   refine gS 4 (_ :: _ :: _ :: _ :: []) hs (by kernel_rfl) ⟨mu rfl i7, mu rfl i0, o1 [(12, some 1)] rfl fun _ _ h n => ok_len rfl rfl Try.underlying49 (IsV.rd n.1), o1 [(11, some 0), (13, some 2)] rfl fun _ _ h n => ok_lss rfl n.1 n.2.1, trivial⟩ hQQ241 fun b q p => ?_
   exact tail_done (k := q) (hp242 _ _ ⟨Bs.post ⟨hg, hs, hd⟩ p, p.ke 0 rfl i0, p.ke 1 rfl i1, p.ke 5 rfl i5, (by rw [p.old 5 rfl]; exact n5), p.ke 6 rfl i6, (by rw [p.old 6 rfl]; exact n6), p.ke 7 rfl i7, p.ou 3 14 rfl, (by rw [p.old 5 rfl, p.old 6 rfl]; exact d5_6), trivial⟩)
  rintro a k ⟨⟨hg, hs, hd⟩, i0, i1, i5, n5, i6, n6, i7, i14, d5_6, _⟩
  refine wp_cond_split (isBool i14) (fun hc240 => ?_) (fun hc240 => ?_)
  ·rw [if_pos hc240] at hr
   refine wp_skip ?_
   refine wp_seq ?_
   obtain ⟨s192, hs192, hr⟩ := bind_some hr
   refine cut (fun a' k' => Bs noF k0 140 a' k' ∧ (IsV l_) (a'.get 0) k' ∧ (IsV x_) (a'.get 1) k' ∧ IsOwn 0 3 s192.1 (a'.get 5) k' ∧ Lo k0 (obF (a'.get 5)) ∧ IsOwn 0 3 s192.2 (a'.get 6) k' ∧ Lo k0 (obF (a'.get 6)) ∧ (IsV s187.2.2) (a'.get 7) k' ∧ Apart (obF (a'.get 5)) (obF (a'.get 6)) ∧ True) ?_ hQ ?_
   ·intro Q237 hQQ237 hp193
    replace hr := hs192
    clear hQ
    have hQ := hQQ237
    refine wp_block ?_
    refine wp_seq ?_
    refine wp_seq ?_
    obtain ⟨x194_2, hx194_2, hr⟩ := bind_some hr
    obtain ⟨x194_15, hx194_15, hr⟩ := bind_some hr
    obtain ⟨x194_10, hx194_10, hx194_15⟩ := ite_bindF hx194_15
    refine cut (fun a' k' => Bs noF k0 140 a' k' ∧ (IsV l_) (a'.get 0) k' ∧ (IsV x_) (a'.get 1) k' ∧ IsOwn 0 3 s187.1 (a'.get 5) k' ∧ Lo k0 (obF (a'.get 5)) ∧ IsOwn 0 3 s187.2.1 (a'.get 6) k' ∧ Lo k0 (obF (a'.get 6)) ∧ (IsV s187.2.2) (a'.get 7) k' ∧ (IsV x194_15) (a'.get 32) k' ∧ Apart (obF (a'.get 5)) (obF (a'.get 6)) ∧ True) ?_ hQ ?_
    ·intro Q232 hQQ232 hp233
     refine gS 16 (_ :: _ :: _ :: _ :: _ :: _ :: _ :: _ :: _ :: _ :: _ :: _ :: _ :: _ :: _ :: _ :: []) hs (by kernel_rfl) ⟨mu rfl i0, mu rfl i7, o1 [(17, some 0), (18, some 1)] rfl fun _ _ h n => ok_indexAddr rfl Try.underlying49 ty35 (IsV.rd n.1) n.2.1 hx194_2, o1 [(19, some 2)] rfl fun _ _ h n => ok_fieldAddr rfl fo35_0 (at_Rect_0 _) n.1, o1 [(20, some 3)] rfl fun _ _ h n => ok_load rfl ty3 n.1, mu rfl i1, o1 [(21, some 4), (22, some 5)] rfl fun _ _ h n => ok_gtr rfl n.1 n.2.1, cm 6 rfl rfl, mF rfl rfl i0, mF rfl rfl i7, gF [(25, some 8), (26, some 9)] rfl rfl fun hp _ _ h n => ok_indexAddr rfl Try.underlying49 ty35 (IsV.rd (Gd.get n.1 hp)) (Gd.get n.2.1 hp) (hx194_10 hp), gF [(27, some 10)] rfl rfl fun hp _ _ h n => ok_fieldAddr rfl fo35_2 (at_Rect_2 _) (Gd.get n.1 hp), gF [(28, some 11)] rfl rfl fun hp _ _ h n => ok_load rfl ty3 (Gd.get n.1 hp), mF rfl rfl i1, gF [(29, some 12), (30, some 13)] rfl rfl fun hp _ _ h n => ok_leq rfl (Gd.get n.1 hp) (Gd.get n.2.1 hp), o1 [(24, some 7), (31, some 14)] rfl fun _ _ h n => ok_pickM rfl n.1 hx194_15 (cB rfl) (Gd.get n.2.1), trivial⟩ hQQ232 fun b q p => ?_
     exact tail_done (k := q) (hp233 _ _ ⟨Bs.post ⟨hg, hs, hd⟩ p, p.ke 0 rfl i0, p.ke 1 rfl i1, p.ke 5 rfl i5, (by rw [p.old 5 rfl]; exact n5), p.ke 6 rfl i6, (by rw [p.old 6 rfl]; exact n6), p.ke 7 rfl i7, p.ou 15 32 rfl, (by rw [p.old 5 rfl, p.old 6 rfl]; exact d5_6), trivial⟩)
    rintro a k ⟨⟨hg, hs, hd⟩, i0, i1, i5, n5, i6, n6, i7, i32, d5_6, _⟩
    refine wp_cond_split (isBool i32) (fun hc231 => ?_) (fun hc231 => ?_)
    ·rw [if_pos hc231] at hr
     refine wp_exit ?_
     obtain rfl := Option.some.inj hr
     exact hp193 _ _ ⟨⟨hg, hs, hd⟩, i0, i1, i5, n5, i6, n6, i7, d5_6, trivial⟩
    rw [if_neg (by rw [hc231]; decide)] at hr
    refine wp_skip ?_
    refine cutS (fun a' k' => Bs noF k0 140 a' k' ∧ (IsV l_) (a'.get 0) k' ∧ (IsV x_) (a'.get 1) k' ∧ IsOwn 0 3 s187.1 (a'.get 5) k' ∧ Lo k0 (obF (a'.get 5)) ∧ IsOwn 0 3 s187.2.1 (a'.get 6) k' ∧ Lo k0 (obF (a'.get 6)) ∧ (IsV s187.2.2) (a'.get 7) k' ∧ (IsI (s187.1.length : Int)) (a'.get 8) k' ∧ Apart (obF (a'.get 5)) (obF (a'.get 6)) ∧ True) ?_ ?_
    ·intro Q229 hQQ229 hp230
     refine gS 3 (⟨some (OwnAt (a.get 5) 0 3 s187.1), [(5, none)]⟩ :: _ :: _ :: []) hs (by kernel_rfl) ⟨ob1 rfl fun _ _ h n => ok_moveOA (.inl rfl) (ownAt n.1 (up i5 h n.1)), o1 [(33, some 0)] rfl fun _ _ h n => ok_len rfl rfl Try.underlying63 (IsOwn.rd (n.1).2), cp 1 rfl rfl, trivial⟩ hQQ229 fun b q p => ?_
     exact tail_done (k := q) (hp230 _ _ ⟨Bs.post ⟨hg, hs, hd⟩ p, p.ke 0 rfl i0, p.ke 1 rfl i1, p.ke 5 rfl i5, (by rw [p.old 5 rfl]; exact n5), p.ke 6 rfl i6, (by rw [p.old 6 rfl]; exact n6), p.ke 7 rfl i7, p.ou 2 8 rfl, (by rw [p.old 5 rfl, p.old 6 rfl]; exact d5_6), trivial⟩)
    rintro a k ⟨⟨hg, hs, hd⟩, i0, i1, i5, n5, i6, n6, i7, i8, d5_6, _⟩
    refine wp_seq ?_
    obtain ⟨x196_2, hx196_2, hr⟩ := bind_some hr
    refine cut (fun a' k' => Bs noF k0 140 a' k' ∧ (IsV l_) (a'.get 0) k' ∧ (IsV x_) (a'.get 1) k' ∧ IsOwn 0 3 x196_2 (a'.get 5) k' ∧ Lo k0 (obF (a'.get 5)) ∧ IsOwn 0 3 s187.2.1 (a'.get 6) k' ∧ Lo k0 (obF (a'.get 6)) ∧ (IsV s187.2.2) (a'.get 7) k' ∧ (IsI (s187.1.length : Int)) (a'.get 8) k' ∧ Apart (obF (a'.get 5)) (obF (a'.get 6)) ∧ True) ?_ hQ ?_
    ·intro Q227 hQQ227 hp228
     refine gS 2 (⟨some (OwnAt (a.get 5) 0 3 s187.1), [(5, none)]⟩ :: ⟨some (IsV (α := (List Int)) ([0])), []⟩ :: []) hs (by kernel_rfl) ⟨ob1 rfl fun _ _ h n => ok_moveOA (.inl rfl) (ownAt n.1 (up i5 h n.1)), ob1 rfl fun _ _ h n => ok_buildSlice rfl Try.underlying63 eo3 rfl (by decide) (by decide) ⟨rfl, (cI rfl), trivial⟩, trivial⟩ hQQ227 fun b q p => ?_
     have hgq := hg.then p.grow
     have hsb := p.size.trans hs
     have hdb := p.defers.trans hd
     have j0 := p.ke 0 rfl i0
     have j1 := p.ke 1 rfl i1
     have j6 := p.ke 6 rfl i6
     have y6 : Lo k0 (obF (b.get 6)) := by rw [p.old 6 rfl]; exact n6
     have j7 := p.ke 7 rfl i7
     have j8 := p.ke 8 rfl i8
     have e35 : b.get 35 = a.get 5 := (p.ou 0 35 rfl).1
     have j35 : IsOwn 0 3 s187.1 (b.get 35) q := (p.ou 0 35 rfl).2
     have y35 : Lo k0 (obF (b.get 35)) := by rw [e35]; exact n5
     have j36 : (IsV (α := (List Int)) ([0])) (b.get 36) q := p.ou 1 36 rfl
     have w6_35 : Apart (obF (b.get 6)) (obF (b.get 35)) := by rw [p.old 6 rfl, e35]; exact (d5_6.symm)
     have hns := j35.nshF
     refine tail_appendS (i := 2) (d := 37) rfl rfl rfl rfl (by rw [hsb]; decide) (e := 3) Try.underlying63 eo3 j35 (IsV.rd j36) hx196_2 fun b2 q2 hsz hdf hoth hch hown hob => ?_
     have hle := hch.le hns
     have yn : Lo k0 (obF (b2.get 37)) := y35.app hgq hob
     have v6 : Apart (obF (b.get 6)) (obF (b2.get 37)) := Apart.app w6_35 j6.ltF hob
     replace j0 := Pers.pers hle j0
     replace j1 := Pers.pers hle j1
     replace j6 := j6.keep hch w6_35 hns
     replace j7 := Pers.pers hle j7
     replace j8 := Pers.pers hle j8
     replace j36 := Pers.pers hle j36
     replace hgq := hgq.step hch y35.wr
     rw [← hoth 0 (by decide)] at j0
     rw [← hoth 1 (by decide)] at j1
     rw [← hoth 6 (by decide)] at j6
     rw [← hoth 6 (by decide)] at y6
     rw [← hoth 7 (by decide)] at j7
     rw [← hoth 8 (by decide)] at j8
     rw [← hoth 36 (by decide)] at j36
     rw [← hoth 6 (by decide)] at v6
     have w6_37 := v6
     have j37 := hown
     have y37 := yn
     replace hsb := hsz.trans hsb
     replace hdb := hdf.trans hdb
     clear hle hch hown hob hns yn hsz hdf hoth
     obtain ⟨b, hbb⟩ : ∃ b, b = b2 := ⟨b2, rfl⟩
     subst hbb
     obtain ⟨q, hqq⟩ : ∃ q, q = q2 := ⟨q2, rfl⟩
     subst hqq
     refine tail_assign (i := 3) (d := 5) rfl rfl (.inl rfl) rfl (by rw [hsb]; decide) fun b2 hsz hdf hnew hoth => ?_
     have jn : (IsOwn 0 3 x196_2) (b2.get 5) q := by rw [hnew]; exact j37
     have yn : Lo k0 (obF (b2.get 5)) := by rw [hnew]; exact y37
     have v6 : Apart (obF (b.get 6)) (obF (b2.get 5)) := by rw [hnew]; exact w6_37
     rw [← hoth 0 (by decide)] at j0
     rw [← hoth 1 (by decide)] at j1
     rw [← hoth 6 (by decide)] at j6
     rw [← hoth 6 (by decide)] at y6
     rw [← hoth 7 (by decide)] at j7
     rw [← hoth 8 (by decide)] at j8
     rw [← hoth 36 (by decide)] at j36
     rw [← hoth 6 (by decide)] at v6
     have w5_6 := v6.symm
     have j5 := jn
     have y5 := yn
     replace hsb := hsz.trans hsb
     replace hdb := hdf.trans hdb
     clear hsz hdf hoth
     obtain ⟨b, hbb⟩ : ∃ b, b = b2 := ⟨b2, rfl⟩
     subst hbb
     exact tail_done (k := q) (hp228 _ _ ⟨⟨hgq, hsb, hdb⟩, j0, j1, j5, y5, j6, y6, j7, j8, w5_6, trivial⟩)
    rintro a k ⟨⟨hg, hs, hd⟩, i0, i1, i5, n5, i6, n6, i7, i8, d5_6, _⟩
    refine wp_seq ?_
    obtain ⟨x197_2, hx197_2, hr⟩ := bind_some hr
    refine cut (fun a' k' => Bs noF k0 140 a' k' ∧ (IsV l_) (a'.get 0) k' ∧ (IsV x_) (a'.get 1) k' ∧ IsOwn 0 3 x196_2 (a'.get 5) k' ∧ Lo k0 (obF (a'.get 5)) ∧ IsOwn 0 3 x197_2 (a'.get 6) k' ∧ Lo k0 (obF (a'.get 6)) ∧ (IsV s187.2.2) (a'.get 7) k' ∧ (IsI (s187.1.length : Int)) (a'.get 8) k' ∧ Apart (obF (a'.get 5)) (obF (a'.get 6)) ∧ True) ?_ hQ ?_
    ·intro Q225 hQQ225 hp226
     refine gS 2 (⟨some (OwnAt (a.get 6) 0 3 s187.2.1), [(6, none)]⟩ :: ⟨some (IsV (α := (List Int)) ([0])), []⟩ :: []) hs (by kernel_rfl) ⟨ob1 rfl fun _ _ h n => ok_moveOA (.inl rfl) (ownAt n.1 (up i6 h n.1)), ob1 rfl fun _ _ h n => ok_buildSlice rfl Try.underlying63 eo3 rfl (by decide) (by decide) ⟨rfl, (cI rfl), trivial⟩, trivial⟩ hQQ225 fun b q p => ?_
     have hgq := hg.then p.grow
     have hsb := p.size.trans hs
     have hdb := p.defers.trans hd
     have j0 := p.ke 0 rfl i0
     have j1 := p.ke 1 rfl i1
     have j5 := p.ke 5 rfl i5
     have y5 : Lo k0 (obF (b.get 5)) := by rw [p.old 5 rfl]; exact n5
     have j7 := p.ke 7 rfl i7
     have j8 := p.ke 8 rfl i8
     have e38 : b.get 38 = a.get 6 := (p.ou 0 38 rfl).1
     have j38 : IsOwn 0 3 s187.2.1 (b.get 38) q := (p.ou 0 38 rfl).2
     have y38 : Lo k0 (obF (b.get 38)) := by rw [e38]; exact n6
     have j39 : (IsV (α := (List Int)) ([0])) (b.get 39) q := p.ou 1 39 rfl
     have w5_38 : Apart (obF (b.get 5)) (obF (b.get 38)) := by rw [p.old 5 rfl, e38]; exact d5_6
     have hns := j38.nshF
     refine tail_appendS (i := 2) (d := 40) rfl rfl rfl rfl (by rw [hsb]; decide) (e := 3) Try.underlying63 eo3 j38 (IsV.rd j39) hx197_2 fun b2 q2 hsz hdf hoth hch hown hob => ?_
     have hle := hch.le hns
     have yn : Lo k0 (obF (b2.get 40)) := y38.app hgq hob
     have v5 : Apart (obF (b.get 5)) (obF (b2.get 40)) := Apart.app w5_38 j5.ltF hob
     replace j0 := Pers.pers hle j0
     replace j1 := Pers.pers hle j1
     replace j5 := j5.keep hch w5_38 hns
     replace j7 := Pers.pers hle j7
     replace j8 := Pers.pers hle j8
     replace j39 := Pers.pers hle j39
     replace hgq := hgq.step hch y38.wr
     rw [← hoth 0 (by decide)] at j0
     rw [← hoth 1 (by decide)] at j1
     rw [← hoth 5 (by decide)] at j5
     rw [← hoth 5 (by decide)] at y5
     rw [← hoth 7 (by decide)] at j7
     rw [← hoth 8 (by decide)] at j8
     rw [← hoth 39 (by decide)] at j39
     rw [← hoth 5 (by decide)] at v5
     have w5_40 := v5
     have j40 := hown
     have y40 := yn
     replace hsb := hsz.trans hsb
     replace hdb := hdf.trans hdb
     clear hle hch hown hob hns yn hsz hdf hoth
     obtain ⟨b, hbb⟩ : ∃ b, b = b2 := ⟨b2, rfl⟩
     subst hbb
     obtain ⟨q, hqq⟩ : ∃ q, q = q2 := ⟨q2, rfl⟩
     subst hqq
     refine tail_assign (i := 3) (d := 6) rfl rfl (.inl rfl) rfl (by rw [hsb]; decide) fun b2 hsz hdf hnew hoth => ?_
     have jn : (IsOwn 0 3 x197_2) (b2.get 6) q := by rw [hnew]; exact j40
     have yn : Lo k0 (obF (b2.get 6)) := by rw [hnew]; exact y40
     have v5 : Apart (obF (b.get 5)) (obF (b2.get 6)) := by rw [hnew]; exact w5_40
     rw [← hoth 0 (by decide)] at j0
     rw [← hoth 1 (by decide)] at j1
     rw [← hoth 5 (by decide)] at j5
     rw [← hoth 5 (by decide)] at y5
     rw [← hoth 7 (by decide)] at j7
     rw [← hoth 8 (by decide)] at j8
     rw [← hoth 39 (by decide)] at j39
     rw [← hoth 5 (by decide)] at v5
     have w5_6 := v5
     have j6 := jn
     have y6 := yn
     replace hsb := hsz.trans hsb
     replace hdb := hdf.trans hdb
     clear hsz hdf hoth
     obtain ⟨b, hbb⟩ : ∃ b, b = b2 := ⟨b2, rfl⟩
     subst hbb
     exact tail_done (k := q) (hp226 _ _ ⟨⟨hgq, hsb, hdb⟩, j0, j1, j5, y5, j6, y6, j7, j8, w5_6, trivial⟩)
    rintro a k ⟨⟨hg, hs, hd⟩, i0, i1, i5, n5, i6, n6, i7, i8, d5_6, _⟩
    refine wp_seq ?_
    refine wp_block ?_
    obtain ⟨f215, hf215, hr⟩ := bind_some hr
    refine cutFe f215 (fun s' a' k' => Bs noF k0 140 a' k' ∧ (IsV l_) (a'.get 0) k' ∧ (IsV x_) (a'.get 1) k' ∧ IsOwn 0 3 s'.1 (a'.get 5) k' ∧ Lo k0 (obF (a'.get 5)) ∧ IsOwn 0 3 s'.2.1 (a'.get 6) k' ∧ Lo k0 (obF (a'.get 6)) ∧ (IsV s187.2.2) (a'.get 7) k' ∧ (IsV s'.2.2) (a'.get 8) k' ∧ Apart (obF (a'.get 5)) (obF (a'.get 6)) ∧ True) (fun i' s' a' k' => (i' = 2 ∧ Bs noF k0 140 a' k' ∧ (IsV l_) (a'.get 0) k' ∧ (IsV x_) (a'.get 1) k' ∧ IsOwn 0 3 s'.1 (a'.get 5) k' ∧ Lo k0 (obF (a'.get 5)) ∧ IsOwn 0 3 s'.2.1 (a'.get 6) k' ∧ Lo k0 (obF (a'.get 6)) ∧ (IsV s187.2.2) (a'.get 7) k' ∧ (IsV s'.2.2) (a'.get 8) k' ∧ Apart (obF (a'.get 5)) (obF (a'.get 6)) ∧ True)) (fun r' a' k' => bodyPost Try.prog Try.f69 (RetC noF k0 (IsV r')) .ret a' k'.w) ?_ hQ ?_ ?_ ?_
    ·intro Q224 hQQ224 hgo hex hret
     refine sim_loop ?_ _ _ _ _ _ hf215 ⟨⟨hg, hs, hd⟩, i0, i1, i5, n5, i6, n6, i7, i8, d5_6, trivial⟩ Q224 hQQ224 hgo hex hret
     clear hr hf215 hgo hex hret hQQ224 hQ hg hs hd d5_6 i0 i1 i5 i6 i7 i8 n5 n6
     intro s198 fl_ a k hr hS Q hQ hgo199 hex200 hret201
     obtain ⟨⟨hg, hs, hd⟩, i0, i1, i5, n5, i6, n6, i7, i8, d5_6, _⟩ := hS
     unfold ref06_column_L1 at hr
     refine wp_seq ?_
     refine wp_seq ?_
     obtain ⟨x202_14, hx202_14, hr⟩ := bind_some hr
     obtain ⟨x202_5, hx202_5, hx202_14⟩ := ite_bind hx202_14
     obtain ⟨x202_6, hx202_6, hx202_14⟩ := ite_bind hx202_14
     obtain ⟨x202_10, hx202_10, hx202_14⟩ := ite_bind hx202_14
     refine cut (fun a' k' => Bs noF k0 140 a' k' ∧ (IsV l_) (a'.get 0) k' ∧ (IsV x_) (a'.get 1) k' ∧ IsOwn 0 3 s198.1 (a'.get 5) k' ∧ Lo k0 (obF (a'.get 5)) ∧ IsOwn 0 3 s198.2.1 (a'.get 6) k' ∧ Lo k0 (obF (a'.get 6)) ∧ (IsV s187.2.2) (a'.get 7) k' ∧ (IsV s198.2.2) (a'.get 8) k' ∧ (IsV x202_14) (a'.get 55) k' ∧ Apart (obF (a'.get 5)) (obF (a'.get 6)) ∧ True) ?_ hQ ?_
     ·intro Q213 hQQ213 hp214
      refine region (a0 := a) (k0 := k) (n := 140) (m := 15) (⟨some (IsV s198.2.2), [(8, none)]⟩ :: ⟨some (IsV (decide (0 < s198.2.2))), [(41, some 0)]⟩ :: ⟨some (IsV (decide (0 < s198.2.2))), [(42, some 1)]⟩ :: ⟨some (Gd ((decide (0 < s198.2.2)) = true) (OwnAt (a.get 5) 0 3 s198.1)), [(5, none)]⟩ :: ⟨some (Gd ((decide (0 < s198.2.2)) = true) (IsV s198.2.2)), [(8, none)]⟩ :: ⟨some (Gd ((decide (0 < s198.2.2)) = true) (IsV x202_5)), [(45, some 4)]⟩ :: ⟨some (Gd ((decide (0 < s198.2.2)) = true) (IsPtr x202_6)), [(44, some 3), (46, some 5)]⟩ :: ⟨some (Gd ((decide (0 < s198.2.2)) = true) (IsV x202_6)), [(47, some 6)]⟩ :: ⟨some (Gd ((decide (0 < s198.2.2)) = true) (IsV l_)), [(0, none)]⟩ :: ⟨some (Gd ((decide (0 < s198.2.2)) = true) (IsV s187.2.2)), [(7, none)]⟩ :: ⟨some (Gd ((decide (0 < s198.2.2)) = true) (IsPtr x202_10)), [(49, some 8), (50, some 9)]⟩ :: ⟨some (Gd ((decide (0 < s198.2.2)) = true) (IsPtr x202_10.Y0)), [(51, some 10)]⟩ :: ⟨some (Gd ((decide (0 < s198.2.2)) = true) (IsV x202_10.Y0)), [(52, some 11)]⟩ :: ⟨some (Gd ((decide (0 < s198.2.2)) = true) (IsV (decide (x202_10.Y0 < x202_6)))), [(48, some 7), (53, some 12)]⟩ :: ⟨some (IsV x202_14), [(43, some 2), (54, some 13)]⟩ :: []) hmix hs (by kernel_rfl) ⟨ob1 rfl fun b q hk hn => ok_move rfl (up i8 hk hn.1), ob1 rfl fun b q hk hn => ok_gtr rfl hn.1 (isV_int.2 rfl), ob1 rfl fun b q hk hn => ok_move rfl hn.1, gdT rfl rfl fun hp b q hk hn => ok_moveOA (.inl rfl) (ownAt hn.1 (up i5 hk hn.1)), gdT rfl rfl fun hp b q hk hn => ok_move rfl (up i8 hk hn.1), gdT rfl rfl fun hp b q hk hn => ok_sub rfl (Gd.get hn.1 hp) (isV_int.2 rfl) (hx202_5 hp), gdT rfl rfl fun hp b q hk hn => ok_indexAddr rfl Try.underlying63 ty3 (IsOwn.rd ((Gd.get hn.1 hp)).2) (Gd.get hn.2.1 hp) (hx202_6 hp), gdT rfl rfl fun hp b q hk hn => ok_load rfl ty3 (Gd.get hn.1 hp), gdT rfl rfl fun hp b q hk hn => ok_move rfl (up i0 hk hn.1), gdT rfl rfl fun hp b q hk hn => ok_move rfl (up i7 hk hn.1), gdT rfl rfl fun hp b q hk hn => ok_indexAddr rfl Try.underlying49 ty35 (IsV.rd (Gd.get hn.1 hp)) (Gd.get hn.2.1 hp) (hx202_10 hp), gdT rfl rfl fun hp b q hk hn => ok_fieldAddr rfl fo35_1 (at_Rect_1 _) (Gd.get hn.1 hp), gdT rfl rfl fun hp b q hk hn => ok_load rfl ty3 (Gd.get hn.1 hp), gdT rfl rfl fun hp b q hk hn => ok_gtr rfl (Gd.get hn.1 hp) (Gd.get hn.2.1 hp), ob1 rfl fun b q hk hn => ok_pickM rfl hn.1 hx202_14 (fun hm => (Gd.get hn.2.1 hm)) (fun _ => (isV_bool.2 rfl)), trivial⟩ hQQ213 fun b q p => ?_
      exact tail_done (k := q) (hp214 _ _ ⟨Bs.post ⟨hg, hs, hd⟩ p, p.ke 0 rfl i0, p.ke 1 rfl i1, p.ke 5 rfl i5, (by rw [p.old 5 rfl]; exact n5), p.ke 6 rfl i6, (by rw [p.old 6 rfl]; exact n6), p.ke 7 rfl i7, p.ke 8 rfl i8, p.ou 14 55 rfl, (by rw [p.old 5 rfl, p.old 6 rfl]; exact d5_6), trivial⟩)
     rintro a k ⟨⟨hg, hs, hd⟩, i0, i1, i5, n5, i6, n6, i7, i8, i55, d5_6, _⟩
     refine wp_cond_split (isBool i55) (fun hc212 => ?_) (fun hc212 => ?_)
     ·rw [if_pos hc212] at hr
      refine wp_skip ?_
      refine wp_block ?_
      refine wp_seq ?_
      obtain ⟨x203_4, hx203_4, hr⟩ := bind_some hr
      obtain ⟨x203_5, hx203_5, hr⟩ := bind_some hr
      obtain ⟨x203_7, hx203_7, hr⟩ := bind_some hr
      obtain ⟨x203_8, hx203_8, hr⟩ := bind_some hr
      refine cut (fun a' k' => Bs noF k0 140 a' k' ∧ (IsV l_) (a'.get 0) k' ∧ (IsV x_) (a'.get 1) k' ∧ IsOwn 0 3 x203_8 (a'.get 5) k' ∧ Lo k0 (obF (a'.get 5)) ∧ IsOwn 0 3 s198.2.1 (a'.get 6) k' ∧ Lo k0 (obF (a'.get 6)) ∧ (IsV s187.2.2) (a'.get 7) k' ∧ (IsV s198.2.2) (a'.get 8) k' ∧ Apart (obF (a'.get 5)) (obF (a'.get 6)) ∧ True) ?_ hQ ?_
      ·intro Q210 hQQ210 hp211
       refine gS 8 (⟨some (OwnAt (a.get 5) 0 3 s198.1), [(5, none)]⟩ :: _ :: ⟨some (OwnAt (a.get 5) 0 3 s198.1), [(5, none)]⟩ :: _ :: _ :: _ :: _ :: ⟨some (IsAdrO (a.get 5) ((s198.2.2).toNat * Enc.sz Int)), [(56, some 0), (57, some 1)]⟩ :: []) hs (by kernel_rfl) ⟨ob1 rfl fun _ _ h n => ok_moveOA (.inl rfl) (ownAt n.1 (up i5 h n.1)), mu rfl i8, ob1 rfl fun _ _ h n => ok_moveOA (.inl rfl) (ownAt n.1 (up i5 h n.1)), mu rfl i8, o1 [(59, some 3)] rfl fun _ _ h n => ok_sub rfl n.1 (cI rfl) hx203_4, o1 [(58, some 2), (60, some 4)] rfl fun _ _ h n => ok_indexAddr rfl Try.underlying63 ty3 (IsOwn.rd (n.1).2) n.2.1 hx203_5, o1 [(61, some 5)] rfl fun _ _ h n => ok_load rfl ty3 n.1, ob1 rfl fun _ _ h n => ok_indexO rfl Try.underlying63 ty3 n.1 n.2.1 hx203_7, trivial⟩ hQQ210 fun b q p => ?_
       have hgq := hg.then p.grow
       have hsb := p.size.trans hs
       have hdb := p.defers.trans hd
       have j0 := p.ke 0 rfl i0
       have j1 := p.ke 1 rfl i1
       have j5 := p.ke 5 rfl i5
       have y5 : Lo k0 (obF (b.get 5)) := by rw [p.old 5 rfl]; exact n5
       have j6 := p.ke 6 rfl i6
       have y6 : Lo k0 (obF (b.get 6)) := by rw [p.old 6 rfl]; exact n6
       have j7 := p.ke 7 rfl i7
       have j8 := p.ke 8 rfl i8
       have j62 : (IsV x203_5) (b.get 62) q := p.ou 6 62 rfl
       have j63 : IsAdrO (a.get 5) ((s198.2.2).toNat * Enc.sz Int) (b.get 63) q := p.ou 7 63 rfl
       have w5_6 : Apart (obF (b.get 5)) (obF (b.get 6)) := by rw [p.old 5 rfl, p.old 6 rfl]; exact d5_6
       have eo : b.get 5 = a.get 5 := p.old 5 rfl
       have hns := j5.nshF
       refine tail_storeS (i := 8) (u := b.get 5) (m := (s198.2.2).toNat) (off := 0) rfl rfl rfl rfl szf3 (Upd.self (α := Int)) (by rw [eo]; exact j63) j5 (getI_spec hx203_7).2.1 j62 fun q2 hch hz => ?_
       replace hgq := hgq.step hch y5.wr
       have hle := hch.le hns
       replace j0 := Pers.pers hle j0
       replace j1 := Pers.pers hle j1
       replace j6 := j6.keep hch (w5_6.symm) hns
       replace j7 := Pers.pers hle j7
       replace j8 := Pers.pers hle j8
       replace j62 := Pers.pers hle j62
       replace j63 := Pers.pers hle j63
       replace j5 := hz
       rw [Option.some.inj hx203_8] at j5
       clear hns hle hch eo hz
       obtain ⟨q, hqq⟩ : ∃ q, q = q2 := ⟨q2, rfl⟩
       subst hqq
       exact tail_done (k := q) (hp211 _ _ ⟨⟨hgq, hsb, hdb⟩, j0, j1, j5, y5, j6, y6, j7, j8, w5_6, trivial⟩)
      rintro a k ⟨⟨hg, hs, hd⟩, i0, i1, i5, n5, i6, n6, i7, i8, d5_6, _⟩
      refine wp_seq ?_
      obtain ⟨x204_4, hx204_4, hr⟩ := bind_some hr
      obtain ⟨x204_5, hx204_5, hr⟩ := bind_some hr
      obtain ⟨x204_7, hx204_7, hr⟩ := bind_some hr
      obtain ⟨x204_8, hx204_8, hr⟩ := bind_some hr
      refine cut (fun a' k' => Bs noF k0 140 a' k' ∧ (IsV l_) (a'.get 0) k' ∧ (IsV x_) (a'.get 1) k' ∧ IsOwn 0 3 x203_8 (a'.get 5) k' ∧ Lo k0 (obF (a'.get 5)) ∧ IsOwn 0 3 x204_8 (a'.get 6) k' ∧ Lo k0 (obF (a'.get 6)) ∧ (IsV s187.2.2) (a'.get 7) k' ∧ (IsV s198.2.2) (a'.get 8) k' ∧ Apart (obF (a'.get 5)) (obF (a'.get 6)) ∧ True) ?_ hQ ?_
      ·intro Q208 hQQ208 hp209
       refine gS 8 (⟨some (OwnAt (a.get 6) 0 3 s198.2.1), [(6, none)]⟩ :: _ :: ⟨some (OwnAt (a.get 6) 0 3 s198.2.1), [(6, none)]⟩ :: _ :: _ :: _ :: _ :: ⟨some (IsAdrO (a.get 6) ((s198.2.2).toNat * Enc.sz Int)), [(64, some 0), (65, some 1)]⟩ :: []) hs (by kernel_rfl) ⟨ob1 rfl fun _ _ h n => ok_moveOA (.inl rfl) (ownAt n.1 (up i6 h n.1)), mu rfl i8, ob1 rfl fun _ _ h n => ok_moveOA (.inl rfl) (ownAt n.1 (up i6 h n.1)), mu rfl i8, o1 [(67, some 3)] rfl fun _ _ h n => ok_sub rfl n.1 (cI rfl) hx204_4, o1 [(66, some 2), (68, some 4)] rfl fun _ _ h n => ok_indexAddr rfl Try.underlying63 ty3 (IsOwn.rd (n.1).2) n.2.1 hx204_5, o1 [(69, some 5)] rfl fun _ _ h n => ok_load rfl ty3 n.1, ob1 rfl fun _ _ h n => ok_indexO rfl Try.underlying63 ty3 n.1 n.2.1 hx204_7, trivial⟩ hQQ208 fun b q p => ?_
       have hgq := hg.then p.grow
       have hsb := p.size.trans hs
       have hdb := p.defers.trans hd
       have j0 := p.ke 0 rfl i0
       have j1 := p.ke 1 rfl i1
       have j5 := p.ke 5 rfl i5
       have y5 : Lo k0 (obF (b.get 5)) := by rw [p.old 5 rfl]; exact n5
       have j6 := p.ke 6 rfl i6
       have y6 : Lo k0 (obF (b.get 6)) := by rw [p.old 6 rfl]; exact n6
       have j7 := p.ke 7 rfl i7
       have j8 := p.ke 8 rfl i8
       have j70 : (IsV x204_5) (b.get 70) q := p.ou 6 70 rfl
       have j71 : IsAdrO (a.get 6) ((s198.2.2).toNat * Enc.sz Int) (b.get 71) q := p.ou 7 71 rfl
       have w5_6 : Apart (obF (b.get 5)) (obF (b.get 6)) := by rw [p.old 5 rfl, p.old 6 rfl]; exact d5_6
       have eo : b.get 6 = a.get 6 := p.old 6 rfl
       have hns := j6.nshF
       refine tail_storeS (i := 8) (u := b.get 6) (m := (s198.2.2).toNat) (off := 0) rfl rfl rfl rfl szf3 (Upd.self (α := Int)) (by rw [eo]; exact j71) j6 (getI_spec hx204_7).2.1 j70 fun q2 hch hz => ?_
       replace hgq := hgq.step hch y6.wr
       have hle := hch.le hns
       replace j0 := Pers.pers hle j0
       replace j1 := Pers.pers hle j1
       replace j5 := j5.keep hch w5_6 hns
       replace j7 := Pers.pers hle j7
       replace j8 := Pers.pers hle j8
       replace j70 := Pers.pers hle j70
       replace j71 := Pers.pers hle j71
       replace j6 := hz
       rw [Option.some.inj hx204_8] at j6
       clear hns hle hch eo hz
       obtain ⟨q, hqq⟩ : ∃ q, q = q2 := ⟨q2, rfl⟩
       subst hqq
       exact tail_done (k := q) (hp209 _ _ ⟨⟨hgq, hsb, hdb⟩, j0, j1, j5, y5, j6, y6, j7, j8, w5_6, trivial⟩)
      rintro a k ⟨⟨hg, hs, hd⟩, i0, i1, i5, n5, i6, n6, i7, i8, d5_6, _⟩
      obtain ⟨x205_1, hx205_1, hr⟩ := bind_some hr
      refine cut (fun a' k' => Bs noF k0 140 a' k' ∧ (IsV l_) (a'.get 0) k' ∧ (IsV x_) (a'.get 1) k' ∧ IsOwn 0 3 x203_8 (a'.get 5) k' ∧ Lo k0 (obF (a'.get 5)) ∧ IsOwn 0 3 x204_8 (a'.get 6) k' ∧ Lo k0 (obF (a'.get 6)) ∧ (IsV s187.2.2) (a'.get 7) k' ∧ (IsV x205_1) (a'.get 8) k' ∧ Apart (obF (a'.get 5)) (obF (a'.get 6)) ∧ True) ?_ hQ ?_
      ·intro Q206 hQQ206 hp207
       refine gS 3 (_ :: _ :: _ :: []) hs (by kernel_rfl) ⟨mu rfl i8, o1 [(72, some 0)] rfl fun _ _ h n => ok_sub rfl n.1 (cI rfl) hx205_1, cp 1 rfl rfl, trivial⟩ hQQ206 fun b q p => ?_
       exact tail_done (k := q) (hp207 _ _ ⟨Bs.post ⟨hg, hs, hd⟩ p, p.ke 0 rfl i0, p.ke 1 rfl i1, p.ke 5 rfl i5, (by rw [p.old 5 rfl]; exact n5), p.ke 6 rfl i6, (by rw [p.old 6 rfl]; exact n6), p.ke 7 rfl i7, p.ou 2 8 rfl, (by rw [p.old 5 rfl, p.old 6 rfl]; exact d5_6), trivial⟩)
      rintro a k ⟨⟨hg, hs, hd⟩, i0, i1, i5, n5, i6, n6, i7, i8, d5_6, _⟩
      exact hgo199 _ _ _ (Option.some.inj hr).symm ⟨⟨hg, hs, hd⟩, i0, i1, i5, n5, i6, n6, i7, i8, d5_6, trivial⟩
     rw [if_neg (by rw [hc212]; decide)] at hr
     refine wp_exit ?_
     exact hex200 _ _ _ _ (Option.some.inj hr).symm ⟨rfl, ⟨hg, hs, hd⟩, i0, i1, i5, n5, i6, n6, i7, i8, d5_6, trivial⟩
    ·rintro r223 a k rfl hR
     dsimp only at hr
     simp at hr
    ·rintro _ _ _ rfl _
     simp at hr
    clear hf215
    rintro _ s216 a k rfl ⟨rfl, ⟨hg, hs, hd⟩, i0, i1, i5, n5, i6, n6, i7, i8, d5_6, _⟩
    dsimp only at hr
    refine wp_seq ?_
    obtain ⟨x217_4, hx217_4, hr⟩ := bind_some hr
    obtain ⟨x217_7, hx217_7, hr⟩ := bind_some hr
    obtain ⟨x217_8, hx217_8, hr⟩ := bind_some hr
    refine cut (fun a' k' => Bs noF k0 140 a' k' ∧ (IsV l_) (a'.get 0) k' ∧ (IsV x_) (a'.get 1) k' ∧ IsOwn 0 3 x217_8 (a'.get 5) k' ∧ Lo k0 (obF (a'.get 5)) ∧ IsOwn 0 3 s216.2.1 (a'.get 6) k' ∧ Lo k0 (obF (a'.get 6)) ∧ (IsV s187.2.2) (a'.get 7) k' ∧ (IsV s216.2.2) (a'.get 8) k' ∧ Apart (obF (a'.get 5)) (obF (a'.get 6)) ∧ True) ?_ hQ ?_
    ·intro Q221 hQQ221 hp222
     refine gS 8 (⟨some (OwnAt (a.get 5) 0 3 s216.1), [(5, none)]⟩ :: _ :: _ :: _ :: _ :: _ :: _ :: ⟨some (IsAdrO (a.get 5) ((s216.2.2).toNat * Enc.sz Int)), [(74, some 0), (75, some 1)]⟩ :: []) hs (by kernel_rfl) ⟨ob1 rfl fun _ _ h n => ok_moveOA (.inl rfl) (ownAt n.1 (up i5 h n.1)), mu rfl i8, mu rfl i0, mu rfl i7, o1 [(76, some 2), (77, some 3)] rfl fun _ _ h n => ok_indexAddr rfl Try.underlying49 ty35 (IsV.rd n.1) n.2.1 hx217_4, o1 [(78, some 4)] rfl fun _ _ h n => ok_fieldAddr rfl fo35_1 (at_Rect_1 _) n.1, o1 [(79, some 5)] rfl fun _ _ h n => ok_load rfl ty3 n.1, ob1 rfl fun _ _ h n => ok_indexO rfl Try.underlying63 ty3 n.1 n.2.1 hx217_7, trivial⟩ hQQ221 fun b q p => ?_
     have hgq := hg.then p.grow
     have hsb := p.size.trans hs
     have hdb := p.defers.trans hd
     have j0 := p.ke 0 rfl i0
     have j1 := p.ke 1 rfl i1
     have j5 := p.ke 5 rfl i5
     have y5 : Lo k0 (obF (b.get 5)) := by rw [p.old 5 rfl]; exact n5
     have j6 := p.ke 6 rfl i6
     have y6 : Lo k0 (obF (b.get 6)) := by rw [p.old 6 rfl]; exact n6
     have j7 := p.ke 7 rfl i7
     have j8 := p.ke 8 rfl i8
     have j80 : (IsV x217_4.Y0) (b.get 80) q := p.ou 6 80 rfl
     have j81 : IsAdrO (a.get 5) ((s216.2.2).toNat * Enc.sz Int) (b.get 81) q := p.ou 7 81 rfl
     have w5_6 : Apart (obF (b.get 5)) (obF (b.get 6)) := by rw [p.old 5 rfl, p.old 6 rfl]; exact d5_6
     have eo : b.get 5 = a.get 5 := p.old 5 rfl
     have hns := j5.nshF
     refine tail_storeS (i := 8) (u := b.get 5) (m := (s216.2.2).toNat) (off := 0) rfl rfl rfl rfl szf3 (Upd.self (α := Int)) (by rw [eo]; exact j81) j5 (getI_spec hx217_7).2.1 j80 fun q2 hch hz => ?_
     replace hgq := hgq.step hch y5.wr
     have hle := hch.le hns
     replace j0 := Pers.pers hle j0
     replace j1 := Pers.pers hle j1
     replace j6 := j6.keep hch (w5_6.symm) hns
     replace j7 := Pers.pers hle j7
     replace j8 := Pers.pers hle j8
     replace j80 := Pers.pers hle j80
     replace j81 := Pers.pers hle j81
     replace j5 := hz
     rw [Option.some.inj hx217_8] at j5
     clear hns hle hch eo hz
     obtain ⟨q, hqq⟩ : ∃ q, q = q2 := ⟨q2, rfl⟩
     subst hqq
     exact tail_done (k := q) (hp222 _ _ ⟨⟨hgq, hsb, hdb⟩, j0, j1, j5, y5, j6, y6, j7, j8, w5_6, trivial⟩)
    rintro a k ⟨⟨hg, hs, hd⟩, i0, i1, i5, n5, i6, n6, i7, i8, d5_6, _⟩
    obtain ⟨x218_4, hx218_4, hr⟩ := bind_some hr
    obtain ⟨x218_7, hx218_7, hr⟩ := bind_some hr
    obtain ⟨x218_8, hx218_8, hr⟩ := bind_some hr
    refine cut (fun a' k' => Bs noF k0 140 a' k' ∧ (IsV l_) (a'.get 0) k' ∧ (IsV x_) (a'.get 1) k' ∧ IsOwn 0 3 x217_8 (a'.get 5) k' ∧ Lo k0 (obF (a'.get 5)) ∧ IsOwn 0 3 x218_8 (a'.get 6) k' ∧ Lo k0 (obF (a'.get 6)) ∧ (IsV s187.2.2) (a'.get 7) k' ∧ Apart (obF (a'.get 5)) (obF (a'.get 6)) ∧ True) ?_ hQ ?_
    ·intro Q219 hQQ219 hp220
     refine gS 8 (⟨some (OwnAt (a.get 6) 0 3 s216.2.1), [(6, none)]⟩ :: _ :: _ :: _ :: _ :: _ :: _ :: ⟨some (IsAdrO (a.get 6) ((s216.2.2).toNat * Enc.sz Int)), [(82, some 0), (83, some 1)]⟩ :: []) hs (by kernel_rfl) ⟨ob1 rfl fun _ _ h n => ok_moveOA (.inl rfl) (ownAt n.1 (up i6 h n.1)), mu rfl i8, mu rfl i0, mu rfl i7, o1 [(84, some 2), (85, some 3)] rfl fun _ _ h n => ok_indexAddr rfl Try.underlying49 ty35 (IsV.rd n.1) n.2.1 hx218_4, o1 [(86, some 4)] rfl fun _ _ h n => ok_fieldAddr rfl fo35_3 (at_Rect_3 _) n.1, o1 [(87, some 5)] rfl fun _ _ h n => ok_load rfl ty3 n.1, ob1 rfl fun _ _ h n => ok_indexO rfl Try.underlying63 ty3 n.1 n.2.1 hx218_7, trivial⟩ hQQ219 fun b q p => ?_
     have hgq := hg.then p.grow
     have hsb := p.size.trans hs
     have hdb := p.defers.trans hd
     have j0 := p.ke 0 rfl i0
     have j1 := p.ke 1 rfl i1
     have j5 := p.ke 5 rfl i5
     have y5 : Lo k0 (obF (b.get 5)) := by rw [p.old 5 rfl]; exact n5
     have j6 := p.ke 6 rfl i6
     have y6 : Lo k0 (obF (b.get 6)) := by rw [p.old 6 rfl]; exact n6
     have j7 := p.ke 7 rfl i7
     have j88 : (IsV x218_4.Y1) (b.get 88) q := p.ou 6 88 rfl
     have j89 : IsAdrO (a.get 6) ((s216.2.2).toNat * Enc.sz Int) (b.get 89) q := p.ou 7 89 rfl
     have w5_6 : Apart (obF (b.get 5)) (obF (b.get 6)) := by rw [p.old 5 rfl, p.old 6 rfl]; exact d5_6
     have eo : b.get 6 = a.get 6 := p.old 6 rfl
     have hns := j6.nshF
     refine tail_storeS (i := 8) (u := b.get 6) (m := (s216.2.2).toNat) (off := 0) rfl rfl rfl rfl szf3 (Upd.self (α := Int)) (by rw [eo]; exact j89) j6 (getI_spec hx218_7).2.1 j88 fun q2 hch hz => ?_
     replace hgq := hgq.step hch y6.wr
     have hle := hch.le hns
     replace j0 := Pers.pers hle j0
     replace j1 := Pers.pers hle j1
     replace j5 := j5.keep hch w5_6 hns
     replace j7 := Pers.pers hle j7
     replace j88 := Pers.pers hle j88
     replace j89 := Pers.pers hle j89
     replace j6 := hz
     rw [Option.some.inj hx218_8] at j6
     clear hns hle hch eo hz
     obtain ⟨q, hqq⟩ : ∃ q, q = q2 := ⟨q2, rfl⟩
     subst hqq
     exact tail_done (k := q) (hp220 _ _ ⟨⟨hgq, hsb, hdb⟩, j0, j1, j5, y5, j6, y6, j7, w5_6, trivial⟩)
    rintro a k ⟨⟨hg, hs, hd⟩, i0, i1, i5, n5, i6, n6, i7, d5_6, _⟩
    obtain rfl := Option.some.inj hr
    exact hp193 _ _ ⟨⟨hg, hs, hd⟩, i0, i1, i5, n5, i6, n6, i7, d5_6, trivial⟩
   clear hs192
   rintro a k ⟨⟨hg, hs, hd⟩, i0, i1, i5, n5, i6, n6, i7, d5_6, _⟩
   obtain ⟨x234_1, hx234_1, hr⟩ := bind_some hr
   refine cut (fun a' k' => Bs noF k0 140 a' k' ∧ (IsV l_) (a'.get 0) k' ∧ (IsV x_) (a'.get 1) k' ∧ IsOwn 0 3 s192.1 (a'.get 5) k' ∧ Lo k0 (obF (a'.get 5)) ∧ IsOwn 0 3 s192.2 (a'.get 6) k' ∧ Lo k0 (obF (a'.get 6)) ∧ (IsV x234_1) (a'.get 7) k' ∧ Apart (obF (a'.get 5)) (obF (a'.get 6)) ∧ True) ?_ hQ ?_
   ·intro Q235 hQQ235 hp236
    refine gS 3 (_ :: _ :: _ :: []) hs (by kernel_rfl) ⟨mu rfl i7, o1 [(15, some 0)] rfl fun _ _ h n => ok_add rfl n.1 (cI rfl) hx234_1, cp 1 rfl rfl, trivial⟩ hQQ235 fun b q p => ?_
    exact tail_done (k := q) (hp236 _ _ ⟨Bs.post ⟨hg, hs, hd⟩ p, p.ke 0 rfl i0, p.ke 1 rfl i1, p.ke 5 rfl i5, (by rw [p.old 5 rfl]; exact n5), p.ke 6 rfl i6, (by rw [p.old 6 rfl]; exact n6), p.ou 2 7 rfl, (by rw [p.old 5 rfl, p.old 6 rfl]; exact d5_6), trivial⟩)
   rintro a k ⟨⟨hg, hs, hd⟩, i0, i1, i5, n5, i6, n6, i7, d5_6, _⟩
   exact hgo188 _ _ _ (Option.some.inj hr).symm ⟨⟨hg, hs, hd⟩, i0, i1, i5, n5, i6, n6, i7, d5_6, trivial⟩
  rw [if_neg (by rw [hc240]; decide)] at hr
  refine wp_exit ?_
  obtain ⟨kk, sh238, ii5⟩ := i5.give
  replace i6 := i6.handed sh238 (d5_6.symm)
  replace i5 := ii5
  replace hg := hg.hand sh238 n5.wr
  rw [← sh238.w]
  clear sh238
  obtain ⟨k, hkk⟩ : ∃ k, k = kk := ⟨kk, rfl⟩
  subst hkk
  obtain ⟨kk, sh239, ii6⟩ := i6.give
  replace i5 := Pers.pers sh239.le i5
  replace i6 := ii6
  replace hg := hg.hand sh239 n6.wr
  rw [← sh239.w]
  clear sh239
  obtain ⟨k, hkk⟩ : ∃ k, k = kk := ⟨kk, rfl⟩
  subst hkk
  exact hex189 _ _ _ _ (Option.some.inj hr).symm ⟨rfl, ⟨hg, hs, hd⟩, i5, i6, trivial⟩
 ·rintro r283 a k rfl hR
  dsimp only at hr
  obtain rfl := Option.some.inj hr
  exact hR
 ·rintro _ _ _ rfl _
  simp at hr
 clear hf243
 rintro _ s244 a k rfl ⟨rfl, ⟨hg, hs, hd⟩, i5, i6, _⟩
 dsimp only at hr
 refine cutS (fun a' k' => Bs noF k0 140 a' k' ∧ (IsV s244.1) (a'.get 5) k' ∧ (IsV s244.2.1) (a'.get 6) k' ∧ IsOwn 0 3 ([] : List Int) (a'.get 9) k' ∧ Lo k0 (obF (a'.get 9)) ∧ True) ?_ ?_
 ·intro Q281 hQQ281 hp282
  refine gS 1 (⟨some IsE0, []⟩ :: []) hs (by kernel_rfl) ⟨ob1 rfl fun b q h n => ok_assign rfl isE0_nil, trivial⟩ hQQ281 fun b q p => ?_
  have hgq := hg.then p.grow
  have hsb := p.size.trans hs
  have hdb := p.defers.trans hd
  have j5 := p.ke 5 rfl i5
  have j6 := p.ke 6 rfl i6
  have j9 : IsE0 (b.get 9) q := p.ou 0 9 rfl
  have y9 : Lo k0 (obF (b.get 9)) := j9.lo
  replace j9 : IsOwn 0 3 ([] : List Int) (b.get 9) q := j9.own0
  exact tail_done (k := q) (hp282 _ _ ⟨⟨hgq, hsb, hdb⟩, j5, j6, j9, y9, trivial⟩)
 rintro a k ⟨⟨hg, hs, hd⟩, i5, i6, i9, n9, _⟩
 refine wp_seq ?_
 refine cutS (fun a' k' => Bs noF k0 140 a' k' ∧ (IsV s244.1) (a'.get 5) k' ∧ (IsV s244.2.1) (a'.get 6) k' ∧ IsOwn 0 3 ([] : List Int) (a'.get 9) k' ∧ Lo k0 (obF (a'.get 9)) ∧ (IsI 0) (a'.get 10) k' ∧ True) ?_ ?_
 ·intro Q279 hQQ279 hp280
  refine gS 1 (⟨some (IsI 0), []⟩ :: []) hs (by kernel_rfl) ⟨aI rfl rfl, trivial⟩ hQQ279 fun b q p => ?_
  exact tail_done (k := q) (hp280 _ _ ⟨Bs.post ⟨hg, hs, hd⟩ p, p.ke 5 rfl i5, p.ke 6 rfl i6, p.ke 9 rfl i9, (by rw [p.old 9 rfl]; exact n9), p.ou 0 10 rfl, trivial⟩)
 rintro a k ⟨⟨hg, hs, hd⟩, i5, i6, i9, n9, i10, _⟩
 refine wp_block ?_
 obtain ⟨f272, hf272, hr⟩ := bind_some hr
 refine cutFe f272 (fun s' a' k' => Bs noF k0 140 a' k' ∧ (IsV s244.1) (a'.get 5) k' ∧ (IsV s244.2.1) (a'.get 6) k' ∧ IsOwn 0 3 s'.1 (a'.get 9) k' ∧ Lo k0 (obF (a'.get 9)) ∧ (IsV s'.2) (a'.get 10) k' ∧ True) (fun i' s' a' k' => (i' = 4 ∧ Bs noF k0 140 a' k' ∧ (IsV s'.1) (a'.get 9) k' ∧ True)) (fun r' a' k' => bodyPost Try.prog Try.f69 (RetC noF k0 (IsV r')) .ret a' k'.w) ?_ hQ ?_ ?_ ?_
 ·intro Q278 hQQ278 hgo hex hret
  refine sim_loop ?_ _ _ _ _ _ hf272 ⟨⟨hg, hs, hd⟩, i5, i6, i9, n9, i10, trivial⟩ Q278 hQQ278 hgo hex hret
  clear hr hf272 hgo hex hret hQQ278 hQ hg hs hd i10 i5 i6 i9 n9
  intro s247 fl_ a k hr hS Q hQ hgo248 hex249 hret250
  obtain ⟨⟨hg, hs, hd⟩, i5, i6, i9, n9, i10, _⟩ := hS
  unfold ref06_column_L2 at hr
  refine wp_seq ?_
  refine cutS (fun a' k' => Bs noF k0 140 a' k' ∧ (IsV s244.1) (a'.get 5) k' ∧ (IsV s244.2.1) (a'.get 6) k' ∧ IsOwn 0 3 s247.1 (a'.get 9) k' ∧ Lo k0 (obF (a'.get 9)) ∧ (IsV s247.2) (a'.get 10) k' ∧ (IsV (decide (s247.2 < (s244.1.length : Int)))) (a'.get 93) k' ∧ True) ?_ ?_
  ·intro Q270 hQQ270 hp271
   refine gS 4 (_ :: _ :: _ :: _ :: []) hs (by kernel_rfl) ⟨mu rfl i10, mu rfl i5, o1 [(91, some 1)] rfl fun _ _ h n => ok_len rfl rfl Try.underlying63 (IsV.rd n.1), o1 [(90, some 0), (92, some 2)] rfl fun _ _ h n => ok_lss rfl n.1 n.2.1, trivial⟩ hQQ270 fun b q p => ?_
   exact tail_done (k := q) (hp271 _ _ ⟨Bs.post ⟨hg, hs, hd⟩ p, p.ke 5 rfl i5, p.ke 6 rfl i6, p.ke 9 rfl i9, (by rw [p.old 9 rfl]; exact n9), p.ke 10 rfl i10, p.ou 3 93 rfl, trivial⟩)
  rintro a k ⟨⟨hg, hs, hd⟩, i5, i6, i9, n9, i10, i93, _⟩
  refine wp_cond_split (isBool i93) (fun hc269 => ?_) (fun hc269 => ?_)
  ·rw [if_pos hc269] at hr
   refine wp_skip ?_
   refine wp_seq ?_
   obtain ⟨s252, hs252, hr⟩ := bind_some hr
   refine cut (fun a' k' => Bs noF k0 140 a' k' ∧ (IsV s244.1) (a'.get 5) k' ∧ (IsV s244.2.1) (a'.get 6) k' ∧ IsOwn 0 3 s252 (a'.get 9) k' ∧ Lo k0 (obF (a'.get 9)) ∧ (IsV s247.2) (a'.get 10) k' ∧ True) ?_ hQ ?_
   ·intro Q267 hQQ267 hp253
    replace hr := hs252
    clear hQ
    have hQ := hQQ267
    refine wp_block ?_
    refine wp_seq ?_
    refine wp_seq ?_
    obtain ⟨x254_15, hx254_15, hr⟩ := bind_some hr
    obtain ⟨x254_6, hx254_6, hx254_15⟩ := ite_bind hx254_15
    obtain ⟨x254_11, hx254_11, hx254_15⟩ := ite_bind hx254_15
    obtain ⟨x254_12, hx254_12, hx254_15⟩ := ite_bind hx254_15
    refine cut (fun a' k' => Bs noF k0 140 a' k' ∧ (IsV s244.1) (a'.get 5) k' ∧ (IsV s244.2.1) (a'.get 6) k' ∧ IsOwn 0 3 s247.1 (a'.get 9) k' ∧ Lo k0 (obF (a'.get 9)) ∧ (IsV s247.2) (a'.get 10) k' ∧ (IsV x254_15) (a'.get 111) k' ∧ True) ?_ hQ ?_
    ·intro Q262 hQQ262 hp263
     refine region (a0 := a) (k0 := k) (n := 140) (m := 16) (⟨some (OwnAt (a.get 9) 0 3 s247.1), [(9, none)]⟩ :: ⟨some (IsI (s247.1.length : Int)), [(96, some 0)]⟩ :: ⟨some (IsV (decide (0 < (s247.1.length : Int)))), [(97, some 1)]⟩ :: ⟨some (IsV (decide (0 < (s247.1.length : Int)))), [(98, some 2)]⟩ :: ⟨some (Gd ((decide (0 < (s247.1.length : Int))) = true) (IsV s244.1)), [(5, none)]⟩ :: ⟨some (Gd ((decide (0 < (s247.1.length : Int))) = true) (IsV s247.2)), [(10, none)]⟩ :: ⟨some (Gd ((decide (0 < (s247.1.length : Int))) = true) (IsPtr x254_6)), [(100, some 4), (101, some 5)]⟩ :: ⟨some (Gd ((decide (0 < (s247.1.length : Int))) = true) (IsV x254_6)), [(102, some 6)]⟩ :: ⟨some (Gd ((decide (0 < (s247.1.length : Int))) = true) (OwnAt (a.get 9) 0 3 s247.1)), [(9, none)]⟩ :: ⟨some (Gd ((decide (0 < (s247.1.length : Int))) = true) (OwnAt (a.get 9) 0 3 s247.1)), [(9, none)]⟩ :: ⟨some (Gd ((decide (0 < (s247.1.length : Int))) = true) (IsI (s247.1.length : Int))), [(105, some 9)]⟩ :: ⟨some (Gd ((decide (0 < (s247.1.length : Int))) = true) (IsV x254_11)), [(106, some 10)]⟩ :: ⟨some (Gd ((decide (0 < (s247.1.length : Int))) = true) (IsPtr x254_12)), [(104, some 8), (107, some 11)]⟩ :: ⟨some (Gd ((decide (0 < (s247.1.length : Int))) = true) (IsV x254_12)), [(108, some 12)]⟩ :: ⟨some (Gd ((decide (0 < (s247.1.length : Int))) = true) (IsV (decide (x254_6 ≤ x254_12)))), [(103, some 7), (109, some 13)]⟩ :: ⟨some (IsV x254_15), [(99, some 3), (110, some 14)]⟩ :: []) hmix hs (by kernel_rfl) ⟨ob1 rfl fun b q hk hn => ok_moveOA (.inl rfl) (ownAt hn.1 (up i9 hk hn.1)), ob1 rfl fun b q hk hn => ok_len rfl rfl Try.underlying63 (IsOwn.rd (hn.1).2), ob1 rfl fun b q hk hn => ok_gtr rfl hn.1 (isV_int.2 rfl), ob1 rfl fun b q hk hn => ok_move rfl hn.1, gdT rfl rfl fun hp b q hk hn => ok_move rfl (up i5 hk hn.1), gdT rfl rfl fun hp b q hk hn => ok_move rfl (up i10 hk hn.1), gdT rfl rfl fun hp b q hk hn => ok_indexAddr rfl Try.underlying63 ty3 (IsV.rd (Gd.get hn.1 hp)) (Gd.get hn.2.1 hp) (hx254_6 hp), gdT rfl rfl fun hp b q hk hn => ok_load rfl ty3 (Gd.get hn.1 hp), gdT rfl rfl fun hp b q hk hn => ok_moveOA (.inl rfl) (ownAt hn.1 (up i9 hk hn.1)), gdT rfl rfl fun hp b q hk hn => ok_moveOA (.inl rfl) (ownAt hn.1 (up i9 hk hn.1)), gdT rfl rfl fun hp b q hk hn => ok_len rfl rfl Try.underlying63 (IsOwn.rd ((Gd.get hn.1 hp)).2), gdT rfl rfl fun hp b q hk hn => ok_sub rfl (Gd.get hn.1 hp) (isV_int.2 rfl) (hx254_11 hp), gdT rfl rfl fun hp b q hk hn => ok_indexAddr rfl Try.underlying63 ty3 (IsOwn.rd ((Gd.get hn.1 hp)).2) (Gd.get hn.2.1 hp) (hx254_12 hp), gdT rfl rfl fun hp b q hk hn => ok_load rfl ty3 (Gd.get hn.1 hp), gdT rfl rfl fun hp b q hk hn => ok_leq rfl (Gd.get hn.1 hp) (Gd.get hn.2.1 hp), ob1 rfl fun b q hk hn => ok_pickM rfl hn.1 hx254_15 (fun hm => (Gd.get hn.2.1 hm)) (fun _ => (isV_bool.2 rfl)), trivial⟩ hQQ262 fun b q p => ?_
     exact tail_done (k := q) (hp263 _ _ ⟨Bs.post ⟨hg, hs, hd⟩ p, p.ke 5 rfl i5, p.ke 6 rfl i6, p.ke 9 rfl i9, (by rw [p.old 9 rfl]; exact n9), p.ke 10 rfl i10, p.ou 15 111 rfl, trivial⟩)
    rintro a k ⟨⟨hg, hs, hd⟩, i5, i6, i9, n9, i10, i111, _⟩
    refine wp_cond_split (isBool i111) (fun hc261 => ?_) (fun hc261 => ?_)
    ·rw [if_pos hc261] at hr
     refine wp_seq ?_
     obtain ⟨x255_3, hx255_3, hr⟩ := bind_some hr
     obtain ⟨x255_7, hx255_7, hr⟩ := bind_some hr
     obtain ⟨x255_8, hx255_8, hr⟩ := bind_some hr
     obtain ⟨x255_12, hx255_12, hr⟩ := bind_some hr
     obtain ⟨x255_15, hx255_15, hr⟩ := bind_some hr
     obtain ⟨x255_16, hx255_16, hr⟩ := bind_some hr
     refine cut (fun a' k' => Bs noF k0 140 a' k' ∧ (IsV s244.1) (a'.get 5) k' ∧ (IsV s244.2.1) (a'.get 6) k' ∧ IsOwn 0 3 x255_16 (a'.get 9) k' ∧ Lo k0 (obF (a'.get 9)) ∧ (IsV s247.2) (a'.get 10) k' ∧ True) ?_ hQ ?_
     ·intro Q256 hQQ256 hp257
      refine region (a0 := a) (k0 := k) (n := 140) (m := 16) (⟨some (OwnAt (a.get 9) 0 3 s247.1), [(9, none)]⟩ :: ⟨some (OwnAt (a.get 9) 0 3 s247.1), [(9, none)]⟩ :: ⟨some (IsI (s247.1.length : Int)), [(113, some 1)]⟩ :: ⟨some (IsV x255_3), [(114, some 2)]⟩ :: ⟨some (OwnAt (a.get 9) 0 3 s247.1), [(9, none)]⟩ :: ⟨some (OwnAt (a.get 9) 0 3 s247.1), [(9, none)]⟩ :: ⟨some (IsI (s247.1.length : Int)), [(117, some 5)]⟩ :: ⟨some (IsV x255_7), [(118, some 6)]⟩ :: ⟨some (IsPtr x255_8), [(116, some 4), (119, some 7)]⟩ :: ⟨some (IsV x255_8), [(120, some 8)]⟩ :: ⟨some (IsV s244.2.1), [(6, none)]⟩ :: ⟨some (IsV s247.2), [(10, none)]⟩ :: ⟨some (IsPtr x255_12), [(122, some 10), (123, some 11)]⟩ :: ⟨some (IsV x255_12), [(124, some 12)]⟩ :: ⟨some (IsI (max x255_8 x255_12)), [(121, some 9), (125, some 13)]⟩ :: ⟨some (IsAdrO (a.get 9) ((x255_3).toNat * Enc.sz Int)), [(112, some 0), (115, some 3)]⟩ :: []) hmix hs (by kernel_rfl) ⟨ob1 rfl fun b q hk hn => ok_moveOA (.inl rfl) (ownAt hn.1 (up i9 hk hn.1)), ob1 rfl fun b q hk hn => ok_moveOA (.inl rfl) (ownAt hn.1 (up i9 hk hn.1)), ob1 rfl fun b q hk hn => ok_len rfl rfl Try.underlying63 (IsOwn.rd (hn.1).2), ob1 rfl fun b q hk hn => ok_sub rfl hn.1 (isV_int.2 rfl) hx255_3, ob1 rfl fun b q hk hn => ok_moveOA (.inl rfl) (ownAt hn.1 (up i9 hk hn.1)), ob1 rfl fun b q hk hn => ok_moveOA (.inl rfl) (ownAt hn.1 (up i9 hk hn.1)), ob1 rfl fun b q hk hn => ok_len rfl rfl Try.underlying63 (IsOwn.rd (hn.1).2), ob1 rfl fun b q hk hn => ok_sub rfl hn.1 (isV_int.2 rfl) hx255_7, ob1 rfl fun b q hk hn => ok_indexAddr rfl Try.underlying63 ty3 (IsOwn.rd (hn.1).2) hn.2.1 hx255_8, ob1 rfl fun b q hk hn => ok_load rfl ty3 hn.1, ob1 rfl fun b q hk hn => ok_move rfl (up i6 hk hn.1), ob1 rfl fun b q hk hn => ok_move rfl (up i10 hk hn.1), ob1 rfl fun b q hk hn => ok_indexAddr rfl Try.underlying63 ty3 (IsV.rd hn.1) hn.2.1 hx255_12, ob1 rfl fun b q hk hn => ok_load rfl ty3 hn.1, ob1 rfl fun b q hk hn => ok_max2 rfl hn.1 hn.2.1, ob1 rfl fun b q hk hn => ok_indexO rfl Try.underlying63 ty3 hn.1 hn.2.1 hx255_15, trivial⟩ hQQ256 fun b q p => ?_
      have hgq := hg.then p.grow
      have hsb := p.size.trans hs
      have hdb := p.defers.trans hd
      have j5 := p.ke 5 rfl i5
      have j6 := p.ke 6 rfl i6
      have j9 := p.ke 9 rfl i9
      have y9 : Lo k0 (obF (b.get 9)) := by rw [p.old 9 rfl]; exact n9
      have j10 := p.ke 10 rfl i10
      have j126 : (IsI (max x255_8 x255_12)) (b.get 126) q := p.ou 14 126 rfl
      have j127 : IsAdrO (a.get 9) ((x255_3).toNat * Enc.sz Int) (b.get 127) q := p.ou 15 127 rfl
      have eo : b.get 9 = a.get 9 := p.old 9 rfl
      have hns := j9.nshF
      refine tail_storeS (i := 16) (u := b.get 9) (m := (x255_3).toNat) (off := 0) rfl rfl rfl rfl szf3 (Upd.self (α := Int)) (by rw [eo]; exact j127) j9 (getI_spec hx255_15).2.1 j126 fun q2 hch hz => ?_
      replace hgq := hgq.step hch y9.wr
      have hle := hch.le hns
      replace j5 := Pers.pers hle j5
      replace j6 := Pers.pers hle j6
      replace j10 := Pers.pers hle j10
      replace j126 := Pers.pers hle j126
      replace j127 := Pers.pers hle j127
      replace j9 := hz
      rw [Option.some.inj hx255_16] at j9
      clear hns hle hch eo hz
      obtain ⟨q, hqq⟩ : ∃ q, q = q2 := ⟨q2, rfl⟩
      subst hqq
      exact tail_done (k := q) (hp257 _ _ ⟨⟨hgq, hsb, hdb⟩, j5, j6, j9, y9, j10, trivial⟩)
     rintro a k ⟨⟨hg, hs, hd⟩, i5, i6, i9, n9, i10, _⟩
     refine wp_exit ?_
     obtain rfl := Option.some.inj hr
     exact hp253 _ _ ⟨⟨hg, hs, hd⟩, i5, i6, i9, n9, i10, trivial⟩
    rw [if_neg (by rw [hc261]; decide)] at hr
    refine wp_skip ?_
    obtain ⟨x258_3, hx258_3, hr⟩ := bind_some hr
    obtain ⟨x258_7, hx258_7, hr⟩ := bind_some hr
    obtain ⟨x258_10, hx258_10, hr⟩ := bind_some hr
    refine cut (fun a' k' => Bs noF k0 140 a' k' ∧ (IsV s244.1) (a'.get 5) k' ∧ (IsV s244.2.1) (a'.get 6) k' ∧ IsOwn 0 3 x258_10 (a'.get 9) k' ∧ Lo k0 (obF (a'.get 9)) ∧ (IsV s247.2) (a'.get 10) k' ∧ True) ?_ hQ ?_
    ·intro Q259 hQQ259 hp260
     refine region (a0 := a) (k0 := k) (n := 140) (m := 10) (⟨some (OwnAt (a.get 9) 0 3 s247.1), [(9, none)]⟩ :: ⟨some (IsV s244.1), [(5, none)]⟩ :: ⟨some (IsV s247.2), [(10, none)]⟩ :: ⟨some (IsPtr x258_3), [(129, some 1), (130, some 2)]⟩ :: ⟨some (IsV x258_3), [(131, some 3)]⟩ :: ⟨some (IsV s244.2.1), [(6, none)]⟩ :: ⟨some (IsV s247.2), [(10, none)]⟩ :: ⟨some (IsPtr x258_7), [(133, some 5), (134, some 6)]⟩ :: ⟨some (IsV x258_7), [(135, some 7)]⟩ :: ⟨some (IsV (α := (List Int)) ([x258_3, x258_7])), [(132, some 4), (136, some 8)]⟩ :: []) hmix hs (by kernel_rfl) ⟨ob1 rfl fun b q hk hn => ok_moveOA (.inl rfl) (ownAt hn.1 (up i9 hk hn.1)), ob1 rfl fun b q hk hn => ok_move rfl (up i5 hk hn.1), ob1 rfl fun b q hk hn => ok_move rfl (up i10 hk hn.1), ob1 rfl fun b q hk hn => ok_indexAddr rfl Try.underlying63 ty3 (IsV.rd hn.1) hn.2.1 hx258_3, ob1 rfl fun b q hk hn => ok_load rfl ty3 hn.1, ob1 rfl fun b q hk hn => ok_move rfl (up i6 hk hn.1), ob1 rfl fun b q hk hn => ok_move rfl (up i10 hk hn.1), ob1 rfl fun b q hk hn => ok_indexAddr rfl Try.underlying63 ty3 (IsV.rd hn.1) hn.2.1 hx258_7, ob1 rfl fun b q hk hn => ok_load rfl ty3 hn.1, ob1 rfl fun b q hk hn => ok_buildSlice rfl Try.underlying63 eo3 rfl (by decide) (by decide) ⟨rfl, hn.1, rfl, hn.2.1, trivial⟩, trivial⟩ hQQ259 fun b q p => ?_
     have hgq := hg.then p.grow
     have hsb := p.size.trans hs
     have hdb := p.defers.trans hd
     have j5 := p.ke 5 rfl i5
     have j6 := p.ke 6 rfl i6
     have j10 := p.ke 10 rfl i10
     have e128 : b.get 128 = a.get 9 := (p.ou 0 128 rfl).1
     have j128 : IsOwn 0 3 s247.1 (b.get 128) q := (p.ou 0 128 rfl).2
     have y128 : Lo k0 (obF (b.get 128)) := by rw [e128]; exact n9
     have j137 : (IsV (α := (List Int)) ([x258_3, x258_7])) (b.get 137) q := p.ou 9 137 rfl
     have hns := j128.nshF
     refine tail_appendS (i := 10) (d := 138) rfl rfl rfl rfl (by rw [hsb]; decide) (e := 3) Try.underlying63 eo3 j128 (IsV.rd j137) hx258_10 fun b2 q2 hsz hdf hoth hch hown hob => ?_
     have hle := hch.le hns
     have yn : Lo k0 (obF (b2.get 138)) := y128.app hgq hob
     replace j5 := Pers.pers hle j5
     replace j6 := Pers.pers hle j6
     replace j10 := Pers.pers hle j10
     replace j137 := Pers.pers hle j137
     replace hgq := hgq.step hch y128.wr
     rw [← hoth 5 (by decide)] at j5
     rw [← hoth 6 (by decide)] at j6
     rw [← hoth 10 (by decide)] at j10
     rw [← hoth 137 (by decide)] at j137
     have j138 := hown
     have y138 := yn
     replace hsb := hsz.trans hsb
     replace hdb := hdf.trans hdb
     clear hle hch hown hob hns yn hsz hdf hoth
     obtain ⟨b, hbb⟩ : ∃ b, b = b2 := ⟨b2, rfl⟩
     subst hbb
     obtain ⟨q, hqq⟩ : ∃ q, q = q2 := ⟨q2, rfl⟩
     subst hqq
     refine tail_assign (i := 11) (d := 9) rfl rfl (.inl rfl) rfl (by rw [hsb]; decide) fun b2 hsz hdf hnew hoth => ?_
     have jn : (IsOwn 0 3 x258_10) (b2.get 9) q := by rw [hnew]; exact j138
     have yn : Lo k0 (obF (b2.get 9)) := by rw [hnew]; exact y138
     rw [← hoth 5 (by decide)] at j5
     rw [← hoth 6 (by decide)] at j6
     rw [← hoth 10 (by decide)] at j10
     rw [← hoth 137 (by decide)] at j137
     have j9 := jn
     have y9 := yn
     replace hsb := hsz.trans hsb
     replace hdb := hdf.trans hdb
     clear hsz hdf hoth
     obtain ⟨b, hbb⟩ : ∃ b, b = b2 := ⟨b2, rfl⟩
     subst hbb
     exact tail_done (k := q) (hp260 _ _ ⟨⟨hgq, hsb, hdb⟩, j5, j6, j9, y9, j10, trivial⟩)
    rintro a k ⟨⟨hg, hs, hd⟩, i5, i6, i9, n9, i10, _⟩
    obtain rfl := Option.some.inj hr
    exact hp253 _ _ ⟨⟨hg, hs, hd⟩, i5, i6, i9, n9, i10, trivial⟩
   clear hs252
   rintro a k ⟨⟨hg, hs, hd⟩, i5, i6, i9, n9, i10, _⟩
   obtain ⟨x264_1, hx264_1, hr⟩ := bind_some hr
   refine cut (fun a' k' => Bs noF k0 140 a' k' ∧ (IsV s244.1) (a'.get 5) k' ∧ (IsV s244.2.1) (a'.get 6) k' ∧ IsOwn 0 3 s252 (a'.get 9) k' ∧ Lo k0 (obF (a'.get 9)) ∧ (IsV x264_1) (a'.get 10) k' ∧ True) ?_ hQ ?_
   ·intro Q265 hQQ265 hp266
    refine gS 3 (_ :: _ :: _ :: []) hs (by kernel_rfl) ⟨mu rfl i10, o1 [(94, some 0)] rfl fun _ _ h n => ok_add rfl n.1 (cI rfl) hx264_1, cp 1 rfl rfl, trivial⟩ hQQ265 fun b q p => ?_
    exact tail_done (k := q) (hp266 _ _ ⟨Bs.post ⟨hg, hs, hd⟩ p, p.ke 5 rfl i5, p.ke 6 rfl i6, p.ke 9 rfl i9, (by rw [p.old 9 rfl]; exact n9), p.ou 2 10 rfl, trivial⟩)
   rintro a k ⟨⟨hg, hs, hd⟩, i5, i6, i9, n9, i10, _⟩
   exact hgo248 _ _ _ (Option.some.inj hr).symm ⟨⟨hg, hs, hd⟩, i5, i6, i9, n9, i10, trivial⟩
  rw [if_neg (by rw [hc269]; decide)] at hr
  refine wp_exit ?_
  obtain ⟨kk, sh268, ii9⟩ := i9.give
  replace i9 := ii9
  replace hg := hg.hand sh268 n9.wr
  rw [← sh268.w]
  clear sh268
  obtain ⟨k, hkk⟩ : ∃ k, k = kk := ⟨kk, rfl⟩
  subst hkk
  exact hex249 _ _ _ _ (Option.some.inj hr).symm ⟨rfl, ⟨hg, hs, hd⟩, i9, trivial⟩
 ·rintro r277 a k rfl hR
  dsimp only at hr
  obtain rfl := Option.some.inj hr
  exact hR
 ·rintro _ _ _ rfl _
  simp at hr
 clear hf272
 rintro _ s273 a k rfl ⟨rfl, ⟨hg, hs, hd⟩, i9, _⟩
 dsimp only at hr
 refine stepL 2 (_ :: _ :: []) rfl ⟨hg, hs, hd⟩ (by kernel_rfl) ⟨mu rfl i9, cp 0 rfl rfl, trivial⟩ [⟨_, _⟩] (fun b q p => ⟨p.ou 1 4 rfl, trivial⟩) ?_
 rintro a k ⟨⟨hg, hs, hd⟩, i4, _⟩
 refine wp_ret ?_
 obtain rfl := Option.some.inj hr
 exact retC1 rfl hd hg i4
def ref06_combine_L0 (a_ : (List Int)) (b_ : (List Int)) (op_ : Int) (s298 : (List Int) × Int × Int × Bool) : Option (Flow ((List Int) × Int × Int × Bool) ((List Int))) :=
 if ((decide (s298.2.1 < (a_.length : Int))) || (decide (s298.2.2.1 < (b_.length : Int)))) then
  (if (decide (s298.2.1 < (a_.length : Int))) then
   (if (decide ((b_.length : Int) ≤ s298.2.2.1)) then
    some true
   else
    (getI a_ s298.2.1).bind fun x304_12 =>
    (subI (b_.length : Int) 1).bind fun x304_18 =>
    (getI b_ (min s298.2.2.1 x304_18)).bind fun x304_20 =>
    some (decide (x304_12 ≤ x304_20))).bind fun x304_23 =>
   some x304_23
  else
   some false).bind fun x304_24 =>
  (if x304_24 then
   (getI a_ s298.2.1).bind fun x307_2 =>
   some x307_2
  else
   (getI b_ s298.2.2.1).bind fun x310_2 =>
   some x310_2).bind fun s305 =>
  (if (decide (s298.2.1 < (a_.length : Int))) then
   (getI a_ s298.2.1).bind fun x314_7 =>
   some (x314_7 == s305)
  else
   some false).bind fun x314_11 =>
  (if x314_11 then
   (addI s298.2.1 1).bind fun x317_1 =>
   some x317_1
  else
   some s298.2.1).bind fun s315 =>
  (if (decide (s298.2.2.1 < (b_.length : Int))) then
   (getI b_ s298.2.2.1).bind fun x321_7 =>
   some (x321_7 == s305)
  else
   some false).bind fun x321_11 =>
  (if x321_11 then
   (addI s298.2.2.1 1).bind fun x324_1 =>
   some x324_1
  else
   some s298.2.2.1).bind fun s322 =>
  (remI s315 2).bind fun x328_1 =>
  (remI s322 2).bind fun x329_1 =>
  (if (op_ == 1) then
   some ((x328_1 == 1) && (x329_1 == 1))
  else
   some ((x328_1 == 1) || (x329_1 == 1))).bind fun s332 =>
  (if (op_ == 2) then
   some ((x328_1 == 1) && (!(x329_1 == 1)))
  else
   some s332).bind fun s339 =>
  (if (s339 != s298.2.2.2) then
   (appI s298.1 ([s305])).bind fun x348_3 =>
   some x348_3
  else
   some s298.1).bind fun s346 =>
  some (.go (s346, s315, s322, s339))
 else
  some (.ex 0 (s298.1, s298.2.1, s298.2.2.1, s298.2.2.2))
def ref06_combine (a_ : (List Int)) (b_ : (List Int)) (op_ : Int) : Option ((List Int)) :=
 (iterL (ref06_combine_L0 a_ b_ op_) (a_.length + b_.length + ([] : List Int).length + 1) (([] : List Int), 0, 0, false)).bind fun f385 => match f385 with
  | .go _ => none
  | .ex _ s386 =>
   some s386.1
  | .ret r390 => some r390
theorem ref06_combine_ok {k0 : K} {v0 v1 v2 : Value} {a_ : (List Int)} {b_ : (List Int)} {op_ : Int} {r : (List Int)} (i0 : (IsV a_) v0 k0) (i1 : (IsV b_) v1 k0) (i2 : (IsV op_) v2 k0) (hr : ref06_combine a_ b_ op_ = some r) :
  Calls Try.prog 68 #[v0, v1, v2] k0.w (Ret k0 (IsV r)) := by
 unfold ref06_combine at hr
 refine Ret.ofC ?_
 refine enterK Try.func68 rfl Try.ntmps68 (show 3 ≤ 118 by decide) fun a k hk0 hs hd ha => ?_
 obtain ⟨e0, e1, e2, _⟩ := ha
 replace i0 : (IsV a_) (a.get 0) k := by rw [e0, hk0]; exact i0
 replace i1 : (IsV b_) (a.get 1) k := by rw [e1, hk0]; exact i1
 replace i2 : (IsV op_) (a.get 2) k := by rw [e2, hk0]; exact i2
 have hQ : Gb.LetsOut (bodyPost Try.prog Try.f68 (RetC noF k0 (IsV r))) := letsOutC
 have hg : Chg noF k0 k := by rw [hk0]; exact Chg.refl _ k0
 refine stepL 1 (⟨some IsE0, []⟩ :: []) rfl ⟨hg, hs, hd⟩ (by kernel_rfl) ⟨ob1 rfl fun b q h n => ok_assign rfl isE0_nil, trivial⟩ [⟨_, _⟩, ⟨_, _⟩, ⟨_, _⟩] (fun b q p => ⟨p.ke 0 rfl i0, p.ke 1 rfl i1, p.ke 2 rfl i2, trivial⟩) ?_
 rintro a k ⟨⟨hg, hs, hd⟩, i0, i1, i2, _⟩
 refine cutS (fun a' k' => Bs noF k0 118 a' k' ∧ (IsV a_) (a'.get 0) k' ∧ (IsV b_) (a'.get 1) k' ∧ (IsV op_) (a'.get 2) k' ∧ IsOwn 0 3 ([] : List Int) (a'.get 7) k' ∧ Lo k0 (obF (a'.get 7)) ∧ True) ?_ ?_
 ·intro Q398 hQQ398 hp399
  refine gS 1 (⟨some IsE0, []⟩ :: []) hs (by kernel_rfl) ⟨ob1 rfl fun b q h n => ok_assign rfl isE0_nil, trivial⟩ hQQ398 fun b q p => ?_
  have hgq := hg.then p.grow
  have hsb := p.size.trans hs
  have hdb := p.defers.trans hd
  have j0 := p.ke 0 rfl i0
  have j1 := p.ke 1 rfl i1
  have j2 := p.ke 2 rfl i2
  have j7 : IsE0 (b.get 7) q := p.ou 0 7 rfl
  have y7 : Lo k0 (obF (b.get 7)) := j7.lo
  replace j7 : IsOwn 0 3 ([] : List Int) (b.get 7) q := j7.own0
  exact tail_done (k := q) (hp399 _ _ ⟨⟨hgq, hsb, hdb⟩, j0, j1, j2, j7, y7, trivial⟩)
 rintro a k ⟨⟨hg, hs, hd⟩, i0, i1, i2, i7, n7, _⟩
 refine cutS (fun a' k' => Bs noF k0 118 a' k' ∧ (IsV a_) (a'.get 0) k' ∧ (IsV b_) (a'.get 1) k' ∧ (IsV op_) (a'.get 2) k' ∧ IsOwn 0 3 ([] : List Int) (a'.get 7) k' ∧ Lo k0 (obF (a'.get 7)) ∧ (IsI 0) (a'.get 8) k' ∧ True) ?_ ?_
 ·intro Q396 hQQ396 hp397
  refine gS 1 (⟨some (IsI 0), []⟩ :: []) hs (by kernel_rfl) ⟨aI rfl rfl, trivial⟩ hQQ396 fun b q p => ?_
  exact tail_done (k := q) (hp397 _ _ ⟨Bs.post ⟨hg, hs, hd⟩ p, p.ke 0 rfl i0, p.ke 1 rfl i1, p.ke 2 rfl i2, p.ke 7 rfl i7, (by rw [p.old 7 rfl]; exact n7), p.ou 0 8 rfl, trivial⟩)
 rintro a k ⟨⟨hg, hs, hd⟩, i0, i1, i2, i7, n7, i8, _⟩
 refine cutS (fun a' k' => Bs noF k0 118 a' k' ∧ (IsV a_) (a'.get 0) k' ∧ (IsV b_) (a'.get 1) k' ∧ (IsV op_) (a'.get 2) k' ∧ IsOwn 0 3 ([] : List Int) (a'.get 7) k' ∧ Lo k0 (obF (a'.get 7)) ∧ (IsI 0) (a'.get 8) k' ∧ (IsI 0) (a'.get 9) k' ∧ True) ?_ ?_
 ·intro Q394 hQQ394 hp395
  refine gS 1 (⟨some (IsI 0), []⟩ :: []) hs (by kernel_rfl) ⟨aI rfl rfl, trivial⟩ hQQ394 fun b q p => ?_
  exact tail_done (k := q) (hp395 _ _ ⟨Bs.post ⟨hg, hs, hd⟩ p, p.ke 0 rfl i0, p.ke 1 rfl i1, p.ke 2 rfl i2, p.ke 7 rfl i7, (by rw [p.old 7 rfl]; exact n7), p.ke 8 rfl i8, p.ou 0 9 rfl, trivial⟩)
 rintro a k ⟨⟨hg, hs, hd⟩, i0, i1, i2, i7, n7, i8, i9, _⟩
 refine cutS (fun a' k' => Bs noF k0 118 a' k' ∧ (IsV a_) (a'.get 0) k' ∧ (IsV b_) (a'.get 1) k' ∧ (IsV op_) (a'.get 2) k' ∧ IsOwn 0 3 ([] : List Int) (a'.get 7) k' ∧ Lo k0 (obF (a'.get 7)) ∧ (IsI 0) (a'.get 8) k' ∧ (IsI 0) (a'.get 9) k' ∧ (IsV false) (a'.get 10) k' ∧ True) ?_ ?_
 ·intro Q392 hQQ392 hp393
  refine gS 1 (⟨some (IsV false), []⟩ :: []) hs (by kernel_rfl) ⟨ob1 rfl fun _ _ h n => ok_assign rfl (isV_bool.2 rfl), trivial⟩ hQQ392 fun b q p => ?_
  exact tail_done (k := q) (hp393 _ _ ⟨Bs.post ⟨hg, hs, hd⟩ p, p.ke 0 rfl i0, p.ke 1 rfl i1, p.ke 2 rfl i2, p.ke 7 rfl i7, (by rw [p.old 7 rfl]; exact n7), p.ke 8 rfl i8, p.ke 9 rfl i9, p.ou 0 10 rfl, trivial⟩)
 rintro a k ⟨⟨hg, hs, hd⟩, i0, i1, i2, i7, n7, i8, i9, i10, _⟩
 refine wp_seq ?_
 refine wp_block ?_
 obtain ⟨f385, hf385, hr⟩ := bind_some hr
 refine cutFe f385 (fun s' a' k' => Bs noF k0 118 a' k' ∧ (IsV a_) (a'.get 0) k' ∧ (IsV b_) (a'.get 1) k' ∧ (IsV op_) (a'.get 2) k' ∧ IsOwn 0 3 s'.1 (a'.get 7) k' ∧ Lo k0 (obF (a'.get 7)) ∧ (IsV s'.2.1) (a'.get 8) k' ∧ (IsV s'.2.2.1) (a'.get 9) k' ∧ (IsV s'.2.2.2) (a'.get 10) k' ∧ True) (fun i' s' a' k' => (i' = 0 ∧ Bs noF k0 118 a' k' ∧ (IsV s'.1) (a'.get 7) k' ∧ True)) (fun r' a' k' => bodyPost Try.prog Try.f68 (RetC noF k0 (IsV r')) .ret a' k'.w) ?_ hQ ?_ ?_ ?_
 ·intro Q391 hQQ391 hgo hex hret
  refine sim_loop ?_ _ _ _ _ _ hf385 ⟨⟨hg, hs, hd⟩, i0, i1, i2, i7, n7, i8, i9, i10, trivial⟩ Q391 hQQ391 hgo hex hret
  clear hr hf385 hgo hex hret hQQ391 hQ hg hs hd i0 i1 i10 i2 i7 i8 i9 n7
  intro s298 fl_ a k hr hS Q hQ hgo299 hex300 hret301
  obtain ⟨⟨hg, hs, hd⟩, i0, i1, i2, i7, n7, i8, i9, i10, _⟩ := hS
  unfold ref06_combine_L0 at hr
  refine wp_seq ?_
  refine cutS (fun a' k' => Bs noF k0 118 a' k' ∧ (IsV a_) (a'.get 0) k' ∧ (IsV b_) (a'.get 1) k' ∧ (IsV op_) (a'.get 2) k' ∧ IsOwn 0 3 s298.1 (a'.get 7) k' ∧ Lo k0 (obF (a'.get 7)) ∧ (IsV s298.2.1) (a'.get 8) k' ∧ (IsV s298.2.2.1) (a'.get 9) k' ∧ (IsV s298.2.2.2) (a'.get 10) k' ∧ (IsV ((decide (s298.2.1 < (a_.length : Int))) || (decide (s298.2.2.1 < (b_.length : Int))))) (a'.get 24) k' ∧ True) ?_ ?_
  ·intro Q383 hQQ383 hp384
   refine gS 10 (_ :: _ :: _ :: _ :: _ :: _ :: _ :: _ :: _ :: _ :: []) hs (by kernel_rfl) ⟨mu rfl i8, mu rfl i0, o1 [(16, some 1)] rfl fun _ _ h n => ok_len rfl rfl Try.underlying63 (IsV.rd n.1), o1 [(15, some 0), (17, some 2)] rfl fun _ _ h n => ok_lss rfl n.1 n.2.1, cm 3 rfl rfl, mF rfl rfl i9, mF rfl rfl i1, gF [(21, some 6)] rfl rfl fun hp _ _ h n => ok_len rfl rfl Try.underlying63 (IsV.rd (Gd.get n.1 hp)), gF [(20, some 5), (22, some 7)] rfl rfl fun hp _ _ h n => ok_lss rfl (Gd.get n.1 hp) (Gd.get n.2.1 hp), o1 [(19, some 4), (23, some 8)] rfl fun _ _ h n => ok_pickOr rfl n.1 (cB rfl) (Gd.get n.2.1), trivial⟩ hQQ383 fun b q p => ?_
   exact tail_done (k := q) (hp384 _ _ ⟨Bs.post ⟨hg, hs, hd⟩ p, p.ke 0 rfl i0, p.ke 1 rfl i1, p.ke 2 rfl i2, p.ke 7 rfl i7, (by rw [p.old 7 rfl]; exact n7), p.ke 8 rfl i8, p.ke 9 rfl i9, p.ke 10 rfl i10, p.ou 9 24 rfl, trivial⟩)
  rintro a k ⟨⟨hg, hs, hd⟩, i0, i1, i2, i7, n7, i8, i9, i10, i24, _⟩
  refine wp_cond_split (isBool i24) (fun hc382 => ?_) (fun hc382 => ?_)
  ·rw [if_pos hc382] at hr
   refine wp_skip ?_
   refine wp_block ?_
   refine cutS (fun a' k' => Bs noF k0 118 a' k' ∧ (IsV a_) (a'.get 0) k' ∧ (IsV b_) (a'.get 1) k' ∧ (IsV op_) (a'.get 2) k' ∧ IsOwn 0 3 s298.1 (a'.get 7) k' ∧ Lo k0 (obF (a'.get 7)) ∧ (IsV s298.2.1) (a'.get 8) k' ∧ (IsV s298.2.2.1) (a'.get 9) k' ∧ (IsV s298.2.2.2) (a'.get 10) k' ∧ True) ?_ ?_
   ·intro Q379 hQQ379 hp380
    refine gS 1 (⟨some (IsI 0), []⟩ :: []) hs (by kernel_rfl) ⟨aI rfl rfl, trivial⟩ hQQ379 fun b q p => ?_
    exact tail_done (k := q) (hp380 _ _ ⟨Bs.post ⟨hg, hs, hd⟩ p, p.ke 0 rfl i0, p.ke 1 rfl i1, p.ke 2 rfl i2, p.ke 7 rfl i7, (by rw [p.old 7 rfl]; exact n7), p.ke 8 rfl i8, p.ke 9 rfl i9, p.ke 10 rfl i10, trivial⟩)
   rintro a k ⟨⟨hg, hs, hd⟩, i0, i1, i2, i7, n7, i8, i9, i10, _⟩
   refine wp_seq ?_
   refine wp_seq ?_
   obtain ⟨x304_24, hx304_24, hr⟩ := bind_some hr
   obtain ⟨x304_23, hx304_23, hx304_24⟩ := ite_bind hx304_24
   obtain ⟨x304_12, hx304_12, hx304_23⟩ := ite_bindFP hx304_23
   obtain ⟨x304_18, hx304_18, hx304_23⟩ := ite_bindFP hx304_23
   obtain ⟨x304_20, hx304_20, hx304_23⟩ := ite_bindFP hx304_23
   refine cut (fun a' k' => Bs noF k0 118 a' k' ∧ (IsV a_) (a'.get 0) k' ∧ (IsV b_) (a'.get 1) k' ∧ (IsV op_) (a'.get 2) k' ∧ IsOwn 0 3 s298.1 (a'.get 7) k' ∧ Lo k0 (obF (a'.get 7)) ∧ (IsV s298.2.1) (a'.get 8) k' ∧ (IsV s298.2.2.1) (a'.get 9) k' ∧ (IsV s298.2.2.2) (a'.get 10) k' ∧ (IsV x304_24) (a'.get 49) k' ∧ True) ?_ hQ ?_
   ·intro Q377 hQQ377 hp378
    refine region (a0 := a) (k0 := k) (n := 118) (m := 25) (⟨some (IsV s298.2.1), [(8, none)]⟩ :: ⟨some (IsV a_), [(0, none)]⟩ :: ⟨some (IsL a_), [(26, some 1)]⟩ :: ⟨some (IsV (decide (s298.2.1 < (a_.length : Int)))), [(25, some 0), (27, some 2)]⟩ :: ⟨some (IsV (decide (s298.2.1 < (a_.length : Int)))), [(28, some 3)]⟩ :: ⟨some (Gd ((decide (s298.2.1 < (a_.length : Int))) = true) (IsV s298.2.2.1)), [(9, none)]⟩ :: ⟨some (Gd ((decide (s298.2.1 < (a_.length : Int))) = true) (IsV b_)), [(1, none)]⟩ :: ⟨some (Gd ((decide (s298.2.1 < (a_.length : Int))) = true) (IsL b_)), [(31, some 6)]⟩ :: ⟨some (Gd ((decide (s298.2.1 < (a_.length : Int))) = true) (IsV (decide ((b_.length : Int) ≤ s298.2.2.1)))), [(30, some 5), (32, some 7)]⟩ :: ⟨some (Gd ((decide (s298.2.1 < (a_.length : Int))) = true) (IsV (decide ((b_.length : Int) ≤ s298.2.2.1)))), [(33, some 8)]⟩ :: ⟨some (Gd (((decide (s298.2.1 < (a_.length : Int))) = true) ∧ (decide ((b_.length : Int) ≤ s298.2.2.1)) = false) (IsV a_)), [(0, none)]⟩ :: ⟨some (Gd (((decide (s298.2.1 < (a_.length : Int))) = true) ∧ (decide ((b_.length : Int) ≤ s298.2.2.1)) = false) (IsV s298.2.1)), [(8, none)]⟩ :: ⟨some (Gd (((decide (s298.2.1 < (a_.length : Int))) = true) ∧ (decide ((b_.length : Int) ≤ s298.2.2.1)) = false) (IsPtr x304_12)), [(35, some 10), (36, some 11)]⟩ :: ⟨some (Gd (((decide (s298.2.1 < (a_.length : Int))) = true) ∧ (decide ((b_.length : Int) ≤ s298.2.2.1)) = false) (IsV x304_12)), [(37, some 12)]⟩ :: ⟨some (Gd (((decide (s298.2.1 < (a_.length : Int))) = true) ∧ (decide ((b_.length : Int) ≤ s298.2.2.1)) = false) (IsV b_)), [(1, none)]⟩ :: ⟨some (Gd (((decide (s298.2.1 < (a_.length : Int))) = true) ∧ (decide ((b_.length : Int) ≤ s298.2.2.1)) = false) (IsV s298.2.2.1)), [(9, none)]⟩ :: ⟨some (Gd (((decide (s298.2.1 < (a_.length : Int))) = true) ∧ (decide ((b_.length : Int) ≤ s298.2.2.1)) = false) (IsV b_)), [(1, none)]⟩ :: ⟨some (Gd (((decide (s298.2.1 < (a_.length : Int))) = true) ∧ (decide ((b_.length : Int) ≤ s298.2.2.1)) = false) (IsL b_)), [(41, some 16)]⟩ :: ⟨some (Gd (((decide (s298.2.1 < (a_.length : Int))) = true) ∧ (decide ((b_.length : Int) ≤ s298.2.2.1)) = false) (IsV x304_18)), [(42, some 17)]⟩ :: ⟨some (Gd (((decide (s298.2.1 < (a_.length : Int))) = true) ∧ (decide ((b_.length : Int) ≤ s298.2.2.1)) = false) (IsI (min s298.2.2.1 x304_18))), [(40, some 15), (43, some 18)]⟩ :: ⟨some (Gd (((decide (s298.2.1 < (a_.length : Int))) = true) ∧ (decide ((b_.length : Int) ≤ s298.2.2.1)) = false) (IsPtr x304_20)), [(39, some 14), (44, some 19)]⟩ :: ⟨some (Gd (((decide (s298.2.1 < (a_.length : Int))) = true) ∧ (decide ((b_.length : Int) ≤ s298.2.2.1)) = false) (IsV x304_20)), [(45, some 20)]⟩ :: ⟨some (Gd (((decide (s298.2.1 < (a_.length : Int))) = true) ∧ (decide ((b_.length : Int) ≤ s298.2.2.1)) = false) (IsV (decide (x304_12 ≤ x304_20)))), [(38, some 13), (46, some 21)]⟩ :: ⟨some (Gd ((decide (s298.2.1 < (a_.length : Int))) = true) (IsV x304_23)), [(34, some 9), (47, some 22)]⟩ :: ⟨some (IsV x304_24), [(29, some 4), (48, some 23)]⟩ :: []) hmix hs (by kernel_rfl) ⟨ob1 rfl fun b q hk hn => ok_move rfl (up i8 hk hn.1), ob1 rfl fun b q hk hn => ok_move rfl (up i0 hk hn.1), ob1 rfl fun b q hk hn => ok_len rfl rfl Try.underlying63 (IsV.rd hn.1), ob1 rfl fun b q hk hn => ok_lss rfl hn.1 hn.2.1, ob1 rfl fun b q hk hn => ok_move rfl hn.1, gdT rfl rfl fun hp b q hk hn => ok_move rfl (up i9 hk hn.1), gdT rfl rfl fun hp b q hk hn => ok_move rfl (up i1 hk hn.1), gdT rfl rfl fun hp b q hk hn => ok_len rfl rfl Try.underlying63 (IsV.rd (Gd.get hn.1 hp)), gdT rfl rfl fun hp b q hk hn => ok_geq rfl (Gd.get hn.1 hp) (Gd.get hn.2.1 hp), gdT rfl rfl fun hp b q hk hn => ok_move rfl (Gd.get hn.1 hp), gdTF rfl rfl fun hp b q hk hn => ok_move rfl (up i0 hk hn.1), gdTF rfl rfl fun hp b q hk hn => ok_move rfl (up i8 hk hn.1), gdTF rfl rfl fun hp b q hk hn => ok_indexAddr rfl Try.underlying63 ty3 (IsV.rd (Gd.get hn.1 hp)) (Gd.get hn.2.1 hp) (hx304_12 hp), gdTF rfl rfl fun hp b q hk hn => ok_load rfl ty3 (Gd.get hn.1 hp), gdTF rfl rfl fun hp b q hk hn => ok_move rfl (up i1 hk hn.1), gdTF rfl rfl fun hp b q hk hn => ok_move rfl (up i9 hk hn.1), gdTF rfl rfl fun hp b q hk hn => ok_move rfl (up i1 hk hn.1), gdTF rfl rfl fun hp b q hk hn => ok_len rfl rfl Try.underlying63 (IsV.rd (Gd.get hn.1 hp)), gdTF rfl rfl fun hp b q hk hn => ok_sub rfl (Gd.get hn.1 hp) (isV_int.2 rfl) (hx304_18 hp), gdTF rfl rfl fun hp b q hk hn => ok_min2 rfl (Gd.get hn.1 hp) (Gd.get hn.2.1 hp), gdTF rfl rfl fun hp b q hk hn => ok_indexAddr rfl Try.underlying63 ty3 (IsV.rd (Gd.get hn.1 hp)) (Gd.get hn.2.1 hp) (hx304_20 hp), gdTF rfl rfl fun hp b q hk hn => ok_load rfl ty3 (Gd.get hn.1 hp), gdTF rfl rfl fun hp b q hk hn => ok_leq rfl (Gd.get hn.1 hp) (Gd.get hn.2.1 hp), gdT rfl rfl fun hp b q hk hn => ok_pickM rfl (Gd.get hn.1 hp) (hx304_23 hp) (fun _ => (isV_bool.2 rfl)) (fun hm => (Gd.get hn.2.1 ⟨hp, hm⟩)), ob1 rfl fun b q hk hn => ok_pickM rfl hn.1 hx304_24 (fun hm => (Gd.get hn.2.1 hm)) (fun _ => (isV_bool.2 rfl)), trivial⟩ hQQ377 fun b q p => ?_
    exact tail_done (k := q) (hp378 _ _ ⟨Bs.post ⟨hg, hs, hd⟩ p, p.ke 0 rfl i0, p.ke 1 rfl i1, p.ke 2 rfl i2, p.ke 7 rfl i7, (by rw [p.old 7 rfl]; exact n7), p.ke 8 rfl i8, p.ke 9 rfl i9, p.ke 10 rfl i10, p.ou 24 49 rfl, trivial⟩)
   rintro a k ⟨⟨hg, hs, hd⟩, i0, i1, i2, i7, n7, i8, i9, i10, i49, _⟩
   obtain ⟨s305, hs305, hr⟩ := bind_some hr
   refine cut (fun a' k' => Bs noF k0 118 a' k' ∧ (IsV a_) (a'.get 0) k' ∧ (IsV b_) (a'.get 1) k' ∧ (IsV op_) (a'.get 2) k' ∧ IsOwn 0 3 s298.1 (a'.get 7) k' ∧ Lo k0 (obF (a'.get 7)) ∧ (IsV s298.2.1) (a'.get 8) k' ∧ (IsV s298.2.2.1) (a'.get 9) k' ∧ (IsV s298.2.2.2) (a'.get 10) k' ∧ (IsV s305) (a'.get 11) k' ∧ True) ?_ hQ ?_
   ·intro Q376 hQQ376 hp306
    replace hr := hs305
    clear hQ
    have hQ := hQQ376
    refine wp_cond_split (isBool i49) (fun hc313 => ?_) (fun hc313 => ?_)
    ·rw [if_pos hc313] at hr
     obtain ⟨x307_2, hx307_2, hr⟩ := bind_some hr
     refine cut (fun a' k' => Bs noF k0 118 a' k' ∧ (IsV a_) (a'.get 0) k' ∧ (IsV b_) (a'.get 1) k' ∧ (IsV op_) (a'.get 2) k' ∧ IsOwn 0 3 s298.1 (a'.get 7) k' ∧ Lo k0 (obF (a'.get 7)) ∧ (IsV s298.2.1) (a'.get 8) k' ∧ (IsV s298.2.2.1) (a'.get 9) k' ∧ (IsV s298.2.2.2) (a'.get 10) k' ∧ (IsV x307_2) (a'.get 11) k' ∧ True) ?_ hQ ?_
     ·intro Q308 hQQ308 hp309
      refine gS 5 (_ :: _ :: _ :: _ :: _ :: []) hs (by kernel_rfl) ⟨mu rfl i0, mu rfl i8, o1 [(50, some 0), (51, some 1)] rfl fun _ _ h n => ok_indexAddr rfl Try.underlying63 ty3 (IsV.rd n.1) n.2.1 hx307_2, o1 [(52, some 2)] rfl fun _ _ h n => ok_load rfl ty3 n.1, cp 3 rfl rfl, trivial⟩ hQQ308 fun b q p => ?_
      exact tail_done (k := q) (hp309 _ _ ⟨Bs.post ⟨hg, hs, hd⟩ p, p.ke 0 rfl i0, p.ke 1 rfl i1, p.ke 2 rfl i2, p.ke 7 rfl i7, (by rw [p.old 7 rfl]; exact n7), p.ke 8 rfl i8, p.ke 9 rfl i9, p.ke 10 rfl i10, p.ou 4 11 rfl, trivial⟩)
     rintro a k ⟨⟨hg, hs, hd⟩, i0, i1, i2, i7, n7, i8, i9, i10, i11, _⟩
     obtain rfl := Option.some.inj hr
     exact hp306 _ _ ⟨⟨hg, hs, hd⟩, i0, i1, i2, i7, n7, i8, i9, i10, i11, trivial⟩
    rw [if_neg (by rw [hc313]; decide)] at hr
    obtain ⟨x310_2, hx310_2, hr⟩ := bind_some hr
    refine cut (fun a' k' => Bs noF k0 118 a' k' ∧ (IsV a_) (a'.get 0) k' ∧ (IsV b_) (a'.get 1) k' ∧ (IsV op_) (a'.get 2) k' ∧ IsOwn 0 3 s298.1 (a'.get 7) k' ∧ Lo k0 (obF (a'.get 7)) ∧ (IsV s298.2.1) (a'.get 8) k' ∧ (IsV s298.2.2.1) (a'.get 9) k' ∧ (IsV s298.2.2.2) (a'.get 10) k' ∧ (IsV x310_2) (a'.get 11) k' ∧ True) ?_ hQ ?_
    ·intro Q311 hQQ311 hp312
     refine gS 5 (_ :: _ :: _ :: _ :: _ :: []) hs (by kernel_rfl) ⟨mu rfl i1, mu rfl i9, o1 [(54, some 0), (55, some 1)] rfl fun _ _ h n => ok_indexAddr rfl Try.underlying63 ty3 (IsV.rd n.1) n.2.1 hx310_2, o1 [(56, some 2)] rfl fun _ _ h n => ok_load rfl ty3 n.1, cp 3 rfl rfl, trivial⟩ hQQ311 fun b q p => ?_
     exact tail_done (k := q) (hp312 _ _ ⟨Bs.post ⟨hg, hs, hd⟩ p, p.ke 0 rfl i0, p.ke 1 rfl i1, p.ke 2 rfl i2, p.ke 7 rfl i7, (by rw [p.old 7 rfl]; exact n7), p.ke 8 rfl i8, p.ke 9 rfl i9, p.ke 10 rfl i10, p.ou 4 11 rfl, trivial⟩)
    rintro a k ⟨⟨hg, hs, hd⟩, i0, i1, i2, i7, n7, i8, i9, i10, i11, _⟩
    obtain rfl := Option.some.inj hr
    exact hp306 _ _ ⟨⟨hg, hs, hd⟩, i0, i1, i2, i7, n7, i8, i9, i10, i11, trivial⟩
   clear hs305
   rintro a k ⟨⟨hg, hs, hd⟩, i0, i1, i2, i7, n7, i8, i9, i10, i11, _⟩
   refine wp_seq ?_
   refine wp_seq ?_
   obtain ⟨x314_11, hx314_11, hr⟩ := bind_some hr
   obtain ⟨x314_7, hx314_7, hx314_11⟩ := ite_bind hx314_11
   refine cut (fun a' k' => Bs noF k0 118 a' k' ∧ (IsV a_) (a'.get 0) k' ∧ (IsV b_) (a'.get 1) k' ∧ (IsV op_) (a'.get 2) k' ∧ IsOwn 0 3 s298.1 (a'.get 7) k' ∧ Lo k0 (obF (a'.get 7)) ∧ (IsV s298.2.1) (a'.get 8) k' ∧ (IsV s298.2.2.1) (a'.get 9) k' ∧ (IsV s298.2.2.2) (a'.get 10) k' ∧ (IsV s305) (a'.get 11) k' ∧ (IsV x314_11) (a'.get 69) k' ∧ True) ?_ hQ ?_
   ·intro Q374 hQQ374 hp375
    refine gS 12 (_ :: _ :: _ :: _ :: _ :: _ :: _ :: _ :: _ :: _ :: _ :: _ :: []) hs (by kernel_rfl) ⟨mu rfl i8, mu rfl i0, o1 [(59, some 1)] rfl fun _ _ h n => ok_len rfl rfl Try.underlying63 (IsV.rd n.1), o1 [(58, some 0), (60, some 2)] rfl fun _ _ h n => ok_lss rfl n.1 n.2.1, cm 3 rfl rfl, mT rfl rfl i0, mT rfl rfl i8, gT [(63, some 5), (64, some 6)] rfl rfl fun hp _ _ h n => ok_indexAddr rfl Try.underlying63 ty3 (IsV.rd (Gd.get n.1 hp)) (Gd.get n.2.1 hp) (hx314_7 hp), gT [(65, some 7)] rfl rfl fun hp _ _ h n => ok_load rfl ty3 (Gd.get n.1 hp), mT rfl rfl i11, gT [(66, some 8), (67, some 9)] rfl rfl fun hp _ _ h n => ok_eqI rfl (Gd.get n.1 hp) (Gd.get n.2.1 hp), o1 [(62, some 4), (68, some 10)] rfl fun _ _ h n => ok_pickM rfl n.1 hx314_11 (Gd.get n.2.1) (cB rfl), trivial⟩ hQQ374 fun b q p => ?_
    exact tail_done (k := q) (hp375 _ _ ⟨Bs.post ⟨hg, hs, hd⟩ p, p.ke 0 rfl i0, p.ke 1 rfl i1, p.ke 2 rfl i2, p.ke 7 rfl i7, (by rw [p.old 7 rfl]; exact n7), p.ke 8 rfl i8, p.ke 9 rfl i9, p.ke 10 rfl i10, p.ke 11 rfl i11, p.ou 11 69 rfl, trivial⟩)
   rintro a k ⟨⟨hg, hs, hd⟩, i0, i1, i2, i7, n7, i8, i9, i10, i11, i69, _⟩
   obtain ⟨s315, hs315, hr⟩ := bind_some hr
   refine cut (fun a' k' => Bs noF k0 118 a' k' ∧ (IsV a_) (a'.get 0) k' ∧ (IsV b_) (a'.get 1) k' ∧ (IsV op_) (a'.get 2) k' ∧ IsOwn 0 3 s298.1 (a'.get 7) k' ∧ Lo k0 (obF (a'.get 7)) ∧ (IsV s315) (a'.get 8) k' ∧ (IsV s298.2.2.1) (a'.get 9) k' ∧ (IsV s298.2.2.2) (a'.get 10) k' ∧ (IsV s305) (a'.get 11) k' ∧ True) ?_ hQ ?_
   ·intro Q373 hQQ373 hp316
    replace hr := hs315
    clear hQ
    have hQ := hQQ373
    refine wp_cond_split (isBool i69) (fun hc320 => ?_) (fun hc320 => ?_)
    ·rw [if_pos hc320] at hr
     obtain ⟨x317_1, hx317_1, hr⟩ := bind_some hr
     refine cut (fun a' k' => Bs noF k0 118 a' k' ∧ (IsV a_) (a'.get 0) k' ∧ (IsV b_) (a'.get 1) k' ∧ (IsV op_) (a'.get 2) k' ∧ IsOwn 0 3 s298.1 (a'.get 7) k' ∧ Lo k0 (obF (a'.get 7)) ∧ (IsV x317_1) (a'.get 8) k' ∧ (IsV s298.2.2.1) (a'.get 9) k' ∧ (IsV s298.2.2.2) (a'.get 10) k' ∧ (IsV s305) (a'.get 11) k' ∧ True) ?_ hQ ?_
     ·intro Q318 hQQ318 hp319
      refine gS 3 (_ :: _ :: _ :: []) hs (by kernel_rfl) ⟨mu rfl i8, o1 [(70, some 0)] rfl fun _ _ h n => ok_add rfl n.1 (cI rfl) hx317_1, cp 1 rfl rfl, trivial⟩ hQQ318 fun b q p => ?_
      exact tail_done (k := q) (hp319 _ _ ⟨Bs.post ⟨hg, hs, hd⟩ p, p.ke 0 rfl i0, p.ke 1 rfl i1, p.ke 2 rfl i2, p.ke 7 rfl i7, (by rw [p.old 7 rfl]; exact n7), p.ou 2 8 rfl, p.ke 9 rfl i9, p.ke 10 rfl i10, p.ke 11 rfl i11, trivial⟩)
     rintro a k ⟨⟨hg, hs, hd⟩, i0, i1, i2, i7, n7, i8, i9, i10, i11, _⟩
     obtain rfl := Option.some.inj hr
     exact hp316 _ _ ⟨⟨hg, hs, hd⟩, i0, i1, i2, i7, n7, i8, i9, i10, i11, trivial⟩
    rw [if_neg (by rw [hc320]; decide)] at hr
    refine wp_skip ?_
    obtain rfl := Option.some.inj hr
    exact hp316 _ _ ⟨⟨hg, hs, hd⟩, i0, i1, i2, i7, n7, i8, i9, i10, i11, trivial⟩
   clear hs315
   rintro a k ⟨⟨hg, hs, hd⟩, i0, i1, i2, i7, n7, i8, i9, i10, i11, _⟩
   refine wp_seq ?_
   refine wp_seq ?_
   obtain ⟨x321_11, hx321_11, hr⟩ := bind_some hr
   obtain ⟨x321_7, hx321_7, hx321_11⟩ := ite_bind hx321_11
   refine cut (fun a' k' => Bs noF k0 118 a' k' ∧ (IsV a_) (a'.get 0) k' ∧ (IsV b_) (a'.get 1) k' ∧ (IsV op_) (a'.get 2) k' ∧ IsOwn 0 3 s298.1 (a'.get 7) k' ∧ Lo k0 (obF (a'.get 7)) ∧ (IsV s315) (a'.get 8) k' ∧ (IsV s298.2.2.1) (a'.get 9) k' ∧ (IsV s298.2.2.2) (a'.get 10) k' ∧ (IsV s305) (a'.get 11) k' ∧ (IsV x321_11) (a'.get 83) k' ∧ True) ?_ hQ ?_
   ·intro Q371 hQQ371 hp372
    refine gS 12 (_ :: _ :: _ :: _ :: _ :: _ :: _ :: _ :: _ :: _ :: _ :: _ :: []) hs (by kernel_rfl) ⟨mu rfl i9, mu rfl i1, o1 [(73, some 1)] rfl fun _ _ h n => ok_len rfl rfl Try.underlying63 (IsV.rd n.1), o1 [(72, some 0), (74, some 2)] rfl fun _ _ h n => ok_lss rfl n.1 n.2.1, cm 3 rfl rfl, mT rfl rfl i1, mT rfl rfl i9, gT [(77, some 5), (78, some 6)] rfl rfl fun hp _ _ h n => ok_indexAddr rfl Try.underlying63 ty3 (IsV.rd (Gd.get n.1 hp)) (Gd.get n.2.1 hp) (hx321_7 hp), gT [(79, some 7)] rfl rfl fun hp _ _ h n => ok_load rfl ty3 (Gd.get n.1 hp), mT rfl rfl i11, gT [(80, some 8), (81, some 9)] rfl rfl fun hp _ _ h n => ok_eqI rfl (Gd.get n.1 hp) (Gd.get n.2.1 hp), o1 [(76, some 4), (82, some 10)] rfl fun _ _ h n => ok_pickM rfl n.1 hx321_11 (Gd.get n.2.1) (cB rfl), trivial⟩ hQQ371 fun b q p => ?_
    exact tail_done (k := q) (hp372 _ _ ⟨Bs.post ⟨hg, hs, hd⟩ p, p.ke 0 rfl i0, p.ke 1 rfl i1, p.ke 2 rfl i2, p.ke 7 rfl i7, (by rw [p.old 7 rfl]; exact n7), p.ke 8 rfl i8, p.ke 9 rfl i9, p.ke 10 rfl i10, p.ke 11 rfl i11, p.ou 11 83 rfl, trivial⟩)
   rintro a k ⟨⟨hg, hs, hd⟩, i0, i1, i2, i7, n7, i8, i9, i10, i11, i83, _⟩
   obtain ⟨s322, hs322, hr⟩ := bind_some hr
   refine cut (fun a' k' => Bs noF k0 118 a' k' ∧ (IsV a_) (a'.get 0) k' ∧ (IsV b_) (a'.get 1) k' ∧ (IsV op_) (a'.get 2) k' ∧ IsOwn 0 3 s298.1 (a'.get 7) k' ∧ Lo k0 (obF (a'.get 7)) ∧ (IsV s315) (a'.get 8) k' ∧ (IsV s322) (a'.get 9) k' ∧ (IsV s298.2.2.2) (a'.get 10) k' ∧ (IsV s305) (a'.get 11) k' ∧ True) ?_ hQ ?_
   ·intro Q370 hQQ370 hp323
    replace hr := hs322
    clear hQ
    have hQ := hQQ370
    refine wp_cond_split (isBool i83) (fun hc327 => ?_) (fun hc327 => ?_)
    ·rw [if_pos hc327] at hr
     obtain ⟨x324_1, hx324_1, hr⟩ := bind_some hr
     refine cut (fun a' k' => Bs noF k0 118 a' k' ∧ (IsV a_) (a'.get 0) k' ∧ (IsV b_) (a'.get 1) k' ∧ (IsV op_) (a'.get 2) k' ∧ IsOwn 0 3 s298.1 (a'.get 7) k' ∧ Lo k0 (obF (a'.get 7)) ∧ (IsV s315) (a'.get 8) k' ∧ (IsV x324_1) (a'.get 9) k' ∧ (IsV s298.2.2.2) (a'.get 10) k' ∧ (IsV s305) (a'.get 11) k' ∧ True) ?_ hQ ?_
     ·intro Q325 hQQ325 hp326
      refine gS 3 (_ :: _ :: _ :: []) hs (by kernel_rfl) ⟨mu rfl i9, o1 [(84, some 0)] rfl fun _ _ h n => ok_add rfl n.1 (cI rfl) hx324_1, cp 1 rfl rfl, trivial⟩ hQQ325 fun b q p => ?_
      exact tail_done (k := q) (hp326 _ _ ⟨Bs.post ⟨hg, hs, hd⟩ p, p.ke 0 rfl i0, p.ke 1 rfl i1, p.ke 2 rfl i2, p.ke 7 rfl i7, (by rw [p.old 7 rfl]; exact n7), p.ke 8 rfl i8, p.ou 2 9 rfl, p.ke 10 rfl i10, p.ke 11 rfl i11, trivial⟩)
     rintro a k ⟨⟨hg, hs, hd⟩, i0, i1, i2, i7, n7, i8, i9, i10, i11, _⟩
     obtain rfl := Option.some.inj hr
     exact hp323 _ _ ⟨⟨hg, hs, hd⟩, i0, i1, i2, i7, n7, i8, i9, i10, i11, trivial⟩
    rw [if_neg (by rw [hc327]; decide)] at hr
    refine wp_skip ?_
    obtain rfl := Option.some.inj hr
    exact hp323 _ _ ⟨⟨hg, hs, hd⟩, i0, i1, i2, i7, n7, i8, i9, i10, i11, trivial⟩
   clear hs322
   rintro a k ⟨⟨hg, hs, hd⟩, i0, i1, i2, i7, n7, i8, i9, i10, i11, _⟩
   refine wp_seq ?_
   obtain ⟨x328_1, hx328_1, hr⟩ := bind_some hr
   refine cut (fun a' k' => Bs noF k0 118 a' k' ∧ (IsV a_) (a'.get 0) k' ∧ (IsV b_) (a'.get 1) k' ∧ (IsV op_) (a'.get 2) k' ∧ IsOwn 0 3 s298.1 (a'.get 7) k' ∧ Lo k0 (obF (a'.get 7)) ∧ (IsV s315) (a'.get 8) k' ∧ (IsV s322) (a'.get 9) k' ∧ (IsV s298.2.2.2) (a'.get 10) k' ∧ (IsV s305) (a'.get 11) k' ∧ (IsV (x328_1 == 1)) (a'.get 12) k' ∧ True) ?_ hQ ?_
   ·intro Q368 hQQ368 hp369
    refine gS 4 (_ :: _ :: _ :: _ :: []) hs (by kernel_rfl) ⟨mu rfl i8, o1 [(86, some 0)] rfl fun _ _ h n => ok_rem rfl n.1 (cI rfl) hx328_1, o1 [(87, some 1)] rfl fun _ _ h n => ok_eqI rfl n.1 (cI rfl), cp 2 rfl rfl, trivial⟩ hQQ368 fun b q p => ?_
    exact tail_done (k := q) (hp369 _ _ ⟨Bs.post ⟨hg, hs, hd⟩ p, p.ke 0 rfl i0, p.ke 1 rfl i1, p.ke 2 rfl i2, p.ke 7 rfl i7, (by rw [p.old 7 rfl]; exact n7), p.ke 8 rfl i8, p.ke 9 rfl i9, p.ke 10 rfl i10, p.ke 11 rfl i11, p.ou 3 12 rfl, trivial⟩)
   rintro a k ⟨⟨hg, hs, hd⟩, i0, i1, i2, i7, n7, i8, i9, i10, i11, i12, _⟩
   refine wp_seq ?_
   obtain ⟨x329_1, hx329_1, hr⟩ := bind_some hr
   refine cut (fun a' k' => Bs noF k0 118 a' k' ∧ (IsV a_) (a'.get 0) k' ∧ (IsV b_) (a'.get 1) k' ∧ (IsV op_) (a'.get 2) k' ∧ IsOwn 0 3 s298.1 (a'.get 7) k' ∧ Lo k0 (obF (a'.get 7)) ∧ (IsV s315) (a'.get 8) k' ∧ (IsV s322) (a'.get 9) k' ∧ (IsV s298.2.2.2) (a'.get 10) k' ∧ (IsV s305) (a'.get 11) k' ∧ (IsV (x328_1 == 1)) (a'.get 12) k' ∧ (IsV (x329_1 == 1)) (a'.get 13) k' ∧ True) ?_ hQ ?_
   ·intro Q366 hQQ366 hp367
    refine gS 4 (_ :: _ :: _ :: _ :: []) hs (by kernel_rfl) ⟨mu rfl i9, o1 [(89, some 0)] rfl fun _ _ h n => ok_rem rfl n.1 (cI rfl) hx329_1, o1 [(90, some 1)] rfl fun _ _ h n => ok_eqI rfl n.1 (cI rfl), cp 2 rfl rfl, trivial⟩ hQQ366 fun b q p => ?_
    exact tail_done (k := q) (hp367 _ _ ⟨Bs.post ⟨hg, hs, hd⟩ p, p.ke 0 rfl i0, p.ke 1 rfl i1, p.ke 2 rfl i2, p.ke 7 rfl i7, (by rw [p.old 7 rfl]; exact n7), p.ke 8 rfl i8, p.ke 9 rfl i9, p.ke 10 rfl i10, p.ke 11 rfl i11, p.ke 12 rfl i12, p.ou 3 13 rfl, trivial⟩)
   rintro a k ⟨⟨hg, hs, hd⟩, i0, i1, i2, i7, n7, i8, i9, i10, i11, i12, i13, _⟩
   refine cutS (fun a' k' => Bs noF k0 118 a' k' ∧ (IsV a_) (a'.get 0) k' ∧ (IsV b_) (a'.get 1) k' ∧ (IsV op_) (a'.get 2) k' ∧ IsOwn 0 3 s298.1 (a'.get 7) k' ∧ Lo k0 (obF (a'.get 7)) ∧ (IsV s315) (a'.get 8) k' ∧ (IsV s322) (a'.get 9) k' ∧ (IsV s298.2.2.2) (a'.get 10) k' ∧ (IsV s305) (a'.get 11) k' ∧ (IsV (x328_1 == 1)) (a'.get 12) k' ∧ (IsV (x329_1 == 1)) (a'.get 13) k' ∧ (IsV ((x328_1 == 1) || (x329_1 == 1))) (a'.get 14) k' ∧ True) ?_ ?_
   ·intro Q364 hQQ364 hp365
    refine gS 5 (_ :: _ :: _ :: _ :: _ :: []) hs (by kernel_rfl) ⟨mu rfl i12, cm 0 rfl rfl, mF rfl rfl i13, o1 [(93, some 1), (94, some 2)] rfl fun _ _ h n => ok_pickOr rfl n.1 (cB rfl) (Gd.get n.2.1), cp 3 rfl rfl, trivial⟩ hQQ364 fun b q p => ?_
    exact tail_done (k := q) (hp365 _ _ ⟨Bs.post ⟨hg, hs, hd⟩ p, p.ke 0 rfl i0, p.ke 1 rfl i1, p.ke 2 rfl i2, p.ke 7 rfl i7, (by rw [p.old 7 rfl]; exact n7), p.ke 8 rfl i8, p.ke 9 rfl i9, p.ke 10 rfl i10, p.ke 11 rfl i11, p.ke 12 rfl i12, p.ke 13 rfl i13, p.ou 4 14 rfl, trivial⟩)
   rintro a k ⟨⟨hg, hs, hd⟩, i0, i1, i2, i7, n7, i8, i9, i10, i11, i12, i13, i14, _⟩
   refine wp_seq ?_
   refine cutS (fun a' k' => Bs noF k0 118 a' k' ∧ (IsV a_) (a'.get 0) k' ∧ (IsV b_) (a'.get 1) k' ∧ (IsV op_) (a'.get 2) k' ∧ IsOwn 0 3 s298.1 (a'.get 7) k' ∧ Lo k0 (obF (a'.get 7)) ∧ (IsV s315) (a'.get 8) k' ∧ (IsV s322) (a'.get 9) k' ∧ (IsV s298.2.2.2) (a'.get 10) k' ∧ (IsV s305) (a'.get 11) k' ∧ (IsV (x328_1 == 1)) (a'.get 12) k' ∧ (IsV (x329_1 == 1)) (a'.get 13) k' ∧ (IsV ((x328_1 == 1) || (x329_1 == 1))) (a'.get 14) k' ∧ (IsV (op_ == 1)) (a'.get 97) k' ∧ True) ?_ ?_
   ·intro Q362 hQQ362 hp363
    refine gS 2 (_ :: _ :: []) hs (by kernel_rfl) ⟨mu rfl i2, o1 [(96, some 0)] rfl fun _ _ h n => ok_eqI rfl n.1 (cI rfl), trivial⟩ hQQ362 fun b q p => ?_
    exact tail_done (k := q) (hp363 _ _ ⟨Bs.post ⟨hg, hs, hd⟩ p, p.ke 0 rfl i0, p.ke 1 rfl i1, p.ke 2 rfl i2, p.ke 7 rfl i7, (by rw [p.old 7 rfl]; exact n7), p.ke 8 rfl i8, p.ke 9 rfl i9, p.ke 10 rfl i10, p.ke 11 rfl i11, p.ke 12 rfl i12, p.ke 13 rfl i13, p.ke 14 rfl i14, p.ou 1 97 rfl, trivial⟩)
   rintro a k ⟨⟨hg, hs, hd⟩, i0, i1, i2, i7, n7, i8, i9, i10, i11, i12, i13, i14, i97, _⟩
   obtain ⟨s332, hs332, hr⟩ := bind_some hr
   refine cut (fun a' k' => Bs noF k0 118 a' k' ∧ (IsV a_) (a'.get 0) k' ∧ (IsV b_) (a'.get 1) k' ∧ (IsV op_) (a'.get 2) k' ∧ IsOwn 0 3 s298.1 (a'.get 7) k' ∧ Lo k0 (obF (a'.get 7)) ∧ (IsV s315) (a'.get 8) k' ∧ (IsV s322) (a'.get 9) k' ∧ (IsV s298.2.2.2) (a'.get 10) k' ∧ (IsV s305) (a'.get 11) k' ∧ (IsV (x328_1 == 1)) (a'.get 12) k' ∧ (IsV (x329_1 == 1)) (a'.get 13) k' ∧ (IsV s332) (a'.get 14) k' ∧ True) ?_ hQ ?_
   ·intro Q361 hQQ361 hp333
    replace hr := hs332
    clear hQ
    have hQ := hQQ361
    refine wp_cond_split (isBool i97) (fun hc337 => ?_) (fun hc337 => ?_)
    ·rw [if_pos hc337] at hr
     refine cut (fun a' k' => Bs noF k0 118 a' k' ∧ (IsV a_) (a'.get 0) k' ∧ (IsV b_) (a'.get 1) k' ∧ (IsV op_) (a'.get 2) k' ∧ IsOwn 0 3 s298.1 (a'.get 7) k' ∧ Lo k0 (obF (a'.get 7)) ∧ (IsV s315) (a'.get 8) k' ∧ (IsV s322) (a'.get 9) k' ∧ (IsV s298.2.2.2) (a'.get 10) k' ∧ (IsV s305) (a'.get 11) k' ∧ (IsV (x328_1 == 1)) (a'.get 12) k' ∧ (IsV (x329_1 == 1)) (a'.get 13) k' ∧ (IsV ((x328_1 == 1) && (x329_1 == 1))) (a'.get 14) k' ∧ True) ?_ hQ ?_
     ·intro Q335 hQQ335 hp336
      refine gS 5 (_ :: _ :: _ :: _ :: _ :: []) hs (by kernel_rfl) ⟨mu rfl i12, cm 0 rfl rfl, mT rfl rfl i13, o1 [(99, some 1), (100, some 2)] rfl fun _ _ h n => ok_pickAnd rfl n.1 (Gd.get n.2.1) (cB rfl), cp 3 rfl rfl, trivial⟩ hQQ335 fun b q p => ?_
      exact tail_done (k := q) (hp336 _ _ ⟨Bs.post ⟨hg, hs, hd⟩ p, p.ke 0 rfl i0, p.ke 1 rfl i1, p.ke 2 rfl i2, p.ke 7 rfl i7, (by rw [p.old 7 rfl]; exact n7), p.ke 8 rfl i8, p.ke 9 rfl i9, p.ke 10 rfl i10, p.ke 11 rfl i11, p.ke 12 rfl i12, p.ke 13 rfl i13, p.ou 4 14 rfl, trivial⟩)
     rintro a k ⟨⟨hg, hs, hd⟩, i0, i1, i2, i7, n7, i8, i9, i10, i11, i12, i13, i14, _⟩
     obtain rfl := Option.some.inj hr
     exact hp333 _ _ ⟨⟨hg, hs, hd⟩, i0, i1, i2, i7, n7, i8, i9, i10, i11, i12, i13, i14, trivial⟩
    rw [if_neg (by rw [hc337]; decide)] at hr
    refine wp_skip ?_
    obtain rfl := Option.some.inj hr
    exact hp333 _ _ ⟨⟨hg, hs, hd⟩, i0, i1, i2, i7, n7, i8, i9, i10, i11, i12, i13, i14, trivial⟩
   clear hs332
   rintro a k ⟨⟨hg, hs, hd⟩, i0, i1, i2, i7, n7, i8, i9, i10, i11, i12, i13, i14, _⟩
   refine wp_seq ?_
   refine cutS (fun a' k' => Bs noF k0 118 a' k' ∧ (IsV a_) (a'.get 0) k' ∧ (IsV b_) (a'.get 1) k' ∧ (IsV op_) (a'.get 2) k' ∧ IsOwn 0 3 s298.1 (a'.get 7) k' ∧ Lo k0 (obF (a'.get 7)) ∧ (IsV s315) (a'.get 8) k' ∧ (IsV s322) (a'.get 9) k' ∧ (IsV s298.2.2.2) (a'.get 10) k' ∧ (IsV s305) (a'.get 11) k' ∧ (IsV (x328_1 == 1)) (a'.get 12) k' ∧ (IsV (x329_1 == 1)) (a'.get 13) k' ∧ (IsV s332) (a'.get 14) k' ∧ (IsV (op_ == 2)) (a'.get 103) k' ∧ True) ?_ ?_
   ·intro Q359 hQQ359 hp360
    refine gS 2 (_ :: _ :: []) hs (by kernel_rfl) ⟨mu rfl i2, o1 [(102, some 0)] rfl fun _ _ h n => ok_eqI rfl n.1 (cI rfl), trivial⟩ hQQ359 fun b q p => ?_
    exact tail_done (k := q) (hp360 _ _ ⟨Bs.post ⟨hg, hs, hd⟩ p, p.ke 0 rfl i0, p.ke 1 rfl i1, p.ke 2 rfl i2, p.ke 7 rfl i7, (by rw [p.old 7 rfl]; exact n7), p.ke 8 rfl i8, p.ke 9 rfl i9, p.ke 10 rfl i10, p.ke 11 rfl i11, p.ke 12 rfl i12, p.ke 13 rfl i13, p.ke 14 rfl i14, p.ou 1 103 rfl, trivial⟩)
   rintro a k ⟨⟨hg, hs, hd⟩, i0, i1, i2, i7, n7, i8, i9, i10, i11, i12, i13, i14, i103, _⟩
   obtain ⟨s339, hs339, hr⟩ := bind_some hr
   refine cut (fun a' k' => Bs noF k0 118 a' k' ∧ (IsV a_) (a'.get 0) k' ∧ (IsV b_) (a'.get 1) k' ∧ (IsV op_) (a'.get 2) k' ∧ IsOwn 0 3 s298.1 (a'.get 7) k' ∧ Lo k0 (obF (a'.get 7)) ∧ (IsV s315) (a'.get 8) k' ∧ (IsV s322) (a'.get 9) k' ∧ (IsV s298.2.2.2) (a'.get 10) k' ∧ (IsV s305) (a'.get 11) k' ∧ (IsV s339) (a'.get 14) k' ∧ True) ?_ hQ ?_
   ·intro Q358 hQQ358 hp340
    replace hr := hs339
    clear hQ
    have hQ := hQQ358
    refine wp_cond_split (isBool i103) (fun hc344 => ?_) (fun hc344 => ?_)
    ·rw [if_pos hc344] at hr
     refine cut (fun a' k' => Bs noF k0 118 a' k' ∧ (IsV a_) (a'.get 0) k' ∧ (IsV b_) (a'.get 1) k' ∧ (IsV op_) (a'.get 2) k' ∧ IsOwn 0 3 s298.1 (a'.get 7) k' ∧ Lo k0 (obF (a'.get 7)) ∧ (IsV s315) (a'.get 8) k' ∧ (IsV s322) (a'.get 9) k' ∧ (IsV s298.2.2.2) (a'.get 10) k' ∧ (IsV s305) (a'.get 11) k' ∧ (IsV ((x328_1 == 1) && (!(x329_1 == 1)))) (a'.get 14) k' ∧ True) ?_ hQ ?_
     ·intro Q342 hQQ342 hp343
      refine gS 6 (_ :: _ :: _ :: _ :: _ :: _ :: []) hs (by kernel_rfl) ⟨mu rfl i12, cm 0 rfl rfl, mT rfl rfl i13, gT [(106, some 2)] rfl rfl fun hp _ _ h n => ok_not rfl (Gd.get n.1 hp), o1 [(105, some 1), (107, some 3)] rfl fun _ _ h n => ok_pickAnd rfl n.1 (Gd.get n.2.1) (cB rfl), cp 4 rfl rfl, trivial⟩ hQQ342 fun b q p => ?_
      exact tail_done (k := q) (hp343 _ _ ⟨Bs.post ⟨hg, hs, hd⟩ p, p.ke 0 rfl i0, p.ke 1 rfl i1, p.ke 2 rfl i2, p.ke 7 rfl i7, (by rw [p.old 7 rfl]; exact n7), p.ke 8 rfl i8, p.ke 9 rfl i9, p.ke 10 rfl i10, p.ke 11 rfl i11, p.ou 5 14 rfl, trivial⟩)
     rintro a k ⟨⟨hg, hs, hd⟩, i0, i1, i2, i7, n7, i8, i9, i10, i11, i14, _⟩
     obtain rfl := Option.some.inj hr
     exact hp340 _ _ ⟨⟨hg, hs, hd⟩, i0, i1, i2, i7, n7, i8, i9, i10, i11, i14, trivial⟩
    rw [if_neg (by rw [hc344]; decide)] at hr
    refine wp_skip ?_
    obtain rfl := Option.some.inj hr
    exact hp340 _ _ ⟨⟨hg, hs, hd⟩, i0, i1, i2, i7, n7, i8, i9, i10, i11, i14, trivial⟩
   clear hs339
   rintro a k ⟨⟨hg, hs, hd⟩, i0, i1, i2, i7, n7, i8, i9, i10, i11, i14, _⟩
   refine wp_seq ?_
   refine cutS (fun a' k' => Bs noF k0 118 a' k' ∧ (IsV a_) (a'.get 0) k' ∧ (IsV b_) (a'.get 1) k' ∧ (IsV op_) (a'.get 2) k' ∧ IsOwn 0 3 s298.1 (a'.get 7) k' ∧ Lo k0 (obF (a'.get 7)) ∧ (IsV s315) (a'.get 8) k' ∧ (IsV s322) (a'.get 9) k' ∧ (IsV s305) (a'.get 11) k' ∧ (IsV s339) (a'.get 14) k' ∧ (IsV (s339 != s298.2.2.2)) (a'.get 111) k' ∧ True) ?_ ?_
   ·intro Q356 hQQ356 hp357
    refine gS 3 (_ :: _ :: ⟨some (IsV (s339 != s298.2.2.2)), [(109, some 0), (110, some 1)]⟩ :: []) hs (by kernel_rfl) ⟨mu rfl i14, mu rfl i10, ob1 rfl fun _ _ h n => ok_neB rfl Try.underlying4 n.1 n.2.1, trivial⟩ hQQ356 fun b q p => ?_
    exact tail_done (k := q) (hp357 _ _ ⟨Bs.post ⟨hg, hs, hd⟩ p, p.ke 0 rfl i0, p.ke 1 rfl i1, p.ke 2 rfl i2, p.ke 7 rfl i7, (by rw [p.old 7 rfl]; exact n7), p.ke 8 rfl i8, p.ke 9 rfl i9, p.ke 11 rfl i11, p.ke 14 rfl i14, p.ou 2 111 rfl, trivial⟩)
   rintro a k ⟨⟨hg, hs, hd⟩, i0, i1, i2, i7, n7, i8, i9, i11, i14, i111, _⟩
   obtain ⟨s346, hs346, hr⟩ := bind_some hr
   refine cut (fun a' k' => Bs noF k0 118 a' k' ∧ (IsV a_) (a'.get 0) k' ∧ (IsV b_) (a'.get 1) k' ∧ (IsV op_) (a'.get 2) k' ∧ IsOwn 0 3 s346 (a'.get 7) k' ∧ Lo k0 (obF (a'.get 7)) ∧ (IsV s315) (a'.get 8) k' ∧ (IsV s322) (a'.get 9) k' ∧ (IsV s339) (a'.get 14) k' ∧ True) ?_ hQ ?_
   ·intro Q355 hQQ355 hp347
    replace hr := hs346
    clear hQ
    have hQ := hQQ355
    refine wp_cond_split (isBool i111) (fun hc351 => ?_) (fun hc351 => ?_)
    ·rw [if_pos hc351] at hr
     obtain ⟨x348_3, hx348_3, hr⟩ := bind_some hr
     refine cut (fun a' k' => Bs noF k0 118 a' k' ∧ (IsV a_) (a'.get 0) k' ∧ (IsV b_) (a'.get 1) k' ∧ (IsV op_) (a'.get 2) k' ∧ IsOwn 0 3 x348_3 (a'.get 7) k' ∧ Lo k0 (obF (a'.get 7)) ∧ (IsV s315) (a'.get 8) k' ∧ (IsV s322) (a'.get 9) k' ∧ (IsV s339) (a'.get 14) k' ∧ True) ?_ hQ ?_
     ·intro Q349 hQQ349 hp350
      refine gS 3 (⟨some (OwnAt (a.get 7) 0 3 s298.1), [(7, none)]⟩ :: _ :: ⟨some (IsV (α := (List Int)) ([s305])), [(113, some 1)]⟩ :: []) hs (by kernel_rfl) ⟨ob1 rfl fun _ _ h n => ok_moveOA (.inl rfl) (ownAt n.1 (up i7 h n.1)), mu rfl i11, ob1 rfl fun _ _ h n => ok_buildSlice rfl Try.underlying63 eo3 rfl (by decide) (by decide) ⟨rfl, n.1, trivial⟩, trivial⟩ hQQ349 fun b q p => ?_
      have hgq := hg.then p.grow
      have hsb := p.size.trans hs
      have hdb := p.defers.trans hd
      have j0 := p.ke 0 rfl i0
      have j1 := p.ke 1 rfl i1
      have j2 := p.ke 2 rfl i2
      have j8 := p.ke 8 rfl i8
      have j9 := p.ke 9 rfl i9
      have j14 := p.ke 14 rfl i14
      have e112 : b.get 112 = a.get 7 := (p.ou 0 112 rfl).1
      have j112 : IsOwn 0 3 s298.1 (b.get 112) q := (p.ou 0 112 rfl).2
      have y112 : Lo k0 (obF (b.get 112)) := by rw [e112]; exact n7
      have j114 : (IsV (α := (List Int)) ([s305])) (b.get 114) q := p.ou 2 114 rfl
      have hns := j112.nshF
      refine tail_appendS (i := 3) (d := 115) rfl rfl rfl rfl (by rw [hsb]; decide) (e := 3) Try.underlying63 eo3 j112 (IsV.rd j114) hx348_3 fun b2 q2 hsz hdf hoth hch hown hob => ?_
      have hle := hch.le hns
      have yn : Lo k0 (obF (b2.get 115)) := y112.app hgq hob
      replace j0 := Pers.pers hle j0
      replace j1 := Pers.pers hle j1
      replace j2 := Pers.pers hle j2
      replace j8 := Pers.pers hle j8
      replace j9 := Pers.pers hle j9
      replace j14 := Pers.pers hle j14
      replace j114 := Pers.pers hle j114
      replace hgq := hgq.step hch y112.wr
      rw [← hoth 0 (by decide)] at j0
      rw [← hoth 1 (by decide)] at j1
      rw [← hoth 2 (by decide)] at j2
      rw [← hoth 8 (by decide)] at j8
      rw [← hoth 9 (by decide)] at j9
      rw [← hoth 14 (by decide)] at j14
      rw [← hoth 114 (by decide)] at j114
      have j115 := hown
      have y115 := yn
      replace hsb := hsz.trans hsb
      replace hdb := hdf.trans hdb
      clear hle hch hown hob hns yn hsz hdf hoth
      obtain ⟨b, hbb⟩ : ∃ b, b = b2 := ⟨b2, rfl⟩
      subst hbb
      obtain ⟨q, hqq⟩ : ∃ q, q = q2 := ⟨q2, rfl⟩
      subst hqq
      refine tail_assign (i := 4) (d := 7) rfl rfl (.inl rfl) rfl (by rw [hsb]; decide) fun b2 hsz hdf hnew hoth => ?_
      have jn : (IsOwn 0 3 x348_3) (b2.get 7) q := by rw [hnew]; exact j115
      have yn : Lo k0 (obF (b2.get 7)) := by rw [hnew]; exact y115
      rw [← hoth 0 (by decide)] at j0
      rw [← hoth 1 (by decide)] at j1
      rw [← hoth 2 (by decide)] at j2
      rw [← hoth 8 (by decide)] at j8
      rw [← hoth 9 (by decide)] at j9
      rw [← hoth 14 (by decide)] at j14
      rw [← hoth 114 (by decide)] at j114
      have j7 := jn
      have y7 := yn
      replace hsb := hsz.trans hsb
      replace hdb := hdf.trans hdb
      clear hsz hdf hoth
      obtain ⟨b, hbb⟩ : ∃ b, b = b2 := ⟨b2, rfl⟩
      subst hbb
      exact tail_done (k := q) (hp350 _ _ ⟨⟨hgq, hsb, hdb⟩, j0, j1, j2, j7, y7, j8, j9, j14, trivial⟩)
     rintro a k ⟨⟨hg, hs, hd⟩, i0, i1, i2, i7, n7, i8, i9, i14, _⟩
     obtain rfl := Option.some.inj hr
     exact hp347 _ _ ⟨⟨hg, hs, hd⟩, i0, i1, i2, i7, n7, i8, i9, i14, trivial⟩
    rw [if_neg (by rw [hc351]; decide)] at hr
    refine wp_skip ?_
    obtain rfl := Option.some.inj hr
    exact hp347 _ _ ⟨⟨hg, hs, hd⟩, i0, i1, i2, i7, n7, i8, i9, i14, trivial⟩
   clear hs346
   rintro a k ⟨⟨hg, hs, hd⟩, i0, i1, i2, i7, n7, i8, i9, i14, _⟩
   refine cut (fun a' k' => Bs noF k0 118 a' k' ∧ (IsV a_) (a'.get 0) k' ∧ (IsV b_) (a'.get 1) k' ∧ (IsV op_) (a'.get 2) k' ∧ IsOwn 0 3 s346 (a'.get 7) k' ∧ Lo k0 (obF (a'.get 7)) ∧ (IsV s315) (a'.get 8) k' ∧ (IsV s322) (a'.get 9) k' ∧ (IsV s339) (a'.get 10) k' ∧ True) ?_ hQ ?_
   ·intro Q353 hQQ353 hp354
    refine gS 2 (_ :: _ :: []) hs (by kernel_rfl) ⟨mu rfl i14, cp 0 rfl rfl, trivial⟩ hQQ353 fun b q p => ?_
    exact tail_done (k := q) (hp354 _ _ ⟨Bs.post ⟨hg, hs, hd⟩ p, p.ke 0 rfl i0, p.ke 1 rfl i1, p.ke 2 rfl i2, p.ke 7 rfl i7, (by rw [p.old 7 rfl]; exact n7), p.ke 8 rfl i8, p.ke 9 rfl i9, p.ou 1 10 rfl, trivial⟩)
   rintro a k ⟨⟨hg, hs, hd⟩, i0, i1, i2, i7, n7, i8, i9, i10, _⟩
   exact hgo299 _ _ _ (Option.some.inj hr).symm ⟨⟨hg, hs, hd⟩, i0, i1, i2, i7, n7, i8, i9, i10, trivial⟩
  rw [if_neg (by rw [hc382]; decide)] at hr
  refine wp_exit ?_
  obtain ⟨kk, sh381, ii7⟩ := i7.give
  replace i7 := ii7
  replace hg := hg.hand sh381 n7.wr
  rw [← sh381.w]
  clear sh381
  obtain ⟨k, hkk⟩ : ∃ k, k = kk := ⟨kk, rfl⟩
  subst hkk
  exact hex300 _ _ _ _ (Option.some.inj hr).symm ⟨rfl, ⟨hg, hs, hd⟩, i7, trivial⟩
 ·rintro r390 a k rfl hR
  dsimp only at hr
  obtain rfl := Option.some.inj hr
  exact hR
 ·rintro _ _ _ rfl _
  simp at hr
 clear hf385
 rintro _ s386 a k rfl ⟨rfl, ⟨hg, hs, hd⟩, i7, _⟩
 dsimp only at hr
 refine stepL 2 (_ :: _ :: []) rfl ⟨hg, hs, hd⟩ (by kernel_rfl) ⟨mu rfl i7, cp 0 rfl rfl, trivial⟩ [⟨_, _⟩] (fun b q p => ⟨p.ou 1 6 rfl, trivial⟩) ?_
 rintro a k ⟨⟨hg, hs, hd⟩, i6, _⟩
 refine wp_ret ?_
 obtain rfl := Option.some.inj hr
 exact retC1 rfl hd hg i6
def ref06_ints_L0 (a_ : (List Int)) (b_ : (List Int)) (s408 : Int) : Option (Flow (Int) (Bool)) :=
 if (decide (s408 < (a_.length : Int))) then
  (getI a_ s408).bind fun x413_2 =>
  (getI b_ s408).bind fun x413_6 =>
  if (x413_2 != x413_6) then
   some (.ret false)
  else
   (addI s408 1).bind fun x417_1 =>
   some (.go x417_1)
 else
  some (.ex 0 s408)
def ref06_ints (a_ : (List Int)) (b_ : (List Int)) : Option (Bool) :=
 if ((a_.length : Int) != (b_.length : Int)) then
  some false
 else
  (iterL (ref06_ints_L0 a_ b_) (a_.length + b_.length + 1) 0).bind fun f426 => match f426 with
   | .go _ => none
   | .ex _ _ =>
    some true
   | .ret r431 => some r431
theorem ref06_ints_ok {k0 : K} {v0 v1 : Value} {a_ : (List Int)} {b_ : (List Int)} {r : Bool} (i0 : (IsV a_) v0 k0) (i1 : (IsV b_) v1 k0) (hr : ref06_ints a_ b_ = some r) :
  Calls Try.prog 70 #[v0, v1] k0.w (Ret k0 (IsV r)) := by
 unfold ref06_ints at hr
 refine Ret.ofC ?_
 refine enterK Try.func70 rfl Try.ntmps70 (show 2 ≤ 26 by decide) fun a k hk0 hs hd ha => ?_
 obtain ⟨e0, e1, _⟩ := ha
 replace i0 : (IsV a_) (a.get 0) k := by rw [e0, hk0]; exact i0
 replace i1 : (IsV b_) (a.get 1) k := by rw [e1, hk0]; exact i1
 have hQ : Gb.LetsOut (bodyPost Try.prog Try.f70 (RetC noF k0 (IsV r))) := letsOutC
 have hg : Chg noF k0 k := by rw [hk0]; exact Chg.refl _ k0
 refine stepL 1 (⟨some (IsV false), []⟩ :: []) rfl ⟨hg, hs, hd⟩ (by kernel_rfl) ⟨ob1 rfl fun _ _ h n => ok_assign rfl (isV_bool.2 rfl), trivial⟩ [⟨_, _⟩, ⟨_, _⟩] (fun b q p => ⟨p.ke 0 rfl i0, p.ke 1 rfl i1, trivial⟩) ?_
 rintro a k ⟨⟨hg, hs, hd⟩, i0, i1, _⟩
 refine wp_seq ?_
 refine stepL 5 (_ :: _ :: _ :: _ :: ⟨some (IsV ((a_.length : Int) != (b_.length : Int))), [(7, some 1), (9, some 3)]⟩ :: []) rfl ⟨hg, hs, hd⟩ (by kernel_rfl) ⟨mu rfl i0, o1 [(6, some 0)] rfl fun _ _ h n => ok_len rfl rfl Try.underlying63 (IsV.rd n.1), mu rfl i1, o1 [(8, some 2)] rfl fun _ _ h n => ok_len rfl rfl Try.underlying63 (IsV.rd n.1), ob1 rfl fun _ _ h n => ok_neI rfl n.1 n.2.1, trivial⟩ [⟨_, _⟩, ⟨_, _⟩, ⟨_, _⟩] (fun b q p => ⟨p.ke 0 rfl i0, p.ke 1 rfl i1, p.ou 4 10 rfl, trivial⟩) ?_
 rintro a k ⟨⟨hg, hs, hd⟩, i0, i1, i10, _⟩
 refine wp_cond_split (isBool i10) (fun hc435 => ?_) (fun hc435 => ?_)
 ·rw [if_pos hc435] at hr
  refine stepL 1 (⟨some (IsV false), []⟩ :: []) rfl ⟨hg, hs, hd⟩ (by kernel_rfl) ⟨ob1 rfl fun _ _ h n => ok_assign rfl (isV_bool.2 rfl), trivial⟩ [⟨_, _⟩] (fun b q p => ⟨p.ou 0 4 rfl, trivial⟩) ?_
  rintro a k ⟨⟨hg, hs, hd⟩, i4, _⟩
  refine wp_ret ?_
  obtain rfl := Option.some.inj hr
  exact retC1 rfl hd hg i4
 rw [if_neg (by rw [hc435]; decide)] at hr
 refine wp_skip ?_
 refine wp_seq ?_
 refine stepL 1 (⟨some (IsI 0), []⟩ :: []) rfl ⟨hg, hs, hd⟩ (by kernel_rfl) ⟨aI rfl rfl, trivial⟩ [⟨_, _⟩, ⟨_, _⟩, ⟨_, _⟩] (fun b q p => ⟨p.ke 0 rfl i0, p.ke 1 rfl i1, p.ou 0 5 rfl, trivial⟩) ?_
 rintro a k ⟨⟨hg, hs, hd⟩, i0, i1, i5, _⟩
 refine wp_block ?_
 obtain ⟨f426, hf426, hr⟩ := bind_some hr
 refine cutFe f426 (fun s' a' k' => Bs noF k0 26 a' k' ∧ (IsV a_) (a'.get 0) k' ∧ (IsV b_) (a'.get 1) k' ∧ (IsV s') (a'.get 5) k' ∧ True) (fun i' s' a' k' => (i' = 0 ∧ Bs noF k0 26 a' k' ∧ True)) (fun r' a' k' => bodyPost Try.prog Try.f70 (RetC noF k0 (IsV r')) .ret a' k'.w) ?_ hQ ?_ ?_ ?_
 ·intro Q432 hQQ432 hgo hex hret
  refine sim_loop ?_ _ _ _ _ _ hf426 ⟨⟨hg, hs, hd⟩, i0, i1, i5, trivial⟩ Q432 hQQ432 hgo hex hret
  clear hr hf426 hgo hex hret hQQ432 hQ hg hs hd i0 i1 i5
  intro s408 fl_ a k hr hS Q hQ hgo409 hex410 hret411
  obtain ⟨⟨hg, hs, hd⟩, i0, i1, i5, _⟩ := hS
  unfold ref06_ints_L0 at hr
  refine wp_seq ?_
  refine stepL 4 (_ :: _ :: _ :: _ :: []) rfl ⟨hg, hs, hd⟩ (by kernel_rfl) ⟨mu rfl i5, mu rfl i0, o1 [(12, some 1)] rfl fun _ _ h n => ok_len rfl rfl Try.underlying63 (IsV.rd n.1), o1 [(11, some 0), (13, some 2)] rfl fun _ _ h n => ok_lss rfl n.1 n.2.1, trivial⟩ [⟨_, _⟩, ⟨_, _⟩, ⟨_, _⟩, ⟨_, _⟩] (fun b q p => ⟨p.ke 0 rfl i0, p.ke 1 rfl i1, p.ke 5 rfl i5, p.ou 3 14 rfl, trivial⟩) ?_
  rintro a k ⟨⟨hg, hs, hd⟩, i0, i1, i5, i14, _⟩
  refine wp_cond_split (isBool i14) (fun hc423 => ?_) (fun hc423 => ?_)
  ·rw [if_pos hc423] at hr
   refine wp_skip ?_
   refine wp_seq ?_
   refine wp_block ?_
   refine wp_seq ?_
   obtain ⟨x413_2, hx413_2, hr⟩ := bind_some hr
   obtain ⟨x413_6, hx413_6, hr⟩ := bind_some hr
   refine cut (fun a' k' => Bs noF k0 26 a' k' ∧ (IsV a_) (a'.get 0) k' ∧ (IsV b_) (a'.get 1) k' ∧ (IsV s408) (a'.get 5) k' ∧ (IsV (x413_2 != x413_6)) (a'.get 25) k' ∧ True) ?_ hQ ?_
   ·intro Q421 hQQ421 hp422
    refine region (a0 := a) (k0 := k) (n := 26) (m := 9) (⟨some (IsV a_), [(0, none)]⟩ :: ⟨some (IsV s408), [(5, none)]⟩ :: ⟨some (IsPtr x413_2), [(17, some 0), (18, some 1)]⟩ :: ⟨some (IsV x413_2), [(19, some 2)]⟩ :: ⟨some (IsV b_), [(1, none)]⟩ :: ⟨some (IsV s408), [(5, none)]⟩ :: ⟨some (IsPtr x413_6), [(21, some 4), (22, some 5)]⟩ :: ⟨some (IsV x413_6), [(23, some 6)]⟩ :: ⟨some (IsV (x413_2 != x413_6)), [(20, some 3), (24, some 7)]⟩ :: []) hmix hs (by kernel_rfl) ⟨ob1 rfl fun b q hk hn => ok_move rfl (up i0 hk hn.1), ob1 rfl fun b q hk hn => ok_move rfl (up i5 hk hn.1), ob1 rfl fun b q hk hn => ok_indexAddr rfl Try.underlying63 ty3 (IsV.rd hn.1) hn.2.1 hx413_2, ob1 rfl fun b q hk hn => ok_load rfl ty3 hn.1, ob1 rfl fun b q hk hn => ok_move rfl (up i1 hk hn.1), ob1 rfl fun b q hk hn => ok_move rfl (up i5 hk hn.1), ob1 rfl fun b q hk hn => ok_indexAddr rfl Try.underlying63 ty3 (IsV.rd hn.1) hn.2.1 hx413_6, ob1 rfl fun b q hk hn => ok_load rfl ty3 hn.1, ob1 rfl fun b q hk hn => ok_neI rfl hn.1 hn.2.1, trivial⟩ hQQ421 fun b q p => ?_
    exact tail_done (k := q) (hp422 _ _ ⟨Bs.post ⟨hg, hs, hd⟩ p, p.ke 0 rfl i0, p.ke 1 rfl i1, p.ke 5 rfl i5, p.ou 8 25 rfl, trivial⟩)
   rintro a k ⟨⟨hg, hs, hd⟩, i0, i1, i5, i25, _⟩
   refine wp_cond_split (isBool i25) (fun hc420 => ?_) (fun hc420 => ?_)
   ·rw [if_pos hc420] at hr
    refine stepL 1 (⟨some (IsV false), []⟩ :: []) rfl ⟨hg, hs, hd⟩ (by kernel_rfl) ⟨ob1 rfl fun _ _ h n => ok_assign rfl (isV_bool.2 rfl), trivial⟩ [⟨_, _⟩] (fun b q p => ⟨p.ou 0 4 rfl, trivial⟩) ?_
    rintro a k ⟨⟨hg, hs, hd⟩, i4, _⟩
    refine wp_ret ?_
    exact hret411 _ _ _ (Option.some.inj hr).symm (retC1 rfl hd hg i4)
   rw [if_neg (by rw [hc420]; decide)] at hr
   refine wp_skip ?_
   obtain ⟨x417_1, hx417_1, hr⟩ := bind_some hr
   refine cut (fun a' k' => Bs noF k0 26 a' k' ∧ (IsV a_) (a'.get 0) k' ∧ (IsV b_) (a'.get 1) k' ∧ (IsV x417_1) (a'.get 5) k' ∧ True) ?_ hQ ?_
   ·intro Q418 hQQ418 hp419
    refine gS 3 (_ :: _ :: _ :: []) hs (by kernel_rfl) ⟨mu rfl i5, o1 [(15, some 0)] rfl fun _ _ h n => ok_add rfl n.1 (cI rfl) hx417_1, cp 1 rfl rfl, trivial⟩ hQQ418 fun b q p => ?_
    exact tail_done (k := q) (hp419 _ _ ⟨Bs.post ⟨hg, hs, hd⟩ p, p.ke 0 rfl i0, p.ke 1 rfl i1, p.ou 2 5 rfl, trivial⟩)
   rintro a k ⟨⟨hg, hs, hd⟩, i0, i1, i5, _⟩
   exact hgo409 _ _ _ (Option.some.inj hr).symm ⟨⟨hg, hs, hd⟩, i0, i1, i5, trivial⟩
  rw [if_neg (by rw [hc423]; decide)] at hr
  refine wp_exit ?_
  exact hex410 _ _ _ _ (Option.some.inj hr).symm ⟨rfl, ⟨hg, hs, hd⟩, trivial⟩
 ·rintro r431 a k rfl hR
  dsimp only at hr
  obtain rfl := Option.some.inj hr
  exact hR
 ·rintro _ _ _ rfl _
  simp at hr
 clear hf426
 rintro _ s427 a k rfl ⟨rfl, ⟨hg, hs, hd⟩, _⟩
 dsimp only at hr
 refine stepL 1 (⟨some (IsV true), []⟩ :: []) rfl ⟨hg, hs, hd⟩ (by kernel_rfl) ⟨ob1 rfl fun _ _ h n => ok_assign rfl (isV_bool.2 rfl), trivial⟩ [⟨_, _⟩] (fun b q p => ⟨p.ou 0 4 rfl, trivial⟩) ?_
 rintro a k ⟨⟨hg, hs, hd⟩, i4, _⟩
 refine wp_ret ?_
 obtain rfl := Option.some.inj hr
 exact retC1 rfl hd hg i4
end Go.Proofs.Ytbpecfmimgjakaa
