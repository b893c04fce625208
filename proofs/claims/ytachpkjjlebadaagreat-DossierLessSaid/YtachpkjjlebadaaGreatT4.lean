/- What the functions compute that the law reaches, part 4 -/
import Derived.Test.YtachpkjjlebadaaGreatT3
namespace Go.Proofs.YtachpkjjlebadaaGreat
open Go.Gb
set_option linter.unusedVariables false
set_option linter.unusedSimpArgs false
set_option maxRecDepth 100000
def solid_Right_L0 (s_ : (List Slab)) (s1 : Int) : Option (Flow (Int) (Bool)) :=
 if (decide (s1 < (s_.length : Int))) then
  ((getI s_ s1).bind fun x1 =>
  (if ((((decide (x1.Z0 < 0)) || (decide (x1.Z1 ≤ x1.Z0))) || (decide (4096 < x1.Z1))) || ((x1.Area.length : Int) == 0)) then
   some true
  else
   (region_Right x1.Area).bind fun x2 =>
   some (!x2)).bind fun x3 =>
  if x3 then
   some (.ret false)
  else
   if (s1 == 0) then
    some (.go ())
   else
    (subI s1 1).bind fun x4 =>
    (getI s_ x4).bind fun x5 =>
    (if (decide (x1.Z0 < x5.Z1)) then
     some true
    else
     (if (x5.Z1 == x1.Z0) then
      (region_Same x5.Area x1.Area).bind fun x6 =>
      some x6
     else
      some false).bind fun x7 =>
     some x7).bind fun x8 =>
    if x8 then
     some (.ret false)
    else
     some (.go ()) : Option (Flow (Unit) (Bool))).bind fun f1 => match f1 with
   | .go _ =>
    (addI s1 1).bind fun x9 =>
    some (.go x9)
   | .ex _ _ => none
   | .ret r1 => some (.ret r1)
 else
  some (.ex 0 s1)
def solid_Right (s_ : (List Slab)) : Option (Bool) :=
 if (decide (80 < (s_.length : Int))) then
  some false
 else
  (iterL (solid_Right_L0 s_) (s_.length + 1) 0).bind fun f1 => match f1 with
   | .go _ => none
   | .ex _ _ =>
    some true
   | .ret r1 => some r1
noncomputable def k72 := mk 72 [.list (.st 9)] [.bool] (fun x => solid_Right x) [k97, k96] [] Tryz.f72 (.s .n (.s .n (.s (.s .n (.l [] [(11, .v .int)] [(0, [11], [])] (fI 10) (.s .n (.s .n (.s (.jf [] [] ([], []) [] .n) .n))))) .n))) Tryz.func72 Tryz.call72 rfl rfl fun x => by kernel_rfl
theorem solid_Right_ok {k0 : K} {v0 : Value} {x0 : (List Slab)} {r : Bool} (i0 : IsV x0 v0 k0) (hr : solid_Right x0 = some r) : Calls Tryz.prog 72 #[v0] k0.w (Ret k0 (IsV r)) := (k72.ok.ok k0 [v0] x0 r (GOk.none (fun _ => rfl) fun _ e => by cases e) i0 hr)
def solid_at_L0 (s_ : (List Slab)) (z_ : Int) (s1 : Int) : Option (Flow (Int) ((List Rect))) :=
 if (decide (s1 < (s_.length : Int))) then
  (getI s_ s1).bind fun x1 =>
  if ((decide (x1.Z0 ≤ z_)) && (decide (z_ < x1.Z1))) then
   some (.ret x1.Area)
  else
   (addI s1 1).bind fun x2 =>
   some (.go x2)
 else
  some (.ex 0 s1)
def solid_at (s_ : (List Slab)) (z_ : Int) : Option ((List Rect)) :=
 (iterL (solid_at_L0 s_ z_) (s_.length + 1) 0).bind fun f1 => match f1 with
  | .go _ => none
  | .ex _ _ =>
   some ([] : List Rect)
  | .ret r1 => some r1
noncomputable def k73 := mk 73 [.list (.st 9), .int] [.list (.st 2)] (fun x => solid_at x.1 x.2) [] [] Tryz.f73 (.s .n (.s (.s .n (.l [] [(9, .v .int)] [(0, [9], [])] (fI 8) .n)) .n)) Tryz.func73 Tryz.call73 rfl rfl fun x => by kernel_rfl
theorem solid_at_ok {k0 : K} {v0 v1 : Value} {x0 : (List Slab)} {x1 : Int} {r : (List Rect)} (i0 : IsV x0 v0 k0) (i1 : IsV x1 v1 k0) (hr : solid_at x0 x1 = some r) : Calls Tryz.prog 73 #[v0, v1] k0.w (Ret k0 (IsV r)) := (k73.ok.ok k0 [v0, v1] (x0, x1) r (GOk.none (fun _ => rfl) fun _ e => by cases e) ⟨i0, i1⟩ hr)
def solid_combine_L0 (a_ : (List Slab)) (b_ : (List Slab)) (op_ : ((List Rect) → (List Rect) → Option ((List Rect) × Int))) (x1 : (List Int)) (s1 : (List Slab) × Int) : Option (Flow ((List Slab) × Int) ((List Slab) × Int)) :=
 if (decide (s1.2 < (x1.length : Int))) then
  (subI s1.2 1).bind fun x2 =>
  (getI x1 x2).bind fun x3 =>
  (solid_at a_ x3).bind fun x4 =>
  (subI s1.2 1).bind fun x5 =>
  (getI x1 x5).bind fun x6 =>
  (solid_at b_ x6).bind fun x7 =>
  (op_ x4 x7).bind fun x8 =>
  if (x8.2 != 0) then
   some (.ret (([] : List Slab), x8.2))
  else
   (subI s1.2 1).bind fun x9 =>
   (getI x1 x9).bind fun x10 =>
   (getI x1 s1.2).bind fun x11 =>
   (solid_put s1.1 (⟨x10, x11, x8.1⟩ : Slab)).bind fun x12 =>
   (addI s1.2 1).bind fun x13 =>
   some (.go (x12, x13))
 else
  some (.ex 0 (s1.1, s1.2))
def solid_combine (a_ : (List Slab)) (b_ : (List Slab)) (op_ : ((List Rect) → (List Rect) → Option ((List Rect) × Int))) : Option ((List Slab) × Int) :=
 (solid_Right a_).bind fun x1 =>
 (if (!x1) then
  some true
 else
  (solid_Right b_).bind fun x2 =>
  some (!x2)).bind fun x3 =>
 if x3 then
  some (([] : List Slab), 1)
 else
  (solid_heights ([a_, b_])).bind fun x4 =>
  (iterL (solid_combine_L0 a_ b_ op_ x4) (a_.length + b_.length + x4.length + ([] : List Slab).length + 1) (([] : List Slab), 1)).bind fun f1 => match f1 with
   | .go _ => none
   | .ex _ s1 =>
    (solid_fits s1.1).bind fun x5 =>
    some (x5.1, x5.2)
   | .ret r1 => some r1
theorem solid_combine_ok {k0 : K} {v0 v1 v2 : Value} {a_ : (List Slab)} {b_ : (List Slab)} {op_ : ((List Rect) → (List Rect) → Option ((List Rect) × Int))} {r : (List Slab) × Int} (i0 : (IsV a_) v0 k0) (i1 : (IsV b_) v1 k0) (i2 : (IsFn2T Tryz.prog op_) v2 k0) (hr : solid_combine a_ b_ op_ = some r) :
  Calls Tryz.prog 45 #[v0, v1, v2] k0.w (Ret k0 (IsTup2 (IsV r.1) (IsV r.2))) := by
 unfold solid_combine at hr
 refine Ret.ofC ?_
 refine enterK Tryz.func45 rfl Tryz.ntmps45 (show 3 ≤ 70 by decide) fun a k hk0 hs hd ha => ?_
 obtain ⟨e0, e1, e2, _⟩ := ha
 replace i0 : (IsV a_) (a.get 0) k := by rw [e0, hk0]; exact i0
 replace i1 : (IsV b_) (a.get 1) k := by rw [e1, hk0]; exact i1
 replace i2 : (IsFn2T Tryz.prog op_) (a.get 2) k := by rw [e2, hk0]; exact i2
 have hQ : Gb.LetsOut (bodyPost Tryz.prog Tryz.f45 (RetC noF k0 (IsTup2 (IsV r.1) (IsV r.2)))) := letsOutC
 have hg : Chg noF k0 k := by rw [hk0]; exact Chg.refl _ k0
 refine stepL 2 (⟨some IsE0, []⟩ :: ⟨some (IsI 0), []⟩ :: []) rfl ⟨hg, hs, hd⟩ (by kernel_rfl) ⟨ob1 rfl fun b q h n => ok_assign rfl isE0_nil, aI rfl rfl, trivial⟩ [⟨_, _⟩, ⟨_, _⟩, ⟨_, _⟩] (fun b q p => ⟨p.ke 0 rfl i0, p.ke 1 rfl i1, p.ke 2 rfl i2, trivial⟩) ?_
 rintro a k ⟨⟨hg, hs, hd⟩, i0, i1, i2, _⟩
 refine wp_seq ?_
 refine wp_seq ?_
 obtain ⟨x1, hx1, hr⟩ := bind_some hr
 obtain ⟨x2, hx2, hr⟩ := bind_some hr
 obtain ⟨x3, hx3, hx2⟩ := ite_bindF hx2
 refine cut (fun a' k' => Bs noF k0 70 a' k' ∧ (IsV a_) (a'.get 0) k' ∧ (IsV b_) (a'.get 1) k' ∧ (IsFn2T Tryz.prog op_) (a'.get 2) k' ∧ (IsV x2) (a'.get 20) k' ∧ True) ?_ hQ ?_
 ·intro Q1 W1 w1
  refine gS 8 (_ :: _ :: _ :: _ :: _ :: _ :: _ :: _ :: []) hs (by kernel_rfl) ⟨mu rfl i0, o1 [(13, some 0)] rfl fun _ _ h n => ok_call rfl Tryz.call72 (solid_Right_ok n.1 hx1), o1 [(14, some 1)] rfl fun _ _ h n => ok_not rfl n.1, cm 2 rfl rfl, mF rfl rfl i1, gF [(17, some 4)] rfl rfl fun hp _ _ h n => ok_call rfl Tryz.call72 (solid_Right_ok (Gd.get n.1 hp) (hx3 hp)), gF [(18, some 5)] rfl rfl fun hp _ _ h n => ok_not rfl (Gd.get n.1 hp), o1 [(16, some 3), (19, some 6)] rfl fun _ _ h n => ok_pickM rfl n.1 hx2 (cB rfl) (Gd.get n.2.1), trivial⟩ W1 fun b q p => ?_
  exact tail_done (k := q) (w1 _ _ ⟨Bs.post ⟨hg, hs, hd⟩ p, p.ke 0 rfl i0, p.ke 1 rfl i1, p.ke 2 rfl i2, p.ou 7 20 rfl, trivial⟩)
 rintro a k ⟨⟨hg, hs, hd⟩, i0, i1, i2, i20, _⟩
 refine wp_cond_split (isBool i20) (fun hc2252 => ?_) (fun hc2252 => ?_)
 ·rw [if_pos hc2252] at hr
  refine cutL noF k0 70 [⟨6, IsV ([] : List Slab)⟩, ⟨7, IsI 1⟩] ?_ ?_
  ·intro Q2 W2 w2
   refine gS 2 (⟨some IsE0, []⟩ :: ⟨some (IsI 1), []⟩ :: []) hs (by kernel_rfl) ⟨ob1 rfl fun b q h n => ok_assign rfl isE0_nil, aI rfl rfl, trivial⟩ W2 fun b q p => ?_
   have hgq := hg.then p.grow
   have hsb := p.size.trans hs
   have hdb := p.defers.trans hd
   have j6 : IsE0 (b.get 6) q := p.ou 0 6 rfl
   have j7 : (IsI 1) (b.get 7) q := p.ou 1 7 rfl
   replace j6 : IsV ([] : List Slab) (b.get 6) q := j6.isV
   exact tail_done (k := q) (w2 _ _ ⟨⟨hgq, hsb, hdb⟩, j6, j7, trivial⟩)
  rintro a k ⟨⟨hg, hs, hd⟩, i6, i7, _⟩
  refine wp_ret ?_
  obtain rfl := Option.some.inj hr
  exact retC2 rfl hd hg i6 i7
 rw [if_neg (by rw [hc2252]; decide)] at hr
 refine wp_skip ?_
 refine wp_seq ?_
 obtain ⟨x4, hx4, hr⟩ := bind_some hr
 refine cut (fun a' k' => Bs noF k0 70 a' k' ∧ (IsV a_) (a'.get 0) k' ∧ (IsV b_) (a'.get 1) k' ∧ (IsFn2T Tryz.prog op_) (a'.get 2) k' ∧ (IsV x4) (a'.get 8) k' ∧ True) ?_ hQ ?_
 ·intro Q3 W3 w3
  refine gS 5 (_ :: _ :: ⟨some (IsV (α := (List (List Slab))) ([a_, b_])), [(21, some 0), (22, some 1)]⟩ :: _ :: _ :: []) hs (by kernel_rfl) ⟨mu rfl i0, mu rfl i1, ob1 rfl fun _ _ h n => ok_buildSlice rfl Tryz.underlying138 eo55 rfl (by decide) (by decide) ⟨rfl, n.1, rfl, n.2.1, trivial⟩, o1 [(23, some 2)] rfl fun _ _ h n => ok_call rfl Tryz.call68 (solid_heights_ok n.1 hx4), cp 3 rfl rfl, trivial⟩ W3 fun b q p => ?_
  exact tail_done (k := q) (w3 _ _ ⟨Bs.post ⟨hg, hs, hd⟩ p, p.ke 0 rfl i0, p.ke 1 rfl i1, p.ke 2 rfl i2, p.ou 4 8 rfl, trivial⟩)
 rintro a k ⟨⟨hg, hs, hd⟩, i0, i1, i2, i8, _⟩
 refine cutS (fun c l => Bs noF k0 70 c l ∧ IsV a_ (c.get 0) l ∧ IsV b_ (c.get 1) l ∧ IsFn2T Tryz.prog op_ (c.get 2) l ∧ IsV x4 (c.get 8) l ∧ IsOwn 0 111 ([] : List Slab) (c.get 9) l ∧ Lo k0 (obF (c.get 9)) ∧ True) ?_ ?_
 ·intro Q4 W4 w4
  refine gS 1 (⟨some IsE0, []⟩ :: []) hs (by kernel_rfl) ⟨ob1 rfl fun b q h n => ok_assign rfl isE0_nil, trivial⟩ W4 fun b q p => ?_
  have hgq := hg.then p.grow
  have hsb := p.size.trans hs
  have hdb := p.defers.trans hd
  have j0 := p.ke 0 rfl i0
  have j1 := p.ke 1 rfl i1
  have j2 := p.ke 2 rfl i2
  have j8 := p.ke 8 rfl i8
  have j9 : IsE0 (b.get 9) q := p.ou 0 9 rfl
  have y9 : Lo k0 (obF (b.get 9)) := j9.lo
  replace j9 : IsOwn 0 111 ([] : List Slab) (b.get 9) q := j9.own0
  exact tail_done (k := q) (w4 _ _ ⟨⟨hgq, hsb, hdb⟩, j0, j1, j2, j8, j9, y9, trivial⟩)
 rintro a k ⟨⟨hg, hs, hd⟩, i0, i1, i2, i8, i9, n9, _⟩
 refine wp_seq ?_
 refine cutS (fun c l => Bs noF k0 70 c l ∧ IsV a_ (c.get 0) l ∧ IsV b_ (c.get 1) l ∧ IsFn2T Tryz.prog op_ (c.get 2) l ∧ IsV x4 (c.get 8) l ∧ IsOwn 0 111 ([] : List Slab) (c.get 9) l ∧ Lo k0 (obF (c.get 9)) ∧ IsI 1 (c.get 10) l ∧ True) ?_ ?_
 ·intro Q5 W5 w5
  refine gS 1 (⟨some (IsI 1), []⟩ :: []) hs (by kernel_rfl) ⟨aI rfl rfl, trivial⟩ W5 fun b q p => ?_
  exact tail_done (k := q) (w5 _ _ ⟨Bs.post ⟨hg, hs, hd⟩ p, p.ke 0 rfl i0, p.ke 1 rfl i1, p.ke 2 rfl i2, p.ke 8 rfl i8, p.ke 9 rfl i9, (by rw [p.old 9 rfl]; exact n9), p.ou 0 10 rfl, trivial⟩)
 rintro a k ⟨⟨hg, hs, hd⟩, i0, i1, i2, i8, i9, n9, i10, _⟩
 refine wp_block ?_
 obtain ⟨f1, hf1, hr⟩ := bind_some hr
 refine cutFe f1 (fun s' c l => Bs noF k0 70 c l ∧ IsV a_ (c.get 0) l ∧ IsV b_ (c.get 1) l ∧ IsFn2T Tryz.prog op_ (c.get 2) l ∧ IsV x4 (c.get 8) l ∧ IsOwn 0 111 s'.1 (c.get 9) l ∧ Lo k0 (obF (c.get 9)) ∧ IsV s'.2 (c.get 10) l ∧ True) (fun i' s' c l => (i' = 0 ∧ Bs noF k0 70 c l ∧ IsV s'.1 (c.get 9) l ∧ True)) (fun r' c l => bodyPost Tryz.prog Tryz.f45 (RetC noF k0 (IsTup2 (IsV r'.1) (IsV r'.2))) .ret c l.w) ?_ hQ ?_ ?_ ?_
 ·intro Q6 W6 hgo hex hret
  refine sim_loop ?_ _ _ _ _ _ hf1 ⟨⟨hg, hs, hd⟩, i0, i1, i2, i8, i9, n9, i10, trivial⟩ Q6 W6 hgo hex hret
  clear hr hf1 hgo hex hret W6 hQ hg hs hd i0 i1 i10 i2 i8 i9 n9
  intro s1 fl_ a k hr hS Q hQ hgo2215 hex2216 hret2217
  obtain ⟨⟨hg, hs, hd⟩, i0, i1, i2, i8, i9, n9, i10, _⟩ := hS
  unfold solid_combine_L0 at hr
  refine wp_seq ?_
  refine cutS (fun c l => Bs noF k0 70 c l ∧ IsV a_ (c.get 0) l ∧ IsV b_ (c.get 1) l ∧ IsFn2T Tryz.prog op_ (c.get 2) l ∧ IsV x4 (c.get 8) l ∧ IsOwn 0 111 s1.1 (c.get 9) l ∧ Lo k0 (obF (c.get 9)) ∧ IsV s1.2 (c.get 10) l ∧ (IsV (decide (s1.2 < (x4.length : Int)))) (c.get 28) l ∧ True) ?_ ?_
  ·intro Q7 W7 w6
   refine gS 4 (_ :: _ :: _ :: _ :: []) hs (by kernel_rfl) ⟨mu rfl i10, mu rfl i8, o1 [(26, some 1)] rfl fun _ _ h n => ok_len rfl rfl Tryz.underlying43 (IsV.rd n.1), o1 [(25, some 0), (27, some 2)] rfl fun _ _ h n => ok_lss rfl n.1 n.2.1, trivial⟩ W7 fun b q p => ?_
   exact tail_done (k := q) (w6 _ _ ⟨Bs.post ⟨hg, hs, hd⟩ p, p.ke 0 rfl i0, p.ke 1 rfl i1, p.ke 2 rfl i2, p.ke 8 rfl i8, p.ke 9 rfl i9, (by rw [p.old 9 rfl]; exact n9), p.ke 10 rfl i10, p.ou 3 28 rfl, trivial⟩)
  rintro a k ⟨⟨hg, hs, hd⟩, i0, i1, i2, i8, i9, n9, i10, i28, _⟩
  refine wp_cond_split (isBool i28) (fun hc2236 => ?_) (fun hc2236 => ?_)
  ·rw [if_pos hc2236] at hr
   refine wp_skip ?_
   refine wp_seq ?_
   refine wp_block ?_
   refine wp_seq ?_
   obtain ⟨x5, hx5, hr⟩ := bind_some hr
   obtain ⟨x6, hx6, hr⟩ := bind_some hr
   obtain ⟨x7, hx7, hr⟩ := bind_some hr
   obtain ⟨x8, hx8, hr⟩ := bind_some hr
   obtain ⟨x9, hx9, hr⟩ := bind_some hr
   obtain ⟨x10, hx10, hr⟩ := bind_some hr
   obtain ⟨x11, hx11, hr⟩ := bind_some hr
   refine cut (fun a' k' => Bs noF k0 70 a' k' ∧ (IsV a_) (a'.get 0) k' ∧ (IsV b_) (a'.get 1) k' ∧ (IsFn2T Tryz.prog op_) (a'.get 2) k' ∧ (IsV x4) (a'.get 8) k' ∧ IsOwn 0 111 s1.1 (a'.get 9) k' ∧ Lo k0 (obF (a'.get 9)) ∧ (IsV s1.2) (a'.get 10) k' ∧ (IsV x11.1) (a'.get 11) k' ∧ (IsV x11.2) (a'.get 12) k' ∧ True) ?_ hQ ?_
   ·intro Q8 W8 w7
    refine region (m := 21) (_ :: _ :: _ :: _ :: _ :: _ :: _ :: _ :: _ :: _ :: _ :: _ :: _ :: _ :: _ :: ⟨some (IsTup2 (IsV x11.1) (IsV x11.2)), [(32, some 0), (39, some 7), (46, some 14)]⟩ :: _ :: _ :: _ :: _ :: _ :: []) hmix hs (by kernel_rfl) ⟨mu rfl i2, mu rfl i0, mu rfl i8, mu rfl i10, o1 [(35, some 3)] rfl fun _ _ h n => ok_sub rfl n.1 (cI rfl) hx5, o1 [(34, some 2), (36, some 4)] rfl fun _ _ h n => ok_indexAddr rfl Tryz.underlying43 ty3 (IsV.rd n.1) n.2.1 hx6, o1 [(37, some 5)] rfl fun _ _ h n => ok_load rfl ty3 n.1, o1 [(33, some 1), (38, some 6)] rfl fun _ _ h n => ok_call rfl Tryz.call73 (solid_at_ok n.1 n.2.1 hx7), mu rfl i1, mu rfl i8, mu rfl i10, o1 [(42, some 10)] rfl fun _ _ h n => ok_sub rfl n.1 (cI rfl) hx8, o1 [(41, some 9), (43, some 11)] rfl fun _ _ h n => ok_indexAddr rfl Tryz.underlying43 ty3 (IsV.rd n.1) n.2.1 hx9, o1 [(44, some 12)] rfl fun _ _ h n => ok_load rfl ty3 n.1, o1 [(40, some 8), (45, some 13)] rfl fun _ _ h n => ok_call rfl Tryz.call73 (solid_at_ok n.1 n.2.1 hx10), ob1 rfl fun _ _ h n => ok_callF2T rfl n.1 n.2.1 n.2.2.1 hx11, cm 15 rfl rfl, o1 [(31, some 16)] rfl fun _ _ h n => ok_ext2_0 rfl n.1, o1 [(31, some 16)] rfl fun _ _ h n => ok_ext2_1 rfl n.1, cp 17 rfl rfl, cp 18 rfl rfl, trivial⟩ W8 fun b q p => ?_
    exact tail_done (k := q) (w7 _ _ ⟨Bs.post ⟨hg, hs, hd⟩ p, p.ke 0 rfl i0, p.ke 1 rfl i1, p.ke 2 rfl i2, p.ke 8 rfl i8, p.ke 9 rfl i9, (by rw [p.old 9 rfl]; exact n9), p.ke 10 rfl i10, p.ou 19 11 rfl, p.ou 20 12 rfl, trivial⟩)
   rintro a k ⟨⟨hg, hs, hd⟩, i0, i1, i2, i8, i9, n9, i10, i11, i12, _⟩
   refine wp_seq ?_
   refine cutS (fun c l => Bs noF k0 70 c l ∧ IsV a_ (c.get 0) l ∧ IsV b_ (c.get 1) l ∧ IsFn2T Tryz.prog op_ (c.get 2) l ∧ IsV x4 (c.get 8) l ∧ IsOwn 0 111 s1.1 (c.get 9) l ∧ Lo k0 (obF (c.get 9)) ∧ IsV s1.2 (c.get 10) l ∧ IsV x11.1 (c.get 11) l ∧ IsV x11.2 (c.get 12) l ∧ IsV (x11.2 != 0) (c.get 51) l ∧ True) ?_ ?_
   ·intro Q9 W9 w8
    refine gS 2 (_ :: ⟨some (IsV (x11.2 != 0)), [(50, some 0)]⟩ :: []) hs (by kernel_rfl) ⟨mu rfl i12, ob1 rfl fun _ _ h n => ok_neI rfl n.1 (cI rfl), trivial⟩ W9 fun b q p => ?_
    exact tail_done (k := q) (w8 _ _ ⟨Bs.post ⟨hg, hs, hd⟩ p, p.ke 0 rfl i0, p.ke 1 rfl i1, p.ke 2 rfl i2, p.ke 8 rfl i8, p.ke 9 rfl i9, (by rw [p.old 9 rfl]; exact n9), p.ke 10 rfl i10, p.ke 11 rfl i11, p.ke 12 rfl i12, p.ou 1 51 rfl, trivial⟩)
   rintro a k ⟨⟨hg, hs, hd⟩, i0, i1, i2, i8, i9, n9, i10, i11, i12, i51, _⟩
   refine wp_cond_split (isBool i51) (fun hc2230 => ?_) (fun hc2230 => ?_)
   ·rw [if_pos hc2230] at hr
    refine cutL noF k0 70 [⟨6, IsV ([] : List Slab)⟩, ⟨7, IsV x11.2⟩] ?_ ?_
    ·intro Q10 W10 w9
     refine gS 3 (_ :: ⟨some IsE0, []⟩ :: _ :: []) hs (by kernel_rfl) ⟨mu rfl i12, ob1 rfl fun b q h n => ok_assign rfl isE0_nil, cp 0 rfl rfl, trivial⟩ W10 fun b q p => ?_
     have hgq := hg.then p.grow
     have hsb := p.size.trans hs
     have hdb := p.defers.trans hd
     have j6 : IsE0 (b.get 6) q := p.ou 1 6 rfl
     have j7 : (IsV x11.2) (b.get 7) q := p.ou 2 7 rfl
     replace j6 : IsV ([] : List Slab) (b.get 6) q := j6.isV
     exact tail_done (k := q) (w9 _ _ ⟨⟨hgq, hsb, hdb⟩, j6, j7, trivial⟩)
    rintro a k ⟨⟨hg, hs, hd⟩, i6, i7, _⟩
    refine wp_ret ?_
    exact hret2217 _ _ _ (Option.some.inj hr).symm (retC2 rfl hd hg i6 i7)
   rw [if_neg (by rw [hc2230]; decide)] at hr
   refine wp_skip ?_
   obtain ⟨x12, hx12, hr⟩ := bind_some hr
   obtain ⟨x13, hx13, hr⟩ := bind_some hr
   obtain ⟨x14, hx14, hr⟩ := bind_some hr
   obtain ⟨x15, hx15, hr⟩ := bind_some hr
   refine cut (fun a' k' => Bs noF k0 70 a' k' ∧ (IsV a_) (a'.get 0) k' ∧ (IsV b_) (a'.get 1) k' ∧ (IsFn2T Tryz.prog op_) (a'.get 2) k' ∧ (IsV x4) (a'.get 8) k' ∧ IsOwn 0 111 x15 (a'.get 9) k' ∧ Lo k0 (obF (a'.get 9)) ∧ (IsV s1.2) (a'.get 10) k' ∧ True) ?_ hQ ?_
   ·intro Q11 W11 w10
    refine region (m := 12) (⟨some (OwnAt (a.get 9) 0 111 s1.1), [(9, none)]⟩ :: _ :: _ :: _ :: _ :: _ :: _ :: _ :: _ :: _ :: _ :: ⟨some (IsV (⟨x13, x14, x11.1⟩ : Slab)), [(58, some 5), (62, some 9), (63, some 10)]⟩ :: []) hmix hs (by kernel_rfl) ⟨ob1 rfl fun _ _ h n => ok_moveOA (.inl rfl) (ownAt n.1 (up i9 h n.1)), mu rfl i8, mu rfl i10, o1 [(55, some 2)] rfl fun _ _ h n => ok_sub rfl n.1 (cI rfl) hx12, o1 [(54, some 1), (56, some 3)] rfl fun _ _ h n => ok_indexAddr rfl Tryz.underlying43 ty3 (IsV.rd n.1) n.2.1 hx13, o1 [(57, some 4)] rfl fun _ _ h n => ok_load rfl ty3 n.1, mu rfl i8, mu rfl i10, o1 [(59, some 6), (60, some 7)] rfl fun _ _ h n => ok_indexAddr rfl Tryz.underlying43 ty3 (IsV.rd n.1) n.2.1 hx14, o1 [(61, some 8)] rfl fun _ _ h n => ok_load rfl ty3 n.1, mu rfl i11, ob1 rfl fun _ _ h n => ok_build rfl (bld111_0_1_2 n.1 n.2.1 n.2.2.1), trivial⟩ W11 fun b q p => ?_
    have hgq := hg.then p.grow
    have hsb := p.size.trans hs
    have hdb := p.defers.trans hd
    have j0 := p.ke 0 rfl i0
    have j1 := p.ke 1 rfl i1
    have j2 := p.ke 2 rfl i2
    have j8 := p.ke 8 rfl i8
    have j10 := p.ke 10 rfl i10
    have e53 : b.get 53 = a.get 9 := (p.ou 0 53 rfl).1
    have j53 : IsOwn 0 111 s1.1 (b.get 53) q := (p.ou 0 53 rfl).2
    have y53 : Lo k0 (obF (b.get 53)) := by rw [e53]; exact n9
    have j64 : (IsV (⟨x13, x14, x11.1⟩ : Slab)) (b.get 64) q := p.ou 11 64 rfl
    have hns := j53.nshF
    refine tail_call (F := obF (b.get 53)) (i := 12) (d := 65) rfl rfl rfl rfl (by rw [hsb]; decide) Tryz.call70 W11 (solid_put_ok j53 j64 hx15) fun b2 q2 hsz hdf hoth hch hres => ?_
    have hle := hch.le hns
    obtain ⟨hown, hob⟩ := hres
    have yn : Lo k0 (obF (b2.get 65)) := y53.app hgq hob
    replace j0 := Pers.pers hle j0
    replace j1 := Pers.pers hle j1
    replace j2 := Pers.pers hle j2
    replace j8 := Pers.pers hle j8
    replace j10 := Pers.pers hle j10
    replace j64 := Pers.pers hle j64
    replace hgq := hgq.step hch y53.wr
    rw [← hoth 0 (by decide)] at j0
    rw [← hoth 1 (by decide)] at j1
    rw [← hoth 2 (by decide)] at j2
    rw [← hoth 8 (by decide)] at j8
    rw [← hoth 10 (by decide)] at j10
    rw [← hoth 64 (by decide)] at j64
    have j65 := hown
    have y65 := yn
    have hres := True.intro
    clear hown hob yn
    replace hsb := hsz.trans hsb
    replace hdb := hdf.trans hdb
    clear hle hch hres hns hsz hdf hoth
    obtain ⟨b, hbb⟩ : ∃ b, b = b2 := ⟨b2, rfl⟩
    subst hbb
    obtain ⟨q, hqq⟩ : ∃ q, q = q2 := ⟨q2, rfl⟩
    subst hqq
    refine tail_assign (i := 13) (d := 9) rfl rfl (.inl rfl) rfl (by rw [hsb]; decide) fun b2 hsz hdf hnew hoth => ?_
    have jn : (IsOwn 0 111 x15) (b2.get 9) q := by rw [hnew]; exact j65
    have yn : Lo k0 (obF (b2.get 9)) := by rw [hnew]; exact y65
    rw [← hoth 0 (by decide)] at j0
    rw [← hoth 1 (by decide)] at j1
    rw [← hoth 2 (by decide)] at j2
    rw [← hoth 8 (by decide)] at j8
    rw [← hoth 10 (by decide)] at j10
    rw [← hoth 64 (by decide)] at j64
    have j9 := jn
    have y9 := yn
    replace hsb := hsz.trans hsb
    replace hdb := hdf.trans hdb
    clear hsz hdf hoth
    obtain ⟨b, hbb⟩ : ∃ b, b = b2 := ⟨b2, rfl⟩
    subst hbb
    exact tail_done (k := q) (w10 _ _ ⟨⟨hgq, hsb, hdb⟩, j0, j1, j2, j8, j9, y9, j10, trivial⟩)
   rintro a k ⟨⟨hg, hs, hd⟩, i0, i1, i2, i8, i9, n9, i10, _⟩
   obtain ⟨x16, hx16, hr⟩ := bind_some hr
   refine cut (fun a' k' => Bs noF k0 70 a' k' ∧ (IsV a_) (a'.get 0) k' ∧ (IsV b_) (a'.get 1) k' ∧ (IsFn2T Tryz.prog op_) (a'.get 2) k' ∧ (IsV x4) (a'.get 8) k' ∧ IsOwn 0 111 x15 (a'.get 9) k' ∧ Lo k0 (obF (a'.get 9)) ∧ (IsV x16) (a'.get 10) k' ∧ True) ?_ hQ ?_
   ·intro Q12 W12 w11
    refine gS 3 (_ :: _ :: _ :: []) hs (by kernel_rfl) ⟨mu rfl i10, o1 [(29, some 0)] rfl fun _ _ h n => ok_add rfl n.1 (cI rfl) hx16, cp 1 rfl rfl, trivial⟩ W12 fun b q p => ?_
    exact tail_done (k := q) (w11 _ _ ⟨Bs.post ⟨hg, hs, hd⟩ p, p.ke 0 rfl i0, p.ke 1 rfl i1, p.ke 2 rfl i2, p.ke 8 rfl i8, p.ke 9 rfl i9, (by rw [p.old 9 rfl]; exact n9), p.ou 2 10 rfl, trivial⟩)
   rintro a k ⟨⟨hg, hs, hd⟩, i0, i1, i2, i8, i9, n9, i10, _⟩
   exact hgo2215 _ _ _ (Option.some.inj hr).symm ⟨⟨hg, hs, hd⟩, i0, i1, i2, i8, i9, n9, i10, trivial⟩
  rw [if_neg (by rw [hc2236]; decide)] at hr
  refine wp_exit ?_
  obtain ⟨kk, sh2235, ii9⟩ := i9.give
  replace i9 := ii9
  replace hg := hg.hand sh2235 n9.wr
  rw [← sh2235.w]
  clear sh2235
  obtain ⟨k, hkk⟩ : ∃ k, k = kk := ⟨kk, rfl⟩
  subst hkk
  exact hex2216 _ _ _ _ (Option.some.inj hr).symm ⟨rfl, ⟨hg, hs, hd⟩, i9, trivial⟩
 ·rintro r1 a k rfl hR
  dsimp only at hr
  obtain rfl := Option.some.inj hr
  exact hR
 ·rintro _ _ _ rfl _
  simp at hr
 clear hf1
 rintro _ s2 a k rfl ⟨rfl, ⟨hg, hs, hd⟩, i9, _⟩
 dsimp only at hr
 refine wp_seq ?_
 obtain ⟨x17, hx17, hr⟩ := bind_some hr
 refine cut (fun a' k' => Bs noF k0 70 a' k' ∧ (IsV x17.1) (a'.get 6) k' ∧ (IsV x17.2) (a'.get 7) k' ∧ True) ?_ hQ ?_
 ·intro Q13 W13 w12
  refine gS 6 (_ :: _ :: _ :: _ :: _ :: _ :: []) hs (by kernel_rfl) ⟨mu rfl i9, o1 [(66, some 0)] rfl fun _ _ h n => ok_call rfl Tryz.call71 (solid_fits_ok n.1 hx17), o1 [(67, some 1)] rfl fun _ _ h n => ok_ext2_0 rfl n.1, o1 [(67, some 1)] rfl fun _ _ h n => ok_ext2_1 rfl n.1, cp 2 rfl rfl, cp 3 rfl rfl, trivial⟩ W13 fun b q p => ?_
  exact tail_done (k := q) (w12 _ _ ⟨Bs.post ⟨hg, hs, hd⟩ p, p.ou 4 6 rfl, p.ou 5 7 rfl, trivial⟩)
 rintro a k ⟨⟨hg, hs, hd⟩, i6, i7, _⟩
 refine wp_ret ?_
 obtain rfl := Option.some.inj hr
 exact retC2 rfl hd hg i6 i7
def slices_BinarySearchFunc_strip_int_L0 (x_ : (List RegionStrip)) (target_ : Int) (cmp_ : (RegionStrip → Int → Option (Int))) (s1 : Int × Int) : Option (Flow (Int × Int) (Int × Bool)) :=
 if (decide (s1.1 < s1.2)) then
  (addI s1.1 s1.2).bind fun x1 =>
  (getI x_ (IntKind.i64.wrap (IK.shr (IK.mk (IntKind.u64.wrap x1) : IK .u64) 1).n)).bind fun x2 =>
  (cmp_ x2 target_).bind fun x3 =>
  (if (decide (x3 < 0)) then
   (addI (IntKind.i64.wrap (IK.shr (IK.mk (IntKind.u64.wrap x1) : IK .u64) 1).n) 1).bind fun x4 =>
   some (x4, s1.2)
  else
   some (s1.1, (IntKind.i64.wrap (IK.shr (IK.mk (IntKind.u64.wrap x1) : IK .u64) 1).n))).bind fun s2 =>
  some (.go (s2.1, s2.2))
 else
  some (.ex 0 (s1.1, s1.2))
def slices_BinarySearchFunc_strip_int (x_ : (List RegionStrip)) (target_ : Int) (cmp_ : (RegionStrip → Int → Option (Int))) : Option (Int × Bool) :=
 (iterL (slices_BinarySearchFunc_strip_int_L0 x_ target_ cmp_) (x_.length + 1) (0, (x_.length : Int))).bind fun f1 => match f1 with
  | .go _ => none
  | .ex _ s1 =>
   (if (decide (s1.1 < (x_.length : Int))) then
    (getI x_ s1.1).bind fun x1 =>
    (cmp_ x1 target_).bind fun x2 =>
    some (x2 == 0)
   else
    some false).bind fun x3 =>
   some (s1.1, x3)
  | .ret r1 => some r1
theorem slices_BinarySearchFunc_strip_int_ok {k0 : K} {v0 v1 v2 : Value} {x_ : (List RegionStrip)} {target_ : Int} {cmp_ : (RegionStrip → Int → Option (Int))} {r : Int × Bool} (i0 : (IsV x_) v0 k0) (i1 : (IsV target_) v1 k0) (i2 : (IsFn2 Tryz.prog cmp_) v2 k0) (hr : slices_BinarySearchFunc_strip_int x_ target_ cmp_ = some r) :
  Calls Tryz.prog 112 #[v0, v1, v2] k0.w (Ret k0 (IsTup2 (IsV r.1) (IsV r.2))) := by
 unfold slices_BinarySearchFunc_strip_int at hr
 refine Ret.ofC ?_
 refine enterK Tryz.func112 rfl Tryz.ntmps112 (show 3 ≤ 49 by decide) fun a k hk0 hs hd ha => ?_
 obtain ⟨e0, e1, e2, _⟩ := ha
 replace i0 : (IsV x_) (a.get 0) k := by rw [e0, hk0]; exact i0
 replace i1 : (IsV target_) (a.get 1) k := by rw [e1, hk0]; exact i1
 replace i2 : (IsFn2 Tryz.prog cmp_) (a.get 2) k := by rw [e2, hk0]; exact i2
 have hQ : Gb.LetsOut (bodyPost Tryz.prog Tryz.f112 (RetC noF k0 (IsTup2 (IsV r.1) (IsV r.2)))) := letsOutC
 have hg : Chg noF k0 k := by rw [hk0]; exact Chg.refl _ k0
 refine stepL 2 (⟨some (IsI 0), []⟩ :: ⟨some (IsV false), []⟩ :: []) rfl ⟨hg, hs, hd⟩ (by kernel_rfl) ⟨aI rfl rfl, ob1 rfl fun _ _ h n => ok_assign rfl (isV_bool.2 rfl), trivial⟩ [⟨_, _⟩, ⟨_, _⟩, ⟨_, _⟩] (fun b q p => ⟨p.ke 0 rfl i0, p.ke 1 rfl i1, p.ke 2 rfl i2, trivial⟩) ?_
 rintro a k ⟨⟨hg, hs, hd⟩, i0, i1, i2, _⟩
 refine stepL 3 (_ :: _ :: _ :: []) rfl ⟨hg, hs, hd⟩ (by kernel_rfl) ⟨mu rfl i0, o1 [(12, some 0)] rfl fun _ _ h n => ok_len rfl rfl Tryz.underlying142 (IsV.rd n.1), cp 1 rfl rfl, trivial⟩ [⟨_, _⟩, ⟨_, _⟩, ⟨_, _⟩, ⟨_, _⟩] (fun b q p => ⟨p.ke 0 rfl i0, p.ke 1 rfl i1, p.ke 2 rfl i2, p.ou 2 8 rfl, trivial⟩) ?_
 rintro a k ⟨⟨hg, hs, hd⟩, i0, i1, i2, i8, _⟩
 refine stepL 3 (_ :: ⟨some (IsI 0), []⟩ :: _ :: []) rfl ⟨hg, hs, hd⟩ (by kernel_rfl) ⟨mu rfl i8, aI rfl rfl, cp 0 rfl rfl, trivial⟩ [⟨_, _⟩, ⟨_, _⟩, ⟨_, _⟩, ⟨_, _⟩, ⟨_, _⟩, ⟨_, _⟩] (fun b q p => ⟨p.ke 0 rfl i0, p.ke 1 rfl i1, p.ke 2 rfl i2, p.ke 8 rfl i8, p.ou 1 9 rfl, p.ou 2 10 rfl, trivial⟩) ?_
 rintro a k ⟨⟨hg, hs, hd⟩, i0, i1, i2, i8, i9, i10, _⟩
 refine wp_seq ?_
 refine wp_block ?_
 obtain ⟨f1, hf1, hr⟩ := bind_some hr
 refine cutFe f1 (fun s' c l => Bs noF k0 49 c l ∧ IsV x_ (c.get 0) l ∧ IsV target_ (c.get 1) l ∧ IsFn2 Tryz.prog cmp_ (c.get 2) l ∧ IsL x_ (c.get 8) l ∧ IsV s'.1 (c.get 9) l ∧ IsV s'.2 (c.get 10) l ∧ True) (fun i' s' c l => (i' = 0 ∧ Bs noF k0 49 c l ∧ IsV x_ (c.get 0) l ∧ IsV target_ (c.get 1) l ∧ IsFn2 Tryz.prog cmp_ (c.get 2) l ∧ IsL x_ (c.get 8) l ∧ IsV s'.1 (c.get 9) l ∧ True)) (fun r' c l => bodyPost Tryz.prog Tryz.f112 (RetC noF k0 (IsTup2 (IsV r'.1) (IsV r'.2))) .ret c l.w) ?_ hQ ?_ ?_ ?_
 ·intro Q1 W1 hgo hex hret
  refine sim_loop ?_ _ _ _ _ _ hf1 ⟨⟨hg, hs, hd⟩, i0, i1, i2, i8, i9, i10, trivial⟩ Q1 W1 hgo hex hret
  clear hr hf1 hgo hex hret W1 hQ hg hs hd i0 i1 i10 i2 i8 i9
  intro s1 fl_ a k hr hS Q hQ hgo2261 hex2262 hret2263
  obtain ⟨⟨hg, hs, hd⟩, i0, i1, i2, i8, i9, i10, _⟩ := hS
  unfold slices_BinarySearchFunc_strip_int_L0 at hr
  refine wp_seq ?_
  refine stepL 3 (_ :: _ :: _ :: []) rfl ⟨hg, hs, hd⟩ (by kernel_rfl) ⟨mu rfl i9, mu rfl i10, o1 [(15, some 0), (16, some 1)] rfl fun _ _ h n => ok_lss rfl n.1 n.2.1, trivial⟩ [⟨_, _⟩, ⟨_, _⟩, ⟨_, _⟩, ⟨_, _⟩, ⟨_, _⟩, ⟨_, _⟩, ⟨_, _⟩] (fun b q p => ⟨p.ke 0 rfl i0, p.ke 1 rfl i1, p.ke 2 rfl i2, p.ke 8 rfl i8, p.ke 9 rfl i9, p.ke 10 rfl i10, p.ou 2 17 rfl, trivial⟩) ?_
  rintro a k ⟨⟨hg, hs, hd⟩, i0, i1, i2, i8, i9, i10, i17, _⟩
  refine wp_cond_split (isBool i17) (fun hc2281 => ?_) (fun hc2281 => ?_)
  ·rw [if_pos hc2281] at hr
   refine wp_skip ?_
   refine wp_block ?_
   refine wp_seq ?_
   obtain ⟨x1, hx1, hr⟩ := bind_some hr
   refine cut (fun a' k' => Bs noF k0 49 a' k' ∧ (IsV x_) (a'.get 0) k' ∧ (IsV target_) (a'.get 1) k' ∧ (IsFn2 Tryz.prog cmp_) (a'.get 2) k' ∧ (IsL x_) (a'.get 8) k' ∧ (IsV s1.1) (a'.get 9) k' ∧ (IsV s1.2) (a'.get 10) k' ∧ (IsI (IntKind.i64.wrap (IK.shr (IK.mk (IntKind.u64.wrap x1) : IK .u64) 1).n)) (a'.get 11) k' ∧ True) ?_ hQ ?_
   ·intro Q2 W2 w1
    refine gS 7 (_ :: _ :: _ :: ⟨some (IsV (IK.mk (IntKind.u64.wrap x1) : IK .u64)), [(20, some 2)]⟩ :: ⟨some (IsV (IK.shr (IK.mk (IntKind.u64.wrap x1) : IK .u64) 1)), [(21, some 3)]⟩ :: ⟨some (IsI (IntKind.i64.wrap (IK.shr (IK.mk (IntKind.u64.wrap x1) : IK .u64) 1).n)), [(22, some 4)]⟩ :: _ :: []) hs (by kernel_rfl) ⟨mu rfl i9, mu rfl i10, o1 [(18, some 0), (19, some 1)] rfl fun _ _ h n => ok_add rfl n.1 n.2.1 hx1, ob1 rfl fun _ _ h n => ok_conv_ik rfl (by rw [Tryz.underlying3]; rfl) Tryz.underlying154 n.1, ob1 rfl fun _ _ h n => ok_shrK rfl n.1 (by decide) (by decide), ob1 rfl fun _ _ h n => ok_conv_ki rfl (by rw [Tryz.underlying154]; rfl) Tryz.underlying3 n.1, cp 5 rfl rfl, trivial⟩ W2 fun b q p => ?_
    exact tail_done (k := q) (w1 _ _ ⟨Bs.post ⟨hg, hs, hd⟩ p, p.ke 0 rfl i0, p.ke 1 rfl i1, p.ke 2 rfl i2, p.ke 8 rfl i8, p.ke 9 rfl i9, p.ke 10 rfl i10, p.ou 6 11 rfl, trivial⟩)
   rintro a k ⟨⟨hg, hs, hd⟩, i0, i1, i2, i8, i9, i10, i11, _⟩
   refine wp_seq ?_
   obtain ⟨x2, hx2, hr⟩ := bind_some hr
   obtain ⟨x3, hx3, hr⟩ := bind_some hr
   refine cut (fun a' k' => Bs noF k0 49 a' k' ∧ (IsV x_) (a'.get 0) k' ∧ (IsV target_) (a'.get 1) k' ∧ (IsFn2 Tryz.prog cmp_) (a'.get 2) k' ∧ (IsL x_) (a'.get 8) k' ∧ (IsV s1.1) (a'.get 9) k' ∧ (IsV s1.2) (a'.get 10) k' ∧ (IsI (IntKind.i64.wrap (IK.shr (IK.mk (IntKind.u64.wrap x1) : IK .u64) 1).n)) (a'.get 11) k' ∧ (IsV (decide (x3 < 0))) (a'.get 31) k' ∧ True) ?_ hQ ?_
   ·intro Q3 W3 w2
    refine gS 8 (_ :: _ :: _ :: _ :: _ :: _ :: ⟨some (IsV x3), [(24, some 0), (28, some 4), (29, some 5)]⟩ :: _ :: []) hs (by kernel_rfl) ⟨mu rfl i2, mu rfl i0, mu rfl i11, o1 [(25, some 1), (26, some 2)] rfl fun _ _ h n => ok_indexAddr rfl Tryz.underlying142 ty148 (IsV.rd n.1) n.2.1 hx2, o1 [(27, some 3)] rfl fun _ _ h n => ok_load rfl ty148 n.1, mu rfl i1, ob1 rfl fun _ _ h n => ok_callF2 rfl n.1 n.2.1 n.2.2.1 hx3, o1 [(30, some 6)] rfl fun _ _ h n => ok_lss rfl n.1 (cI rfl), trivial⟩ W3 fun b q p => ?_
    exact tail_done (k := q) (w2 _ _ ⟨Bs.post ⟨hg, hs, hd⟩ p, p.ke 0 rfl i0, p.ke 1 rfl i1, p.ke 2 rfl i2, p.ke 8 rfl i8, p.ke 9 rfl i9, p.ke 10 rfl i10, p.ke 11 rfl i11, p.ou 7 31 rfl, trivial⟩)
   rintro a k ⟨⟨hg, hs, hd⟩, i0, i1, i2, i8, i9, i10, i11, i31, _⟩
   obtain ⟨s2, hs2, hr⟩ := bind_some hr
   refine cut (fun a' k' => Bs noF k0 49 a' k' ∧ (IsV x_) (a'.get 0) k' ∧ (IsV target_) (a'.get 1) k' ∧ (IsFn2 Tryz.prog cmp_) (a'.get 2) k' ∧ (IsL x_) (a'.get 8) k' ∧ (IsV s2.1) (a'.get 9) k' ∧ (IsV s2.2) (a'.get 10) k' ∧ True) ?_ hQ ?_
   ·intro Q4 W4 w3
    replace hr := hs2
    clear hQ
    have hQ := W4
    refine wp_cond_split (isBool i31) (fun hc2275 => ?_) (fun hc2275 => ?_)
    ·rw [if_pos hc2275] at hr
     obtain ⟨x4, hx4, hr⟩ := bind_some hr
     refine cut (fun a' k' => Bs noF k0 49 a' k' ∧ (IsV x_) (a'.get 0) k' ∧ (IsV target_) (a'.get 1) k' ∧ (IsFn2 Tryz.prog cmp_) (a'.get 2) k' ∧ (IsL x_) (a'.get 8) k' ∧ (IsV x4) (a'.get 9) k' ∧ (IsV s1.2) (a'.get 10) k' ∧ True) ?_ hQ ?_
     ·intro Q5 W5 w4
      refine gS 3 (_ :: _ :: _ :: []) hs (by kernel_rfl) ⟨mu rfl i11, o1 [(32, some 0)] rfl fun _ _ h n => ok_add rfl n.1 (cI rfl) hx4, cp 1 rfl rfl, trivial⟩ W5 fun b q p => ?_
      exact tail_done (k := q) (w4 _ _ ⟨Bs.post ⟨hg, hs, hd⟩ p, p.ke 0 rfl i0, p.ke 1 rfl i1, p.ke 2 rfl i2, p.ke 8 rfl i8, p.ou 2 9 rfl, p.ke 10 rfl i10, trivial⟩)
     rintro a k ⟨⟨hg, hs, hd⟩, i0, i1, i2, i8, i9, i10, _⟩
     obtain rfl := Option.some.inj hr
     exact w3 _ _ ⟨⟨hg, hs, hd⟩, i0, i1, i2, i8, i9, i10, trivial⟩
    rw [if_neg (by rw [hc2275]; decide)] at hr
    refine cut (fun a' k' => Bs noF k0 49 a' k' ∧ (IsV x_) (a'.get 0) k' ∧ (IsV target_) (a'.get 1) k' ∧ (IsFn2 Tryz.prog cmp_) (a'.get 2) k' ∧ (IsL x_) (a'.get 8) k' ∧ (IsV s1.1) (a'.get 9) k' ∧ (IsI (IntKind.i64.wrap (IK.shr (IK.mk (IntKind.u64.wrap x1) : IK .u64) 1).n)) (a'.get 10) k' ∧ True) ?_ hQ ?_
    ·intro Q6 W6 w5
     refine gS 2 (_ :: _ :: []) hs (by kernel_rfl) ⟨mu rfl i11, cp 0 rfl rfl, trivial⟩ W6 fun b q p => ?_
     exact tail_done (k := q) (w5 _ _ ⟨Bs.post ⟨hg, hs, hd⟩ p, p.ke 0 rfl i0, p.ke 1 rfl i1, p.ke 2 rfl i2, p.ke 8 rfl i8, p.ke 9 rfl i9, p.ou 1 10 rfl, trivial⟩)
    rintro a k ⟨⟨hg, hs, hd⟩, i0, i1, i2, i8, i9, i10, _⟩
    obtain rfl := Option.some.inj hr
    exact w3 _ _ ⟨⟨hg, hs, hd⟩, i0, i1, i2, i8, i9, i10, trivial⟩
   clear hs2
   rintro a k ⟨⟨hg, hs, hd⟩, i0, i1, i2, i8, i9, i10, _⟩
   exact hgo2261 _ _ _ (Option.some.inj hr).symm ⟨⟨hg, hs, hd⟩, i0, i1, i2, i8, i9, i10, trivial⟩
  rw [if_neg (by rw [hc2281]; decide)] at hr
  refine wp_exit ?_
  exact hex2262 _ _ _ _ (Option.some.inj hr).symm ⟨rfl, ⟨hg, hs, hd⟩, i0, i1, i2, i8, i9, trivial⟩
 ·rintro r1 a k rfl hR
  dsimp only at hr
  obtain rfl := Option.some.inj hr
  exact hR
 ·rintro _ _ _ rfl _
  simp at hr
 clear hf1
 rintro _ s3 a k rfl ⟨rfl, ⟨hg, hs, hd⟩, i0, i1, i2, i8, i9, _⟩
 dsimp only at hr
 refine wp_seq ?_
 obtain ⟨x5, hx5, hr⟩ := bind_some hr
 obtain ⟨x6, hx6, hx5⟩ := ite_bind hx5
 obtain ⟨x7, hx7, hx5⟩ := ite_bind hx5
 refine cut (fun a' k' => Bs noF k0 49 a' k' ∧ (IsV s3.1) (a'.get 6) k' ∧ (IsV x5) (a'.get 7) k' ∧ True) ?_ hQ ?_
 ·intro Q7 W7 w6
  refine gS 16 (_ :: _ :: _ :: _ :: _ :: _ :: _ :: _ :: _ :: _ :: _ :: ⟨some (Gd ((decide (s3.1 < (x_.length : Int))) = true) (IsV x7)), [(40, some 5), (44, some 9), (45, some 10)]⟩ :: _ :: _ :: _ :: _ :: []) hs (by kernel_rfl) ⟨mu rfl i9, mu rfl i9, mu rfl i8, o1 [(36, some 1), (37, some 2)] rfl fun _ _ h n => ok_lss rfl n.1 n.2.1, cm 3 rfl rfl, mT rfl rfl i2, mT rfl rfl i0, mT rfl rfl i9, gT [(41, some 6), (42, some 7)] rfl rfl fun hp _ _ h n => ok_indexAddr rfl Tryz.underlying142 ty148 (IsV.rd (Gd.get n.1 hp)) (Gd.get n.2.1 hp) (hx6 hp), gT [(43, some 8)] rfl rfl fun hp _ _ h n => ok_load rfl ty148 (Gd.get n.1 hp), mT rfl rfl i1, gdT rfl rfl fun hp _ _ h n => ok_callF2 rfl (Gd.get n.1 hp) (Gd.get n.2.1 hp) (Gd.get n.2.2.1 hp) (hx7 hp), gT [(46, some 11)] rfl rfl fun hp _ _ h n => ok_eqI rfl (Gd.get n.1 hp) (cI rfl), o1 [(39, some 4), (47, some 12)] rfl fun _ _ h n => ok_pickM rfl n.1 hx5 (Gd.get n.2.1) (cB rfl), cp 0 rfl rfl, cp 13 rfl rfl, trivial⟩ W7 fun b q p => ?_
  exact tail_done (k := q) (w6 _ _ ⟨Bs.post ⟨hg, hs, hd⟩ p, p.ou 14 6 rfl, p.ou 15 7 rfl, trivial⟩)
 rintro a k ⟨⟨hg, hs, hd⟩, i6, i7, _⟩
 refine wp_ret ?_
 obtain rfl := Option.some.inj hr
 exact retC2 rfl hd hg i6 i7
def region_at_1 (s_ : RegionStrip) (x_ : Int) : Option (Int) :=
 if (decide (s_.x1 ≤ x_)) then
  some (-1)
 else
  some 1
noncomputable def k113 := mk 113 [.st 8, .int] [.int] (fun x => region_at_1 x.1 x.2) [] [] Tryz.f113 (.n) Tryz.func113 Tryz.call113 rfl rfl fun x => by kernel_rfl
theorem region_at_1_ok {k0 : K} {v0 v1 : Value} {x0 : RegionStrip} {x1 : Int} {r : Int} (i0 : IsV x0 v0 k0) (i1 : IsV x1 v1 k0) (hr : region_at_1 x0 x1 = some r) : Calls Tryz.prog 113 #[v0, v1] k0.w (Ret k0 (IsV r)) := (k113.ok.ok k0 [v0, v1] (x0, x1) r (GOk.none (fun _ => rfl) fun _ e => by cases e) ⟨i0, i1⟩ hr)
def region_at (l_ : (List RegionStrip)) (x_ : Int) : Option ((List RegionSpan)) :=
 (slices_BinarySearchFunc_strip_int l_ x_ region_at_1).bind fun x1 =>
 (if (decide (x1.1 < (l_.length : Int))) then
  (getI l_ x1.1).bind fun x2 =>
  some (decide (x2.x0 ≤ x_))
 else
  some false).bind fun x3 =>
 if x3 then
  (getI l_ x1.1).bind fun x4 =>
  some x4.column
 else
  some ([] : List RegionSpan)
theorem region_at_ok {k0 : K} {v0 v1 : Value} {l_ : (List RegionStrip)} {x_ : Int} {r : (List RegionSpan)} (i0 : (IsV l_) v0 k0) (i1 : (IsV x_) v1 k0) (hr : region_at l_ x_ = some r) :
  Calls Tryz.prog 99 #[v0, v1] k0.w (Ret k0 (IsV r)) := by
 unfold region_at at hr
 refine Ret.ofC ?_
 refine enterK Tryz.func99 rfl Tryz.ntmps99 (show 2 ≤ 31 by decide) fun a k hk0 hs hd ha => ?_
 obtain ⟨e0, e1, _⟩ := ha
 replace i0 : (IsV l_) (a.get 0) k := by rw [e0, hk0]; exact i0
 replace i1 : (IsV x_) (a.get 1) k := by rw [e1, hk0]; exact i1
 have hQ : Gb.LetsOut (bodyPost Tryz.prog Tryz.f99 (RetC noF k0 (IsV r))) := letsOutC
 have hg : Chg noF k0 k := by rw [hk0]; exact Chg.refl _ k0
 refine stepL 1 (⟨some IsE0, []⟩ :: []) rfl ⟨hg, hs, hd⟩ (by kernel_rfl) ⟨ob1 rfl fun b q h n => ok_assign rfl isE0_nil, trivial⟩ [⟨_, _⟩, ⟨_, _⟩] (fun b q p => ⟨p.ke 0 rfl i0, p.ke 1 rfl i1, trivial⟩) ?_
 rintro a k ⟨⟨hg, hs, hd⟩, i0, i1, _⟩
 refine wp_seq ?_
 obtain ⟨x1, hx1, hr⟩ := bind_some hr
 refine cut (fun a' k' => Bs noF k0 31 a' k' ∧ (IsV l_) (a'.get 0) k' ∧ (IsV x_) (a'.get 1) k' ∧ (IsV x1.1) (a'.get 5) k' ∧ True) ?_ hQ ?_
 ·intro Q1 W1 w1
  refine gS 8 (_ :: _ :: _ :: _ :: _ :: _ :: _ :: _ :: []) hs (by kernel_rfl) ⟨mu rfl i0, mu rfl i1, o1 [(8, some 0), (9, some 1)] rfl fun _ _ h n => ok_call rfl Tryz.call112 (slices_BinarySearchFunc_strip_int_ok n.1 n.2.1 ⟨113, _, _, rfl, Tryz.call113, fun k9 hk9 _ _ _ _ _ hx0 hx1 hy9 => by simpa [evalT] using region_at_1_ok hx0 hx1 hy9⟩ hx1), cm 2 rfl rfl, o1 [(7, some 3)] rfl fun _ _ h n => ok_ext2_0 rfl n.1, o1 [(7, some 3)] rfl fun _ _ h n => ok_ext2_1 rfl n.1, cp 4 rfl rfl, cp 5 rfl rfl, trivial⟩ W1 fun b q p => ?_
  exact tail_done (k := q) (w1 _ _ ⟨Bs.post ⟨hg, hs, hd⟩ p, p.ke 0 rfl i0, p.ke 1 rfl i1, p.ou 6 5 rfl, trivial⟩)
 rintro a k ⟨⟨hg, hs, hd⟩, i0, i1, i5, _⟩
 refine wp_seq ?_
 refine wp_seq ?_
 obtain ⟨x2, hx2, hr⟩ := bind_some hr
 obtain ⟨x3, hx3, hx2⟩ := ite_bind hx2
 refine cut (fun a' k' => Bs noF k0 31 a' k' ∧ (IsV l_) (a'.get 0) k' ∧ (IsV x1.1) (a'.get 5) k' ∧ (IsV x2) (a'.get 25) k' ∧ True) ?_ hQ ?_
 ·intro Q2 W2 w2
  refine gS 13 (_ :: _ :: _ :: _ :: _ :: _ :: _ :: _ :: _ :: _ :: _ :: _ :: _ :: []) hs (by kernel_rfl) ⟨mu rfl i5, mu rfl i0, o1 [(14, some 1)] rfl fun _ _ h n => ok_len rfl rfl Tryz.underlying142 (IsV.rd n.1), o1 [(13, some 0), (15, some 2)] rfl fun _ _ h n => ok_lss rfl n.1 n.2.1, cm 3 rfl rfl, mT rfl rfl i0, mT rfl rfl i5, gT [(18, some 5), (19, some 6)] rfl rfl fun hp _ _ h n => ok_indexAddr rfl Tryz.underlying142 ty148 (IsV.rd (Gd.get n.1 hp)) (Gd.get n.2.1 hp) (hx3 hp), gT [(20, some 7)] rfl rfl fun hp _ _ h n => ok_fieldAddr rfl fo148_0 (at_RegionStrip_0 _) (Gd.get n.1 hp), gT [(21, some 8)] rfl rfl fun hp _ _ h n => ok_load rfl ty3 (Gd.get n.1 hp), mT rfl rfl i1, gT [(22, some 9), (23, some 10)] rfl rfl fun hp _ _ h n => ok_leq rfl (Gd.get n.1 hp) (Gd.get n.2.1 hp), o1 [(17, some 4), (24, some 11)] rfl fun _ _ h n => ok_pickM rfl n.1 hx2 (Gd.get n.2.1) (cB rfl), trivial⟩ W2 fun b q p => ?_
  exact tail_done (k := q) (w2 _ _ ⟨Bs.post ⟨hg, hs, hd⟩ p, p.ke 0 rfl i0, p.ke 5 rfl i5, p.ou 12 25 rfl, trivial⟩)
 rintro a k ⟨⟨hg, hs, hd⟩, i0, i5, i25, _⟩
 refine wp_cond_split (isBool i25) (fun hc2319 => ?_) (fun hc2319 => ?_)
 ·rw [if_pos hc2319] at hr
  refine wp_seq ?_
  obtain ⟨x4, hx4, hr⟩ := bind_some hr
  refine cut (fun a' k' => Bs noF k0 31 a' k' ∧ (IsV x4.column) (a'.get 4) k' ∧ True) ?_ hQ ?_
  ·intro Q3 W3 w3
   refine gS 6 (_ :: _ :: _ :: _ :: _ :: _ :: []) hs (by kernel_rfl) ⟨mu rfl i0, mu rfl i5, o1 [(26, some 0), (27, some 1)] rfl fun _ _ h n => ok_indexAddr rfl Tryz.underlying142 ty148 (IsV.rd n.1) n.2.1 hx4, o1 [(28, some 2)] rfl fun _ _ h n => ok_fieldAddr rfl fo148_2 (at_RegionStrip_2 _) n.1, o1 [(29, some 3)] rfl fun _ _ h n => ok_load rfl ty146 n.1, cp 4 rfl rfl, trivial⟩ W3 fun b q p => ?_
   exact tail_done (k := q) (w3 _ _ ⟨Bs.post ⟨hg, hs, hd⟩ p, p.ou 5 4 rfl, trivial⟩)
  rintro a k ⟨⟨hg, hs, hd⟩, i4, _⟩
  refine wp_ret ?_
  obtain rfl := Option.some.inj hr
  exact retC1 rfl hd hg i4
 rw [if_neg (by rw [hc2319]; decide)] at hr
 refine wp_skip ?_
 refine cutL noF k0 31 [⟨4, IsV ([] : List RegionSpan)⟩] ?_ ?_
 ·intro Q4 W4 w4
  refine gS 1 (⟨some IsE0, []⟩ :: []) hs (by kernel_rfl) ⟨ob1 rfl fun b q h n => ok_assign rfl isE0_nil, trivial⟩ W4 fun b q p => ?_
  have hgq := hg.then p.grow
  have hsb := p.size.trans hs
  have hdb := p.defers.trans hd
  have j4 : IsE0 (b.get 4) q := p.ou 0 4 rfl
  replace j4 : IsV ([] : List RegionSpan) (b.get 4) q := j4.isV
  exact tail_done (k := q) (w4 _ _ ⟨⟨hgq, hsb, hdb⟩, j4, trivial⟩)
 rintro a k ⟨⟨hg, hs, hd⟩, i4, _⟩
 refine wp_ret ?_
 obtain rfl := Option.some.inj hr
 exact retC1 rfl hd hg i4
section
open Go.Proofs Go.RowKit Go.Lib Go.Sort Go.Shelf
def Tryz.growL137_ren : Go.Shelf.Ren := ⟨fun | 4 => 137 | n => n, fun | 22 => 146 | 25 => 157 | 3 => 3 | 4 => 4 | 9 => 9 | 20 => 20 | 0 => 0 | 2 => 3 | n => n, fun | n => n⟩
theorem Tryz.growL137 : Go.Proofs.Lays8.n4 Tryz.prog Tryz.growL137_ren := {
 mixed := by kernel_rfl,
 f4 := ⟨Tryz.f137.name, by decide, Tryz.func137.trans (congrArg some (by kernel_rfl))⟩,
 t0 := Tryz.underlying0,
 a0 := Tryz.isAgg0,
 z0 := Tryz.sizeOf0,
 v0 := Tryz.zeroValue0,
 t3 := Tryz.underlying3,
 a3 := Tryz.isAgg3,
 z3 := Tryz.sizeOf3,
 v3 := Tryz.zeroValue3,
 t4 := Tryz.underlying4,
 a4 := Tryz.isAgg4,
 z4 := Tryz.sizeOf4,
 v4 := Tryz.zeroValue4,
 t9 := Tryz.underlying9,
 a9 := Tryz.isAgg9,
 z9 := Tryz.sizeOf9,
 v9 := Tryz.zeroValue9,
 t20 := Tryz.underlying20,
 a20 := Tryz.isAgg20,
 z20 := Tryz.sizeOf20,
 v20 := Tryz.zeroValue20,
 t22 := Tryz.underlying146,
 a22 := Tryz.isAgg146,
 z22 := Tryz.sizeOf146,
 v22 := Tryz.zeroValue146 }
theorem slices_Grow_span_okO {k0 : K} {v0 v1 : Value} {n : Int} {r : List RegionSpan} (i0 : v0 = .slice none 0 0) (i1 : IsV n v1 k0) (hr : growI RegionSpan n = some r) : Calls Tryz.prog 137 #[v0, v1] k0.w (Ret k0 (IsOwn k0.w.heap.size 157 r)) := by
 refine grow_own eo157 i0 i1 hr ?_ fun m i z h0 hm hi hz hs hb => ?_
 ·have hcon := Any8.slices_Grow_room Tryz.growL137 none 0 0 0 k0.w (by omega) (by omega) (by omega) (by omega)
  change Calls Tryz.prog 137 _ _ _ at hcon
  exact hcon
 ·have hcon := Any8.slices_Grow_grow Tryz.growL137 i z hi hz hs none 0 0 m [] k0.w (by omega) (by omega) (by
   have : (0 + m) * i.bytes ≤ 1073741824 * 65536 := Nat.mul_le_mul (by omega) hb
   omega) (by omega) (by simp) (fun _ => rfl) (fun a h => by simp at h)
  change Calls Tryz.prog 137 _ _ _ at hcon
  exact hcon
end
def slices_Concat_span_L0 (slices_ : (List (List RegionSpan))) (s1 : Int × Int) : Option (Flow (Int × Int) ((List RegionSpan))) :=
 if (decide (s1.2 < (slices_.length : Int))) then
  (getI slices_ s1.2).bind fun x1 =>
  (addI s1.1 (x1.length : Int)).bind fun x2 =>
  if (decide (x2 < 0)) then
   none
  else
   (addI s1.2 1).bind fun x3 =>
   some (.go (x2, x3))
 else
  some (.ex 0 (s1.1, s1.2))
def slices_Concat_span_L1 (slices_ : (List (List RegionSpan))) (s1 : (List RegionSpan) × Int) : Option (Flow ((List RegionSpan) × Int) ((List RegionSpan))) :=
 if (decide (s1.2 < (slices_.length : Int))) then
  (getI slices_ s1.2).bind fun x1 =>
  (appI s1.1 x1).bind fun x2 =>
  (addI s1.2 1).bind fun x3 =>
  some (.go (x2, x3))
 else
  some (.ex 2 (s1.1, s1.2))
def slices_Concat_span (slices_ : (List (List RegionSpan))) : Option ((List RegionSpan)) :=
 (iterL (slices_Concat_span_L0 slices_) (slices_.length + 1) (0, 0)).bind fun f1 => match f1 with
  | .go _ => none
  | .ex _ s1 =>
   (growI RegionSpan s1.1).bind fun x1 =>
   (iterL (slices_Concat_span_L1 slices_) (slices_.length + 1) (x1, 0)).bind fun f2 => match f2 with
    | .go _ => none
    | .ex _ s2 =>
     some s2.1
    | .ret r1 => some r1
  | .ret r2 => some r2
theorem slices_Concat_span_okO {k0 : K} {v0 : Value} {slices_ : (List (List RegionSpan))} {r : (List RegionSpan)} (i0 : (IsV slices_) v0 k0) (hr : slices_Concat_span slices_ = some r) :
  Calls Tryz.prog 110 #[v0] k0.w (Ret k0 (IsOwn k0.w.heap.size 157 r)) := by
 unfold slices_Concat_span at hr
 refine Ret.ofC ?_
 refine enterK Tryz.func110 rfl Tryz.ntmps110 (show 1 ≤ 36 by decide) fun a k hk0 hs hd ha => ?_
 obtain ⟨e0, _⟩ := ha
 replace i0 : (IsV slices_) (a.get 0) k := by rw [e0, hk0]; exact i0
 have hQ : Gb.LetsOut (bodyPost Tryz.prog Tryz.f110 (RetC noF k0 (IsOwn k0.w.heap.size 157 r))) := letsOutC
 have hg : Chg noF k0 k := by rw [hk0]; exact Chg.refl _ k0
 refine stepL 1 (⟨some IsE0, []⟩ :: []) rfl ⟨hg, hs, hd⟩ (by kernel_rfl) ⟨ob1 rfl fun b q h n => ok_assign rfl isE0_nil, trivial⟩ [⟨_, _⟩] (fun b q p => ⟨p.ke 0 rfl i0, trivial⟩) ?_
 rintro a k ⟨⟨hg, hs, hd⟩, i0, _⟩
 refine stepL 1 (⟨some (IsI 0), []⟩ :: []) rfl ⟨hg, hs, hd⟩ (by kernel_rfl) ⟨aI rfl rfl, trivial⟩ [⟨_, _⟩, ⟨_, _⟩] (fun b q p => ⟨p.ke 0 rfl i0, p.ou 0 3 rfl, trivial⟩) ?_
 rintro a k ⟨⟨hg, hs, hd⟩, i0, i3, _⟩
 refine wp_seq ?_
 refine stepL 3 (_ :: _ :: ⟨some (IsI 0), []⟩ :: []) rfl ⟨hg, hs, hd⟩ (by kernel_rfl) ⟨mu rfl i0, o1 [(9, some 0)] rfl fun _ _ h n => ok_len rfl rfl Tryz.underlying185 (IsV.rd n.1), ob1 rfl fun _ _ h n => ok_move rfl (cI rfl), trivial⟩ [⟨_, _⟩, ⟨_, _⟩, ⟨_, _⟩, ⟨_, _⟩, ⟨_, _⟩] (fun b q p => ⟨p.ke 0 rfl i0, p.ke 3 rfl i3, p.ou 0 9 rfl, p.ou 1 10 rfl, p.ou 2 11 rfl, trivial⟩) ?_
 rintro a k ⟨⟨hg, hs, hd⟩, i0, i3, i9, i10, i11, _⟩
 refine wp_block ?_
 obtain ⟨f1, hf1, hr⟩ := bind_some hr
 refine cutFe f1 (fun s' c l => Bs noF k0 36 c l ∧ IsV slices_ (c.get 0) l ∧ IsV s'.1 (c.get 3) l ∧ IsV slices_ (c.get 9) l ∧ IsL slices_ (c.get 10) l ∧ IsV s'.2 (c.get 11) l ∧ True) (fun i' s' c l => (i' = 0 ∧ Bs noF k0 36 c l ∧ IsV slices_ (c.get 0) l ∧ IsV s'.1 (c.get 3) l ∧ True)) (fun r' c l => bodyPost Tryz.prog Tryz.f110 (RetC noF k0 (IsOwn k0.w.heap.size 157 r')) .ret c l.w) ?_ hQ ?_ ?_ ?_
 ·intro Q1 W1 hgo hex hret
  refine sim_loop ?_ _ _ _ _ _ hf1 ⟨⟨hg, hs, hd⟩, i0, i3, i9, i10, i11, trivial⟩ Q1 W1 hgo hex hret
  clear hr hf1 hgo hex hret W1 hQ hg hs hd i0 i10 i11 i3 i9
  intro s1 fl_ a k hr hS Q hQ hgo2330 hex2331 hret2332
  obtain ⟨⟨hg, hs, hd⟩, i0, i3, i9, i10, i11, _⟩ := hS
  unfold slices_Concat_span_L0 at hr
  refine stepL 1 (_ :: []) rfl ⟨hg, hs, hd⟩ (by kernel_rfl) ⟨o1 [(11, none), (10, none)] rfl fun _ _ h n => ok_lss rfl (up i11 h n.1) (up i10 h n.2.1), trivial⟩ [⟨_, _⟩, ⟨_, _⟩, ⟨_, _⟩, ⟨_, _⟩, ⟨_, _⟩, ⟨_, _⟩] (fun b q p => ⟨p.ke 0 rfl i0, p.ke 3 rfl i3, p.ke 9 rfl i9, p.ke 10 rfl i10, p.ke 11 rfl i11, p.ou 0 12 rfl, trivial⟩) ?_
  rintro a k ⟨⟨hg, hs, hd⟩, i0, i3, i9, i10, i11, i12, _⟩
  refine wp_seq ?_
  refine wp_cond_split (isBool i12) (fun hc2347 => ?_) (fun hc2347 => ?_)
  ·rw [if_pos hc2347] at hr
   refine wp_skip ?_
   refine wp_seq ?_
   refine wp_block ?_
   refine wp_seq ?_
   obtain ⟨x1, hx1, hr⟩ := bind_some hr
   refine cut (fun a' k' => Bs noF k0 36 a' k' ∧ (IsV slices_) (a'.get 0) k' ∧ (IsV s1.1) (a'.get 3) k' ∧ (IsV x1) (a'.get 5) k' ∧ (IsV slices_) (a'.get 9) k' ∧ (IsL slices_) (a'.get 10) k' ∧ (IsV s1.2) (a'.get 11) k' ∧ True) ?_ hQ ?_
   ·intro Q2 W2 w1
    refine gS 3 (_ :: _ :: _ :: []) hs (by kernel_rfl) ⟨o1 [(9, none), (11, none)] rfl fun _ _ h n => ok_indexAddr rfl Tryz.underlying185 ty146 (IsV.rd (up i9 h n.1)) (up i11 h n.2.1) hx1, o1 [(13, some 0)] rfl fun _ _ h n => ok_load rfl ty146 n.1, cp 1 rfl rfl, trivial⟩ W2 fun b q p => ?_
    exact tail_done (k := q) (w1 _ _ ⟨Bs.post ⟨hg, hs, hd⟩ p, p.ke 0 rfl i0, p.ke 3 rfl i3, p.ou 2 5 rfl, p.ke 9 rfl i9, p.ke 10 rfl i10, p.ke 11 rfl i11, trivial⟩)
   rintro a k ⟨⟨hg, hs, hd⟩, i0, i3, i5, i9, i10, i11, _⟩
   refine wp_seq ?_
   obtain ⟨x2, hx2, hr⟩ := bind_some hr
   refine cut (fun a' k' => Bs noF k0 36 a' k' ∧ (IsV slices_) (a'.get 0) k' ∧ (IsV x2) (a'.get 3) k' ∧ (IsV slices_) (a'.get 9) k' ∧ (IsL slices_) (a'.get 10) k' ∧ (IsV s1.2) (a'.get 11) k' ∧ True) ?_ hQ ?_
   ·intro Q3 W3 w2
    refine gS 5 (_ :: _ :: _ :: _ :: _ :: []) hs (by kernel_rfl) ⟨mu rfl i3, mu rfl i5, o1 [(16, some 1)] rfl fun _ _ h n => ok_len rfl rfl Tryz.underlying146 (IsV.rd n.1), o1 [(15, some 0), (17, some 2)] rfl fun _ _ h n => ok_add rfl n.1 n.2.1 hx2, cp 3 rfl rfl, trivial⟩ W3 fun b q p => ?_
    exact tail_done (k := q) (w2 _ _ ⟨Bs.post ⟨hg, hs, hd⟩ p, p.ke 0 rfl i0, p.ou 4 3 rfl, p.ke 9 rfl i9, p.ke 10 rfl i10, p.ke 11 rfl i11, trivial⟩)
   rintro a k ⟨⟨hg, hs, hd⟩, i0, i3, i9, i10, i11, _⟩
   refine stepL 2 (_ :: _ :: []) rfl ⟨hg, hs, hd⟩ (by kernel_rfl) ⟨mu rfl i3, o1 [(19, some 0)] rfl fun _ _ h n => ok_lss rfl n.1 (cI rfl), trivial⟩ [⟨_, _⟩, ⟨_, _⟩, ⟨_, _⟩, ⟨_, _⟩, ⟨_, _⟩, ⟨_, _⟩] (fun b q p => ⟨p.ke 0 rfl i0, p.ke 3 rfl i3, p.ke 9 rfl i9, p.ke 10 rfl i10, p.ke 11 rfl i11, p.ou 1 20 rfl, trivial⟩) ?_
   rintro a k ⟨⟨hg, hs, hd⟩, i0, i3, i9, i10, i11, i20, _⟩
   refine wp_cond_split (isBool i20) (fun hc2340 => ?_) (fun hc2340 => ?_)
   ·rw [if_pos hc2340] at hr
    simp at hr
   rw [if_neg (by rw [hc2340]; decide)] at hr
   refine wp_skip ?_
   obtain ⟨x3, hx3, hr⟩ := bind_some hr
   refine cut (fun a' k' => Bs noF k0 36 a' k' ∧ (IsV slices_) (a'.get 0) k' ∧ (IsV x2) (a'.get 3) k' ∧ (IsV slices_) (a'.get 9) k' ∧ (IsL slices_) (a'.get 10) k' ∧ (IsV x3) (a'.get 11) k' ∧ True) ?_ hQ ?_
   ·intro Q4 W4 w3
    refine gS 2 (_ :: _ :: []) hs (by kernel_rfl) ⟨o1 [(11, none)] rfl fun _ _ h n => ok_add rfl (up i11 h n.1) (cI rfl) hx3, cm 0 rfl rfl, trivial⟩ W4 fun b q p => ?_
    exact tail_done (k := q) (w3 _ _ ⟨Bs.post ⟨hg, hs, hd⟩ p, p.ke 0 rfl i0, p.ke 3 rfl i3, p.ke 9 rfl i9, p.ke 10 rfl i10, p.ou 1 11 rfl, trivial⟩)
   rintro a k ⟨⟨hg, hs, hd⟩, i0, i3, i9, i10, i11, _⟩
   exact hgo2330 _ _ _ (Option.some.inj hr).symm ⟨⟨hg, hs, hd⟩, i0, i3, i9, i10, i11, trivial⟩
  rw [if_neg (by rw [hc2347]; decide)] at hr
  refine wp_exit ?_
  exact hex2331 _ _ _ _ (Option.some.inj hr).symm ⟨rfl, ⟨hg, hs, hd⟩, i0, i3, trivial⟩
 ·rintro r1 a k rfl hR
  dsimp only at hr
  obtain rfl := Option.some.inj hr
  exact hR
 ·rintro _ _ _ rfl _
  simp at hr
 clear hf1
 rintro _ s2 a k rfl ⟨rfl, ⟨hg, hs, hd⟩, i0, i3, _⟩
 dsimp only at hr
 refine wp_seq ?_
 obtain ⟨x4, hx4, hr⟩ := bind_some hr
 refine cut (fun a' k' => Bs noF k0 36 a' k' ∧ (IsV slices_) (a'.get 0) k' ∧ IsOwn 0 157 x4 (a'.get 6) k' ∧ Lo k0 (obF (a'.get 6)) ∧ True) ?_ hQ ?_
 ·intro Q5 W5 w4
  refine gS 3 (_ :: _ :: _ :: []) hs (by kernel_rfl) ⟨mu rfl i3, o1 [(23, some 0)] rfl fun _ _ h n => ok_call rfl Tryz.call137 (ret_weaken h.size (slices_Grow_span_okO rfl n.1 hx4)), cp 1 rfl rfl, trivial⟩ W5 fun b q p => ?_
  have hgq := hg.then p.grow
  have hsb := p.size.trans hs
  have hdb := p.defers.trans hd
  have j0 := p.ke 0 rfl i0
  have j6 : (IsOwn k.w.heap.size 157 x4) (b.get 6) q := p.ou 2 6 rfl
  have x6 : Lo k (obF (b.get 6)) := j6.loF
  have y6 := x6.chg hg
  replace j6 := j6.weaken (Nat.zero_le _)
  exact tail_done (k := q) (w4 _ _ ⟨⟨hgq, hsb, hdb⟩, j0, j6, y6, trivial⟩)
 rintro a k ⟨⟨hg, hs, hd⟩, i0, i6, n6, _⟩
 refine wp_seq ?_
 refine cutS (fun c l => Bs noF k0 36 c l ∧ IsOwn 0 157 x4 (c.get 6) l ∧ Lo k0 (obF (c.get 6)) ∧ IsV slices_ (c.get 25) l ∧ IsL slices_ (c.get 26) l ∧ IsI 0 (c.get 27) l ∧ True) ?_ ?_
 ·intro Q6 W6 w5
  refine gS 3 (_ :: _ :: ⟨some (IsI 0), []⟩ :: []) hs (by kernel_rfl) ⟨mu rfl i0, o1 [(25, some 0)] rfl fun _ _ h n => ok_len rfl rfl Tryz.underlying185 (IsV.rd n.1), ob1 rfl fun _ _ h n => ok_move rfl (cI rfl), trivial⟩ W6 fun b q p => ?_
  exact tail_done (k := q) (w5 _ _ ⟨Bs.post ⟨hg, hs, hd⟩ p, p.ke 6 rfl i6, (by rw [p.old 6 rfl]; exact n6), p.ou 0 25 rfl, p.ou 1 26 rfl, p.ou 2 27 rfl, trivial⟩)
 rintro a k ⟨⟨hg, hs, hd⟩, i6, n6, i25, i26, i27, _⟩
 refine wp_block ?_
 obtain ⟨f2, hf2, hr⟩ := bind_some hr
 refine cutFe f2 (fun s' c l => Bs noF k0 36 c l ∧ IsOwn 0 157 s'.1 (c.get 6) l ∧ Lo k0 (obF (c.get 6)) ∧ IsV slices_ (c.get 25) l ∧ IsL slices_ (c.get 26) l ∧ IsV s'.2 (c.get 27) l ∧ True) (fun i' s' c l => (i' = 2 ∧ Bs noF k0 36 c l ∧ IsOwn 0 157 s'.1 (c.get 6) l ∧ Lo k0 (obF (c.get 6)) ∧ True)) (fun r' c l => bodyPost Tryz.prog Tryz.f110 (RetC noF k0 (IsOwn k0.w.heap.size 157 r')) .ret c l.w) ?_ hQ ?_ ?_ ?_
 ·intro Q7 W7 hgo hex hret
  refine sim_loop ?_ _ _ _ _ _ hf2 ⟨⟨hg, hs, hd⟩, i6, n6, i25, i26, i27, trivial⟩ Q7 W7 hgo hex hret
  clear hr hf2 hgo hex hret W7 hQ hg hs hd i25 i26 i27 i6 n6
  intro s3 fl_ a k hr hS Q hQ hgo2355 hex2356 hret2357
  obtain ⟨⟨hg, hs, hd⟩, i6, n6, i25, i26, i27, _⟩ := hS
  unfold slices_Concat_span_L1 at hr
  refine cutS (fun c l => Bs noF k0 36 c l ∧ IsOwn 0 157 s3.1 (c.get 6) l ∧ Lo k0 (obF (c.get 6)) ∧ IsV slices_ (c.get 25) l ∧ IsL slices_ (c.get 26) l ∧ IsV s3.2 (c.get 27) l ∧ (IsV (decide (s3.2 < (slices_.length : Int)))) (c.get 28) l ∧ True) ?_ ?_
  ·intro Q8 W8 w6
   refine gS 1 (_ :: []) hs (by kernel_rfl) ⟨o1 [(27, none), (26, none)] rfl fun _ _ h n => ok_lss rfl (up i27 h n.1) (up i26 h n.2.1), trivial⟩ W8 fun b q p => ?_
   exact tail_done (k := q) (w6 _ _ ⟨Bs.post ⟨hg, hs, hd⟩ p, p.ke 6 rfl i6, (by rw [p.old 6 rfl]; exact n6), p.ke 25 rfl i25, p.ke 26 rfl i26, p.ke 27 rfl i27, p.ou 0 28 rfl, trivial⟩)
  rintro a k ⟨⟨hg, hs, hd⟩, i6, n6, i25, i26, i27, i28, _⟩
  refine wp_seq ?_
  refine wp_cond_split (isBool i28) (fun hc2368 => ?_) (fun hc2368 => ?_)
  ·rw [if_pos hc2368] at hr
   refine wp_skip ?_
   refine wp_seq ?_
   refine wp_block ?_
   refine wp_seq ?_
   obtain ⟨x5, hx5, hr⟩ := bind_some hr
   refine cut (fun a' k' => Bs noF k0 36 a' k' ∧ IsOwn 0 157 s3.1 (a'.get 6) k' ∧ Lo k0 (obF (a'.get 6)) ∧ (IsV x5) (a'.get 8) k' ∧ (IsV slices_) (a'.get 25) k' ∧ (IsL slices_) (a'.get 26) k' ∧ (IsV s3.2) (a'.get 27) k' ∧ True) ?_ hQ ?_
   ·intro Q9 W9 w7
    refine gS 3 (_ :: _ :: _ :: []) hs (by kernel_rfl) ⟨o1 [(25, none), (27, none)] rfl fun _ _ h n => ok_indexAddr rfl Tryz.underlying185 ty146 (IsV.rd (up i25 h n.1)) (up i27 h n.2.1) hx5, o1 [(29, some 0)] rfl fun _ _ h n => ok_load rfl ty146 n.1, cp 1 rfl rfl, trivial⟩ W9 fun b q p => ?_
    exact tail_done (k := q) (w7 _ _ ⟨Bs.post ⟨hg, hs, hd⟩ p, p.ke 6 rfl i6, (by rw [p.old 6 rfl]; exact n6), p.ou 2 8 rfl, p.ke 25 rfl i25, p.ke 26 rfl i26, p.ke 27 rfl i27, trivial⟩)
   rintro a k ⟨⟨hg, hs, hd⟩, i6, n6, i8, i25, i26, i27, _⟩
   obtain ⟨x7, hx7, hr⟩ := bind_some hr
   refine cut (fun a' k' => Bs noF k0 36 a' k' ∧ IsOwn 0 157 x7 (a'.get 6) k' ∧ Lo k0 (obF (a'.get 6)) ∧ (IsV slices_) (a'.get 25) k' ∧ (IsL slices_) (a'.get 26) k' ∧ (IsV s3.2) (a'.get 27) k' ∧ True) ?_ hQ ?_
   ·intro Q10 W10 w8
    refine gS 2 (⟨some (OwnAt (a.get 6) 0 157 s3.1), [(6, none)]⟩ :: _ :: []) hs (by kernel_rfl) ⟨ob1 rfl fun _ _ h n => ok_moveOA (.inl rfl) (ownAt n.1 (up i6 h n.1)), mu rfl i8, trivial⟩ W10 fun b q p => ?_
    have hgq := hg.then p.grow
    have hsb := p.size.trans hs
    have hdb := p.defers.trans hd
    have j25 := p.ke 25 rfl i25
    have j26 := p.ke 26 rfl i26
    have j27 := p.ke 27 rfl i27
    have e31 : b.get 31 = a.get 6 := (p.ou 0 31 rfl).1
    have j31 : IsOwn 0 157 s3.1 (b.get 31) q := (p.ou 0 31 rfl).2
    have y31 : Lo k0 (obF (b.get 31)) := by rw [e31]; exact n6
    have j32 : (IsV x5) (b.get 32) q := p.ou 1 32 rfl
    have hns := j31.nshF
    refine tail_appendS (i := 2) (d := 33) rfl rfl rfl rfl (by rw [hsb]; decide) (e := 157) Tryz.underlying146 eo157 j31 (IsV.rd j32) hx7 fun b2 q2 hsz hdf hoth hch hown hob => ?_
    have hle := hch.le hns
    have yn : Lo k0 (obF (b2.get 33)) := y31.app hgq hob
    replace j25 := Pers.pers hle j25
    replace j26 := Pers.pers hle j26
    replace j27 := Pers.pers hle j27
    replace j32 := Pers.pers hle j32
    replace hgq := hgq.step hch y31.wr
    rw [← hoth 25 (by decide)] at j25
    rw [← hoth 26 (by decide)] at j26
    rw [← hoth 27 (by decide)] at j27
    rw [← hoth 32 (by decide)] at j32
    have j33 := hown
    have y33 := yn
    replace hsb := hsz.trans hsb
    replace hdb := hdf.trans hdb
    clear hle hch hown hob hns yn hsz hdf hoth
    obtain ⟨b, hbb⟩ : ∃ b, b = b2 := ⟨b2, rfl⟩
    subst hbb
    obtain ⟨q, hqq⟩ : ∃ q, q = q2 := ⟨q2, rfl⟩
    subst hqq
    refine tail_assign (i := 3) (d := 6) rfl rfl (.inl rfl) rfl (by rw [hsb]; decide) fun b2 hsz hdf hnew hoth => ?_
    have jn : (IsOwn 0 157 x7) (b2.get 6) q := by rw [hnew]; exact j33
    have yn : Lo k0 (obF (b2.get 6)) := by rw [hnew]; exact y33
    rw [← hoth 25 (by decide)] at j25
    rw [← hoth 26 (by decide)] at j26
    rw [← hoth 27 (by decide)] at j27
    rw [← hoth 32 (by decide)] at j32
    have j6 := jn
    have y6 := yn
    replace hsb := hsz.trans hsb
    replace hdb := hdf.trans hdb
    clear hsz hdf hoth
    obtain ⟨b, hbb⟩ : ∃ b, b = b2 := ⟨b2, rfl⟩
    subst hbb
    exact tail_done (k := q) (w8 _ _ ⟨⟨hgq, hsb, hdb⟩, j6, y6, j25, j26, j27, trivial⟩)
   rintro a k ⟨⟨hg, hs, hd⟩, i6, n6, i25, i26, i27, _⟩
   obtain ⟨x8, hx8, hr⟩ := bind_some hr
   refine cut (fun a' k' => Bs noF k0 36 a' k' ∧ IsOwn 0 157 x7 (a'.get 6) k' ∧ Lo k0 (obF (a'.get 6)) ∧ (IsV slices_) (a'.get 25) k' ∧ (IsL slices_) (a'.get 26) k' ∧ (IsV x8) (a'.get 27) k' ∧ True) ?_ hQ ?_
   ·intro Q11 W11 w9
    refine gS 2 (_ :: _ :: []) hs (by kernel_rfl) ⟨o1 [(27, none)] rfl fun _ _ h n => ok_add rfl (up i27 h n.1) (cI rfl) hx8, cm 0 rfl rfl, trivial⟩ W11 fun b q p => ?_
    exact tail_done (k := q) (w9 _ _ ⟨Bs.post ⟨hg, hs, hd⟩ p, p.ke 6 rfl i6, (by rw [p.old 6 rfl]; exact n6), p.ke 25 rfl i25, p.ke 26 rfl i26, p.ou 1 27 rfl, trivial⟩)
   rintro a k ⟨⟨hg, hs, hd⟩, i6, n6, i25, i26, i27, _⟩
   exact hgo2355 _ _ _ (Option.some.inj hr).symm ⟨⟨hg, hs, hd⟩, i6, n6, i25, i26, i27, trivial⟩
  rw [if_neg (by rw [hc2368]; decide)] at hr
  refine wp_exit ?_
  exact hex2356 _ _ _ _ (Option.some.inj hr).symm ⟨rfl, ⟨hg, hs, hd⟩, i6, n6, trivial⟩
 ·rintro r2 a k rfl hR
  dsimp only at hr
  obtain rfl := Option.some.inj hr
  exact hR
 ·rintro _ _ _ rfl _
  simp at hr
 clear hf2
 rintro _ s4 a k rfl ⟨rfl, ⟨hg, hs, hd⟩, i6, n6, _⟩
 dsimp only at hr
 refine cutS (fun c l => Bs noF k0 36 c l ∧ IsOwn 0 157 s4.1 (c.get 2) l ∧ Lo k0 (obF (c.get 2)) ∧ True) ?_ ?_
 ·intro Q12 W12 w10
  refine gS 2 (⟨some (OwnAt (a.get 6) 0 157 s4.1), [(6, none)]⟩ :: ⟨some (OwnAt (a.get 6) 0 157 s4.1), [(35, some 0)]⟩ :: []) hs (by kernel_rfl) ⟨ob1 rfl fun _ _ h n => ok_moveOA (.inl rfl) (ownAt n.1 (up i6 h n.1)), ob1 rfl fun _ _ h n => ok_moveOA (.inr rfl) n.1, trivial⟩ W12 fun b q p => ?_
  have hgq := hg.then p.grow
  have hsb := p.size.trans hs
  have hdb := p.defers.trans hd
  have e2 : b.get 2 = a.get 6 := (p.ou 1 2 rfl).1
  have j2 : IsOwn 0 157 s4.1 (b.get 2) q := (p.ou 1 2 rfl).2
  have y2 : Lo k0 (obF (b.get 2)) := by rw [e2]; exact n6
  exact tail_done (k := q) (w10 _ _ ⟨⟨hgq, hsb, hdb⟩, j2, y2, trivial⟩)
 rintro a k ⟨⟨hg, hs, hd⟩, i2, n2, _⟩
 refine wp_ret ?_
 obtain rfl := Option.some.inj hr
 exact retC1 rfl hd hg (show ResOk _ _ _ (.tmp 2) _ from IsOwn.raise (k0 := k0) i2 n2)
theorem slices_Concat_span_ok {k0 : K} {v0 : Value} {slices_ : (List (List RegionSpan))} {r : (List RegionSpan)} (i0 : (IsV slices_) v0 k0) (hr : slices_Concat_span slices_ = some r) :
  Calls Tryz.prog 110 #[v0] k0.w (Ret k0 (IsV r)) :=
 ret_give (slices_Concat_span_okO i0 hr)
def slices_BinarySearchFunc_span_int_L0 (x_ : (List RegionSpan)) (target_ : Int) (cmp_ : (RegionSpan → Int → Option (Int))) (s1 : Int × Int) : Option (Flow (Int × Int) (Int × Bool)) :=
 if (decide (s1.1 < s1.2)) then
  (addI s1.1 s1.2).bind fun x1 =>
  (getI x_ (IntKind.i64.wrap (IK.shr (IK.mk (IntKind.u64.wrap x1) : IK .u64) 1).n)).bind fun x2 =>
  (cmp_ x2 target_).bind fun x3 =>
  (if (decide (x3 < 0)) then
   (addI (IntKind.i64.wrap (IK.shr (IK.mk (IntKind.u64.wrap x1) : IK .u64) 1).n) 1).bind fun x4 =>
   some (x4, s1.2)
  else
   some (s1.1, (IntKind.i64.wrap (IK.shr (IK.mk (IntKind.u64.wrap x1) : IK .u64) 1).n))).bind fun s2 =>
  some (.go (s2.1, s2.2))
 else
  some (.ex 0 (s1.1, s1.2))
def slices_BinarySearchFunc_span_int (x_ : (List RegionSpan)) (target_ : Int) (cmp_ : (RegionSpan → Int → Option (Int))) : Option (Int × Bool) :=
 (iterL (slices_BinarySearchFunc_span_int_L0 x_ target_ cmp_) (x_.length + 1) (0, (x_.length : Int))).bind fun f1 => match f1 with
  | .go _ => none
  | .ex _ s1 =>
   (if (decide (s1.1 < (x_.length : Int))) then
    (getI x_ s1.1).bind fun x1 =>
    (cmp_ x1 target_).bind fun x2 =>
    some (x2 == 0)
   else
    some false).bind fun x3 =>
   some (s1.1, x3)
  | .ret r1 => some r1
theorem slices_BinarySearchFunc_span_int_ok {k0 : K} {v0 v1 v2 : Value} {x_ : (List RegionSpan)} {target_ : Int} {cmp_ : (RegionSpan → Int → Option (Int))} {r : Int × Bool} (i0 : (IsV x_) v0 k0) (i1 : (IsV target_) v1 k0) (i2 : (IsFn2 Tryz.prog cmp_) v2 k0) (hr : slices_BinarySearchFunc_span_int x_ target_ cmp_ = some r) :
  Calls Tryz.prog 138 #[v0, v1, v2] k0.w (Ret k0 (IsTup2 (IsV r.1) (IsV r.2))) := by
 unfold slices_BinarySearchFunc_span_int at hr
 refine Ret.ofC ?_
 refine enterK Tryz.func138 rfl Tryz.ntmps138 (show 3 ≤ 49 by decide) fun a k hk0 hs hd ha => ?_
 obtain ⟨e0, e1, e2, _⟩ := ha
 replace i0 : (IsV x_) (a.get 0) k := by rw [e0, hk0]; exact i0
 replace i1 : (IsV target_) (a.get 1) k := by rw [e1, hk0]; exact i1
 replace i2 : (IsFn2 Tryz.prog cmp_) (a.get 2) k := by rw [e2, hk0]; exact i2
 have hQ : Gb.LetsOut (bodyPost Tryz.prog Tryz.f138 (RetC noF k0 (IsTup2 (IsV r.1) (IsV r.2)))) := letsOutC
 have hg : Chg noF k0 k := by rw [hk0]; exact Chg.refl _ k0
 refine stepL 2 (⟨some (IsI 0), []⟩ :: ⟨some (IsV false), []⟩ :: []) rfl ⟨hg, hs, hd⟩ (by kernel_rfl) ⟨aI rfl rfl, ob1 rfl fun _ _ h n => ok_assign rfl (isV_bool.2 rfl), trivial⟩ [⟨_, _⟩, ⟨_, _⟩, ⟨_, _⟩] (fun b q p => ⟨p.ke 0 rfl i0, p.ke 1 rfl i1, p.ke 2 rfl i2, trivial⟩) ?_
 rintro a k ⟨⟨hg, hs, hd⟩, i0, i1, i2, _⟩
 refine stepL 3 (_ :: _ :: _ :: []) rfl ⟨hg, hs, hd⟩ (by kernel_rfl) ⟨mu rfl i0, o1 [(12, some 0)] rfl fun _ _ h n => ok_len rfl rfl Tryz.underlying146 (IsV.rd n.1), cp 1 rfl rfl, trivial⟩ [⟨_, _⟩, ⟨_, _⟩, ⟨_, _⟩, ⟨_, _⟩] (fun b q p => ⟨p.ke 0 rfl i0, p.ke 1 rfl i1, p.ke 2 rfl i2, p.ou 2 8 rfl, trivial⟩) ?_
 rintro a k ⟨⟨hg, hs, hd⟩, i0, i1, i2, i8, _⟩
 refine stepL 3 (_ :: ⟨some (IsI 0), []⟩ :: _ :: []) rfl ⟨hg, hs, hd⟩ (by kernel_rfl) ⟨mu rfl i8, aI rfl rfl, cp 0 rfl rfl, trivial⟩ [⟨_, _⟩, ⟨_, _⟩, ⟨_, _⟩, ⟨_, _⟩, ⟨_, _⟩, ⟨_, _⟩] (fun b q p => ⟨p.ke 0 rfl i0, p.ke 1 rfl i1, p.ke 2 rfl i2, p.ke 8 rfl i8, p.ou 1 9 rfl, p.ou 2 10 rfl, trivial⟩) ?_
 rintro a k ⟨⟨hg, hs, hd⟩, i0, i1, i2, i8, i9, i10, _⟩
 refine wp_seq ?_
 refine wp_block ?_
 obtain ⟨f1, hf1, hr⟩ := bind_some hr
 refine cutFe f1 (fun s' c l => Bs noF k0 49 c l ∧ IsV x_ (c.get 0) l ∧ IsV target_ (c.get 1) l ∧ IsFn2 Tryz.prog cmp_ (c.get 2) l ∧ IsL x_ (c.get 8) l ∧ IsV s'.1 (c.get 9) l ∧ IsV s'.2 (c.get 10) l ∧ True) (fun i' s' c l => (i' = 0 ∧ Bs noF k0 49 c l ∧ IsV x_ (c.get 0) l ∧ IsV target_ (c.get 1) l ∧ IsFn2 Tryz.prog cmp_ (c.get 2) l ∧ IsL x_ (c.get 8) l ∧ IsV s'.1 (c.get 9) l ∧ True)) (fun r' c l => bodyPost Tryz.prog Tryz.f138 (RetC noF k0 (IsTup2 (IsV r'.1) (IsV r'.2))) .ret c l.w) ?_ hQ ?_ ?_ ?_
 ·intro Q1 W1 hgo hex hret
  refine sim_loop ?_ _ _ _ _ _ hf1 ⟨⟨hg, hs, hd⟩, i0, i1, i2, i8, i9, i10, trivial⟩ Q1 W1 hgo hex hret
  clear hr hf1 hgo hex hret W1 hQ hg hs hd i0 i1 i10 i2 i8 i9
  intro s1 fl_ a k hr hS Q hQ hgo2394 hex2395 hret2396
  obtain ⟨⟨hg, hs, hd⟩, i0, i1, i2, i8, i9, i10, _⟩ := hS
  unfold slices_BinarySearchFunc_span_int_L0 at hr
  refine wp_seq ?_
  refine stepL 3 (_ :: _ :: _ :: []) rfl ⟨hg, hs, hd⟩ (by kernel_rfl) ⟨mu rfl i9, mu rfl i10, o1 [(15, some 0), (16, some 1)] rfl fun _ _ h n => ok_lss rfl n.1 n.2.1, trivial⟩ [⟨_, _⟩, ⟨_, _⟩, ⟨_, _⟩, ⟨_, _⟩, ⟨_, _⟩, ⟨_, _⟩, ⟨_, _⟩] (fun b q p => ⟨p.ke 0 rfl i0, p.ke 1 rfl i1, p.ke 2 rfl i2, p.ke 8 rfl i8, p.ke 9 rfl i9, p.ke 10 rfl i10, p.ou 2 17 rfl, trivial⟩) ?_
  rintro a k ⟨⟨hg, hs, hd⟩, i0, i1, i2, i8, i9, i10, i17, _⟩
  refine wp_cond_split (isBool i17) (fun hc2414 => ?_) (fun hc2414 => ?_)
  ·rw [if_pos hc2414] at hr
   refine wp_skip ?_
   refine wp_block ?_
   refine wp_seq ?_
   obtain ⟨x1, hx1, hr⟩ := bind_some hr
   refine cut (fun a' k' => Bs noF k0 49 a' k' ∧ (IsV x_) (a'.get 0) k' ∧ (IsV target_) (a'.get 1) k' ∧ (IsFn2 Tryz.prog cmp_) (a'.get 2) k' ∧ (IsL x_) (a'.get 8) k' ∧ (IsV s1.1) (a'.get 9) k' ∧ (IsV s1.2) (a'.get 10) k' ∧ (IsI (IntKind.i64.wrap (IK.shr (IK.mk (IntKind.u64.wrap x1) : IK .u64) 1).n)) (a'.get 11) k' ∧ True) ?_ hQ ?_
   ·intro Q2 W2 w1
    refine gS 7 (_ :: _ :: _ :: ⟨some (IsV (IK.mk (IntKind.u64.wrap x1) : IK .u64)), [(20, some 2)]⟩ :: ⟨some (IsV (IK.shr (IK.mk (IntKind.u64.wrap x1) : IK .u64) 1)), [(21, some 3)]⟩ :: ⟨some (IsI (IntKind.i64.wrap (IK.shr (IK.mk (IntKind.u64.wrap x1) : IK .u64) 1).n)), [(22, some 4)]⟩ :: _ :: []) hs (by kernel_rfl) ⟨mu rfl i9, mu rfl i10, o1 [(18, some 0), (19, some 1)] rfl fun _ _ h n => ok_add rfl n.1 n.2.1 hx1, ob1 rfl fun _ _ h n => ok_conv_ik rfl (by rw [Tryz.underlying3]; rfl) Tryz.underlying154 n.1, ob1 rfl fun _ _ h n => ok_shrK rfl n.1 (by decide) (by decide), ob1 rfl fun _ _ h n => ok_conv_ki rfl (by rw [Tryz.underlying154]; rfl) Tryz.underlying3 n.1, cp 5 rfl rfl, trivial⟩ W2 fun b q p => ?_
    exact tail_done (k := q) (w1 _ _ ⟨Bs.post ⟨hg, hs, hd⟩ p, p.ke 0 rfl i0, p.ke 1 rfl i1, p.ke 2 rfl i2, p.ke 8 rfl i8, p.ke 9 rfl i9, p.ke 10 rfl i10, p.ou 6 11 rfl, trivial⟩)
   rintro a k ⟨⟨hg, hs, hd⟩, i0, i1, i2, i8, i9, i10, i11, _⟩
   refine wp_seq ?_
   obtain ⟨x2, hx2, hr⟩ := bind_some hr
   obtain ⟨x3, hx3, hr⟩ := bind_some hr
   refine cut (fun a' k' => Bs noF k0 49 a' k' ∧ (IsV x_) (a'.get 0) k' ∧ (IsV target_) (a'.get 1) k' ∧ (IsFn2 Tryz.prog cmp_) (a'.get 2) k' ∧ (IsL x_) (a'.get 8) k' ∧ (IsV s1.1) (a'.get 9) k' ∧ (IsV s1.2) (a'.get 10) k' ∧ (IsI (IntKind.i64.wrap (IK.shr (IK.mk (IntKind.u64.wrap x1) : IK .u64) 1).n)) (a'.get 11) k' ∧ (IsV (decide (x3 < 0))) (a'.get 31) k' ∧ True) ?_ hQ ?_
   ·intro Q3 W3 w2
    refine gS 8 (_ :: _ :: _ :: _ :: _ :: _ :: ⟨some (IsV x3), [(24, some 0), (28, some 4), (29, some 5)]⟩ :: _ :: []) hs (by kernel_rfl) ⟨mu rfl i2, mu rfl i0, mu rfl i11, o1 [(25, some 1), (26, some 2)] rfl fun _ _ h n => ok_indexAddr rfl Tryz.underlying146 ty157 (IsV.rd n.1) n.2.1 hx2, o1 [(27, some 3)] rfl fun _ _ h n => ok_load rfl ty157 n.1, mu rfl i1, ob1 rfl fun _ _ h n => ok_callF2 rfl n.1 n.2.1 n.2.2.1 hx3, o1 [(30, some 6)] rfl fun _ _ h n => ok_lss rfl n.1 (cI rfl), trivial⟩ W3 fun b q p => ?_
    exact tail_done (k := q) (w2 _ _ ⟨Bs.post ⟨hg, hs, hd⟩ p, p.ke 0 rfl i0, p.ke 1 rfl i1, p.ke 2 rfl i2, p.ke 8 rfl i8, p.ke 9 rfl i9, p.ke 10 rfl i10, p.ke 11 rfl i11, p.ou 7 31 rfl, trivial⟩)
   rintro a k ⟨⟨hg, hs, hd⟩, i0, i1, i2, i8, i9, i10, i11, i31, _⟩
   obtain ⟨s2, hs2, hr⟩ := bind_some hr
   refine cut (fun a' k' => Bs noF k0 49 a' k' ∧ (IsV x_) (a'.get 0) k' ∧ (IsV target_) (a'.get 1) k' ∧ (IsFn2 Tryz.prog cmp_) (a'.get 2) k' ∧ (IsL x_) (a'.get 8) k' ∧ (IsV s2.1) (a'.get 9) k' ∧ (IsV s2.2) (a'.get 10) k' ∧ True) ?_ hQ ?_
   ·intro Q4 W4 w3
    replace hr := hs2
    clear hQ
    have hQ := W4
    refine wp_cond_split (isBool i31) (fun hc2408 => ?_) (fun hc2408 => ?_)
    ·rw [if_pos hc2408] at hr
     obtain ⟨x4, hx4, hr⟩ := bind_some hr
     refine cut (fun a' k' => Bs noF k0 49 a' k' ∧ (IsV x_) (a'.get 0) k' ∧ (IsV target_) (a'.get 1) k' ∧ (IsFn2 Tryz.prog cmp_) (a'.get 2) k' ∧ (IsL x_) (a'.get 8) k' ∧ (IsV x4) (a'.get 9) k' ∧ (IsV s1.2) (a'.get 10) k' ∧ True) ?_ hQ ?_
     ·intro Q5 W5 w4
      refine gS 3 (_ :: _ :: _ :: []) hs (by kernel_rfl) ⟨mu rfl i11, o1 [(32, some 0)] rfl fun _ _ h n => ok_add rfl n.1 (cI rfl) hx4, cp 1 rfl rfl, trivial⟩ W5 fun b q p => ?_
      exact tail_done (k := q) (w4 _ _ ⟨Bs.post ⟨hg, hs, hd⟩ p, p.ke 0 rfl i0, p.ke 1 rfl i1, p.ke 2 rfl i2, p.ke 8 rfl i8, p.ou 2 9 rfl, p.ke 10 rfl i10, trivial⟩)
     rintro a k ⟨⟨hg, hs, hd⟩, i0, i1, i2, i8, i9, i10, _⟩
     obtain rfl := Option.some.inj hr
     exact w3 _ _ ⟨⟨hg, hs, hd⟩, i0, i1, i2, i8, i9, i10, trivial⟩
    rw [if_neg (by rw [hc2408]; decide)] at hr
    refine cut (fun a' k' => Bs noF k0 49 a' k' ∧ (IsV x_) (a'.get 0) k' ∧ (IsV target_) (a'.get 1) k' ∧ (IsFn2 Tryz.prog cmp_) (a'.get 2) k' ∧ (IsL x_) (a'.get 8) k' ∧ (IsV s1.1) (a'.get 9) k' ∧ (IsI (IntKind.i64.wrap (IK.shr (IK.mk (IntKind.u64.wrap x1) : IK .u64) 1).n)) (a'.get 10) k' ∧ True) ?_ hQ ?_
    ·intro Q6 W6 w5
     refine gS 2 (_ :: _ :: []) hs (by kernel_rfl) ⟨mu rfl i11, cp 0 rfl rfl, trivial⟩ W6 fun b q p => ?_
     exact tail_done (k := q) (w5 _ _ ⟨Bs.post ⟨hg, hs, hd⟩ p, p.ke 0 rfl i0, p.ke 1 rfl i1, p.ke 2 rfl i2, p.ke 8 rfl i8, p.ke 9 rfl i9, p.ou 1 10 rfl, trivial⟩)
    rintro a k ⟨⟨hg, hs, hd⟩, i0, i1, i2, i8, i9, i10, _⟩
    obtain rfl := Option.some.inj hr
    exact w3 _ _ ⟨⟨hg, hs, hd⟩, i0, i1, i2, i8, i9, i10, trivial⟩
   clear hs2
   rintro a k ⟨⟨hg, hs, hd⟩, i0, i1, i2, i8, i9, i10, _⟩
   exact hgo2394 _ _ _ (Option.some.inj hr).symm ⟨⟨hg, hs, hd⟩, i0, i1, i2, i8, i9, i10, trivial⟩
  rw [if_neg (by rw [hc2414]; decide)] at hr
  refine wp_exit ?_
  exact hex2395 _ _ _ _ (Option.some.inj hr).symm ⟨rfl, ⟨hg, hs, hd⟩, i0, i1, i2, i8, i9, trivial⟩
 ·rintro r1 a k rfl hR
  dsimp only at hr
  obtain rfl := Option.some.inj hr
  exact hR
 ·rintro _ _ _ rfl _
  simp at hr
 clear hf1
 rintro _ s3 a k rfl ⟨rfl, ⟨hg, hs, hd⟩, i0, i1, i2, i8, i9, _⟩
 dsimp only at hr
 refine wp_seq ?_
 obtain ⟨x5, hx5, hr⟩ := bind_some hr
 obtain ⟨x6, hx6, hx5⟩ := ite_bind hx5
 obtain ⟨x7, hx7, hx5⟩ := ite_bind hx5
 refine cut (fun a' k' => Bs noF k0 49 a' k' ∧ (IsV s3.1) (a'.get 6) k' ∧ (IsV x5) (a'.get 7) k' ∧ True) ?_ hQ ?_
 ·intro Q7 W7 w6
  refine gS 16 (_ :: _ :: _ :: _ :: _ :: _ :: _ :: _ :: _ :: _ :: _ :: ⟨some (Gd ((decide (s3.1 < (x_.length : Int))) = true) (IsV x7)), [(40, some 5), (44, some 9), (45, some 10)]⟩ :: _ :: _ :: _ :: _ :: []) hs (by kernel_rfl) ⟨mu rfl i9, mu rfl i9, mu rfl i8, o1 [(36, some 1), (37, some 2)] rfl fun _ _ h n => ok_lss rfl n.1 n.2.1, cm 3 rfl rfl, mT rfl rfl i2, mT rfl rfl i0, mT rfl rfl i9, gT [(41, some 6), (42, some 7)] rfl rfl fun hp _ _ h n => ok_indexAddr rfl Tryz.underlying146 ty157 (IsV.rd (Gd.get n.1 hp)) (Gd.get n.2.1 hp) (hx6 hp), gT [(43, some 8)] rfl rfl fun hp _ _ h n => ok_load rfl ty157 (Gd.get n.1 hp), mT rfl rfl i1, gdT rfl rfl fun hp _ _ h n => ok_callF2 rfl (Gd.get n.1 hp) (Gd.get n.2.1 hp) (Gd.get n.2.2.1 hp) (hx7 hp), gT [(46, some 11)] rfl rfl fun hp _ _ h n => ok_eqI rfl (Gd.get n.1 hp) (cI rfl), o1 [(39, some 4), (47, some 12)] rfl fun _ _ h n => ok_pickM rfl n.1 hx5 (Gd.get n.2.1) (cB rfl), cp 0 rfl rfl, cp 13 rfl rfl, trivial⟩ W7 fun b q p => ?_
  exact tail_done (k := q) (w6 _ _ ⟨Bs.post ⟨hg, hs, hd⟩ p, p.ou 14 6 rfl, p.ou 15 7 rfl, trivial⟩)
 rintro a k ⟨⟨hg, hs, hd⟩, i6, i7, _⟩
 refine wp_ret ?_
 obtain rfl := Option.some.inj hr
 exact retC2 rfl hd hg i6 i7
def region_inside_1 (s_ : RegionSpan) (y_ : Int) : Option (Int) :=
 if (decide (s_.to_ ≤ y_)) then
  some (-1)
 else
  some 1
noncomputable def k139 := mk 139 [.st 7, .int] [.int] (fun x => region_inside_1 x.1 x.2) [] [] Tryz.f139 (.n) Tryz.func139 Tryz.call139 rfl rfl fun x => by kernel_rfl
theorem region_inside_1_ok {k0 : K} {v0 v1 : Value} {x0 : RegionSpan} {x1 : Int} {r : Int} (i0 : IsV x0 v0 k0) (i1 : IsV x1 v1 k0) (hr : region_inside_1 x0 x1 = some r) : Calls Tryz.prog 139 #[v0, v1] k0.w (Ret k0 (IsV r)) := (k139.ok.ok k0 [v0, v1] (x0, x1) r (GOk.none (fun _ => rfl) fun _ e => by cases e) ⟨i0, i1⟩ hr)
def region_inside (l_ : (List RegionSpan)) (y_ : Int) : Option (Bool) :=
 (slices_BinarySearchFunc_span_int l_ y_ region_inside_1).bind fun x1 =>
 (if (decide (x1.1 < (l_.length : Int))) then
  (getI l_ x1.1).bind fun x2 =>
  some (decide (x2.from_ ≤ y_))
 else
  some false).bind fun x3 =>
 some x3
theorem region_inside_ok {k0 : K} {v0 v1 : Value} {l_ : (List RegionSpan)} {y_ : Int} {r : Bool} (i0 : (IsV l_) v0 k0) (i1 : (IsV y_) v1 k0) (hr : region_inside l_ y_ = some r) :
  Calls Tryz.prog 111 #[v0, v1] k0.w (Ret k0 (IsV r)) := by
 unfold region_inside at hr
 refine Ret.ofC ?_
 refine enterK Tryz.func111 rfl Tryz.ntmps111 (show 2 ≤ 26 by decide) fun a k hk0 hs hd ha => ?_
 obtain ⟨e0, e1, _⟩ := ha
 replace i0 : (IsV l_) (a.get 0) k := by rw [e0, hk0]; exact i0
 replace i1 : (IsV y_) (a.get 1) k := by rw [e1, hk0]; exact i1
 have hQ : Gb.LetsOut (bodyPost Tryz.prog Tryz.f111 (RetC noF k0 (IsV r))) := letsOutC
 have hg : Chg noF k0 k := by rw [hk0]; exact Chg.refl _ k0
 refine stepL 1 (⟨some (IsV false), []⟩ :: []) rfl ⟨hg, hs, hd⟩ (by kernel_rfl) ⟨ob1 rfl fun _ _ h n => ok_assign rfl (isV_bool.2 rfl), trivial⟩ [⟨_, _⟩, ⟨_, _⟩] (fun b q p => ⟨p.ke 0 rfl i0, p.ke 1 rfl i1, trivial⟩) ?_
 rintro a k ⟨⟨hg, hs, hd⟩, i0, i1, _⟩
 refine wp_seq ?_
 obtain ⟨x1, hx1, hr⟩ := bind_some hr
 refine cut (fun a' k' => Bs noF k0 26 a' k' ∧ (IsV l_) (a'.get 0) k' ∧ (IsV y_) (a'.get 1) k' ∧ (IsV x1.1) (a'.get 5) k' ∧ True) ?_ hQ ?_
 ·intro Q1 W1 w1
  refine gS 8 (_ :: _ :: _ :: _ :: _ :: _ :: _ :: _ :: []) hs (by kernel_rfl) ⟨mu rfl i0, mu rfl i1, o1 [(8, some 0), (9, some 1)] rfl fun _ _ h n => ok_call rfl Tryz.call138 (slices_BinarySearchFunc_span_int_ok n.1 n.2.1 ⟨139, _, _, rfl, Tryz.call139, fun k9 hk9 _ _ _ _ _ hx0 hx1 hy9 => by simpa [evalT] using region_inside_1_ok hx0 hx1 hy9⟩ hx1), cm 2 rfl rfl, o1 [(7, some 3)] rfl fun _ _ h n => ok_ext2_0 rfl n.1, o1 [(7, some 3)] rfl fun _ _ h n => ok_ext2_1 rfl n.1, cp 4 rfl rfl, cp 5 rfl rfl, trivial⟩ W1 fun b q p => ?_
  exact tail_done (k := q) (w1 _ _ ⟨Bs.post ⟨hg, hs, hd⟩ p, p.ke 0 rfl i0, p.ke 1 rfl i1, p.ou 6 5 rfl, trivial⟩)
 rintro a k ⟨⟨hg, hs, hd⟩, i0, i1, i5, _⟩
 refine wp_seq ?_
 obtain ⟨x2, hx2, hr⟩ := bind_some hr
 obtain ⟨x3, hx3, hx2⟩ := ite_bind hx2
 refine cut (fun a' k' => Bs noF k0 26 a' k' ∧ (IsV x2) (a'.get 4) k' ∧ True) ?_ hQ ?_
 ·intro Q2 W2 w2
  refine gS 14 (_ :: _ :: _ :: _ :: _ :: _ :: _ :: _ :: _ :: _ :: _ :: _ :: _ :: _ :: []) hs (by kernel_rfl) ⟨mu rfl i5, mu rfl i0, o1 [(14, some 1)] rfl fun _ _ h n => ok_len rfl rfl Tryz.underlying146 (IsV.rd n.1), o1 [(13, some 0), (15, some 2)] rfl fun _ _ h n => ok_lss rfl n.1 n.2.1, cm 3 rfl rfl, mT rfl rfl i0, mT rfl rfl i5, gT [(18, some 5), (19, some 6)] rfl rfl fun hp _ _ h n => ok_indexAddr rfl Tryz.underlying146 ty157 (IsV.rd (Gd.get n.1 hp)) (Gd.get n.2.1 hp) (hx3 hp), gT [(20, some 7)] rfl rfl fun hp _ _ h n => ok_fieldAddr rfl fo157_0 (at_RegionSpan_0 _) (Gd.get n.1 hp), gT [(21, some 8)] rfl rfl fun hp _ _ h n => ok_load rfl ty3 (Gd.get n.1 hp), mT rfl rfl i1, gT [(22, some 9), (23, some 10)] rfl rfl fun hp _ _ h n => ok_leq rfl (Gd.get n.1 hp) (Gd.get n.2.1 hp), o1 [(17, some 4), (24, some 11)] rfl fun _ _ h n => ok_pickM rfl n.1 hx2 (Gd.get n.2.1) (cB rfl), cp 12 rfl rfl, trivial⟩ W2 fun b q p => ?_
  exact tail_done (k := q) (w2 _ _ ⟨Bs.post ⟨hg, hs, hd⟩ p, p.ou 13 4 rfl, trivial⟩)
 rintro a k ⟨⟨hg, hs, hd⟩, i4, _⟩
 refine wp_ret ?_
 obtain rfl := Option.some.inj hr
 exact retC1 rfl hd hg i4
def region_merge_L0 (x1 : (List RegionSpan)) (s1 : (List Int) × Int) : Option (Flow ((List Int) × Int) ((List RegionSpan))) :=
 if (decide (s1.2 < (x1.length : Int))) then
  (getI x1 s1.2).bind fun x2 =>
  (appI s1.1 ([x2.from_, x2.to_])).bind fun x3 =>
  (addI s1.2 1).bind fun x4 =>
  some (.go (x3, x4))
 else
  some (.ex 0 (s1.1, s1.2))
def region_merge_L1 (a_ : (List RegionSpan)) (b_ : (List RegionSpan)) (keep_ : (Bool → Bool → Option (Bool))) (x1 : (List Int)) (s1 : (List RegionSpan) × Int) : Option (Flow ((List RegionSpan) × Int) ((List RegionSpan))) :=
 if (decide (s1.2 < (x1.length : Int))) then
  ((subI s1.2 1).bind fun x2 =>
  (getI x1 x2).bind fun x3 =>
  (region_inside a_ x3).bind fun x4 =>
  (region_inside b_ x3).bind fun x5 =>
  (keep_ x4 x5).bind fun x6 =>
  if (!x6) then
   some s1.1
  else
   (if (decide (0 < (s1.1.length : Int))) then
    (subI (s1.1.length : Int) 1).bind fun x7 =>
    (getI s1.1 x7).bind fun x8 =>
    some (x8.to_ == x3)
   else
    some false).bind fun x9 =>
   (if x9 then
    (subI (s1.1.length : Int) 1).bind fun x10 =>
    (getI x1 s1.2).bind fun x11 =>
    (getI s1.1 x10).bind fun x12 =>
    (some (s1.1.set (x10).toNat ({ x12 with to_ := x11 }))).bind fun x13 =>
    some x13
   else
    (getI x1 s1.2).bind fun x14 =>
    (appI s1.1 ([(⟨x3, x14⟩ : RegionSpan)])).bind fun x15 =>
    some x15).bind fun s2 =>
   some s2).bind fun s3 =>
  (addI s1.2 1).bind fun x16 =>
  some (.go (s3, x16))
 else
  some (.ex 2 (s1.1, s1.2))
def region_merge (a_ : (List RegionSpan)) (b_ : (List RegionSpan)) (keep_ : (Bool → Bool → Option (Bool))) : Option ((List RegionSpan)) :=
 (slices_Concat_span ([a_, b_])).bind fun x1 =>
 (iterL (region_merge_L0 x1) (x1.length + 1) (([] : List Int), 0)).bind fun f1 => match f1 with
  | .go _ => none
  | .ex _ s1 =>
   (sortInts s1.1).bind fun x2 =>
   (compactInts x2).bind fun x3 =>
   (iterL (region_merge_L1 a_ b_ keep_ x3) (a_.length + b_.length + x3.length + ([] : List RegionSpan).length + 1) (([] : List RegionSpan), 1)).bind fun f2 => match f2 with
    | .go _ => none
    | .ex _ s2 =>
     some s2.1
    | .ret r1 => some r1
  | .ret r2 => some r2
theorem region_merge_ok {k0 : K} {v0 v1 v2 : Value} {a_ : (List RegionSpan)} {b_ : (List RegionSpan)} {keep_ : (Bool → Bool → Option (Bool))} {r : (List RegionSpan)} (i0 : (IsV a_) v0 k0) (i1 : (IsV b_) v1 k0) (i2 : (IsFn2 Tryz.prog keep_) v2 k0) (hr : region_merge a_ b_ keep_ = some r) :
  Calls Tryz.prog 98 #[v0, v1, v2] k0.w (Ret k0 (IsV r)) := by
 unfold region_merge at hr
 refine Ret.ofC ?_
 refine enterK Tryz.func98 rfl Tryz.ntmps98 (show 3 ≤ 88 by decide) fun a k hk0 hs hd ha => ?_
 obtain ⟨e0, e1, e2, _⟩ := ha
 replace i0 : (IsV a_) (a.get 0) k := by rw [e0, hk0]; exact i0
 replace i1 : (IsV b_) (a.get 1) k := by rw [e1, hk0]; exact i1
 replace i2 : (IsFn2 Tryz.prog keep_) (a.get 2) k := by rw [e2, hk0]; exact i2
 have hQ : Gb.LetsOut (bodyPost Tryz.prog Tryz.f98 (RetC noF k0 (IsV r))) := letsOutC
 have hg : Chg noF k0 k := by rw [hk0]; exact Chg.refl _ k0
 refine stepL 1 (⟨some IsE0, []⟩ :: []) rfl ⟨hg, hs, hd⟩ (by kernel_rfl) ⟨ob1 rfl fun b q h n => ok_assign rfl isE0_nil, trivial⟩ [⟨_, _⟩, ⟨_, _⟩, ⟨_, _⟩] (fun b q p => ⟨p.ke 0 rfl i0, p.ke 1 rfl i1, p.ke 2 rfl i2, trivial⟩) ?_
 rintro a k ⟨⟨hg, hs, hd⟩, i0, i1, i2, _⟩
 refine cutS (fun c l => Bs noF k0 88 c l ∧ IsV a_ (c.get 0) l ∧ IsV b_ (c.get 1) l ∧ IsFn2 Tryz.prog keep_ (c.get 2) l ∧ IsOwn 0 3 ([] : List Int) (c.get 7) l ∧ Lo k0 (obF (c.get 7)) ∧ True) ?_ ?_
 ·intro Q1 W1 w1
  refine gS 1 (⟨some IsE0, []⟩ :: []) hs (by kernel_rfl) ⟨ob1 rfl fun b q h n => ok_assign rfl isE0_nil, trivial⟩ W1 fun b q p => ?_
  have hgq := hg.then p.grow
  have hsb := p.size.trans hs
  have hdb := p.defers.trans hd
  have j0 := p.ke 0 rfl i0
  have j1 := p.ke 1 rfl i1
  have j2 := p.ke 2 rfl i2
  have j7 : IsE0 (b.get 7) q := p.ou 0 7 rfl
  have y7 : Lo k0 (obF (b.get 7)) := j7.lo
  replace j7 : IsOwn 0 3 ([] : List Int) (b.get 7) q := j7.own0
  exact tail_done (k := q) (w1 _ _ ⟨⟨hgq, hsb, hdb⟩, j0, j1, j2, j7, y7, trivial⟩)
 rintro a k ⟨⟨hg, hs, hd⟩, i0, i1, i2, i7, n7, _⟩
 refine wp_seq ?_
 refine wp_seq ?_
 obtain ⟨x1, hx1, hr⟩ := bind_some hr
 refine cut (fun a' k' => Bs noF k0 88 a' k' ∧ (IsV a_) (a'.get 0) k' ∧ (IsV b_) (a'.get 1) k' ∧ (IsFn2 Tryz.prog keep_) (a'.get 2) k' ∧ IsOwn 0 3 ([] : List Int) (a'.get 7) k' ∧ Lo k0 (obF (a'.get 7)) ∧ (IsV x1) (a'.get 17) k' ∧ (IsL x1) (a'.get 18) k' ∧ (IsI 0) (a'.get 19) k' ∧ True) ?_ hQ ?_
 ·intro Q2 W2 w2
  refine gS 6 (_ :: _ :: ⟨some (IsV (α := (List (List RegionSpan))) ([a_, b_])), [(14, some 0), (15, some 1)]⟩ :: _ :: _ :: ⟨some (IsI 0), []⟩ :: []) hs (by kernel_rfl) ⟨mu rfl i0, mu rfl i1, ob1 rfl fun _ _ h n => ok_buildSlice rfl Tryz.underlying185 eo146 rfl (by decide) (by decide) ⟨rfl, n.1, rfl, n.2.1, trivial⟩, o1 [(16, some 2)] rfl fun _ _ h n => ok_call rfl Tryz.call110 (slices_Concat_span_ok n.1 hx1), o1 [(17, some 3)] rfl fun _ _ h n => ok_len rfl rfl Tryz.underlying146 (IsV.rd n.1), ob1 rfl fun _ _ h n => ok_move rfl (cI rfl), trivial⟩ W2 fun b q p => ?_
  exact tail_done (k := q) (w2 _ _ ⟨Bs.post ⟨hg, hs, hd⟩ p, p.ke 0 rfl i0, p.ke 1 rfl i1, p.ke 2 rfl i2, p.ke 7 rfl i7, (by rw [p.old 7 rfl]; exact n7), p.ou 3 17 rfl, p.ou 4 18 rfl, p.ou 5 19 rfl, trivial⟩)
 rintro a k ⟨⟨hg, hs, hd⟩, i0, i1, i2, i7, n7, i17, i18, i19, _⟩
 refine wp_block ?_
 obtain ⟨f1, hf1, hr⟩ := bind_some hr
 refine cutFe f1 (fun s' c l => Bs noF k0 88 c l ∧ IsV a_ (c.get 0) l ∧ IsV b_ (c.get 1) l ∧ IsFn2 Tryz.prog keep_ (c.get 2) l ∧ IsOwn 0 3 s'.1 (c.get 7) l ∧ Lo k0 (obF (c.get 7)) ∧ IsV x1 (c.get 17) l ∧ IsL x1 (c.get 18) l ∧ IsV s'.2 (c.get 19) l ∧ True) (fun i' s' c l => (i' = 0 ∧ Bs noF k0 88 c l ∧ IsV a_ (c.get 0) l ∧ IsV b_ (c.get 1) l ∧ IsFn2 Tryz.prog keep_ (c.get 2) l ∧ IsOwn 0 3 s'.1 (c.get 7) l ∧ Lo k0 (obF (c.get 7)) ∧ True)) (fun r' c l => bodyPost Tryz.prog Tryz.f98 (RetC noF k0 (IsV r')) .ret c l.w) ?_ hQ ?_ ?_ ?_
 ·intro Q3 W3 hgo hex hret
  refine sim_loop ?_ _ _ _ _ _ hf1 ⟨⟨hg, hs, hd⟩, i0, i1, i2, i7, n7, i17, i18, i19, trivial⟩ Q3 W3 hgo hex hret
  clear hr hf1 hgo hex hret W3 hQ hg hs hd i0 i1 i17 i18 i19 i2 i7 n7
  intro s1 fl_ a k hr hS Q hQ hgo2456 hex2457 hret2458
  obtain ⟨⟨hg, hs, hd⟩, i0, i1, i2, i7, n7, i17, i18, i19, _⟩ := hS
  unfold region_merge_L0 at hr
  refine cutS (fun c l => Bs noF k0 88 c l ∧ IsV a_ (c.get 0) l ∧ IsV b_ (c.get 1) l ∧ IsFn2 Tryz.prog keep_ (c.get 2) l ∧ IsOwn 0 3 s1.1 (c.get 7) l ∧ Lo k0 (obF (c.get 7)) ∧ IsV x1 (c.get 17) l ∧ IsL x1 (c.get 18) l ∧ IsV s1.2 (c.get 19) l ∧ (IsV (decide (s1.2 < (x1.length : Int)))) (c.get 20) l ∧ True) ?_ ?_
  ·intro Q4 W4 w3
   refine gS 1 (_ :: []) hs (by kernel_rfl) ⟨o1 [(19, none), (18, none)] rfl fun _ _ h n => ok_lss rfl (up i19 h n.1) (up i18 h n.2.1), trivial⟩ W4 fun b q p => ?_
   exact tail_done (k := q) (w3 _ _ ⟨Bs.post ⟨hg, hs, hd⟩ p, p.ke 0 rfl i0, p.ke 1 rfl i1, p.ke 2 rfl i2, p.ke 7 rfl i7, (by rw [p.old 7 rfl]; exact n7), p.ke 17 rfl i17, p.ke 18 rfl i18, p.ke 19 rfl i19, p.ou 0 20 rfl, trivial⟩)
  rintro a k ⟨⟨hg, hs, hd⟩, i0, i1, i2, i7, n7, i17, i18, i19, i20, _⟩
  refine wp_seq ?_
  refine wp_cond_split (isBool i20) (fun hc2469 => ?_) (fun hc2469 => ?_)
  ·rw [if_pos hc2469] at hr
   refine wp_skip ?_
   refine wp_seq ?_
   refine wp_block ?_
   refine wp_seq ?_
   obtain ⟨x2, hx2, hr⟩ := bind_some hr
   refine cut (fun a' k' => Bs noF k0 88 a' k' ∧ (IsV a_) (a'.get 0) k' ∧ (IsV b_) (a'.get 1) k' ∧ (IsFn2 Tryz.prog keep_) (a'.get 2) k' ∧ IsOwn 0 3 s1.1 (a'.get 7) k' ∧ Lo k0 (obF (a'.get 7)) ∧ (IsRef x2) (a'.get 9) k' ∧ (IsV x1) (a'.get 17) k' ∧ (IsL x1) (a'.get 18) k' ∧ (IsV s1.2) (a'.get 19) k' ∧ True) ?_ hQ ?_
   ·intro Q5 W5 w4
    refine gS 3 (_ :: _ :: ⟨some (IsBox k.w.heap.size (⟨0, 0⟩ : RegionSpan)), []⟩ :: []) hs (by kernel_rfl) ⟨o1 [(17, none), (19, none)] rfl fun _ _ h n => ok_indexAddr rfl Tryz.underlying146 ty157 (IsV.rd (up i17 h n.1)) (up i19 h n.2.1) hx2, o1 [(21, some 0)] rfl fun _ _ h n => ok_load rfl ty157 n.1, ob1 rfl fun _ _ h n => ok_alloc _ h.size rfl z157, trivial⟩ W5 fun b q p => ?_
    have hgq := hg.then p.grow
    have hsb := p.size.trans hs
    have hdb := p.defers.trans hd
    have j0 := p.ke 0 rfl i0
    have j1 := p.ke 1 rfl i1
    have j2 := p.ke 2 rfl i2
    have j7 := p.ke 7 rfl i7
    have y7 : Lo k0 (obF (b.get 7)) := by rw [p.old 7 rfl]; exact n7
    obtain ⟨b9, j9, x9, z9⟩ : (IsBox k.w.heap.size (⟨0, 0⟩ : RegionSpan)) (b.get 9) q := p.ou 2 9 rfl
    replace x9 : Lo k (Eq b9) := Lo.eq x9
    have y9 : Lo k0 (Eq b9) := x9.chg hg
    have j17 := p.ke 17 rfl i17
    have j18 := p.ke 18 rfl i18
    have j19 := p.ke 19 rfl i19
    have j22 : (IsV x2) (b.get 22) q := p.ou 1 22 rfl
    have w7_9 : Apart (obF (b.get 7)) (Eq b9) := Apart.new (by rw [p.old 7 rfl]; exact i7.ltF) x9
    have hns := z9.nshF
    refine tail_storeB (i := 3) rfl rfl rfl rfl szf157 (Upd.self (α := RegionSpan)) j9 z9 j22 fun q2 hch hz => ?_
    replace hgq := hgq.step hch y9.wr
    have hle := hch.le hns
    replace j0 := Pers.pers hle j0
    replace j1 := Pers.pers hle j1
    replace j2 := Pers.pers hle j2
    replace j7 := j7.keep hch w7_9 hns
    replace j17 := Pers.pers hle j17
    replace j18 := Pers.pers hle j18
    replace j19 := Pers.pers hle j19
    replace j22 := Pers.pers hle j22
    replace z9 := hz
    clear hns hle hch
    obtain ⟨q, hqq⟩ : ∃ q, q = q2 := ⟨q2, rfl⟩
    subst hqq
    obtain ⟨q2, hsh, jn⟩ := z9.give
    replace j0 := Pers.pers hsh.le j0
    replace j1 := Pers.pers hsh.le j1
    replace j2 := Pers.pers hsh.le j2
    replace j7 := j7.handed hsh w7_9
    replace j17 := Pers.pers hsh.le j17
    replace j18 := Pers.pers hsh.le j18
    replace j19 := Pers.pers hsh.le j19
    rw [← j9] at jn
    replace j9 := jn
    replace hgq := hgq.hand hsh y9.wr
    rw [← hsh.w]
    clear hsh
    obtain ⟨q, hqq⟩ : ∃ q, q = q2 := ⟨q2, rfl⟩
    subst hqq
    exact tail_done (k := q) (w4 _ _ ⟨⟨hgq, hsb, hdb⟩, j0, j1, j2, j7, y7, j9, j17, j18, j19, trivial⟩)
   rintro a k ⟨⟨hg, hs, hd⟩, i0, i1, i2, i7, n7, i9, i17, i18, i19, _⟩
   obtain ⟨x3, hx3, hr⟩ := bind_some hr
   refine cut (fun a' k' => Bs noF k0 88 a' k' ∧ (IsV a_) (a'.get 0) k' ∧ (IsV b_) (a'.get 1) k' ∧ (IsFn2 Tryz.prog keep_) (a'.get 2) k' ∧ IsOwn 0 3 x3 (a'.get 7) k' ∧ Lo k0 (obF (a'.get 7)) ∧ (IsV x1) (a'.get 17) k' ∧ (IsL x1) (a'.get 18) k' ∧ (IsV s1.2) (a'.get 19) k' ∧ True) ?_ hQ ?_
   ·intro Q6 W6 w5
    refine gS 6 (⟨some (OwnAt (a.get 7) 0 3 s1.1), [(7, none)]⟩ :: _ :: _ :: _ :: _ :: ⟨some (IsV (α := (List Int)) ([x2.from_, x2.to_])), [(25, some 2), (27, some 4)]⟩ :: []) hs (by kernel_rfl) ⟨ob1 rfl fun _ _ h n => ok_moveOA (.inl rfl) (ownAt n.1 (up i7 h n.1)), o1 [(9, none)] rfl fun _ _ h n => ok_fieldAddr rfl fo157_0 (at_RegionSpan_0 _) ((up i9 h n.1)).ptr, o1 [(24, some 1)] rfl fun _ _ h n => ok_load rfl ty3 n.1, o1 [(9, none)] rfl fun _ _ h n => ok_fieldAddr rfl fo157_1 (at_RegionSpan_1 _) ((up i9 h n.1)).ptr, o1 [(26, some 3)] rfl fun _ _ h n => ok_load rfl ty3 n.1, ob1 rfl fun _ _ h n => ok_buildSlice rfl Tryz.underlying43 eo3 rfl (by decide) (by decide) ⟨rfl, n.1, rfl, n.2.1, trivial⟩, trivial⟩ W6 fun b q p => ?_
    have hgq := hg.then p.grow
    have hsb := p.size.trans hs
    have hdb := p.defers.trans hd
    have j0 := p.ke 0 rfl i0
    have j1 := p.ke 1 rfl i1
    have j2 := p.ke 2 rfl i2
    have j17 := p.ke 17 rfl i17
    have j18 := p.ke 18 rfl i18
    have j19 := p.ke 19 rfl i19
    have e23 : b.get 23 = a.get 7 := (p.ou 0 23 rfl).1
    have j23 : IsOwn 0 3 s1.1 (b.get 23) q := (p.ou 0 23 rfl).2
    have y23 : Lo k0 (obF (b.get 23)) := by rw [e23]; exact n7
    have j28 : (IsV (α := (List Int)) ([x2.from_, x2.to_])) (b.get 28) q := p.ou 5 28 rfl
    have hns := j23.nshF
    refine tail_appendS (i := 6) (d := 29) rfl rfl rfl rfl (by rw [hsb]; decide) (e := 3) Tryz.underlying43 eo3 j23 (IsV.rd j28) hx3 fun b2 q2 hsz hdf hoth hch hown hob => ?_
    have hle := hch.le hns
    have yn : Lo k0 (obF (b2.get 29)) := y23.app hgq hob
    replace j0 := Pers.pers hle j0
    replace j1 := Pers.pers hle j1
    replace j2 := Pers.pers hle j2
    replace j17 := Pers.pers hle j17
    replace j18 := Pers.pers hle j18
    replace j19 := Pers.pers hle j19
    replace j28 := Pers.pers hle j28
    replace hgq := hgq.step hch y23.wr
    rw [← hoth 0 (by decide)] at j0
    rw [← hoth 1 (by decide)] at j1
    rw [← hoth 2 (by decide)] at j2
    rw [← hoth 17 (by decide)] at j17
    rw [← hoth 18 (by decide)] at j18
    rw [← hoth 19 (by decide)] at j19
    rw [← hoth 28 (by decide)] at j28
    have j29 := hown
    have y29 := yn
    replace hsb := hsz.trans hsb
    replace hdb := hdf.trans hdb
    clear hle hch hown hob hns yn hsz hdf hoth
    obtain ⟨b, hbb⟩ : ∃ b, b = b2 := ⟨b2, rfl⟩
    subst hbb
    obtain ⟨q, hqq⟩ : ∃ q, q = q2 := ⟨q2, rfl⟩
    subst hqq
    refine tail_assign (i := 7) (d := 7) rfl rfl (.inl rfl) rfl (by rw [hsb]; decide) fun b2 hsz hdf hnew hoth => ?_
    have jn : (IsOwn 0 3 x3) (b2.get 7) q := by rw [hnew]; exact j29
    have yn : Lo k0 (obF (b2.get 7)) := by rw [hnew]; exact y29
    rw [← hoth 0 (by decide)] at j0
    rw [← hoth 1 (by decide)] at j1
    rw [← hoth 2 (by decide)] at j2
    rw [← hoth 17 (by decide)] at j17
    rw [← hoth 18 (by decide)] at j18
    rw [← hoth 19 (by decide)] at j19
    rw [← hoth 28 (by decide)] at j28
    have j7 := jn
    have y7 := yn
    replace hsb := hsz.trans hsb
    replace hdb := hdf.trans hdb
    clear hsz hdf hoth
    obtain ⟨b, hbb⟩ : ∃ b, b = b2 := ⟨b2, rfl⟩
    subst hbb
    exact tail_done (k := q) (w5 _ _ ⟨⟨hgq, hsb, hdb⟩, j0, j1, j2, j7, y7, j17, j18, j19, trivial⟩)
   rintro a k ⟨⟨hg, hs, hd⟩, i0, i1, i2, i7, n7, i17, i18, i19, _⟩
   obtain ⟨x4, hx4, hr⟩ := bind_some hr
   refine cut (fun a' k' => Bs noF k0 88 a' k' ∧ (IsV a_) (a'.get 0) k' ∧ (IsV b_) (a'.get 1) k' ∧ (IsFn2 Tryz.prog keep_) (a'.get 2) k' ∧ IsOwn 0 3 x3 (a'.get 7) k' ∧ Lo k0 (obF (a'.get 7)) ∧ (IsV x1) (a'.get 17) k' ∧ (IsL x1) (a'.get 18) k' ∧ (IsV x4) (a'.get 19) k' ∧ True) ?_ hQ ?_
   ·intro Q7 W7 w6
    refine gS 2 (_ :: _ :: []) hs (by kernel_rfl) ⟨o1 [(19, none)] rfl fun _ _ h n => ok_add rfl (up i19 h n.1) (cI rfl) hx4, cm 0 rfl rfl, trivial⟩ W7 fun b q p => ?_
    exact tail_done (k := q) (w6 _ _ ⟨Bs.post ⟨hg, hs, hd⟩ p, p.ke 0 rfl i0, p.ke 1 rfl i1, p.ke 2 rfl i2, p.ke 7 rfl i7, (by rw [p.old 7 rfl]; exact n7), p.ke 17 rfl i17, p.ke 18 rfl i18, p.ou 1 19 rfl, trivial⟩)
   rintro a k ⟨⟨hg, hs, hd⟩, i0, i1, i2, i7, n7, i17, i18, i19, _⟩
   exact hgo2456 _ _ _ (Option.some.inj hr).symm ⟨⟨hg, hs, hd⟩, i0, i1, i2, i7, n7, i17, i18, i19, trivial⟩
  rw [if_neg (by rw [hc2469]; decide)] at hr
  refine wp_exit ?_
  exact hex2457 _ _ _ _ (Option.some.inj hr).symm ⟨rfl, ⟨hg, hs, hd⟩, i0, i1, i2, i7, n7, trivial⟩
 ·rintro r1 a k rfl hR
  dsimp only at hr
  obtain rfl := Option.some.inj hr
  exact hR
 ·rintro _ _ _ rfl _
  simp at hr
 clear hf1
 rintro _ s2 a k rfl ⟨rfl, ⟨hg, hs, hd⟩, i0, i1, i2, i7, n7, _⟩
 dsimp only at hr
 refine wp_seq ?_
 obtain ⟨x5, hx5, hr⟩ := bind_some hr
 refine cut (fun a' k' => Bs noF k0 88 a' k' ∧ (IsV a_) (a'.get 0) k' ∧ (IsV b_) (a'.get 1) k' ∧ (IsFn2 Tryz.prog keep_) (a'.get 2) k' ∧ IsOwn 0 3 x5 (a'.get 7) k' ∧ Lo k0 (obF (a'.get 7)) ∧ True) ?_ hQ ?_
 ·intro Q8 W8 w7
  refine gS 1 (⟨some (OwnAt (a.get 7) 0 3 s2.1), [(7, none)]⟩ :: []) hs (by kernel_rfl) ⟨ob1 rfl fun _ _ h n => ok_moveOA (.inl rfl) (ownAt n.1 (up i7 h n.1)), trivial⟩ W8 fun b q p => ?_
  have hgq := hg.then p.grow
  have hsb := p.size.trans hs
  have hdb := p.defers.trans hd
  have j0 := p.ke 0 rfl i0
  have j1 := p.ke 1 rfl i1
  have j2 := p.ke 2 rfl i2
  have j7 := p.ke 7 rfl i7
  have y7 : Lo k0 (obF (b.get 7)) := by rw [p.old 7 rfl]; exact n7
  have e31 : b.get 31 = a.get 7 := (p.ou 0 31 rfl).1
  have j31 : IsOwn 0 3 s2.1 (b.get 31) q := (p.ou 0 31 rfl).2
  have y31 : Lo k0 (obF (b.get 31)) := by rw [e31]; exact n7
  have hns := j31.nshF
  have eS : b.get 7 = b.get 31 := (p.old 7 rfl).trans e31.symm
  refine tail_call (F := obF (b.get 31)) (i := 1) (d := 32) rfl rfl rfl rfl (by rw [hsb]; decide) Tryz.call91 W8 (sortInts_ok j31 hx5) fun b2 q2 hsz hdf hoth hch hres => ?_
  have hle := hch.le hns
  replace j0 := Pers.pers hle j0
  replace j1 := Pers.pers hle j1
  replace j2 := Pers.pers hle j2
  replace hgq := hgq.step hch y31.wr
  replace j7 : IsOwn 0 3 x5 (b.get 7) q2 := by rw [eS]; exact hres
  clear hres eS
  rw [← hoth 0 (by decide)] at j0
  rw [← hoth 1 (by decide)] at j1
  rw [← hoth 2 (by decide)] at j2
  rw [← hoth 7 (by decide)] at j7
  rw [← hoth 7 (by decide)] at y7
  replace hsb := hsz.trans hsb
  replace hdb := hdf.trans hdb
  clear hle hch hns hsz hdf hoth
  obtain ⟨b, hbb⟩ : ∃ b, b = b2 := ⟨b2, rfl⟩
  subst hbb
  obtain ⟨q, hqq⟩ : ∃ q, q = q2 := ⟨q2, rfl⟩
  subst hqq
  exact tail_done (k := q) (w7 _ _ ⟨⟨hgq, hsb, hdb⟩, j0, j1, j2, j7, y7, trivial⟩)
 rintro a k ⟨⟨hg, hs, hd⟩, i0, i1, i2, i7, n7, _⟩
 refine wp_seq ?_
 obtain ⟨x6, hx6, hr⟩ := bind_some hr
 refine cut (fun a' k' => Bs noF k0 88 a' k' ∧ (IsV a_) (a'.get 0) k' ∧ (IsV b_) (a'.get 1) k' ∧ (IsFn2 Tryz.prog keep_) (a'.get 2) k' ∧ IsOwn 0 3 x6 (a'.get 7) k' ∧ Lo k0 (obF (a'.get 7)) ∧ True) ?_ hQ ?_
 ·intro Q9 W9 w8
  refine gS 1 (⟨some (OwnAt (a.get 7) 0 3 x5), [(7, none)]⟩ :: []) hs (by kernel_rfl) ⟨ob1 rfl fun _ _ h n => ok_moveOA (.inl rfl) (ownAt n.1 (up i7 h n.1)), trivial⟩ W9 fun b q p => ?_
  have hgq := hg.then p.grow
  have hsb := p.size.trans hs
  have hdb := p.defers.trans hd
  have j0 := p.ke 0 rfl i0
  have j1 := p.ke 1 rfl i1
  have j2 := p.ke 2 rfl i2
  have e33 : b.get 33 = a.get 7 := (p.ou 0 33 rfl).1
  have j33 : IsOwn 0 3 x5 (b.get 33) q := (p.ou 0 33 rfl).2
  have y33 : Lo k0 (obF (b.get 33)) := by rw [e33]; exact n7
  have hns := j33.nshF
  refine tail_call (F := obF (b.get 33)) (i := 1) (d := 34) rfl rfl rfl rfl (by rw [hsb]; decide) Tryz.call92 W9 (compactInts_ok j33 hx6) fun b2 q2 hsz hdf hoth hch hres => ?_
  have hle := hch.le hns
  obtain ⟨hown, hob⟩ := hres
  have yn : Lo k0 (obF (b2.get 34)) := y33.app hgq hob
  replace j0 := Pers.pers hle j0
  replace j1 := Pers.pers hle j1
  replace j2 := Pers.pers hle j2
  replace hgq := hgq.step hch y33.wr
  rw [← hoth 0 (by decide)] at j0
  rw [← hoth 1 (by decide)] at j1
  rw [← hoth 2 (by decide)] at j2
  have j34 := hown
  have y34 := yn
  have hres := True.intro
  clear hown hob yn
  replace hsb := hsz.trans hsb
  replace hdb := hdf.trans hdb
  clear hle hch hres hns hsz hdf hoth
  obtain ⟨b, hbb⟩ : ∃ b, b = b2 := ⟨b2, rfl⟩
  subst hbb
  obtain ⟨q, hqq⟩ : ∃ q, q = q2 := ⟨q2, rfl⟩
  subst hqq
  refine tail_assign (i := 2) (d := 7) rfl rfl (.inl rfl) rfl (by rw [hsb]; decide) fun b2 hsz hdf hnew hoth => ?_
  have jn : (IsOwn 0 3 x6) (b2.get 7) q := by rw [hnew]; exact j34
  have yn : Lo k0 (obF (b2.get 7)) := by rw [hnew]; exact y34
  rw [← hoth 0 (by decide)] at j0
  rw [← hoth 1 (by decide)] at j1
  rw [← hoth 2 (by decide)] at j2
  have j7 := jn
  have y7 := yn
  replace hsb := hsz.trans hsb
  replace hdb := hdf.trans hdb
  clear hsz hdf hoth
  obtain ⟨b, hbb⟩ : ∃ b, b = b2 := ⟨b2, rfl⟩
  subst hbb
  exact tail_done (k := q) (w8 _ _ ⟨⟨hgq, hsb, hdb⟩, j0, j1, j2, j7, y7, trivial⟩)
 rintro a k ⟨⟨hg, hs, hd⟩, i0, i1, i2, i7, n7, _⟩
 refine wp_seq ?_
 obtain ⟨kk, sh2476, ii7⟩ := i7.give
 replace i0 := Pers.pers sh2476.le i0
 replace i1 := Pers.pers sh2476.le i1
 replace i2 := Pers.pers sh2476.le i2
 replace i7 := ii7
 replace hg := hg.hand sh2476 n7.wr
 rw [← sh2476.w]
 clear sh2476
 obtain ⟨k, hkk⟩ : ∃ k, k = kk := ⟨kk, rfl⟩
 subst hkk
 refine cut (fun a' k' => Bs noF k0 88 a' k' ∧ (IsV a_) (a'.get 0) k' ∧ (IsV b_) (a'.get 1) k' ∧ (IsFn2 Tryz.prog keep_) (a'.get 2) k' ∧ (IsV x6) (a'.get 7) k' ∧ IsOwn 0 157 ([] : List RegionSpan) (a'.get 10) k' ∧ Lo k0 (obF (a'.get 10)) ∧ True) ?_ hQ ?_
 ·intro Q10 W10 w9
  refine gS 1 (⟨some IsE0, []⟩ :: []) hs (by kernel_rfl) ⟨ob1 rfl fun b q h n => ok_assign rfl isE0_nil, trivial⟩ W10 fun b q p => ?_
  have hgq := hg.then p.grow
  have hsb := p.size.trans hs
  have hdb := p.defers.trans hd
  have j0 := p.ke 0 rfl i0
  have j1 := p.ke 1 rfl i1
  have j2 := p.ke 2 rfl i2
  have j7 := p.ke 7 rfl i7
  have j10 : IsE0 (b.get 10) q := p.ou 0 10 rfl
  have y10 : Lo k0 (obF (b.get 10)) := j10.lo
  replace j10 : IsOwn 0 157 ([] : List RegionSpan) (b.get 10) q := j10.own0
  exact tail_done (k := q) (w9 _ _ ⟨⟨hgq, hsb, hdb⟩, j0, j1, j2, j7, j10, y10, trivial⟩)
 rintro a k ⟨⟨hg, hs, hd⟩, i0, i1, i2, i7, i10, n10, _⟩
 refine wp_seq ?_
 refine cutS (fun c l => Bs noF k0 88 c l ∧ IsV a_ (c.get 0) l ∧ IsV b_ (c.get 1) l ∧ IsFn2 Tryz.prog keep_ (c.get 2) l ∧ IsV x6 (c.get 7) l ∧ IsOwn 0 157 ([] : List RegionSpan) (c.get 10) l ∧ Lo k0 (obF (c.get 10)) ∧ IsI 1 (c.get 11) l ∧ True) ?_ ?_
 ·intro Q11 W11 w10
  refine gS 1 (⟨some (IsI 1), []⟩ :: []) hs (by kernel_rfl) ⟨aI rfl rfl, trivial⟩ W11 fun b q p => ?_
  exact tail_done (k := q) (w10 _ _ ⟨Bs.post ⟨hg, hs, hd⟩ p, p.ke 0 rfl i0, p.ke 1 rfl i1, p.ke 2 rfl i2, p.ke 7 rfl i7, p.ke 10 rfl i10, (by rw [p.old 10 rfl]; exact n10), p.ou 0 11 rfl, trivial⟩)
 rintro a k ⟨⟨hg, hs, hd⟩, i0, i1, i2, i7, i10, n10, i11, _⟩
 refine wp_block ?_
 obtain ⟨f2, hf2, hr⟩ := bind_some hr
 refine cutFe f2 (fun s' c l => Bs noF k0 88 c l ∧ IsV a_ (c.get 0) l ∧ IsV b_ (c.get 1) l ∧ IsFn2 Tryz.prog keep_ (c.get 2) l ∧ IsV x6 (c.get 7) l ∧ IsOwn 0 157 s'.1 (c.get 10) l ∧ Lo k0 (obF (c.get 10)) ∧ IsV s'.2 (c.get 11) l ∧ True) (fun i' s' c l => (i' = 2 ∧ Bs noF k0 88 c l ∧ IsV s'.1 (c.get 10) l ∧ True)) (fun r' c l => bodyPost Tryz.prog Tryz.f98 (RetC noF k0 (IsV r')) .ret c l.w) ?_ hQ ?_ ?_ ?_
 ·intro Q12 W12 hgo hex hret
  refine sim_loop ?_ _ _ _ _ _ hf2 ⟨⟨hg, hs, hd⟩, i0, i1, i2, i7, i10, n10, i11, trivial⟩ Q12 W12 hgo hex hret
  clear hr hf2 hgo hex hret W12 hQ hg hs hd i0 i1 i10 i11 i2 i7 n10
  intro s3 fl_ a k hr hS Q hQ hgo2480 hex2481 hret2482
  obtain ⟨⟨hg, hs, hd⟩, i0, i1, i2, i7, i10, n10, i11, _⟩ := hS
  unfold region_merge_L1 at hr
  refine wp_seq ?_
  refine cutS (fun c l => Bs noF k0 88 c l ∧ IsV a_ (c.get 0) l ∧ IsV b_ (c.get 1) l ∧ IsFn2 Tryz.prog keep_ (c.get 2) l ∧ IsV x6 (c.get 7) l ∧ IsOwn 0 157 s3.1 (c.get 10) l ∧ Lo k0 (obF (c.get 10)) ∧ IsV s3.2 (c.get 11) l ∧ (IsV (decide (s3.2 < (x6.length : Int)))) (c.get 38) l ∧ True) ?_ ?_
  ·intro Q13 W13 w11
   refine gS 4 (_ :: _ :: _ :: _ :: []) hs (by kernel_rfl) ⟨mu rfl i11, mu rfl i7, o1 [(36, some 1)] rfl fun _ _ h n => ok_len rfl rfl Tryz.underlying43 (IsV.rd n.1), o1 [(35, some 0), (37, some 2)] rfl fun _ _ h n => ok_lss rfl n.1 n.2.1, trivial⟩ W13 fun b q p => ?_
   exact tail_done (k := q) (w11 _ _ ⟨Bs.post ⟨hg, hs, hd⟩ p, p.ke 0 rfl i0, p.ke 1 rfl i1, p.ke 2 rfl i2, p.ke 7 rfl i7, p.ke 10 rfl i10, (by rw [p.old 10 rfl]; exact n10), p.ke 11 rfl i11, p.ou 3 38 rfl, trivial⟩)
  rintro a k ⟨⟨hg, hs, hd⟩, i0, i1, i2, i7, i10, n10, i11, i38, _⟩
  refine wp_cond_split (isBool i38) (fun hc2514 => ?_) (fun hc2514 => ?_)
  ·rw [if_pos hc2514] at hr
   refine wp_skip ?_
   refine wp_seq ?_
   obtain ⟨s4, hs4, hr⟩ := bind_some hr
   refine cut (fun a' k' => Bs noF k0 88 a' k' ∧ (IsV a_) (a'.get 0) k' ∧ (IsV b_) (a'.get 1) k' ∧ (IsFn2 Tryz.prog keep_) (a'.get 2) k' ∧ (IsV x6) (a'.get 7) k' ∧ IsOwn 0 157 s4 (a'.get 10) k' ∧ Lo k0 (obF (a'.get 10)) ∧ (IsV s3.2) (a'.get 11) k' ∧ True) ?_ hQ ?_
   ·intro Q14 W14 w12
    replace hr := hs4
    clear hQ
    have hQ := W14
    refine wp_block ?_
    refine wp_seq ?_
    obtain ⟨x7, hx7, hr⟩ := bind_some hr
    obtain ⟨x8, hx8, hr⟩ := bind_some hr
    refine cut (fun a' k' => Bs noF k0 88 a' k' ∧ (IsV a_) (a'.get 0) k' ∧ (IsV b_) (a'.get 1) k' ∧ (IsFn2 Tryz.prog keep_) (a'.get 2) k' ∧ (IsV x6) (a'.get 7) k' ∧ IsOwn 0 157 s3.1 (a'.get 10) k' ∧ Lo k0 (obF (a'.get 10)) ∧ (IsV s3.2) (a'.get 11) k' ∧ (IsV x8) (a'.get 12) k' ∧ True) ?_ hQ ?_
    ·intro Q15 W15 w13
     refine gS 6 (_ :: _ :: _ :: _ :: _ :: _ :: []) hs (by kernel_rfl) ⟨mu rfl i7, mu rfl i11, o1 [(42, some 1)] rfl fun _ _ h n => ok_sub rfl n.1 (cI rfl) hx7, o1 [(41, some 0), (43, some 2)] rfl fun _ _ h n => ok_indexAddr rfl Tryz.underlying43 ty3 (IsV.rd n.1) n.2.1 hx8, o1 [(44, some 3)] rfl fun _ _ h n => ok_load rfl ty3 n.1, cp 4 rfl rfl, trivial⟩ W15 fun b q p => ?_
     exact tail_done (k := q) (w13 _ _ ⟨Bs.post ⟨hg, hs, hd⟩ p, p.ke 0 rfl i0, p.ke 1 rfl i1, p.ke 2 rfl i2, p.ke 7 rfl i7, p.ke 10 rfl i10, (by rw [p.old 10 rfl]; exact n10), p.ke 11 rfl i11, p.ou 5 12 rfl, trivial⟩)
    rintro a k ⟨⟨hg, hs, hd⟩, i0, i1, i2, i7, i10, n10, i11, i12, _⟩
    refine wp_seq ?_
    refine wp_seq ?_
    obtain ⟨x10, hx10, hr⟩ := bind_some hr
    obtain ⟨x11, hx11, hr⟩ := bind_some hr
    obtain ⟨x12, hx12, hr⟩ := bind_some hr
    refine cut (fun a' k' => Bs noF k0 88 a' k' ∧ (IsV a_) (a'.get 0) k' ∧ (IsV b_) (a'.get 1) k' ∧ (IsFn2 Tryz.prog keep_) (a'.get 2) k' ∧ (IsV x6) (a'.get 7) k' ∧ IsOwn 0 157 s3.1 (a'.get 10) k' ∧ Lo k0 (obF (a'.get 10)) ∧ (IsV s3.2) (a'.get 11) k' ∧ (IsV x8) (a'.get 12) k' ∧ (IsV (!x12)) (a'.get 54) k' ∧ True) ?_ hQ ?_
    ·intro Q16 W16 w14
     refine gS 9 (_ :: _ :: _ :: _ :: _ :: _ :: _ :: ⟨some (IsV x12), [(46, some 0), (49, some 3), (52, some 6)]⟩ :: _ :: []) hs (by kernel_rfl) ⟨mu rfl i2, mu rfl i0, mu rfl i12, o1 [(47, some 1), (48, some 2)] rfl fun _ _ h n => ok_call rfl Tryz.call111 (region_inside_ok n.1 n.2.1 hx10), mu rfl i1, mu rfl i12, o1 [(50, some 4), (51, some 5)] rfl fun _ _ h n => ok_call rfl Tryz.call111 (region_inside_ok n.1 n.2.1 hx11), ob1 rfl fun _ _ h n => ok_callF2 rfl n.1 n.2.1 n.2.2.1 hx12, o1 [(53, some 7)] rfl fun _ _ h n => ok_not rfl n.1, trivial⟩ W16 fun b q p => ?_
     exact tail_done (k := q) (w14 _ _ ⟨Bs.post ⟨hg, hs, hd⟩ p, p.ke 0 rfl i0, p.ke 1 rfl i1, p.ke 2 rfl i2, p.ke 7 rfl i7, p.ke 10 rfl i10, (by rw [p.old 10 rfl]; exact n10), p.ke 11 rfl i11, p.ke 12 rfl i12, p.ou 8 54 rfl, trivial⟩)
    rintro a k ⟨⟨hg, hs, hd⟩, i0, i1, i2, i7, i10, n10, i11, i12, i54, _⟩
    refine wp_cond_split (isBool i54) (fun hc2504 => ?_) (fun hc2504 => ?_)
    ·rw [if_pos hc2504] at hr
     refine wp_exit ?_
     obtain rfl := Option.some.inj hr
     exact w12 _ _ ⟨⟨hg, hs, hd⟩, i0, i1, i2, i7, i10, n10, i11, trivial⟩
    rw [if_neg (by rw [hc2504]; decide)] at hr
    refine wp_skip ?_
    refine cutS (fun c l => Bs noF k0 88 c l ∧ IsV a_ (c.get 0) l ∧ IsV b_ (c.get 1) l ∧ IsFn2 Tryz.prog keep_ (c.get 2) l ∧ IsV x6 (c.get 7) l ∧ IsOwn 0 157 s3.1 (c.get 10) l ∧ Lo k0 (obF (c.get 10)) ∧ IsV s3.2 (c.get 11) l ∧ IsV x8 (c.get 12) l ∧ IsI (s3.1.length : Int) (c.get 13) l ∧ True) ?_ ?_
    ·intro Q17 W17 w15
     refine gS 3 (⟨some (OwnAt (a.get 10) 0 157 s3.1), [(10, none)]⟩ :: _ :: _ :: []) hs (by kernel_rfl) ⟨ob1 rfl fun _ _ h n => ok_moveOA (.inl rfl) (ownAt n.1 (up i10 h n.1)), o1 [(55, some 0)] rfl fun _ _ h n => ok_len rfl rfl Tryz.underlying146 (IsOwn.rd (n.1).2), cp 1 rfl rfl, trivial⟩ W17 fun b q p => ?_
     exact tail_done (k := q) (w15 _ _ ⟨Bs.post ⟨hg, hs, hd⟩ p, p.ke 0 rfl i0, p.ke 1 rfl i1, p.ke 2 rfl i2, p.ke 7 rfl i7, p.ke 10 rfl i10, (by rw [p.old 10 rfl]; exact n10), p.ke 11 rfl i11, p.ke 12 rfl i12, p.ou 2 13 rfl, trivial⟩)
    rintro a k ⟨⟨hg, hs, hd⟩, i0, i1, i2, i7, i10, n10, i11, i12, i13, _⟩
    refine wp_seq ?_
    obtain ⟨x13, hx13, hr⟩ := bind_some hr
    obtain ⟨x14, hx14, hx13⟩ := ite_bind hx13
    obtain ⟨x15, hx15, hx13⟩ := ite_bind hx13
    refine cut (fun a' k' => Bs noF k0 88 a' k' ∧ (IsV a_) (a'.get 0) k' ∧ (IsV b_) (a'.get 1) k' ∧ (IsFn2 Tryz.prog keep_) (a'.get 2) k' ∧ (IsV x6) (a'.get 7) k' ∧ IsOwn 0 157 s3.1 (a'.get 10) k' ∧ Lo k0 (obF (a'.get 10)) ∧ (IsV s3.2) (a'.get 11) k' ∧ (IsV x8) (a'.get 12) k' ∧ (IsI (s3.1.length : Int)) (a'.get 13) k' ∧ (IsV x13) (a'.get 68) k' ∧ True) ?_ hQ ?_
    ·intro Q18 W18 w16
     refine gS 12 (_ :: _ :: _ :: ⟨some (Gd ((decide (0 < (s3.1.length : Int))) = true) (OwnAt (a.get 10) 0 157 s3.1)), [(10, none)]⟩ :: _ :: _ :: _ :: _ :: _ :: _ :: _ :: _ :: []) hs (by kernel_rfl) ⟨mu rfl i13, o1 [(57, some 0)] rfl fun _ _ h n => ok_gtr rfl n.1 (cI rfl), cm 1 rfl rfl, gdT rfl rfl fun hp _ _ h n => ok_moveOA (.inl rfl) (ownAt n.1 (up i10 h n.1)), mT rfl rfl i13, gT [(61, some 4)] rfl rfl fun hp _ _ h n => ok_sub rfl (Gd.get n.1 hp) (cI rfl) (hx14 hp), gT [(60, some 3), (62, some 5)] rfl rfl fun hp _ _ h n => ok_indexAddr rfl Tryz.underlying146 ty157 (IsOwn.rd ((Gd.get n.1 hp)).2) (Gd.get n.2.1 hp) (hx15 hp), gT [(63, some 6)] rfl rfl fun hp _ _ h n => ok_fieldAddr rfl fo157_1 (at_RegionSpan_1 _) (Gd.get n.1 hp), gT [(64, some 7)] rfl rfl fun hp _ _ h n => ok_load rfl ty3 (Gd.get n.1 hp), mT rfl rfl i12, gT [(65, some 8), (66, some 9)] rfl rfl fun hp _ _ h n => ok_eqI rfl (Gd.get n.1 hp) (Gd.get n.2.1 hp), o1 [(59, some 2), (67, some 10)] rfl fun _ _ h n => ok_pickM rfl n.1 hx13 (Gd.get n.2.1) (cB rfl), trivial⟩ W18 fun b q p => ?_
     exact tail_done (k := q) (w16 _ _ ⟨Bs.post ⟨hg, hs, hd⟩ p, p.ke 0 rfl i0, p.ke 1 rfl i1, p.ke 2 rfl i2, p.ke 7 rfl i7, p.ke 10 rfl i10, (by rw [p.old 10 rfl]; exact n10), p.ke 11 rfl i11, p.ke 12 rfl i12, p.ke 13 rfl i13, p.ou 11 68 rfl, trivial⟩)
    rintro a k ⟨⟨hg, hs, hd⟩, i0, i1, i2, i7, i10, n10, i11, i12, i13, i68, _⟩
    obtain ⟨s5, hs5, hr⟩ := bind_some hr
    refine cut (fun a' k' => Bs noF k0 88 a' k' ∧ (IsV a_) (a'.get 0) k' ∧ (IsV b_) (a'.get 1) k' ∧ (IsFn2 Tryz.prog keep_) (a'.get 2) k' ∧ (IsV x6) (a'.get 7) k' ∧ IsOwn 0 157 s5 (a'.get 10) k' ∧ Lo k0 (obF (a'.get 10)) ∧ (IsV s3.2) (a'.get 11) k' ∧ True) ?_ hQ ?_
    ·intro Q19 W19 w17
     replace hr := hs5
     clear hQ
     have hQ := W19
     refine wp_cond_split (isBool i68) (fun hc2498 => ?_) (fun hc2498 => ?_)
     ·rw [if_pos hc2498] at hr
      obtain ⟨x16, hx16, hr⟩ := bind_some hr
      obtain ⟨x17, hx17, hr⟩ := bind_some hr
      obtain ⟨x18, hx18, hr⟩ := bind_some hr
      obtain ⟨x19, hx19, hr⟩ := bind_some hr
      refine cut (fun a' k' => Bs noF k0 88 a' k' ∧ (IsV a_) (a'.get 0) k' ∧ (IsV b_) (a'.get 1) k' ∧ (IsFn2 Tryz.prog keep_) (a'.get 2) k' ∧ (IsV x6) (a'.get 7) k' ∧ IsOwn 0 157 x19 (a'.get 10) k' ∧ Lo k0 (obF (a'.get 10)) ∧ (IsV s3.2) (a'.get 11) k' ∧ True) ?_ hQ ?_
      ·intro Q20 W20 w18
       refine gS 9 (⟨some (OwnAt (a.get 10) 0 157 s3.1), [(10, none)]⟩ :: _ :: _ :: _ :: _ :: _ :: _ :: ⟨some (IsAdrO (a.get 10) ((x16).toNat * Enc.sz RegionSpan)), [(69, some 0), (71, some 2)]⟩ :: _ :: []) hs (by kernel_rfl) ⟨ob1 rfl fun _ _ h n => ok_moveOA (.inl rfl) (ownAt n.1 (up i10 h n.1)), mu rfl i13, o1 [(70, some 1)] rfl fun _ _ h n => ok_sub rfl n.1 (cI rfl) hx16, mu rfl i7, mu rfl i11, o1 [(72, some 3), (73, some 4)] rfl fun _ _ h n => ok_indexAddr rfl Tryz.underlying43 ty3 (IsV.rd n.1) n.2.1 hx17, o1 [(74, some 5)] rfl fun _ _ h n => ok_load rfl ty3 n.1, ob1 rfl fun _ _ h n => ok_indexO rfl Tryz.underlying146 ty157 n.1 n.2.1 hx18, o1 [(76, some 7)] rfl fun _ _ h n => ok_fieldAdrO rfl fo157_1 n.1, trivial⟩ W20 fun b q p => ?_
       have hgq := hg.then p.grow
       have hsb := p.size.trans hs
       have hdb := p.defers.trans hd
       have j0 := p.ke 0 rfl i0
       have j1 := p.ke 1 rfl i1
       have j2 := p.ke 2 rfl i2
       have j7 := p.ke 7 rfl i7
       have j10 := p.ke 10 rfl i10
       have y10 : Lo k0 (obF (b.get 10)) := by rw [p.old 10 rfl]; exact n10
       have j11 := p.ke 11 rfl i11
       have j75 : (IsV x17) (b.get 75) q := p.ou 6 75 rfl
       have j77 : IsAdrO (a.get 10) ((x16).toNat * Enc.sz RegionSpan + 1) (b.get 77) q := p.ou 8 77 rfl
       have eo : b.get 10 = a.get 10 := p.old 10 rfl
       have hns := j10.nshF
       refine tail_storeS (i := 9) (u := b.get 10) (m := (x16).toNat) (off := 0 + 1) rfl rfl rfl rfl szf3 upd_F157_1 (by rw [eo]; exact j77) j10 (getI_spec hx18).2.1 j75 fun q2 hch hz => ?_
       replace hgq := hgq.step hch y10.wr
       have hle := hch.le hns
       replace j0 := Pers.pers hle j0
       replace j1 := Pers.pers hle j1
       replace j2 := Pers.pers hle j2
       replace j7 := Pers.pers hle j7
       replace j11 := Pers.pers hle j11
       replace j75 := Pers.pers hle j75
       replace j77 := Pers.pers hle j77
       replace j10 := hz
       rw [Option.some.inj hx19] at j10
       clear hns hle hch eo hz
       obtain ⟨q, hqq⟩ : ∃ q, q = q2 := ⟨q2, rfl⟩
       subst hqq
       exact tail_done (k := q) (w18 _ _ ⟨⟨hgq, hsb, hdb⟩, j0, j1, j2, j7, j10, y10, j11, trivial⟩)
      rintro a k ⟨⟨hg, hs, hd⟩, i0, i1, i2, i7, i10, n10, i11, _⟩
      obtain rfl := Option.some.inj hr
      exact w17 _ _ ⟨⟨hg, hs, hd⟩, i0, i1, i2, i7, i10, n10, i11, trivial⟩
     rw [if_neg (by rw [hc2498]; decide)] at hr
     obtain ⟨x20, hx20, hr⟩ := bind_some hr
     obtain ⟨x21, hx21, hr⟩ := bind_some hr
     refine cut (fun a' k' => Bs noF k0 88 a' k' ∧ (IsV a_) (a'.get 0) k' ∧ (IsV b_) (a'.get 1) k' ∧ (IsFn2 Tryz.prog keep_) (a'.get 2) k' ∧ (IsV x6) (a'.get 7) k' ∧ IsOwn 0 157 x21 (a'.get 10) k' ∧ Lo k0 (obF (a'.get 10)) ∧ (IsV s3.2) (a'.get 11) k' ∧ True) ?_ hQ ?_
     ·intro Q21 W21 w19
      refine gS 8 (⟨some (OwnAt (a.get 10) 0 157 s3.1), [(10, none)]⟩ :: _ :: _ :: _ :: _ :: _ :: ⟨some (IsV (⟨x8, x20⟩ : RegionSpan)), [(79, some 1), (83, some 5)]⟩ :: ⟨some (IsV (α := (List RegionSpan)) ([(⟨x8, x20⟩ : RegionSpan)])), [(84, some 6)]⟩ :: []) hs (by kernel_rfl) ⟨ob1 rfl fun _ _ h n => ok_moveOA (.inl rfl) (ownAt n.1 (up i10 h n.1)), mu rfl i12, mu rfl i7, mu rfl i11, o1 [(80, some 2), (81, some 3)] rfl fun _ _ h n => ok_indexAddr rfl Tryz.underlying43 ty3 (IsV.rd n.1) n.2.1 hx20, o1 [(82, some 4)] rfl fun _ _ h n => ok_load rfl ty3 n.1, ob1 rfl fun _ _ h n => ok_build rfl (bld157_0_1 n.1 n.2.1), ob1 rfl fun _ _ h n => ok_buildSlice rfl Tryz.underlying146 eo157 rfl (by decide) (by decide) ⟨rfl, n.1, trivial⟩, trivial⟩ W21 fun b q p => ?_
      have hgq := hg.then p.grow
      have hsb := p.size.trans hs
      have hdb := p.defers.trans hd
      have j0 := p.ke 0 rfl i0
      have j1 := p.ke 1 rfl i1
      have j2 := p.ke 2 rfl i2
      have j7 := p.ke 7 rfl i7
      have j11 := p.ke 11 rfl i11
      have e78 : b.get 78 = a.get 10 := (p.ou 0 78 rfl).1
      have j78 : IsOwn 0 157 s3.1 (b.get 78) q := (p.ou 0 78 rfl).2
      have y78 : Lo k0 (obF (b.get 78)) := by rw [e78]; exact n10
      have j85 : (IsV (α := (List RegionSpan)) ([(⟨x8, x20⟩ : RegionSpan)])) (b.get 85) q := p.ou 7 85 rfl
      have hns := j78.nshF
      refine tail_appendS (i := 8) (d := 86) rfl rfl rfl rfl (by rw [hsb]; decide) (e := 157) Tryz.underlying146 eo157 j78 (IsV.rd j85) hx21 fun b2 q2 hsz hdf hoth hch hown hob => ?_
      have hle := hch.le hns
      have yn : Lo k0 (obF (b2.get 86)) := y78.app hgq hob
      replace j0 := Pers.pers hle j0
      replace j1 := Pers.pers hle j1
      replace j2 := Pers.pers hle j2
      replace j7 := Pers.pers hle j7
      replace j11 := Pers.pers hle j11
      replace j85 := Pers.pers hle j85
      replace hgq := hgq.step hch y78.wr
      rw [← hoth 0 (by decide)] at j0
      rw [← hoth 1 (by decide)] at j1
      rw [← hoth 2 (by decide)] at j2
      rw [← hoth 7 (by decide)] at j7
      rw [← hoth 11 (by decide)] at j11
      rw [← hoth 85 (by decide)] at j85
      have j86 := hown
      have y86 := yn
      replace hsb := hsz.trans hsb
      replace hdb := hdf.trans hdb
      clear hle hch hown hob hns yn hsz hdf hoth
      obtain ⟨b, hbb⟩ : ∃ b, b = b2 := ⟨b2, rfl⟩
      subst hbb
      obtain ⟨q, hqq⟩ : ∃ q, q = q2 := ⟨q2, rfl⟩
      subst hqq
      refine tail_assign (i := 9) (d := 10) rfl rfl (.inl rfl) rfl (by rw [hsb]; decide) fun b2 hsz hdf hnew hoth => ?_
      have jn : (IsOwn 0 157 x21) (b2.get 10) q := by rw [hnew]; exact j86
      have yn : Lo k0 (obF (b2.get 10)) := by rw [hnew]; exact y86
      rw [← hoth 0 (by decide)] at j0
      rw [← hoth 1 (by decide)] at j1
      rw [← hoth 2 (by decide)] at j2
      rw [← hoth 7 (by decide)] at j7
      rw [← hoth 11 (by decide)] at j11
      rw [← hoth 85 (by decide)] at j85
      have j10 := jn
      have y10 := yn
      replace hsb := hsz.trans hsb
      replace hdb := hdf.trans hdb
      clear hsz hdf hoth
      obtain ⟨b, hbb⟩ : ∃ b, b = b2 := ⟨b2, rfl⟩
      subst hbb
      exact tail_done (k := q) (w19 _ _ ⟨⟨hgq, hsb, hdb⟩, j0, j1, j2, j7, j10, y10, j11, trivial⟩)
     rintro a k ⟨⟨hg, hs, hd⟩, i0, i1, i2, i7, i10, n10, i11, _⟩
     obtain rfl := Option.some.inj hr
     exact w17 _ _ ⟨⟨hg, hs, hd⟩, i0, i1, i2, i7, i10, n10, i11, trivial⟩
    clear hs5
    rintro a k ⟨⟨hg, hs, hd⟩, i0, i1, i2, i7, i10, n10, i11, _⟩
    obtain rfl := Option.some.inj hr
    exact w12 _ _ ⟨⟨hg, hs, hd⟩, i0, i1, i2, i7, i10, n10, i11, trivial⟩
   clear hs4
   rintro a k ⟨⟨hg, hs, hd⟩, i0, i1, i2, i7, i10, n10, i11, _⟩
   obtain ⟨x22, hx22, hr⟩ := bind_some hr
   refine cut (fun a' k' => Bs noF k0 88 a' k' ∧ (IsV a_) (a'.get 0) k' ∧ (IsV b_) (a'.get 1) k' ∧ (IsFn2 Tryz.prog keep_) (a'.get 2) k' ∧ (IsV x6) (a'.get 7) k' ∧ IsOwn 0 157 s4 (a'.get 10) k' ∧ Lo k0 (obF (a'.get 10)) ∧ (IsV x22) (a'.get 11) k' ∧ True) ?_ hQ ?_
   ·intro Q22 W22 w20
    refine gS 3 (_ :: _ :: _ :: []) hs (by kernel_rfl) ⟨mu rfl i11, o1 [(39, some 0)] rfl fun _ _ h n => ok_add rfl n.1 (cI rfl) hx22, cp 1 rfl rfl, trivial⟩ W22 fun b q p => ?_
    exact tail_done (k := q) (w20 _ _ ⟨Bs.post ⟨hg, hs, hd⟩ p, p.ke 0 rfl i0, p.ke 1 rfl i1, p.ke 2 rfl i2, p.ke 7 rfl i7, p.ke 10 rfl i10, (by rw [p.old 10 rfl]; exact n10), p.ou 2 11 rfl, trivial⟩)
   rintro a k ⟨⟨hg, hs, hd⟩, i0, i1, i2, i7, i10, n10, i11, _⟩
   exact hgo2480 _ _ _ (Option.some.inj hr).symm ⟨⟨hg, hs, hd⟩, i0, i1, i2, i7, i10, n10, i11, trivial⟩
  rw [if_neg (by rw [hc2514]; decide)] at hr
  refine wp_exit ?_
  obtain ⟨kk, sh2513, ii10⟩ := i10.give
  replace i10 := ii10
  replace hg := hg.hand sh2513 n10.wr
  rw [← sh2513.w]
  clear sh2513
  obtain ⟨k, hkk⟩ : ∃ k, k = kk := ⟨kk, rfl⟩
  subst hkk
  exact hex2481 _ _ _ _ (Option.some.inj hr).symm ⟨rfl, ⟨hg, hs, hd⟩, i10, trivial⟩
 ·rintro r2 a k rfl hR
  dsimp only at hr
  obtain rfl := Option.some.inj hr
  exact hR
 ·rintro _ _ _ rfl _
  simp at hr
 clear hf2
 rintro _ s6 a k rfl ⟨rfl, ⟨hg, hs, hd⟩, i10, _⟩
 dsimp only at hr
 refine stepL 2 (_ :: _ :: []) rfl ⟨hg, hs, hd⟩ (by kernel_rfl) ⟨mu rfl i10, cp 0 rfl rfl, trivial⟩ [⟨_, _⟩] (fun b q p => ⟨p.ou 1 6 rfl, trivial⟩) ?_
 rintro a k ⟨⟨hg, hs, hd⟩, i6, _⟩
 refine wp_ret ?_
 obtain rfl := Option.some.inj hr
 exact retC1 rfl hd hg i6
def region_combine_L0 (keep_ : (Bool → Bool → Option (Bool))) (x1 : (List RegionStrip)) (x2 : (List RegionStrip)) (x3 : (List RegionStrip)) (s1 : (List RegionStrip) × Int) : Option (Flow ((List RegionStrip) × Int) ((List Rect) × Int)) :=
 if (decide (s1.2 < (x3.length : Int))) then
  (getI s1.1 s1.2).bind fun x4 =>
  (region_at x1 x4.x0).bind fun x5 =>
  (region_at x2 x4.x0).bind fun x6 =>
  (region_merge x5 x6 keep_).bind fun x7 =>
  (getI s1.1 s1.2).bind fun x8 =>
  (some (s1.1.set (s1.2).toNat ({ x8 with column := x7 }))).bind fun x9 =>
  (addI s1.2 1).bind fun x10 =>
  some (.go (x9, x10))
 else
  some (.ex 0 (s1.1, s1.2))
def region_combine (a_ : (List Rect)) (b_ : (List Rect)) (keep_ : (Bool → Bool → Option (Bool))) : Option ((List Rect) × Int) :=
 (region_Right a_).bind fun x1 =>
 (if (!x1) then
  some true
 else
  (region_Right b_).bind fun x2 =>
  some (!x2)).bind fun x3 =>
 if x3 then
  some (([] : List Rect), 1)
 else
  (region_strips ([a_])).bind fun x4 =>
  (region_strips ([b_])).bind fun x5 =>
  (region_strips ([a_, b_])).bind fun x6 =>
  (iterL (region_combine_L0 keep_ x4 x5 x6) (x6.length + 1) (x6, 0)).bind fun f1 => match f1 with
   | .go _ => none
   | .ex _ s1 =>
    (region_write s1.1).bind fun x7 =>
    (region_limited x7).bind fun x8 =>
    some (x8.1, x8.2)
   | .ret r1 => some r1
theorem region_combine_ok {k0 : K} {v0 v1 v2 : Value} {a_ : (List Rect)} {b_ : (List Rect)} {keep_ : (Bool → Bool → Option (Bool))} {r : (List Rect) × Int} (i0 : (IsV a_) v0 k0) (i1 : (IsV b_) v1 k0) (i2 : (IsFn2 Tryz.prog keep_) v2 k0) (hr : region_combine a_ b_ keep_ = some r) :
  Calls Tryz.prog 74 #[v0, v1, v2] k0.w (Ret k0 (IsTup2 (IsV r.1) (IsV r.2))) := by
 unfold region_combine at hr
 refine Ret.ofC ?_
 refine enterK Tryz.func74 rfl Tryz.ntmps74 (show 3 ≤ 58 by decide) fun a k hk0 hs hd ha => ?_
 obtain ⟨e0, e1, e2, _⟩ := ha
 replace i0 : (IsV a_) (a.get 0) k := by rw [e0, hk0]; exact i0
 replace i1 : (IsV b_) (a.get 1) k := by rw [e1, hk0]; exact i1
 replace i2 : (IsFn2 Tryz.prog keep_) (a.get 2) k := by rw [e2, hk0]; exact i2
 have hQ : Gb.LetsOut (bodyPost Tryz.prog Tryz.f74 (RetC noF k0 (IsTup2 (IsV r.1) (IsV r.2)))) := letsOutC
 have hg : Chg noF k0 k := by rw [hk0]; exact Chg.refl _ k0
 refine stepL 2 (⟨some IsE0, []⟩ :: ⟨some (IsI 0), []⟩ :: []) rfl ⟨hg, hs, hd⟩ (by kernel_rfl) ⟨ob1 rfl fun b q h n => ok_assign rfl isE0_nil, aI rfl rfl, trivial⟩ [⟨_, _⟩, ⟨_, _⟩, ⟨_, _⟩] (fun b q p => ⟨p.ke 0 rfl i0, p.ke 1 rfl i1, p.ke 2 rfl i2, trivial⟩) ?_
 rintro a k ⟨⟨hg, hs, hd⟩, i0, i1, i2, _⟩
 refine wp_seq ?_
 refine wp_seq ?_
 obtain ⟨x1, hx1, hr⟩ := bind_some hr
 obtain ⟨x2, hx2, hr⟩ := bind_some hr
 obtain ⟨x3, hx3, hx2⟩ := ite_bindF hx2
 refine cut (fun a' k' => Bs noF k0 58 a' k' ∧ (IsV a_) (a'.get 0) k' ∧ (IsV b_) (a'.get 1) k' ∧ (IsFn2 Tryz.prog keep_) (a'.get 2) k' ∧ (IsV x2) (a'.get 20) k' ∧ True) ?_ hQ ?_
 ·intro Q1 W1 w1
  refine gS 8 (_ :: _ :: _ :: _ :: _ :: _ :: _ :: _ :: []) hs (by kernel_rfl) ⟨mu rfl i0, o1 [(13, some 0)] rfl fun _ _ h n => ok_call rfl Tryz.call97 (region_Right_ok n.1 hx1), o1 [(14, some 1)] rfl fun _ _ h n => ok_not rfl n.1, cm 2 rfl rfl, mF rfl rfl i1, gF [(17, some 4)] rfl rfl fun hp _ _ h n => ok_call rfl Tryz.call97 (region_Right_ok (Gd.get n.1 hp) (hx3 hp)), gF [(18, some 5)] rfl rfl fun hp _ _ h n => ok_not rfl (Gd.get n.1 hp), o1 [(16, some 3), (19, some 6)] rfl fun _ _ h n => ok_pickM rfl n.1 hx2 (cB rfl) (Gd.get n.2.1), trivial⟩ W1 fun b q p => ?_
  exact tail_done (k := q) (w1 _ _ ⟨Bs.post ⟨hg, hs, hd⟩ p, p.ke 0 rfl i0, p.ke 1 rfl i1, p.ke 2 rfl i2, p.ou 7 20 rfl, trivial⟩)
 rintro a k ⟨⟨hg, hs, hd⟩, i0, i1, i2, i20, _⟩
 refine wp_cond_split (isBool i20) (fun hc2579 => ?_) (fun hc2579 => ?_)
 ·rw [if_pos hc2579] at hr
  refine cutL noF k0 58 [⟨6, IsV ([] : List Rect)⟩, ⟨7, IsI 1⟩] ?_ ?_
  ·intro Q2 W2 w2
   refine gS 2 (⟨some IsE0, []⟩ :: ⟨some (IsI 1), []⟩ :: []) hs (by kernel_rfl) ⟨ob1 rfl fun b q h n => ok_assign rfl isE0_nil, aI rfl rfl, trivial⟩ W2 fun b q p => ?_
   have hgq := hg.then p.grow
   have hsb := p.size.trans hs
   have hdb := p.defers.trans hd
   have j6 : IsE0 (b.get 6) q := p.ou 0 6 rfl
   have j7 : (IsI 1) (b.get 7) q := p.ou 1 7 rfl
   replace j6 : IsV ([] : List Rect) (b.get 6) q := j6.isV
   exact tail_done (k := q) (w2 _ _ ⟨⟨hgq, hsb, hdb⟩, j6, j7, trivial⟩)
  rintro a k ⟨⟨hg, hs, hd⟩, i6, i7, _⟩
  refine wp_ret ?_
  obtain rfl := Option.some.inj hr
  exact retC2 rfl hd hg i6 i7
 rw [if_neg (by rw [hc2579]; decide)] at hr
 refine wp_skip ?_
 refine wp_seq ?_
 obtain ⟨x4, hx4, hr⟩ := bind_some hr
 obtain ⟨x5, hx5, hr⟩ := bind_some hr
 refine cut (fun a' k' => Bs noF k0 58 a' k' ∧ (IsV a_) (a'.get 0) k' ∧ (IsV b_) (a'.get 1) k' ∧ (IsFn2 Tryz.prog keep_) (a'.get 2) k' ∧ (IsV x4) (a'.get 8) k' ∧ (IsV x5) (a'.get 9) k' ∧ True) ?_ hQ ?_
 ·intro Q3 W3 w3
  refine gS 8 (_ :: ⟨some (IsV (α := (List (List Rect))) ([a_])), [(21, some 0)]⟩ :: _ :: _ :: ⟨some (IsV (α := (List (List Rect))) ([b_])), [(24, some 3)]⟩ :: _ :: _ :: _ :: []) hs (by kernel_rfl) ⟨mu rfl i0, ob1 rfl fun _ _ h n => ok_buildSlice rfl Tryz.underlying158 eo109 rfl (by decide) (by decide) ⟨rfl, n.1, trivial⟩, o1 [(22, some 1)] rfl fun _ _ h n => ok_call rfl Tryz.call95 (region_strips_ok n.1 hx4), mu rfl i1, ob1 rfl fun _ _ h n => ok_buildSlice rfl Tryz.underlying158 eo109 rfl (by decide) (by decide) ⟨rfl, n.1, trivial⟩, o1 [(25, some 4)] rfl fun _ _ h n => ok_call rfl Tryz.call95 (region_strips_ok n.1 hx5), cp 2 rfl rfl, cp 5 rfl rfl, trivial⟩ W3 fun b q p => ?_
  exact tail_done (k := q) (w3 _ _ ⟨Bs.post ⟨hg, hs, hd⟩ p, p.ke 0 rfl i0, p.ke 1 rfl i1, p.ke 2 rfl i2, p.ou 6 8 rfl, p.ou 7 9 rfl, trivial⟩)
 rintro a k ⟨⟨hg, hs, hd⟩, i0, i1, i2, i8, i9, _⟩
 refine wp_seq ?_
 obtain ⟨x6, hx6, hr⟩ := bind_some hr
 refine cut (fun a' k' => Bs noF k0 58 a' k' ∧ (IsFn2 Tryz.prog keep_) (a'.get 2) k' ∧ (IsV x4) (a'.get 8) k' ∧ (IsV x5) (a'.get 9) k' ∧ IsOwn 0 148 x6 (a'.get 10) k' ∧ Lo k0 (obF (a'.get 10)) ∧ True) ?_ hQ ?_
 ·intro Q4 W4 w4
  refine gS 5 (_ :: _ :: ⟨some (IsV (α := (List (List Rect))) ([a_, b_])), [(27, some 0), (28, some 1)]⟩ :: _ :: _ :: []) hs (by kernel_rfl) ⟨mu rfl i0, mu rfl i1, ob1 rfl fun _ _ h n => ok_buildSlice rfl Tryz.underlying158 eo109 rfl (by decide) (by decide) ⟨rfl, n.1, rfl, n.2.1, trivial⟩, o1 [(29, some 2)] rfl fun _ _ h n => ok_call rfl Tryz.call95 (ret_weaken h.size (region_strips_okO n.1 hx6)), cp 3 rfl rfl, trivial⟩ W4 fun b q p => ?_
  have hgq := hg.then p.grow
  have hsb := p.size.trans hs
  have hdb := p.defers.trans hd
  have j2 := p.ke 2 rfl i2
  have j8 := p.ke 8 rfl i8
  have j9 := p.ke 9 rfl i9
  have j10 : (IsOwn k.w.heap.size 148 x6) (b.get 10) q := p.ou 4 10 rfl
  have x10 : Lo k (obF (b.get 10)) := j10.loF
  have y10 := x10.chg hg
  replace j10 := j10.weaken (Nat.zero_le _)
  exact tail_done (k := q) (w4 _ _ ⟨⟨hgq, hsb, hdb⟩, j2, j8, j9, j10, y10, trivial⟩)
 rintro a k ⟨⟨hg, hs, hd⟩, i2, i8, i9, i10, n10, _⟩
 refine wp_seq ?_
 refine cutS (fun c l => Bs noF k0 58 c l ∧ IsFn2 Tryz.prog keep_ (c.get 2) l ∧ IsV x4 (c.get 8) l ∧ IsV x5 (c.get 9) l ∧ IsOwn 0 148 x6 (c.get 10) l ∧ Lo k0 (obF (c.get 10)) ∧ c.get 31 = c.get 10 ∧ IsL x6 (c.get 32) l ∧ IsI 0 (c.get 33) l ∧ True) ?_ ?_
 ·intro Q5 W5 w5
  refine gS 3 (⟨some (OwnAt (a.get 10) 0 148 x6), [(10, none)]⟩ :: _ :: ⟨some (IsI 0), []⟩ :: []) hs (by kernel_rfl) ⟨ob1 rfl fun _ _ h n => ok_moveOA (.inl rfl) (ownAt n.1 (up i10 h n.1)), o1 [(31, some 0)] rfl fun _ _ h n => ok_len rfl rfl Tryz.underlying142 (IsOwn.rd (n.1).2), ob1 rfl fun _ _ h n => ok_move rfl (cI rfl), trivial⟩ W5 fun b q p => ?_
  have hgq := hg.then p.grow
  have hsb := p.size.trans hs
  have hdb := p.defers.trans hd
  have j2 := p.ke 2 rfl i2
  have j8 := p.ke 8 rfl i8
  have j9 := p.ke 9 rfl i9
  have j10 := p.ke 10 rfl i10
  have y10 : Lo k0 (obF (b.get 10)) := by rw [p.old 10 rfl]; exact n10
  have j31 : b.get 31 = b.get 10 := (show b.get 31 = a.get 10 from (p.ou 0 31 rfl).1).trans (p.old 10 rfl).symm
  have j32 : (IsL x6) (b.get 32) q := p.ou 1 32 rfl
  have j33 : (IsI 0) (b.get 33) q := p.ou 2 33 rfl
  exact tail_done (k := q) (w5 _ _ ⟨⟨hgq, hsb, hdb⟩, j2, j8, j9, j10, y10, j31, j32, j33, trivial⟩)
 rintro a k ⟨⟨hg, hs, hd⟩, i2, i8, i9, i10, n10, i31, i32, i33, _⟩
 refine wp_block ?_
 obtain ⟨f1, hf1, hr⟩ := bind_some hr
 refine cutFe f1 (fun s' c l => Bs noF k0 58 c l ∧ IsFn2 Tryz.prog keep_ (c.get 2) l ∧ IsV x4 (c.get 8) l ∧ IsV x5 (c.get 9) l ∧ IsOwn 0 148 s'.1 (c.get 10) l ∧ Lo k0 (obF (c.get 10)) ∧ c.get 31 = c.get 10 ∧ IsL x6 (c.get 32) l ∧ IsV s'.2 (c.get 33) l ∧ True) (fun i' s' c l => (i' = 0 ∧ Bs noF k0 58 c l ∧ IsV s'.1 (c.get 10) l ∧ True)) (fun r' c l => bodyPost Tryz.prog Tryz.f74 (RetC noF k0 (IsTup2 (IsV r'.1) (IsV r'.2))) .ret c l.w) ?_ hQ ?_ ?_ ?_
 ·intro Q6 W6 hgo hex hret
  refine sim_loop ?_ _ _ _ _ _ hf1 ⟨⟨hg, hs, hd⟩, i2, i8, i9, i10, n10, i31, i32, i33, trivial⟩ Q6 W6 hgo hex hret
  clear hr hf1 hgo hex hret W6 hQ hg hs hd i10 i2 i31 i32 i33 i8 i9 n10
  intro s1 fl_ a k hr hS Q hQ hgo2549 hex2550 hret2551
  obtain ⟨⟨hg, hs, hd⟩, i2, i8, i9, i10, n10, i31, i32, i33, _⟩ := hS
  unfold region_combine_L0 at hr
  refine cutS (fun c l => Bs noF k0 58 c l ∧ IsFn2 Tryz.prog keep_ (c.get 2) l ∧ IsV x4 (c.get 8) l ∧ IsV x5 (c.get 9) l ∧ IsOwn 0 148 s1.1 (c.get 10) l ∧ Lo k0 (obF (c.get 10)) ∧ c.get 31 = c.get 10 ∧ IsL x6 (c.get 32) l ∧ IsV s1.2 (c.get 33) l ∧ (IsV (decide (s1.2 < (x6.length : Int)))) (c.get 34) l ∧ True) ?_ ?_
  ·intro Q7 W7 w6
   refine gS 1 (_ :: []) hs (by kernel_rfl) ⟨o1 [(33, none), (32, none)] rfl fun _ _ h n => ok_lss rfl (up i33 h n.1) (up i32 h n.2.1), trivial⟩ W7 fun b q p => ?_
   exact tail_done (k := q) (w6 _ _ ⟨Bs.post ⟨hg, hs, hd⟩ p, p.ke 2 rfl i2, p.ke 8 rfl i8, p.ke 9 rfl i9, p.ke 10 rfl i10, (by rw [p.old 10 rfl]; exact n10), ((p.old 31 rfl).trans (i31.trans (p.old 10 rfl).symm)), p.ke 32 rfl i32, p.ke 33 rfl i33, p.ou 0 34 rfl, trivial⟩)
  rintro a k ⟨⟨hg, hs, hd⟩, i2, i8, i9, i10, n10, i31, i32, i33, i34, _⟩
  refine wp_seq ?_
  refine wp_cond_split (isBool i34) (fun hc2563 => ?_) (fun hc2563 => ?_)
  ·rw [if_pos hc2563] at hr
   refine wp_skip ?_
   refine wp_seq ?_
   refine wp_block ?_
   refine wp_seq ?_
   obtain ⟨x7, hx7, hr⟩ := bind_some hr
   refine cut (fun a' k' => Bs noF k0 58 a' k' ∧ (IsFn2 Tryz.prog keep_) (a'.get 2) k' ∧ (IsV x4) (a'.get 8) k' ∧ (IsV x5) (a'.get 9) k' ∧ IsOwn 0 148 s1.1 (a'.get 10) k' ∧ Lo k0 (obF (a'.get 10)) ∧ (IsV s1.2) (a'.get 11) k' ∧ (IsRef x7) (a'.get 12) k' ∧ a'.get 31 = a'.get 10 ∧ (IsL x6) (a'.get 32) k' ∧ (IsV s1.2) (a'.get 33) k' ∧ True) ?_ hQ ?_
   ·intro Q8 W8 w7
    refine gS 5 (_ :: _ :: _ :: ⟨some (IsBox k.w.heap.size (⟨0, 0, []⟩ : RegionStrip)), []⟩ :: _ :: []) hs (by kernel_rfl) ⟨mu rfl i33, o1 [(31, none), (33, none)] rfl fun _ _ h n => ok_indexAddr rfl Tryz.underlying142 ty148 (IsOwn.rd ((ownAt ((n.1).trans i31) (upT i10 h ((n.1).trans i31)))).2) (up i33 h n.2.1) hx7, o1 [(36, some 1)] rfl fun _ _ h n => ok_load rfl ty148 n.1, ob1 rfl fun _ _ h n => ok_alloc _ h.size rfl z148, cp 0 rfl rfl, trivial⟩ W8 fun b q p => ?_
    have hgq := hg.then p.grow
    have hsb := p.size.trans hs
    have hdb := p.defers.trans hd
    have j2 := p.ke 2 rfl i2
    have j8 := p.ke 8 rfl i8
    have j9 := p.ke 9 rfl i9
    have j10 := p.ke 10 rfl i10
    have y10 : Lo k0 (obF (b.get 10)) := by rw [p.old 10 rfl]; exact n10
    have j11 : (IsV s1.2) (b.get 11) q := p.ou 4 11 rfl
    obtain ⟨b12, j12, x12, z12⟩ : (IsBox k.w.heap.size (⟨0, 0, []⟩ : RegionStrip)) (b.get 12) q := p.ou 3 12 rfl
    replace x12 : Lo k (Eq b12) := Lo.eq x12
    have y12 : Lo k0 (Eq b12) := x12.chg hg
    have j31 : b.get 31 = b.get 10 := (p.old 31 rfl).trans (i31.trans (p.old 10 rfl).symm)
    have j32 := p.ke 32 rfl i32
    have j33 := p.ke 33 rfl i33
    have j37 : (IsV x7) (b.get 37) q := p.ou 2 37 rfl
    have w10_12 : Apart (obF (b.get 10)) (Eq b12) := Apart.new (by rw [p.old 10 rfl]; exact i10.ltF) x12
    have hns := z12.nshF
    refine tail_storeB (i := 5) rfl rfl rfl rfl szf148 (Upd.self (α := RegionStrip)) j12 z12 j37 fun q2 hch hz => ?_
    replace hgq := hgq.step hch y12.wr
    have hle := hch.le hns
    replace j2 := Pers.pers hle j2
    replace j8 := Pers.pers hle j8
    replace j9 := Pers.pers hle j9
    replace j10 := j10.keep hch w10_12 hns
    replace j11 := Pers.pers hle j11
    replace j32 := Pers.pers hle j32
    replace j33 := Pers.pers hle j33
    replace j37 := Pers.pers hle j37
    replace z12 := hz
    clear hns hle hch
    obtain ⟨q, hqq⟩ : ∃ q, q = q2 := ⟨q2, rfl⟩
    subst hqq
    obtain ⟨q2, hsh, jn⟩ := z12.give
    replace j2 := Pers.pers hsh.le j2
    replace j8 := Pers.pers hsh.le j8
    replace j9 := Pers.pers hsh.le j9
    replace j10 := j10.handed hsh w10_12
    replace j11 := Pers.pers hsh.le j11
    replace j32 := Pers.pers hsh.le j32
    replace j33 := Pers.pers hsh.le j33
    rw [← j12] at jn
    replace j12 := jn
    replace hgq := hgq.hand hsh y12.wr
    rw [← hsh.w]
    clear hsh
    obtain ⟨q, hqq⟩ : ∃ q, q = q2 := ⟨q2, rfl⟩
    subst hqq
    exact tail_done (k := q) (w7 _ _ ⟨⟨hgq, hsb, hdb⟩, j2, j8, j9, j10, y10, j11, j12, j31, j32, j33, trivial⟩)
   rintro a k ⟨⟨hg, hs, hd⟩, i2, i8, i9, i10, n10, i11, i12, i31, i32, i33, _⟩
   obtain ⟨x8, hx8, hr⟩ := bind_some hr
   obtain ⟨x9, hx9, hr⟩ := bind_some hr
   obtain ⟨x11, hx11, hr⟩ := bind_some hr
   obtain ⟨x13, hx13, hr⟩ := bind_some hr
   obtain ⟨x14, hx14, hr⟩ := bind_some hr
   refine cut (fun a' k' => Bs noF k0 58 a' k' ∧ (IsFn2 Tryz.prog keep_) (a'.get 2) k' ∧ (IsV x4) (a'.get 8) k' ∧ (IsV x5) (a'.get 9) k' ∧ IsOwn 0 148 x14 (a'.get 10) k' ∧ Lo k0 (obF (a'.get 10)) ∧ a'.get 31 = a'.get 10 ∧ (IsL x6) (a'.get 32) k' ∧ (IsV s1.2) (a'.get 33) k' ∧ True) ?_ hQ ?_
   ·intro Q9 W9 w8
    refine region (m := 14) (⟨some (OwnAt (a.get 10) 0 148 s1.1), [(10, none)]⟩ :: _ :: _ :: _ :: _ :: _ :: _ :: _ :: _ :: _ :: _ :: _ :: ⟨some (IsAdrO (a.get 10) ((s1.2).toNat * Enc.sz RegionStrip)), [(38, some 0), (39, some 1)]⟩ :: _ :: []) hmix hs (by kernel_rfl) ⟨ob1 rfl fun _ _ h n => ok_moveOA (.inl rfl) (ownAt n.1 (up i10 h n.1)), mu rfl i11, mu rfl i8, o1 [(12, none)] rfl fun _ _ h n => ok_fieldAddr rfl fo148_0 (at_RegionStrip_0 _) ((up i12 h n.1)).ptr, o1 [(41, some 3)] rfl fun _ _ h n => ok_load rfl ty3 n.1, o1 [(40, some 2), (42, some 4)] rfl fun _ _ h n => ok_call rfl Tryz.call99 (region_at_ok n.1 n.2.1 hx8), mu rfl i9, o1 [(12, none)] rfl fun _ _ h n => ok_fieldAddr rfl fo148_0 (at_RegionStrip_0 _) ((up i12 h n.1)).ptr, o1 [(45, some 7)] rfl fun _ _ h n => ok_load rfl ty3 n.1, o1 [(44, some 6), (46, some 8)] rfl fun _ _ h n => ok_call rfl Tryz.call99 (region_at_ok n.1 n.2.1 hx9), mu rfl i2, o1 [(43, some 5), (47, some 9), (48, some 10)] rfl fun _ _ h n => ok_call rfl Tryz.call98 (region_merge_ok n.1 n.2.1 n.2.2.1 hx11), ob1 rfl fun _ _ h n => ok_indexO rfl Tryz.underlying142 ty148 n.1 n.2.1 hx13, o1 [(50, some 12)] rfl fun _ _ h n => ok_fieldAdrO rfl fo148_2 n.1, trivial⟩ W9 fun b q p => ?_
    have hgq := hg.then p.grow
    have hsb := p.size.trans hs
    have hdb := p.defers.trans hd
    have j2 := p.ke 2 rfl i2
    have j8 := p.ke 8 rfl i8
    have j9 := p.ke 9 rfl i9
    have j10 := p.ke 10 rfl i10
    have y10 : Lo k0 (obF (b.get 10)) := by rw [p.old 10 rfl]; exact n10
    have j31 : b.get 31 = b.get 10 := (p.old 31 rfl).trans (i31.trans (p.old 10 rfl).symm)
    have j32 := p.ke 32 rfl i32
    have j33 := p.ke 33 rfl i33
    have j49 : (IsV x11) (b.get 49) q := p.ou 11 49 rfl
    have j51 : IsAdrO (a.get 10) ((s1.2).toNat * Enc.sz RegionStrip + 2) (b.get 51) q := p.ou 13 51 rfl
    have eo : b.get 10 = a.get 10 := p.old 10 rfl
    have hns := j10.nshF
    refine tail_storeS (i := 14) (u := b.get 10) (m := (s1.2).toNat) (off := 0 + 2) rfl rfl rfl rfl szf146 upd_F148_2 (by rw [eo]; exact j51) j10 (getI_spec hx13).2.1 j49 fun q2 hch hz => ?_
    replace hgq := hgq.step hch y10.wr
    have hle := hch.le hns
    replace j2 := Pers.pers hle j2
    replace j8 := Pers.pers hle j8
    replace j9 := Pers.pers hle j9
    replace j32 := Pers.pers hle j32
    replace j33 := Pers.pers hle j33
    replace j49 := Pers.pers hle j49
    replace j51 := Pers.pers hle j51
    replace j10 := hz
    rw [Option.some.inj hx14] at j10
    clear hns hle hch eo hz
    obtain ⟨q, hqq⟩ : ∃ q, q = q2 := ⟨q2, rfl⟩
    subst hqq
    exact tail_done (k := q) (w8 _ _ ⟨⟨hgq, hsb, hdb⟩, j2, j8, j9, j10, y10, j31, j32, j33, trivial⟩)
   rintro a k ⟨⟨hg, hs, hd⟩, i2, i8, i9, i10, n10, i31, i32, i33, _⟩
   obtain ⟨x15, hx15, hr⟩ := bind_some hr
   refine cut (fun a' k' => Bs noF k0 58 a' k' ∧ (IsFn2 Tryz.prog keep_) (a'.get 2) k' ∧ (IsV x4) (a'.get 8) k' ∧ (IsV x5) (a'.get 9) k' ∧ IsOwn 0 148 x14 (a'.get 10) k' ∧ Lo k0 (obF (a'.get 10)) ∧ a'.get 31 = a'.get 10 ∧ (IsL x6) (a'.get 32) k' ∧ (IsV x15) (a'.get 33) k' ∧ True) ?_ hQ ?_
   ·intro Q10 W10 w9
    refine gS 2 (_ :: _ :: []) hs (by kernel_rfl) ⟨o1 [(33, none)] rfl fun _ _ h n => ok_add rfl (up i33 h n.1) (cI rfl) hx15, cm 0 rfl rfl, trivial⟩ W10 fun b q p => ?_
    exact tail_done (k := q) (w9 _ _ ⟨Bs.post ⟨hg, hs, hd⟩ p, p.ke 2 rfl i2, p.ke 8 rfl i8, p.ke 9 rfl i9, p.ke 10 rfl i10, (by rw [p.old 10 rfl]; exact n10), ((p.old 31 rfl).trans (i31.trans (p.old 10 rfl).symm)), p.ke 32 rfl i32, p.ou 1 33 rfl, trivial⟩)
   rintro a k ⟨⟨hg, hs, hd⟩, i2, i8, i9, i10, n10, i31, i32, i33, _⟩
   exact hgo2549 _ _ _ (Option.some.inj hr).symm ⟨⟨hg, hs, hd⟩, i2, i8, i9, i10, n10, i31, i32, i33, trivial⟩
  rw [if_neg (by rw [hc2563]; decide)] at hr
  refine wp_exit ?_
  obtain ⟨kk, sh2562, ii10⟩ := i10.give
  replace i10 := ii10
  replace hg := hg.hand sh2562 n10.wr
  rw [← sh2562.w]
  clear sh2562
  obtain ⟨k, hkk⟩ : ∃ k, k = kk := ⟨kk, rfl⟩
  subst hkk
  exact hex2550 _ _ _ _ (Option.some.inj hr).symm ⟨rfl, ⟨hg, hs, hd⟩, i10, trivial⟩
 ·rintro r1 a k rfl hR
  dsimp only at hr
  obtain rfl := Option.some.inj hr
  exact hR
 ·rintro _ _ _ rfl _
  simp at hr
 clear hf1
 rintro _ s2 a k rfl ⟨rfl, ⟨hg, hs, hd⟩, i10, _⟩
 dsimp only at hr
 refine wp_seq ?_
 obtain ⟨x16, hx16, hr⟩ := bind_some hr
 obtain ⟨x17, hx17, hr⟩ := bind_some hr
 refine cut (fun a' k' => Bs noF k0 58 a' k' ∧ (IsV x17.1) (a'.get 6) k' ∧ (IsV x17.2) (a'.get 7) k' ∧ True) ?_ hQ ?_
 ·intro Q11 W11 w10
  refine gS 7 (_ :: _ :: _ :: _ :: _ :: _ :: _ :: []) hs (by kernel_rfl) ⟨mu rfl i10, o1 [(53, some 0)] rfl fun _ _ h n => ok_call rfl Tryz.call94 (region_write_ok n.1 hx16), o1 [(54, some 1)] rfl fun _ _ h n => ok_call rfl Tryz.call93 (region_limited_ok n.1 hx17), o1 [(55, some 2)] rfl fun _ _ h n => ok_ext2_0 rfl n.1, o1 [(55, some 2)] rfl fun _ _ h n => ok_ext2_1 rfl n.1, cp 3 rfl rfl, cp 4 rfl rfl, trivial⟩ W11 fun b q p => ?_
  exact tail_done (k := q) (w10 _ _ ⟨Bs.post ⟨hg, hs, hd⟩ p, p.ou 5 6 rfl, p.ou 6 7 rfl, trivial⟩)
 rintro a k ⟨⟨hg, hs, hd⟩, i6, i7, _⟩
 refine wp_ret ?_
 obtain rfl := Option.some.inj hr
 exact retC2 rfl hd hg i6 i7
def region_Minus_1 (a_ : Bool) (b_ : Bool) : Option (Bool) :=
 some (a_ && (!b_))
noncomputable def k75 := mk 75 [.bool, .bool] [.bool] (fun x => region_Minus_1 x.1 x.2) [] [] Tryz.f75 (.n) Tryz.func75 Tryz.call75 rfl rfl fun x => by kernel_rfl
theorem region_Minus_1_ok {k0 : K} {v0 v1 : Value} {x0 : Bool} {x1 : Bool} {r : Bool} (i0 : IsV x0 v0 k0) (i1 : IsV x1 v1 k0) (hr : region_Minus_1 x0 x1 = some r) : Calls Tryz.prog 75 #[v0, v1] k0.w (Ret k0 (IsV r)) := (k75.ok.ok k0 [v0, v1] (x0, x1) r (GOk.none (fun _ => rfl) fun _ e => by cases e) ⟨i0, i1⟩ hr)
def region_Minus (a_ : (List Rect)) (b_ : (List Rect)) : Option ((List Rect) × Int) :=
 (region_combine a_ b_ region_Minus_1).bind fun x1 =>
 some (x1.1, x1.2)
theorem region_Minus_ok {k0 : K} {v0 v1 : Value} {a_ : (List Rect)} {b_ : (List Rect)} {r : (List Rect) × Int} (i0 : (IsV a_) v0 k0) (i1 : (IsV b_) v1 k0) (hr : region_Minus a_ b_ = some r) :
  Calls Tryz.prog 46 #[v0, v1] k0.w (Ret k0 (IsTup2 (IsV r.1) (IsV r.2))) := by
 unfold region_Minus at hr
 refine Ret.ofC ?_
 refine enterK Tryz.func46 rfl Tryz.ntmps46 (show 2 ≤ 11 by decide) fun a k hk0 hs hd ha => ?_
 obtain ⟨e0, e1, _⟩ := ha
 replace i0 : (IsV a_) (a.get 0) k := by rw [e0, hk0]; exact i0
 replace i1 : (IsV b_) (a.get 1) k := by rw [e1, hk0]; exact i1
 have hQ : Gb.LetsOut (bodyPost Tryz.prog Tryz.f46 (RetC noF k0 (IsTup2 (IsV r.1) (IsV r.2)))) := letsOutC
 have hg : Chg noF k0 k := by rw [hk0]; exact Chg.refl _ k0
 refine stepL 2 (⟨some IsE0, []⟩ :: ⟨some (IsI 0), []⟩ :: []) rfl ⟨hg, hs, hd⟩ (by kernel_rfl) ⟨ob1 rfl fun b q h n => ok_assign rfl isE0_nil, aI rfl rfl, trivial⟩ [⟨_, _⟩, ⟨_, _⟩] (fun b q p => ⟨p.ke 0 rfl i0, p.ke 1 rfl i1, trivial⟩) ?_
 rintro a k ⟨⟨hg, hs, hd⟩, i0, i1, _⟩
 refine wp_seq ?_
 obtain ⟨x1, hx1, hr⟩ := bind_some hr
 refine cut (fun a' k' => Bs noF k0 11 a' k' ∧ (IsV x1.1) (a'.get 4) k' ∧ (IsV x1.2) (a'.get 5) k' ∧ True) ?_ hQ ?_
 ·intro Q1 W1 w1
  refine gS 7 (_ :: _ :: _ :: _ :: _ :: _ :: _ :: []) hs (by kernel_rfl) ⟨mu rfl i0, mu rfl i1, o1 [(6, some 0), (7, some 1)] rfl fun _ _ h n => ok_call rfl Tryz.call74 (region_combine_ok n.1 n.2.1 ⟨75, _, _, rfl, Tryz.call75, fun k9 hk9 _ _ _ _ _ hx0 hx1 hy9 => by simpa [evalT] using region_Minus_1_ok hx0 hx1 hy9⟩ hx1), o1 [(8, some 2)] rfl fun _ _ h n => ok_ext2_0 rfl n.1, o1 [(8, some 2)] rfl fun _ _ h n => ok_ext2_1 rfl n.1, cp 3 rfl rfl, cp 4 rfl rfl, trivial⟩ W1 fun b q p => ?_
  exact tail_done (k := q) (w1 _ _ ⟨Bs.post ⟨hg, hs, hd⟩ p, p.ou 5 4 rfl, p.ou 6 5 rfl, trivial⟩)
 rintro a k ⟨⟨hg, hs, hd⟩, i4, i5, _⟩
 refine wp_ret ?_
 obtain rfl := Option.some.inj hr
 exact retC2 rfl hd hg i4 i5
def solid_Minus (a_ : (List Slab)) (b_ : (List Slab)) : Option ((List Slab) × Int) :=
 (solid_combine a_ b_ region_Minus).bind fun x1 =>
 some (x1.1, x1.2)
theorem solid_Minus_ok {k0 : K} {v0 v1 : Value} {a_ : (List Slab)} {b_ : (List Slab)} {r : (List Slab) × Int} (i0 : (IsV a_) v0 k0) (i1 : (IsV b_) v1 k0) (hr : solid_Minus a_ b_ = some r) :
  Calls Tryz.prog 21 #[v0, v1] k0.w (Ret k0 (IsTup2 (IsV r.1) (IsV r.2))) := by
 unfold solid_Minus at hr
 refine Ret.ofC ?_
 refine enterK Tryz.func21 rfl Tryz.ntmps21 (show 2 ≤ 11 by decide) fun a k hk0 hs hd ha => ?_
 obtain ⟨e0, e1, _⟩ := ha
 replace i0 : (IsV a_) (a.get 0) k := by rw [e0, hk0]; exact i0
 replace i1 : (IsV b_) (a.get 1) k := by rw [e1, hk0]; exact i1
 have hQ : Gb.LetsOut (bodyPost Tryz.prog Tryz.f21 (RetC noF k0 (IsTup2 (IsV r.1) (IsV r.2)))) := letsOutC
 have hg : Chg noF k0 k := by rw [hk0]; exact Chg.refl _ k0
 refine stepL 2 (⟨some IsE0, []⟩ :: ⟨some (IsI 0), []⟩ :: []) rfl ⟨hg, hs, hd⟩ (by kernel_rfl) ⟨ob1 rfl fun b q h n => ok_assign rfl isE0_nil, aI rfl rfl, trivial⟩ [⟨_, _⟩, ⟨_, _⟩] (fun b q p => ⟨p.ke 0 rfl i0, p.ke 1 rfl i1, trivial⟩) ?_
 rintro a k ⟨⟨hg, hs, hd⟩, i0, i1, _⟩
 refine wp_seq ?_
 obtain ⟨x1, hx1, hr⟩ := bind_some hr
 refine cut (fun a' k' => Bs noF k0 11 a' k' ∧ (IsV x1.1) (a'.get 4) k' ∧ (IsV x1.2) (a'.get 5) k' ∧ True) ?_ hQ ?_
 ·intro Q1 W1 w1
  refine gS 7 (_ :: _ :: _ :: _ :: _ :: _ :: _ :: []) hs (by kernel_rfl) ⟨mu rfl i0, mu rfl i1, o1 [(6, some 0), (7, some 1)] rfl fun _ _ h n => ok_call rfl Tryz.call45 (solid_combine_ok n.1 n.2.1 ⟨46, _, _, rfl, Tryz.call46, fun k9 hk9 _ _ _ _ _ hx0 hx1 hy9 => by simpa [evalT] using region_Minus_ok hx0 hx1 hy9⟩ hx1), o1 [(8, some 2)] rfl fun _ _ h n => ok_ext2_0 rfl n.1, o1 [(8, some 2)] rfl fun _ _ h n => ok_ext2_1 rfl n.1, cp 3 rfl rfl, cp 4 rfl rfl, trivial⟩ W1 fun b q p => ?_
  exact tail_done (k := q) (w1 _ _ ⟨Bs.post ⟨hg, hs, hd⟩ p, p.ou 5 4 rfl, p.ou 6 5 rfl, trivial⟩)
 rintro a k ⟨⟨hg, hs, hd⟩, i4, i5, _⟩
 refine wp_ret ?_
 obtain rfl := Option.some.inj hr
 exact retC2 rfl hd hg i4 i5
noncomputable def k21 := mkO 21 [.list (.st 9), .list (.st 9)] [.list (.st 9), .int] (fun x => solid_Minus x.1 x.2) Tryz.call21 fun k0 vs x r hG h hr => by obtain ⟨v0, vs, rfl, i0, h⟩ := h.cons; obtain ⟨v1, rfl, i1⟩ := h.one; exact ret2F (T := tb) (solid_Minus_ok i0 i1 hr)
def ref19_SameVolumes_L0 (a_ : (List Volume)) (b_ : (List Volume)) (s1 : Int) : Option (Flow (Int) (Bool)) :=
 if (decide (s1 < (a_.length : Int))) then
  (getI a_ s1).bind fun x1 =>
  (getI b_ s1).bind fun x2 =>
  if (!decide (x1 = x2)) then
   some (.ret false)
  else
   (addI s1 1).bind fun x3 =>
   some (.go x3)
 else
  some (.ex 0 s1)
def ref19_SameVolumes (a_ : (List Volume)) (b_ : (List Volume)) : Option (Bool) :=
 if ((a_.length : Int) != (b_.length : Int)) then
  some false
 else
  (iterL (ref19_SameVolumes_L0 a_ b_) (a_.length + b_.length + 1) 0).bind fun f1 => match f1 with
   | .go _ => none
   | .ex _ _ =>
    some true
   | .ret r1 => some r1
noncomputable def k47 := mk 47 [.list (.st 0), .list (.st 0)] [.bool] (fun x => ref19_SameVolumes x.1 x.2) [] [] Tryz.f47 (.s .n (.s .n (.s (.s .n (.l [] [(5, .v .int)] [(0, [5], [])] (fL [0, 1]) .n)) .n))) Tryz.func47 Tryz.call47 rfl rfl fun x => by kernel_rfl
def ref15_SameEntries_L0 (a_ : (List Entry)) (b_ : (List Entry)) (s1 : Int) : Option (Flow (Int) (Bool)) :=
 if (decide (s1 < (a_.length : Int))) then
  (getI a_ s1).bind fun x1 =>
  (getI b_ s1).bind fun x2 =>
  if (!decide (x1 = x2)) then
   some (.ret false)
  else
   (addI s1 1).bind fun x3 =>
   some (.go x3)
 else
  some (.ex 0 s1)
def ref15_SameEntries (a_ : (List Entry)) (b_ : (List Entry)) : Option (Bool) :=
 if ((a_.length : Int) != (b_.length : Int)) then
  some false
 else
  (iterL (ref15_SameEntries_L0 a_ b_) (a_.length + b_.length + 1) 0).bind fun f1 => match f1 with
   | .go _ => none
   | .ex _ _ =>
    some true
   | .ret r1 => some r1
noncomputable def k48 := mk 48 [.list (.st 5), .list (.st 5)] [.bool] (fun x => ref15_SameEntries x.1 x.2) [] [] Tryz.f48 (.s .n (.s .n (.s (.s .n (.l [] [(5, .v .int)] [(0, [5], [])] (fL [0, 1]) .n)) .n))) Tryz.func48 Tryz.call48 rfl rfl fun x => by kernel_rfl
def ref19_Same_L0 (a_ : Drawing) (b_ : Drawing) (s1 : Int) : Option (Flow (Int) (Bool)) :=
 if (decide (s1 < (a_.Phases.length : Int))) then
  (getI a_.Phases s1).bind fun x1 =>
  (getI b_.Phases s1).bind fun x2 =>
  (ref19_SameVolumes x1.Volumes x2.Volumes).bind fun x3 =>
  (if (!x3) then
   some true
  else
   (getI a_.Phases s1).bind fun x4 =>
   (getI b_.Phases s1).bind fun x5 =>
   (ref15_SameEntries x4.Gives x5.Gives).bind fun x6 =>
   some (!x6)).bind fun x7 =>
  if x7 then
   some (.ret false)
  else
   (addI s1 1).bind fun x8 =>
   some (.go x8)
 else
  some (.ex 0 s1)
def ref19_Same (a_ : Drawing) (b_ : Drawing) : Option (Bool) :=
 if ((a_.Lot != b_.Lot) || ((a_.Phases.length : Int) != (b_.Phases.length : Int))) then
  some false
 else
  (iterL (ref19_Same_L0 a_ b_) (a_.Phases.length + 1) 0).bind fun f1 => match f1 with
   | .go _ => none
   | .ex _ _ =>
    some true
   | .ret r1 => some r1
noncomputable def k22 := mk 22 [.st 3, .st 3] [.bool] (fun x => ref19_Same x.1 x.2) [k47, k48] [] Tryz.f22 (.s .n (.s .n (.s (.s .n (.l [] [(5, .v .int)] [(0, [5], [])] (fun e => (gt e 0 (.st 3) : Drawing).Phases.length + 1) .n)) .n))) Tryz.func22 Tryz.call22 rfl rfl fun x => by kernel_rfl
def law30_DossierLess_L0 (a_ : (List Drawing)) (b_ : (List Drawing)) (x1 : Bool) (s1 : Bool × Int) : Option (Flow (Bool × Int) (Bool)) :=
 if (decide (s1.2 < (a_.length : Int))) then
  ((if s1.1 then
   (getI a_ s1.2).bind fun x2 =>
   (drawing_Form x2).bind fun x3 =>
   some x3
  else
   some false).bind fun x4 =>
  if ((!x1) || (decide ((b_.length : Int) ≤ s1.2))) then
   some (.go x4)
  else
   (getI a_ s1.2).bind fun x5 =>
   (drawing_Solid x5 0 8).bind fun x6 =>
   (getI b_ s1.2).bind fun x7 =>
   (drawing_Solid x7 0 8).bind fun x8 =>
   (solid_Minus x6.1 x8.1).bind fun x9 =>
   if ((((x6.2 == 0) && (x8.2 == 0)) && (x9.2 == 0)) && (decide (0 < (x9.1.length : Int)))) then
    some (.ret false)
   else
    some (.go x4) : Option (Flow (Bool) (Bool))).bind fun f1 => match f1 with
   | .go s2 =>
    (addI s1.2 1).bind fun x10 =>
    some (.go (s2, x10))
   | .ex _ _ => none
   | .ret r1 => some (.ret r1)
 else
  some (.ex 0 (s1.1, s1.2))
def law30_DossierLess_L1 (b_ : (List Drawing)) (s1 : Bool × Int) : Option (Flow (Bool × Int) (Bool)) :=
 if (decide (s1.2 < (b_.length : Int))) then
  (if s1.1 then
   (getI b_ s1.2).bind fun x1 =>
   (drawing_Form x1).bind fun x2 =>
   some x2
  else
   some false).bind fun x3 =>
  (addI s1.2 1).bind fun x4 =>
  some (.go (x3, x4))
 else
  some (.ex 2 (s1.1, s1.2))
def law30_DossierLess_L2 (a_ : (List Drawing)) (x1 : Dossier × Int) (s1 : Int) : Option (Flow (Int) (Bool)) :=
 if (decide (s1 < (a_.length : Int))) then
  (getI a_ s1).bind fun x2 =>
  (getI x1.1.Drawings s1).bind fun x3 =>
  (ref19_Same x2 x3).bind fun x4 =>
  if (!x4) then
   some (.ret false)
  else
   (addI s1 1).bind fun x5 =>
   some (.go x5)
 else
  some (.ex 4 s1)
def law30_DossierLess (a_ : (List Drawing)) (b_ : (List Drawing)) (c_ : (List Drawing)) : Option (Bool) :=
 (law30_small).bind fun x1 =>
 (ref30_Few (⟨[], [], [], [], [], [], [], 0⟩ : Plan) (⟨0, 0, 0, 0, 0, a_, 0, 0⟩ : Dossier) ([(⟨0, 0, 0, b_⟩ : Act), (⟨0, 0, 0, c_⟩ : Act)])).bind fun x2 =>
 if (!x2) then
  some x1
 else
  (dossier_Less a_ b_).bind fun x3 =>
  (dossier_Less a_ a_).bind fun x4 =>
  (if (!x4) then
   some true
  else
   (if x3 then
    (dossier_Less b_ c_).bind fun x5 =>
    some x5
   else
    some false).bind fun x6 =>
   (if x6 then
    (dossier_Less a_ c_).bind fun x7 =>
    some (!x7)
   else
    some false).bind fun x8 =>
   some x8).bind fun x9 =>
  if (x9 || (x3 && ((a_.length : Int) != (b_.length : Int)))) then
   some false
  else
   (iterL (law30_DossierLess_L0 a_ b_ x3) (a_.length + b_.length + 1) (((((decide (1 ≤ (b_.length : Int))) && (decide ((b_.length : Int) ≤ 8))) && (decide (1 ≤ (a_.length : Int)))) && (decide ((a_.length : Int) ≤ 8))), 0)).bind fun f1 => match f1 with
    | .go _ => none
    | .ex _ s1 =>
     (iterL (law30_DossierLess_L1 b_) (a_.length + b_.length + 1) (s1.1, 0)).bind fun f2 => match f2 with
      | .go _ => none
      | .ex _ s2 =>
       (dossier_Step (⟨[], [], [], [], [], [], [], 0⟩ : Plan) (⟨1, 0, 2, 0, 4, b_, 0, 0⟩ : Dossier) (⟨2, 0, 0, a_⟩ : Act)).bind fun x10 =>
       if (!s2.1) then
        some (x1 && (x10.2 == 1))
       else
        if ((x10.2 != 0) || ((x10.1.Drawings.length : Int) != (a_.length : Int))) then
         some false
        else
         (iterL (law30_DossierLess_L2 a_ x10) (a_.length + 1) 0).bind fun f3 => match f3 with
          | .go _ => none
          | .ex _ _ =>
           some ((x1 && (((x10.1.State == 2) && (x10.1.Rule == 4)) == x3)) && (x3 || ((x10.1.State == 1) && (x10.1.Rule == 0))))
          | .ret r1 => some r1
      | .ret r2 => some r2
    | .ret r3 => some r3
noncomputable def k4 := mkg 4 [.list (.st 3), .list (.st 3), .list (.st 3)] [.bool] (fun x => law30_DossierLess x.1 x.2.1 x.2.2) [k5, k6.lift glv giv gl0, k17.lift glv giv gl0, k19, k20, k21.lift glv giv gl0, k15, k22.lift glv giv gl0] [] Tryz.f4 (.s .n (.s .n (.s .n (.s .n (.s .n (.s .n (.s (.s .n (.l [] [(9, .v .bool), (10, .v .int)] [(0, [10], [])] (fL [0, 1]) (.s .n (.s (.jf [] [(9, .v .bool)] ([], []) [] .n) .n)))) (.s (.s .n (.l [] [(9, .v .bool), (17, .v .int)] [(2, [17], [])] (fL [0, 1]) .n)) (.s .n (.s .n (.s .n (.s (.s .n (.l [] [(20, .v .int)] [(4, [20], [])] (fL [0]) .n)) .n)))))))))))) Tryz.func4 Tryz.call4 rfl rfl fun x => by kernel_rfl
theorem law30_DossierLess_ok {k0 : K} {v0 v1 v2 : Value} {x0 : (List Drawing)} {x1 : (List Drawing)} {x2 : (List Drawing)} {r : Bool} (hG : GOk tbg k0) (i0 : IsV x0 v0 k0) (i1 : IsV x1 v1 k0) (i2 : IsV x2 v2 k0) (hr : law30_DossierLess x0 x1 x2 = some r) : Calls Tryz.prog 4 #[v0, v1, v2] k0.w (Ret k0 (IsV r)) := (k4.ok.ok k0 [v0, v1, v2] (x0, x1, x2) r hG ⟨i0, i1, i2⟩ hr)
end Go.Proofs.YtachpkjjlebadaaGreat
