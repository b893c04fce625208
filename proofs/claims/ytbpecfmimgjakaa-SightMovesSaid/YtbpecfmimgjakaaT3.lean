/- What the functions compute that the law reaches, part 3 -/
import Derived.Test.YtbpecfmimgjakaaT2
namespace Go.Proofs.Ytbpecfmimgjakaa
open Go.Gb
set_option linter.unusedVariables false
set_option linter.unusedSimpArgs false
set_option maxRecDepth 100000
def ref06_Form_L1 (x1 : (List Int)) (s1 : (List Rect) × (List Int) × Int × Int) (s2 : (List Rect) × Int) : Option (Flow ((List Rect) × Int) ((List Rect))) :=
 if (decide (s2.2 < (s2.1.length : Int))) then
  (addI s1.2.2.2 1).bind fun x2 =>
  (getI x1 x2).bind fun x3 =>
  (getI s2.1 s2.2).bind fun x4 =>
  (some (s2.1.set (s2.2).toNat ({ x4 with X1 := x3 }))).bind fun x5 =>
  (addI s2.2 1).bind fun x6 =>
  some (.go (x5, x6))
 else
  some (.ex 2 (s2.1, s2.2))
def ref06_Form_L2 (x1 : (List Int)) (s1 : (List Rect) × (List Int) × Int × Int) (x2 : (List Int)) (s2 : (List Rect) × Int) : Option (Flow ((List Rect) × Int) ((List Rect))) :=
 (addI s2.2 1).bind fun x3 =>
 if (decide (x3 < (x2.length : Int))) then
  (getI x1 s1.2.2.2).bind fun x4 =>
  (getI x2 s2.2).bind fun x5 =>
  (addI s1.2.2.2 1).bind fun x6 =>
  (getI x1 x6).bind fun x7 =>
  (addI s2.2 1).bind fun x8 =>
  (getI x2 x8).bind fun x9 =>
  (appI s2.1 ([(⟨x4, x5, x7, x9⟩ : Rect)])).bind fun x10 =>
  (addI s2.2 2).bind fun x11 =>
  some (.go (x10, x11))
 else
  some (.ex 4 (s2.1, s2.2))
def ref06_Form_L0 (a_ : (List Rect)) (b_ : (List Rect)) (op_ : Int) (x1 : (List Int)) (s1 : (List Rect) × (List Int) × Int × Int) : Option (Flow ((List Rect) × (List Int) × Int × Int) ((List Rect))) :=
 (addI s1.2.2.2 1).bind fun x2 =>
 if (decide (x2 < (x1.length : Int))) then
  ((getI x1 s1.2.2.2).bind fun x3 =>
  (ref06_column a_ x3).bind fun x4 =>
  (getI x1 s1.2.2.2).bind fun x5 =>
  (ref06_column b_ x5).bind fun x6 =>
  (ref06_combine x4 x6 op_).bind fun x7 =>
  (if ((decide (0 < s1.2.2.2)) && (decide (0 < (x7.length : Int)))) then
   (ref06_ints x7 s1.2.1).bind fun x8 =>
   some x8
  else
   some false).bind fun x9 =>
  if x9 then
   (iterL (ref06_Form_L1 x1 s1) (a_.length + b_.length + s1.1.length + x1.length + s1.2.1.length + 1) (s1.1, s1.2.2.1)).bind fun f1 => match f1 with
    | .go _ => none
    | .ex _ s2 =>
     some (s2.1, s1.2.1, s1.2.2.1)
    | .ret r1 => none
  else
   (iterL (ref06_Form_L2 x1 s1 x7) (a_.length + b_.length + s1.1.length + x1.length + x7.length + x7.length + 1) (s1.1, 0)).bind fun f2 => match f2 with
    | .go _ => none
    | .ex _ s3 =>
     some (s3.1, x7, (s1.1.length : Int))
    | .ret r2 => none).bind fun s4 =>
  (addI s1.2.2.2 1).bind fun x10 =>
  some (.go (s4.1, s4.2.1, s4.2.2, x10))
 else
  some (.ex 0 (s1.1, s1.2.1, s1.2.2.1, s1.2.2.2))
def ref06_Form (a_ : (List Rect)) (b_ : (List Rect)) (op_ : Int) : Option ((List Rect)) :=
 (ref06_edges a_ b_).bind fun x1 =>
 (iterL (ref06_Form_L0 a_ b_ op_ x1) (a_.length + b_.length + ([] : List Rect).length + x1.length + ([] : List Int).length + 1) (([] : List Rect), ([] : List Int), 0, 0)).bind fun f1 => match f1 with
  | .go _ => none
  | .ex _ s1 =>
   some s1.1
  | .ret r1 => some r1
theorem ref06_Form_ok {k0 : K} {v0 v1 v2 : Value} {a_ : (List Rect)} {b_ : (List Rect)} {op_ : Int} {r : (List Rect)} (i0 : (IsV a_) v0 k0) (i1 : (IsV b_) v1 k0) (i2 : (IsV op_) v2 k0) (hr : ref06_Form a_ b_ op_ = some r) :
  Calls Try.prog 44 #[v0, v1, v2] k0.w (Ret k0 (IsV r)) := by
 unfold ref06_Form at hr
 refine Ret.ofC ?_
 refine enterK Try.func44 rfl Try.ntmps44 (show 3 ≤ 100 by decide) fun a k hk0 hs hd ha => ?_
 obtain ⟨e0, e1, e2, _⟩ := ha
 replace i0 : (IsV a_) (a.get 0) k := by rw [e0, hk0]; exact i0
 replace i1 : (IsV b_) (a.get 1) k := by rw [e1, hk0]; exact i1
 replace i2 : (IsV op_) (a.get 2) k := by rw [e2, hk0]; exact i2
 have hQ : Gb.LetsOut (bodyPost Try.prog Try.f44 (RetC noF k0 (IsV r))) := letsOutC
 have hg : Chg noF k0 k := by rw [hk0]; exact Chg.refl _ k0
 refine stepL 1 (⟨some IsE0, []⟩ :: []) rfl ⟨hg, hs, hd⟩ (by kernel_rfl) ⟨ob1 rfl fun b q h n => ok_assign rfl isE0_nil, trivial⟩ [⟨_, _⟩, ⟨_, _⟩, ⟨_, _⟩] (fun b q p => ⟨p.ke 0 rfl i0, p.ke 1 rfl i1, p.ke 2 rfl i2, trivial⟩) ?_
 rintro a k ⟨⟨hg, hs, hd⟩, i0, i1, i2, _⟩
 refine cutS (fun c l => Bs noF k0 100 c l ∧ IsV a_ (c.get 0) l ∧ IsV b_ (c.get 1) l ∧ IsV op_ (c.get 2) l ∧ IsOwn 0 35 ([] : List Rect) (c.get 7) l ∧ Lo k0 (obF (c.get 7)) ∧ True) ?_ ?_
 ·intro Q1 W1 w1
  refine gS 1 (⟨some IsE0, []⟩ :: []) hs (by kernel_rfl) ⟨ob1 rfl fun b q h n => ok_assign rfl isE0_nil, trivial⟩ W1 fun b q p => ?_
  have hgq := hg.then p.grow
  have hsb := p.size.trans hs
  have hdb := p.defers.trans hd
  have j0 := p.ke 0 rfl i0
  have j1 := p.ke 1 rfl i1
  have j2 := p.ke 2 rfl i2
  have j7 : IsE0 (b.get 7) q := p.ou 0 7 rfl
  have y7 : Lo k0 (obF (b.get 7)) := j7.lo
  replace j7 : IsOwn 0 35 ([] : List Rect) (b.get 7) q := j7.own0
  exact tail_done (k := q) (w1 _ _ ⟨⟨hgq, hsb, hdb⟩, j0, j1, j2, j7, y7, trivial⟩)
 rintro a k ⟨⟨hg, hs, hd⟩, i0, i1, i2, i7, n7, _⟩
 refine wp_seq ?_
 obtain ⟨x1, hx1, hr⟩ := bind_some hr
 refine cut (fun a' k' => Bs noF k0 100 a' k' ∧ (IsV a_) (a'.get 0) k' ∧ (IsV b_) (a'.get 1) k' ∧ (IsV op_) (a'.get 2) k' ∧ IsOwn 0 35 ([] : List Rect) (a'.get 7) k' ∧ Lo k0 (obF (a'.get 7)) ∧ (IsV x1) (a'.get 8) k' ∧ True) ?_ hQ ?_
 ·intro Q2 W2 w2
  refine gS 4 (_ :: _ :: _ :: _ :: []) hs (by kernel_rfl) ⟨mu rfl i0, mu rfl i1, o1 [(15, some 0), (16, some 1)] rfl fun _ _ h n => ok_call rfl Try.call67 (ref06_edges_ok n.1 n.2.1 hx1), cp 2 rfl rfl, trivial⟩ W2 fun b q p => ?_
  exact tail_done (k := q) (w2 _ _ ⟨Bs.post ⟨hg, hs, hd⟩ p, p.ke 0 rfl i0, p.ke 1 rfl i1, p.ke 2 rfl i2, p.ke 7 rfl i7, (by rw [p.old 7 rfl]; exact n7), p.ou 3 8 rfl, trivial⟩)
 rintro a k ⟨⟨hg, hs, hd⟩, i0, i1, i2, i7, n7, i8, _⟩
 refine cutS (fun c l => Bs noF k0 100 c l ∧ IsV a_ (c.get 0) l ∧ IsV b_ (c.get 1) l ∧ IsV op_ (c.get 2) l ∧ IsOwn 0 35 ([] : List Rect) (c.get 7) l ∧ Lo k0 (obF (c.get 7)) ∧ IsV x1 (c.get 8) l ∧ IsV ([] : List Int) (c.get 9) l ∧ True) ?_ ?_
 ·intro Q3 W3 w3
  refine gS 1 (⟨some IsE0, []⟩ :: []) hs (by kernel_rfl) ⟨ob1 rfl fun b q h n => ok_assign rfl isE0_nil, trivial⟩ W3 fun b q p => ?_
  have hgq := hg.then p.grow
  have hsb := p.size.trans hs
  have hdb := p.defers.trans hd
  have j0 := p.ke 0 rfl i0
  have j1 := p.ke 1 rfl i1
  have j2 := p.ke 2 rfl i2
  have j7 := p.ke 7 rfl i7
  have y7 : Lo k0 (obF (b.get 7)) := by rw [p.old 7 rfl]; exact n7
  have j8 := p.ke 8 rfl i8
  have j9 : IsE0 (b.get 9) q := p.ou 0 9 rfl
  replace j9 : IsV ([] : List Int) (b.get 9) q := j9.isV
  exact tail_done (k := q) (w3 _ _ ⟨⟨hgq, hsb, hdb⟩, j0, j1, j2, j7, y7, j8, j9, trivial⟩)
 rintro a k ⟨⟨hg, hs, hd⟩, i0, i1, i2, i7, n7, i8, i9, _⟩
 refine cutS (fun c l => Bs noF k0 100 c l ∧ IsV a_ (c.get 0) l ∧ IsV b_ (c.get 1) l ∧ IsV op_ (c.get 2) l ∧ IsOwn 0 35 ([] : List Rect) (c.get 7) l ∧ Lo k0 (obF (c.get 7)) ∧ IsV x1 (c.get 8) l ∧ IsV ([] : List Int) (c.get 9) l ∧ IsI 0 (c.get 10) l ∧ True) ?_ ?_
 ·intro Q4 W4 w4
  refine gS 1 (⟨some (IsI 0), []⟩ :: []) hs (by kernel_rfl) ⟨aI rfl rfl, trivial⟩ W4 fun b q p => ?_
  exact tail_done (k := q) (w4 _ _ ⟨Bs.post ⟨hg, hs, hd⟩ p, p.ke 0 rfl i0, p.ke 1 rfl i1, p.ke 2 rfl i2, p.ke 7 rfl i7, (by rw [p.old 7 rfl]; exact n7), p.ke 8 rfl i8, p.ke 9 rfl i9, p.ou 0 10 rfl, trivial⟩)
 rintro a k ⟨⟨hg, hs, hd⟩, i0, i1, i2, i7, n7, i8, i9, i10, _⟩
 refine wp_seq ?_
 refine cutS (fun c l => Bs noF k0 100 c l ∧ IsV a_ (c.get 0) l ∧ IsV b_ (c.get 1) l ∧ IsV op_ (c.get 2) l ∧ IsOwn 0 35 ([] : List Rect) (c.get 7) l ∧ Lo k0 (obF (c.get 7)) ∧ IsV x1 (c.get 8) l ∧ IsV ([] : List Int) (c.get 9) l ∧ IsI 0 (c.get 10) l ∧ IsI 0 (c.get 11) l ∧ True) ?_ ?_
 ·intro Q5 W5 w5
  refine gS 1 (⟨some (IsI 0), []⟩ :: []) hs (by kernel_rfl) ⟨aI rfl rfl, trivial⟩ W5 fun b q p => ?_
  exact tail_done (k := q) (w5 _ _ ⟨Bs.post ⟨hg, hs, hd⟩ p, p.ke 0 rfl i0, p.ke 1 rfl i1, p.ke 2 rfl i2, p.ke 7 rfl i7, (by rw [p.old 7 rfl]; exact n7), p.ke 8 rfl i8, p.ke 9 rfl i9, p.ke 10 rfl i10, p.ou 0 11 rfl, trivial⟩)
 rintro a k ⟨⟨hg, hs, hd⟩, i0, i1, i2, i7, n7, i8, i9, i10, i11, _⟩
 refine wp_block ?_
 obtain ⟨f1, hf1, hr⟩ := bind_some hr
 refine cutFe f1 (fun s' c l => Bs noF k0 100 c l ∧ IsV a_ (c.get 0) l ∧ IsV b_ (c.get 1) l ∧ IsV op_ (c.get 2) l ∧ IsOwn 0 35 s'.1 (c.get 7) l ∧ Lo k0 (obF (c.get 7)) ∧ IsV x1 (c.get 8) l ∧ IsV s'.2.1 (c.get 9) l ∧ IsV s'.2.2.1 (c.get 10) l ∧ IsV s'.2.2.2 (c.get 11) l ∧ True) (fun i' s' c l => (i' = 0 ∧ Bs noF k0 100 c l ∧ IsV s'.1 (c.get 7) l ∧ True)) (fun r' c l => bodyPost Try.prog Try.f44 (RetC noF k0 (IsV r')) .ret c l.w) ?_ hQ ?_ ?_ ?_
 ·intro Q6 W6 hgo hex hret
  refine sim_loop ?_ _ _ _ _ _ hf1 ⟨⟨hg, hs, hd⟩, i0, i1, i2, i7, n7, i8, i9, i10, i11, trivial⟩ Q6 W6 hgo hex hret
  clear hr hf1 hgo hex hret W6 hQ hg hs hd i0 i1 i10 i11 i2 i7 i8 i9 n7
  intro s1 fl_ a k hr hS Q hQ hgo447 hex448 hret449
  obtain ⟨⟨hg, hs, hd⟩, i0, i1, i2, i7, n7, i8, i9, i10, i11, _⟩ := hS
  unfold ref06_Form_L0 at hr
  refine wp_seq ?_
  refine wp_seq ?_
  obtain ⟨x2, hx2, hr⟩ := bind_some hr
  refine cut (fun a' k' => Bs noF k0 100 a' k' ∧ (IsV a_) (a'.get 0) k' ∧ (IsV b_) (a'.get 1) k' ∧ (IsV op_) (a'.get 2) k' ∧ IsOwn 0 35 s1.1 (a'.get 7) k' ∧ Lo k0 (obF (a'.get 7)) ∧ (IsV x1) (a'.get 8) k' ∧ (IsV s1.2.1) (a'.get 9) k' ∧ (IsV s1.2.2.1) (a'.get 10) k' ∧ (IsV s1.2.2.2) (a'.get 11) k' ∧ (IsV (decide (x2 < (x1.length : Int)))) (a'.get 22) k' ∧ True) ?_ hQ ?_
  ·intro Q7 W7 w6
   refine gS 5 (_ :: _ :: _ :: _ :: _ :: []) hs (by kernel_rfl) ⟨mu rfl i11, o1 [(18, some 0)] rfl fun _ _ h n => ok_add rfl n.1 (cI rfl) hx2, mu rfl i8, o1 [(20, some 2)] rfl fun _ _ h n => ok_len rfl rfl Try.underlying63 (IsV.rd n.1), o1 [(19, some 1), (21, some 3)] rfl fun _ _ h n => ok_lss rfl n.1 n.2.1, trivial⟩ W7 fun b q p => ?_
   exact tail_done (k := q) (w6 _ _ ⟨Bs.post ⟨hg, hs, hd⟩ p, p.ke 0 rfl i0, p.ke 1 rfl i1, p.ke 2 rfl i2, p.ke 7 rfl i7, (by rw [p.old 7 rfl]; exact n7), p.ke 8 rfl i8, p.ke 9 rfl i9, p.ke 10 rfl i10, p.ke 11 rfl i11, p.ou 4 22 rfl, trivial⟩)
  rintro a k ⟨⟨hg, hs, hd⟩, i0, i1, i2, i7, n7, i8, i9, i10, i11, i22, _⟩
  refine wp_cond_split (isBool i22) (fun hc513 => ?_) (fun hc513 => ?_)
  ·rw [if_pos hc513] at hr
   refine wp_skip ?_
   refine wp_seq ?_
   obtain ⟨s2, hs2, hr⟩ := bind_some hr
   refine cut (fun a' k' => Bs noF k0 100 a' k' ∧ (IsV a_) (a'.get 0) k' ∧ (IsV b_) (a'.get 1) k' ∧ (IsV op_) (a'.get 2) k' ∧ IsOwn 0 35 s2.1 (a'.get 7) k' ∧ Lo k0 (obF (a'.get 7)) ∧ (IsV x1) (a'.get 8) k' ∧ (IsV s2.2.1) (a'.get 9) k' ∧ (IsV s2.2.2) (a'.get 10) k' ∧ (IsV s1.2.2.2) (a'.get 11) k' ∧ True) ?_ hQ ?_
   ·intro Q8 W8 w7
    replace hr := hs2
    clear hQ
    have hQ := W8
    refine wp_block ?_
    refine wp_seq ?_
    obtain ⟨x3, hx3, hr⟩ := bind_some hr
    obtain ⟨x4, hx4, hr⟩ := bind_some hr
    obtain ⟨x5, hx5, hr⟩ := bind_some hr
    obtain ⟨x6, hx6, hr⟩ := bind_some hr
    obtain ⟨x7, hx7, hr⟩ := bind_some hr
    refine cut (fun a' k' => Bs noF k0 100 a' k' ∧ (IsV a_) (a'.get 0) k' ∧ (IsV b_) (a'.get 1) k' ∧ (IsV op_) (a'.get 2) k' ∧ IsOwn 0 35 s1.1 (a'.get 7) k' ∧ Lo k0 (obF (a'.get 7)) ∧ (IsV x1) (a'.get 8) k' ∧ (IsV s1.2.1) (a'.get 9) k' ∧ (IsV s1.2.2.1) (a'.get 10) k' ∧ (IsV s1.2.2.2) (a'.get 11) k' ∧ (IsV x7) (a'.get 12) k' ∧ True) ?_ hQ ?_
    ·intro Q9 W9 w8
     refine region (m := 15) (_ :: _ :: _ :: _ :: _ :: _ :: _ :: _ :: _ :: _ :: _ :: _ :: _ :: _ :: _ :: []) hmix hs (by kernel_rfl) ⟨mu rfl i0, mu rfl i8, mu rfl i11, o1 [(26, some 1), (27, some 2)] rfl fun _ _ h n => ok_indexAddr rfl Try.underlying63 ty3 (IsV.rd n.1) n.2.1 hx3, o1 [(28, some 3)] rfl fun _ _ h n => ok_load rfl ty3 n.1, o1 [(25, some 0), (29, some 4)] rfl fun _ _ h n => ok_call rfl Try.call69 (ref06_column_ok n.1 n.2.1 hx4), mu rfl i1, mu rfl i8, mu rfl i11, o1 [(32, some 7), (33, some 8)] rfl fun _ _ h n => ok_indexAddr rfl Try.underlying63 ty3 (IsV.rd n.1) n.2.1 hx5, o1 [(34, some 9)] rfl fun _ _ h n => ok_load rfl ty3 n.1, o1 [(31, some 6), (35, some 10)] rfl fun _ _ h n => ok_call rfl Try.call69 (ref06_column_ok n.1 n.2.1 hx6), mu rfl i2, o1 [(30, some 5), (36, some 11), (37, some 12)] rfl fun _ _ h n => ok_call rfl Try.call68 (ref06_combine_ok n.1 n.2.1 n.2.2.1 hx7), cp 13 rfl rfl, trivial⟩ W9 fun b q p => ?_
     exact tail_done (k := q) (w8 _ _ ⟨Bs.post ⟨hg, hs, hd⟩ p, p.ke 0 rfl i0, p.ke 1 rfl i1, p.ke 2 rfl i2, p.ke 7 rfl i7, (by rw [p.old 7 rfl]; exact n7), p.ke 8 rfl i8, p.ke 9 rfl i9, p.ke 10 rfl i10, p.ke 11 rfl i11, p.ou 14 12 rfl, trivial⟩)
    rintro a k ⟨⟨hg, hs, hd⟩, i0, i1, i2, i7, n7, i8, i9, i10, i11, i12, _⟩
    refine wp_seq ?_
    refine wp_seq ?_
    obtain ⟨x8, hx8, hr⟩ := bind_some hr
    obtain ⟨x9, hx9, hx8⟩ := ite_bind hx8
    refine cut (fun a' k' => Bs noF k0 100 a' k' ∧ (IsV a_) (a'.get 0) k' ∧ (IsV b_) (a'.get 1) k' ∧ (IsV op_) (a'.get 2) k' ∧ IsOwn 0 35 s1.1 (a'.get 7) k' ∧ Lo k0 (obF (a'.get 7)) ∧ (IsV x1) (a'.get 8) k' ∧ (IsV s1.2.1) (a'.get 9) k' ∧ (IsV s1.2.2.1) (a'.get 10) k' ∧ (IsV s1.2.2.2) (a'.get 11) k' ∧ (IsV x7) (a'.get 12) k' ∧ (IsV x8) (a'.get 50) k' ∧ True) ?_ hQ ?_
    ·intro Q10 W10 w9
     refine gS 12 (_ :: _ :: _ :: _ :: _ :: _ :: _ :: _ :: _ :: _ :: _ :: _ :: []) hs (by kernel_rfl) ⟨mu rfl i11, o1 [(39, some 0)] rfl fun _ _ h n => ok_gtr rfl n.1 (cI rfl), cm 1 rfl rfl, mT rfl rfl i12, gT [(42, some 3)] rfl rfl fun hp _ _ h n => ok_len rfl rfl Try.underlying63 (IsV.rd (Gd.get n.1 hp)), gT [(43, some 4)] rfl rfl fun hp _ _ h n => ok_gtr rfl (Gd.get n.1 hp) (cI rfl), o1 [(41, some 2), (44, some 5)] rfl fun _ _ h n => ok_pickAnd rfl n.1 (Gd.get n.2.1) (cB rfl), cm 6 rfl rfl, mT rfl rfl i12, mT rfl rfl i9, gT [(47, some 8), (48, some 9)] rfl rfl fun hp _ _ h n => ok_call rfl Try.call70 (ref06_ints_ok (Gd.get n.1 hp) (Gd.get n.2.1 hp) (hx9 hp)), o1 [(46, some 7), (49, some 10)] rfl fun _ _ h n => ok_pickM rfl n.1 hx8 (Gd.get n.2.1) (cB rfl), trivial⟩ W10 fun b q p => ?_
     exact tail_done (k := q) (w9 _ _ ⟨Bs.post ⟨hg, hs, hd⟩ p, p.ke 0 rfl i0, p.ke 1 rfl i1, p.ke 2 rfl i2, p.ke 7 rfl i7, (by rw [p.old 7 rfl]; exact n7), p.ke 8 rfl i8, p.ke 9 rfl i9, p.ke 10 rfl i10, p.ke 11 rfl i11, p.ke 12 rfl i12, p.ou 11 50 rfl, trivial⟩)
    rintro a k ⟨⟨hg, hs, hd⟩, i0, i1, i2, i7, n7, i8, i9, i10, i11, i12, i50, _⟩
    refine wp_cond_split (isBool i50) (fun hc503 => ?_) (fun hc503 => ?_)
    ·rw [if_pos hc503] at hr
     refine wp_seq ?_
     refine cutS (fun c l => Bs noF k0 100 c l ∧ IsV a_ (c.get 0) l ∧ IsV b_ (c.get 1) l ∧ IsV op_ (c.get 2) l ∧ IsOwn 0 35 s1.1 (c.get 7) l ∧ Lo k0 (obF (c.get 7)) ∧ IsV x1 (c.get 8) l ∧ IsV s1.2.1 (c.get 9) l ∧ IsV s1.2.2.1 (c.get 10) l ∧ IsV s1.2.2.2 (c.get 11) l ∧ IsV s1.2.2.1 (c.get 13) l ∧ True) ?_ ?_
     ·intro Q11 W11 w10
      refine gS 2 (_ :: _ :: []) hs (by kernel_rfl) ⟨mu rfl i10, cp 0 rfl rfl, trivial⟩ W11 fun b q p => ?_
      exact tail_done (k := q) (w10 _ _ ⟨Bs.post ⟨hg, hs, hd⟩ p, p.ke 0 rfl i0, p.ke 1 rfl i1, p.ke 2 rfl i2, p.ke 7 rfl i7, (by rw [p.old 7 rfl]; exact n7), p.ke 8 rfl i8, p.ke 9 rfl i9, p.ke 10 rfl i10, p.ke 11 rfl i11, p.ou 1 13 rfl, trivial⟩)
     rintro a k ⟨⟨hg, hs, hd⟩, i0, i1, i2, i7, n7, i8, i9, i10, i11, i13, _⟩
     refine wp_block ?_
     obtain ⟨f2, hf2, hr⟩ := bind_some hr
     refine cutFe f2 (fun s' c l => Bs noF k0 100 c l ∧ IsV a_ (c.get 0) l ∧ IsV b_ (c.get 1) l ∧ IsV op_ (c.get 2) l ∧ IsOwn 0 35 s'.1 (c.get 7) l ∧ Lo k0 (obF (c.get 7)) ∧ IsV x1 (c.get 8) l ∧ IsV s1.2.1 (c.get 9) l ∧ IsV s1.2.2.1 (c.get 10) l ∧ IsV s1.2.2.2 (c.get 11) l ∧ IsV s'.2 (c.get 13) l ∧ True) (fun i' s' c l => (i' = 2 ∧ Bs noF k0 100 c l ∧ IsV a_ (c.get 0) l ∧ IsV b_ (c.get 1) l ∧ IsV op_ (c.get 2) l ∧ IsOwn 0 35 s'.1 (c.get 7) l ∧ Lo k0 (obF (c.get 7)) ∧ IsV x1 (c.get 8) l ∧ IsV s1.2.1 (c.get 9) l ∧ IsV s1.2.2.1 (c.get 10) l ∧ IsV s1.2.2.2 (c.get 11) l ∧ True)) (fun r' c l => bodyPost Try.prog Try.f44 (RetC noF k0 (IsV r')) .ret c l.w) ?_ hQ ?_ ?_ ?_
     ·intro Q12 W12 hgo hex hret
      refine sim_loop ?_ _ _ _ _ _ hf2 ⟨⟨hg, hs, hd⟩, i0, i1, i2, i7, n7, i8, i9, i10, i11, i13, trivial⟩ Q12 W12 hgo hex hret
      clear hr hf2 hgo hex hret W12 hQ hg hs hd i0 i1 i10 i11 i13 i2 i7 i8 i9 n7
      intro s3 fl_ a k hr hS Q hQ hgo457 hex458 hret459
      obtain ⟨⟨hg, hs, hd⟩, i0, i1, i2, i7, n7, i8, i9, i10, i11, i13, _⟩ := hS
      unfold ref06_Form_L1 at hr
      refine wp_seq ?_
      refine cutS (fun c l => Bs noF k0 100 c l ∧ IsV a_ (c.get 0) l ∧ IsV b_ (c.get 1) l ∧ IsV op_ (c.get 2) l ∧ IsOwn 0 35 s3.1 (c.get 7) l ∧ Lo k0 (obF (c.get 7)) ∧ IsV x1 (c.get 8) l ∧ IsV s1.2.1 (c.get 9) l ∧ IsV s1.2.2.1 (c.get 10) l ∧ IsV s1.2.2.2 (c.get 11) l ∧ IsV s3.2 (c.get 13) l ∧ (IsV (decide (s3.2 < (s3.1.length : Int)))) (c.get 55) l ∧ True) ?_ ?_
      ·intro Q13 W13 w11
       refine gS 4 (_ :: ⟨some (OwnAt (a.get 7) 0 35 s3.1), [(7, none)]⟩ :: _ :: _ :: []) hs (by kernel_rfl) ⟨mu rfl i13, ob1 rfl fun _ _ h n => ok_moveOA (.inl rfl) (ownAt n.1 (up i7 h n.1)), o1 [(53, some 1)] rfl fun _ _ h n => ok_len rfl rfl Try.underlying49 (IsOwn.rd (n.1).2), o1 [(52, some 0), (54, some 2)] rfl fun _ _ h n => ok_lss rfl n.1 n.2.1, trivial⟩ W13 fun b q p => ?_
       exact tail_done (k := q) (w11 _ _ ⟨Bs.post ⟨hg, hs, hd⟩ p, p.ke 0 rfl i0, p.ke 1 rfl i1, p.ke 2 rfl i2, p.ke 7 rfl i7, (by rw [p.old 7 rfl]; exact n7), p.ke 8 rfl i8, p.ke 9 rfl i9, p.ke 10 rfl i10, p.ke 11 rfl i11, p.ke 13 rfl i13, p.ou 3 55 rfl, trivial⟩)
      rintro a k ⟨⟨hg, hs, hd⟩, i0, i1, i2, i7, n7, i8, i9, i10, i11, i13, i55, _⟩
      refine wp_cond_split (isBool i55) (fun hc467 => ?_) (fun hc467 => ?_)
      ·rw [if_pos hc467] at hr
       refine wp_skip ?_
       refine wp_seq ?_
       refine wp_block ?_
       obtain ⟨x10, hx10, hr⟩ := bind_some hr
       obtain ⟨x11, hx11, hr⟩ := bind_some hr
       obtain ⟨x12, hx12, hr⟩ := bind_some hr
       obtain ⟨x13, hx13, hr⟩ := bind_some hr
       refine cut (fun a' k' => Bs noF k0 100 a' k' ∧ (IsV a_) (a'.get 0) k' ∧ (IsV b_) (a'.get 1) k' ∧ (IsV op_) (a'.get 2) k' ∧ IsOwn 0 35 x13 (a'.get 7) k' ∧ Lo k0 (obF (a'.get 7)) ∧ (IsV x1) (a'.get 8) k' ∧ (IsV s1.2.1) (a'.get 9) k' ∧ (IsV s1.2.2.1) (a'.get 10) k' ∧ (IsV s1.2.2.2) (a'.get 11) k' ∧ (IsV s3.2) (a'.get 13) k' ∧ True) ?_ hQ ?_
       ·intro Q14 W14 w12
        refine gS 9 (⟨some (OwnAt (a.get 7) 0 35 s3.1), [(7, none)]⟩ :: _ :: _ :: _ :: _ :: _ :: _ :: ⟨some (IsAdrO (a.get 7) ((s3.2).toNat * Enc.sz Rect)), [(58, some 0), (59, some 1)]⟩ :: _ :: []) hs (by kernel_rfl) ⟨ob1 rfl fun _ _ h n => ok_moveOA (.inl rfl) (ownAt n.1 (up i7 h n.1)), mu rfl i13, mu rfl i8, mu rfl i11, o1 [(61, some 3)] rfl fun _ _ h n => ok_add rfl n.1 (cI rfl) hx10, o1 [(60, some 2), (62, some 4)] rfl fun _ _ h n => ok_indexAddr rfl Try.underlying63 ty3 (IsV.rd n.1) n.2.1 hx11, o1 [(63, some 5)] rfl fun _ _ h n => ok_load rfl ty3 n.1, ob1 rfl fun _ _ h n => ok_indexO rfl Try.underlying49 ty35 n.1 n.2.1 hx12, o1 [(65, some 7)] rfl fun _ _ h n => ok_fieldAdrO rfl fo35_2 n.1, trivial⟩ W14 fun b q p => ?_
        have hgq := hg.then p.grow
        have hsb := p.size.trans hs
        have hdb := p.defers.trans hd
        have j0 := p.ke 0 rfl i0
        have j1 := p.ke 1 rfl i1
        have j2 := p.ke 2 rfl i2
        have j7 := p.ke 7 rfl i7
        have y7 : Lo k0 (obF (b.get 7)) := by rw [p.old 7 rfl]; exact n7
        have j8 := p.ke 8 rfl i8
        have j9 := p.ke 9 rfl i9
        have j10 := p.ke 10 rfl i10
        have j11 := p.ke 11 rfl i11
        have j13 := p.ke 13 rfl i13
        have j64 : (IsV x11) (b.get 64) q := p.ou 6 64 rfl
        have j66 : IsAdrO (a.get 7) ((s3.2).toNat * Enc.sz Rect + 2) (b.get 66) q := p.ou 8 66 rfl
        have eo : b.get 7 = a.get 7 := p.old 7 rfl
        have hns := j7.nshF
        refine tail_storeS (i := 9) (u := b.get 7) (m := (s3.2).toNat) (off := 0 + 2) rfl rfl rfl rfl szf3 upd_F35_2 (by rw [eo]; exact j66) j7 (getI_spec hx12).2.1 j64 fun q2 hch hz => ?_
        replace hgq := hgq.step hch y7.wr
        have hle := hch.le hns
        replace j0 := Pers.pers hle j0
        replace j1 := Pers.pers hle j1
        replace j2 := Pers.pers hle j2
        replace j8 := Pers.pers hle j8
        replace j9 := Pers.pers hle j9
        replace j10 := Pers.pers hle j10
        replace j11 := Pers.pers hle j11
        replace j13 := Pers.pers hle j13
        replace j64 := Pers.pers hle j64
        replace j66 := Pers.pers hle j66
        replace j7 := hz
        rw [Option.some.inj hx13] at j7
        clear hns hle hch eo hz
        obtain ⟨q, hqq⟩ : ∃ q, q = q2 := ⟨q2, rfl⟩
        subst hqq
        exact tail_done (k := q) (w12 _ _ ⟨⟨hgq, hsb, hdb⟩, j0, j1, j2, j7, y7, j8, j9, j10, j11, j13, trivial⟩)
       rintro a k ⟨⟨hg, hs, hd⟩, i0, i1, i2, i7, n7, i8, i9, i10, i11, i13, _⟩
       obtain ⟨x14, hx14, hr⟩ := bind_some hr
       refine cut (fun a' k' => Bs noF k0 100 a' k' ∧ (IsV a_) (a'.get 0) k' ∧ (IsV b_) (a'.get 1) k' ∧ (IsV op_) (a'.get 2) k' ∧ IsOwn 0 35 x13 (a'.get 7) k' ∧ Lo k0 (obF (a'.get 7)) ∧ (IsV x1) (a'.get 8) k' ∧ (IsV s1.2.1) (a'.get 9) k' ∧ (IsV s1.2.2.1) (a'.get 10) k' ∧ (IsV s1.2.2.2) (a'.get 11) k' ∧ (IsV x14) (a'.get 13) k' ∧ True) ?_ hQ ?_
       ·intro Q15 W15 w13
        refine gS 3 (_ :: _ :: _ :: []) hs (by kernel_rfl) ⟨mu rfl i13, o1 [(56, some 0)] rfl fun _ _ h n => ok_add rfl n.1 (cI rfl) hx14, cp 1 rfl rfl, trivial⟩ W15 fun b q p => ?_
        exact tail_done (k := q) (w13 _ _ ⟨Bs.post ⟨hg, hs, hd⟩ p, p.ke 0 rfl i0, p.ke 1 rfl i1, p.ke 2 rfl i2, p.ke 7 rfl i7, (by rw [p.old 7 rfl]; exact n7), p.ke 8 rfl i8, p.ke 9 rfl i9, p.ke 10 rfl i10, p.ke 11 rfl i11, p.ou 2 13 rfl, trivial⟩)
       rintro a k ⟨⟨hg, hs, hd⟩, i0, i1, i2, i7, n7, i8, i9, i10, i11, i13, _⟩
       exact hgo457 _ _ _ (Option.some.inj hr).symm ⟨⟨hg, hs, hd⟩, i0, i1, i2, i7, n7, i8, i9, i10, i11, i13, trivial⟩
      rw [if_neg (by rw [hc467]; decide)] at hr
      refine wp_exit ?_
      exact hex458 _ _ _ _ (Option.some.inj hr).symm ⟨rfl, ⟨hg, hs, hd⟩, i0, i1, i2, i7, n7, i8, i9, i10, i11, trivial⟩
     ·rintro r1 a k rfl hR
      dsimp only at hr
      simp at hr
     ·rintro _ _ _ rfl _
      simp at hr
     clear hf2
     rintro _ s4 a k rfl ⟨rfl, ⟨hg, hs, hd⟩, i0, i1, i2, i7, n7, i8, i9, i10, i11, _⟩
     dsimp only at hr
     refine wp_exit ?_
     obtain rfl := Option.some.inj hr
     exact w7 _ _ ⟨⟨hg, hs, hd⟩, i0, i1, i2, i7, n7, i8, i9, i10, i11, trivial⟩
    rw [if_neg (by rw [hc503]; decide)] at hr
    refine wp_skip ?_
    refine cutS (fun c l => Bs noF k0 100 c l ∧ IsV a_ (c.get 0) l ∧ IsV b_ (c.get 1) l ∧ IsV op_ (c.get 2) l ∧ IsOwn 0 35 s1.1 (c.get 7) l ∧ Lo k0 (obF (c.get 7)) ∧ IsV x1 (c.get 8) l ∧ IsI (s1.1.length : Int) (c.get 10) l ∧ IsV s1.2.2.2 (c.get 11) l ∧ IsV x7 (c.get 12) l ∧ True) ?_ ?_
    ·intro Q16 W16 w14
     refine gS 3 (⟨some (OwnAt (a.get 7) 0 35 s1.1), [(7, none)]⟩ :: _ :: _ :: []) hs (by kernel_rfl) ⟨ob1 rfl fun _ _ h n => ok_moveOA (.inl rfl) (ownAt n.1 (up i7 h n.1)), o1 [(67, some 0)] rfl fun _ _ h n => ok_len rfl rfl Try.underlying49 (IsOwn.rd (n.1).2), cp 1 rfl rfl, trivial⟩ W16 fun b q p => ?_
     exact tail_done (k := q) (w14 _ _ ⟨Bs.post ⟨hg, hs, hd⟩ p, p.ke 0 rfl i0, p.ke 1 rfl i1, p.ke 2 rfl i2, p.ke 7 rfl i7, (by rw [p.old 7 rfl]; exact n7), p.ke 8 rfl i8, p.ou 2 10 rfl, p.ke 11 rfl i11, p.ke 12 rfl i12, trivial⟩)
    rintro a k ⟨⟨hg, hs, hd⟩, i0, i1, i2, i7, n7, i8, i10, i11, i12, _⟩
    refine cutS (fun c l => Bs noF k0 100 c l ∧ IsV a_ (c.get 0) l ∧ IsV b_ (c.get 1) l ∧ IsV op_ (c.get 2) l ∧ IsOwn 0 35 s1.1 (c.get 7) l ∧ Lo k0 (obF (c.get 7)) ∧ IsV x1 (c.get 8) l ∧ IsV x7 (c.get 9) l ∧ IsI (s1.1.length : Int) (c.get 10) l ∧ IsV s1.2.2.2 (c.get 11) l ∧ IsV x7 (c.get 12) l ∧ True) ?_ ?_
    ·intro Q17 W17 w15
     refine gS 2 (_ :: _ :: []) hs (by kernel_rfl) ⟨mu rfl i12, cp 0 rfl rfl, trivial⟩ W17 fun b q p => ?_
     exact tail_done (k := q) (w15 _ _ ⟨Bs.post ⟨hg, hs, hd⟩ p, p.ke 0 rfl i0, p.ke 1 rfl i1, p.ke 2 rfl i2, p.ke 7 rfl i7, (by rw [p.old 7 rfl]; exact n7), p.ke 8 rfl i8, p.ou 1 9 rfl, p.ke 10 rfl i10, p.ke 11 rfl i11, p.ke 12 rfl i12, trivial⟩)
    rintro a k ⟨⟨hg, hs, hd⟩, i0, i1, i2, i7, n7, i8, i9, i10, i11, i12, _⟩
    refine cutS (fun c l => Bs noF k0 100 c l ∧ IsV a_ (c.get 0) l ∧ IsV b_ (c.get 1) l ∧ IsV op_ (c.get 2) l ∧ IsOwn 0 35 s1.1 (c.get 7) l ∧ Lo k0 (obF (c.get 7)) ∧ IsV x1 (c.get 8) l ∧ IsV x7 (c.get 9) l ∧ IsI (s1.1.length : Int) (c.get 10) l ∧ IsV s1.2.2.2 (c.get 11) l ∧ IsV x7 (c.get 12) l ∧ IsI 0 (c.get 14) l ∧ True) ?_ ?_
    ·intro Q18 W18 w16
     refine gS 1 (⟨some (IsI 0), []⟩ :: []) hs (by kernel_rfl) ⟨aI rfl rfl, trivial⟩ W18 fun b q p => ?_
     exact tail_done (k := q) (w16 _ _ ⟨Bs.post ⟨hg, hs, hd⟩ p, p.ke 0 rfl i0, p.ke 1 rfl i1, p.ke 2 rfl i2, p.ke 7 rfl i7, (by rw [p.old 7 rfl]; exact n7), p.ke 8 rfl i8, p.ke 9 rfl i9, p.ke 10 rfl i10, p.ke 11 rfl i11, p.ke 12 rfl i12, p.ou 0 14 rfl, trivial⟩)
    rintro a k ⟨⟨hg, hs, hd⟩, i0, i1, i2, i7, n7, i8, i9, i10, i11, i12, i14, _⟩
    refine wp_block ?_
    obtain ⟨f3, hf3, hr⟩ := bind_some hr
    refine cutFe f3 (fun s' c l => Bs noF k0 100 c l ∧ IsV a_ (c.get 0) l ∧ IsV b_ (c.get 1) l ∧ IsV op_ (c.get 2) l ∧ IsOwn 0 35 s'.1 (c.get 7) l ∧ Lo k0 (obF (c.get 7)) ∧ IsV x1 (c.get 8) l ∧ IsV x7 (c.get 9) l ∧ IsI (s1.1.length : Int) (c.get 10) l ∧ IsV s1.2.2.2 (c.get 11) l ∧ IsV x7 (c.get 12) l ∧ IsV s'.2 (c.get 14) l ∧ True) (fun i' s' c l => (i' = 4 ∧ Bs noF k0 100 c l ∧ IsV a_ (c.get 0) l ∧ IsV b_ (c.get 1) l ∧ IsV op_ (c.get 2) l ∧ IsOwn 0 35 s'.1 (c.get 7) l ∧ Lo k0 (obF (c.get 7)) ∧ IsV x1 (c.get 8) l ∧ IsV x7 (c.get 9) l ∧ IsI (s1.1.length : Int) (c.get 10) l ∧ IsV s1.2.2.2 (c.get 11) l ∧ True)) (fun r' c l => bodyPost Try.prog Try.f44 (RetC noF k0 (IsV r')) .ret c l.w) ?_ hQ ?_ ?_ ?_
    ·intro Q19 W19 hgo hex hret
     refine sim_loop ?_ _ _ _ _ _ hf3 ⟨⟨hg, hs, hd⟩, i0, i1, i2, i7, n7, i8, i9, i10, i11, i12, i14, trivial⟩ Q19 W19 hgo hex hret
     clear hr hf3 hgo hex hret W19 hQ hg hs hd i0 i1 i10 i11 i12 i14 i2 i7 i8 i9 n7
     intro s5 fl_ a k hr hS Q hQ hgo480 hex481 hret482
     obtain ⟨⟨hg, hs, hd⟩, i0, i1, i2, i7, n7, i8, i9, i10, i11, i12, i14, _⟩ := hS
     unfold ref06_Form_L2 at hr
     refine wp_seq ?_
     refine wp_seq ?_
     obtain ⟨x15, hx15, hr⟩ := bind_some hr
     refine cut (fun a' k' => Bs noF k0 100 a' k' ∧ (IsV a_) (a'.get 0) k' ∧ (IsV b_) (a'.get 1) k' ∧ (IsV op_) (a'.get 2) k' ∧ IsOwn 0 35 s5.1 (a'.get 7) k' ∧ Lo k0 (obF (a'.get 7)) ∧ (IsV x1) (a'.get 8) k' ∧ (IsV x7) (a'.get 9) k' ∧ (IsI (s1.1.length : Int)) (a'.get 10) k' ∧ (IsV s1.2.2.2) (a'.get 11) k' ∧ (IsV x7) (a'.get 12) k' ∧ (IsV s5.2) (a'.get 14) k' ∧ (IsV (decide (x15 < (x7.length : Int)))) (a'.get 74) k' ∧ True) ?_ hQ ?_
     ·intro Q20 W20 w17
      refine gS 5 (_ :: _ :: _ :: _ :: _ :: []) hs (by kernel_rfl) ⟨mu rfl i14, o1 [(70, some 0)] rfl fun _ _ h n => ok_add rfl n.1 (cI rfl) hx15, mu rfl i12, o1 [(72, some 2)] rfl fun _ _ h n => ok_len rfl rfl Try.underlying63 (IsV.rd n.1), o1 [(71, some 1), (73, some 3)] rfl fun _ _ h n => ok_lss rfl n.1 n.2.1, trivial⟩ W20 fun b q p => ?_
      exact tail_done (k := q) (w17 _ _ ⟨Bs.post ⟨hg, hs, hd⟩ p, p.ke 0 rfl i0, p.ke 1 rfl i1, p.ke 2 rfl i2, p.ke 7 rfl i7, (by rw [p.old 7 rfl]; exact n7), p.ke 8 rfl i8, p.ke 9 rfl i9, p.ke 10 rfl i10, p.ke 11 rfl i11, p.ke 12 rfl i12, p.ke 14 rfl i14, p.ou 4 74 rfl, trivial⟩)
     rintro a k ⟨⟨hg, hs, hd⟩, i0, i1, i2, i7, n7, i8, i9, i10, i11, i12, i14, i74, _⟩
     refine wp_cond_split (isBool i74) (fun hc490 => ?_) (fun hc490 => ?_)
     ·rw [if_pos hc490] at hr
      refine wp_skip ?_
      refine wp_seq ?_
      refine wp_block ?_
      obtain ⟨x16, hx16, hr⟩ := bind_some hr
      obtain ⟨x17, hx17, hr⟩ := bind_some hr
      obtain ⟨x18, hx18, hr⟩ := bind_some hr
      obtain ⟨x19, hx19, hr⟩ := bind_some hr
      obtain ⟨x20, hx20, hr⟩ := bind_some hr
      obtain ⟨x21, hx21, hr⟩ := bind_some hr
      obtain ⟨x22, hx22, hr⟩ := bind_some hr
      refine cut (fun a' k' => Bs noF k0 100 a' k' ∧ (IsV a_) (a'.get 0) k' ∧ (IsV b_) (a'.get 1) k' ∧ (IsV op_) (a'.get 2) k' ∧ IsOwn 0 35 x22 (a'.get 7) k' ∧ Lo k0 (obF (a'.get 7)) ∧ (IsV x1) (a'.get 8) k' ∧ (IsV x7) (a'.get 9) k' ∧ (IsI (s1.1.length : Int)) (a'.get 10) k' ∧ (IsV s1.2.2.2) (a'.get 11) k' ∧ (IsV x7) (a'.get 12) k' ∧ (IsV s5.2) (a'.get 14) k' ∧ True) ?_ hQ ?_
      ·intro Q21 W21 w18
       refine region (m := 21) (⟨some (OwnAt (a.get 7) 0 35 s5.1), [(7, none)]⟩ :: _ :: _ :: _ :: _ :: _ :: _ :: _ :: _ :: _ :: _ :: _ :: _ :: _ :: _ :: _ :: _ :: _ :: _ :: ⟨some (IsV (⟨x16, x17, x19, x21⟩ : Rect)), [(81, some 4), (85, some 8), (90, some 13), (95, some 18)]⟩ :: ⟨some (IsV (α := (List Rect)) ([(⟨x16, x17, x19, x21⟩ : Rect)])), [(96, some 19)]⟩ :: []) hmix hs (by kernel_rfl) ⟨ob1 rfl fun _ _ h n => ok_moveOA (.inl rfl) (ownAt n.1 (up i7 h n.1)), mu rfl i8, mu rfl i11, o1 [(78, some 1), (79, some 2)] rfl fun _ _ h n => ok_indexAddr rfl Try.underlying63 ty3 (IsV.rd n.1) n.2.1 hx16, o1 [(80, some 3)] rfl fun _ _ h n => ok_load rfl ty3 n.1, mu rfl i12, mu rfl i14, o1 [(82, some 5), (83, some 6)] rfl fun _ _ h n => ok_indexAddr rfl Try.underlying63 ty3 (IsV.rd n.1) n.2.1 hx17, o1 [(84, some 7)] rfl fun _ _ h n => ok_load rfl ty3 n.1, mu rfl i8, mu rfl i11, o1 [(87, some 10)] rfl fun _ _ h n => ok_add rfl n.1 (cI rfl) hx18, o1 [(86, some 9), (88, some 11)] rfl fun _ _ h n => ok_indexAddr rfl Try.underlying63 ty3 (IsV.rd n.1) n.2.1 hx19, o1 [(89, some 12)] rfl fun _ _ h n => ok_load rfl ty3 n.1, mu rfl i12, mu rfl i14, o1 [(92, some 15)] rfl fun _ _ h n => ok_add rfl n.1 (cI rfl) hx20, o1 [(91, some 14), (93, some 16)] rfl fun _ _ h n => ok_indexAddr rfl Try.underlying63 ty3 (IsV.rd n.1) n.2.1 hx21, o1 [(94, some 17)] rfl fun _ _ h n => ok_load rfl ty3 n.1, ob1 rfl fun _ _ h n => ok_build rfl (bld35_0_1_2_3 n.1 n.2.1 n.2.2.1 n.2.2.2.1), ob1 rfl fun _ _ h n => ok_buildSlice rfl Try.underlying49 eo35 rfl (by decide) (by decide) ⟨rfl, n.1, trivial⟩, trivial⟩ W21 fun b q p => ?_
       have hgq := hg.then p.grow
       have hsb := p.size.trans hs
       have hdb := p.defers.trans hd
       have j0 := p.ke 0 rfl i0
       have j1 := p.ke 1 rfl i1
       have j2 := p.ke 2 rfl i2
       have j8 := p.ke 8 rfl i8
       have j9 := p.ke 9 rfl i9
       have j10 := p.ke 10 rfl i10
       have j11 := p.ke 11 rfl i11
       have j12 := p.ke 12 rfl i12
       have j14 := p.ke 14 rfl i14
       have e77 : b.get 77 = a.get 7 := (p.ou 0 77 rfl).1
       have j77 : IsOwn 0 35 s5.1 (b.get 77) q := (p.ou 0 77 rfl).2
       have y77 : Lo k0 (obF (b.get 77)) := by rw [e77]; exact n7
       have j97 : (IsV (α := (List Rect)) ([(⟨x16, x17, x19, x21⟩ : Rect)])) (b.get 97) q := p.ou 20 97 rfl
       have hns := j77.nshF
       refine tail_appendS (i := 21) (d := 98) rfl rfl rfl rfl (by rw [hsb]; decide) (e := 35) Try.underlying49 eo35 j77 (IsV.rd j97) hx22 fun b2 q2 hsz hdf hoth hch hown hob => ?_
       have hle := hch.le hns
       have yn : Lo k0 (obF (b2.get 98)) := y77.app hgq hob
       replace j0 := Pers.pers hle j0
       replace j1 := Pers.pers hle j1
       replace j2 := Pers.pers hle j2
       replace j8 := Pers.pers hle j8
       replace j9 := Pers.pers hle j9
       replace j10 := Pers.pers hle j10
       replace j11 := Pers.pers hle j11
       replace j12 := Pers.pers hle j12
       replace j14 := Pers.pers hle j14
       replace j97 := Pers.pers hle j97
       replace hgq := hgq.step hch y77.wr
       rw [← hoth 0 (by decide)] at j0
       rw [← hoth 1 (by decide)] at j1
       rw [← hoth 2 (by decide)] at j2
       rw [← hoth 8 (by decide)] at j8
       rw [← hoth 9 (by decide)] at j9
       rw [← hoth 10 (by decide)] at j10
       rw [← hoth 11 (by decide)] at j11
       rw [← hoth 12 (by decide)] at j12
       rw [← hoth 14 (by decide)] at j14
       rw [← hoth 97 (by decide)] at j97
       have j98 := hown
       have y98 := yn
       replace hsb := hsz.trans hsb
       replace hdb := hdf.trans hdb
       clear hle hch hown hob hns yn hsz hdf hoth
       obtain ⟨b, hbb⟩ : ∃ b, b = b2 := ⟨b2, rfl⟩
       subst hbb
       obtain ⟨q, hqq⟩ : ∃ q, q = q2 := ⟨q2, rfl⟩
       subst hqq
       refine tail_assign (i := 22) (d := 7) rfl rfl (.inl rfl) rfl (by rw [hsb]; decide) fun b2 hsz hdf hnew hoth => ?_
       have jn : (IsOwn 0 35 x22) (b2.get 7) q := by rw [hnew]; exact j98
       have yn : Lo k0 (obF (b2.get 7)) := by rw [hnew]; exact y98
       rw [← hoth 0 (by decide)] at j0
       rw [← hoth 1 (by decide)] at j1
       rw [← hoth 2 (by decide)] at j2
       rw [← hoth 8 (by decide)] at j8
       rw [← hoth 9 (by decide)] at j9
       rw [← hoth 10 (by decide)] at j10
       rw [← hoth 11 (by decide)] at j11
       rw [← hoth 12 (by decide)] at j12
       rw [← hoth 14 (by decide)] at j14
       rw [← hoth 97 (by decide)] at j97
       have j7 := jn
       have y7 := yn
       replace hsb := hsz.trans hsb
       replace hdb := hdf.trans hdb
       clear hsz hdf hoth
       obtain ⟨b, hbb⟩ : ∃ b, b = b2 := ⟨b2, rfl⟩
       subst hbb
       exact tail_done (k := q) (w18 _ _ ⟨⟨hgq, hsb, hdb⟩, j0, j1, j2, j7, y7, j8, j9, j10, j11, j12, j14, trivial⟩)
      rintro a k ⟨⟨hg, hs, hd⟩, i0, i1, i2, i7, n7, i8, i9, i10, i11, i12, i14, _⟩
      obtain ⟨x23, hx23, hr⟩ := bind_some hr
      refine cut (fun a' k' => Bs noF k0 100 a' k' ∧ (IsV a_) (a'.get 0) k' ∧ (IsV b_) (a'.get 1) k' ∧ (IsV op_) (a'.get 2) k' ∧ IsOwn 0 35 x22 (a'.get 7) k' ∧ Lo k0 (obF (a'.get 7)) ∧ (IsV x1) (a'.get 8) k' ∧ (IsV x7) (a'.get 9) k' ∧ (IsI (s1.1.length : Int)) (a'.get 10) k' ∧ (IsV s1.2.2.2) (a'.get 11) k' ∧ (IsV x7) (a'.get 12) k' ∧ (IsV x23) (a'.get 14) k' ∧ True) ?_ hQ ?_
      ·intro Q22 W22 w19
       refine gS 3 (_ :: _ :: _ :: []) hs (by kernel_rfl) ⟨mu rfl i14, o1 [(75, some 0)] rfl fun _ _ h n => ok_add rfl n.1 (cI rfl) hx23, cp 1 rfl rfl, trivial⟩ W22 fun b q p => ?_
       exact tail_done (k := q) (w19 _ _ ⟨Bs.post ⟨hg, hs, hd⟩ p, p.ke 0 rfl i0, p.ke 1 rfl i1, p.ke 2 rfl i2, p.ke 7 rfl i7, (by rw [p.old 7 rfl]; exact n7), p.ke 8 rfl i8, p.ke 9 rfl i9, p.ke 10 rfl i10, p.ke 11 rfl i11, p.ke 12 rfl i12, p.ou 2 14 rfl, trivial⟩)
      rintro a k ⟨⟨hg, hs, hd⟩, i0, i1, i2, i7, n7, i8, i9, i10, i11, i12, i14, _⟩
      exact hgo480 _ _ _ (Option.some.inj hr).symm ⟨⟨hg, hs, hd⟩, i0, i1, i2, i7, n7, i8, i9, i10, i11, i12, i14, trivial⟩
     rw [if_neg (by rw [hc490]; decide)] at hr
     refine wp_exit ?_
     exact hex481 _ _ _ _ (Option.some.inj hr).symm ⟨rfl, ⟨hg, hs, hd⟩, i0, i1, i2, i7, n7, i8, i9, i10, i11, trivial⟩
    ·rintro r2 a k rfl hR
     dsimp only at hr
     simp at hr
    ·rintro _ _ _ rfl _
     simp at hr
    clear hf3
    rintro _ s6 a k rfl ⟨rfl, ⟨hg, hs, hd⟩, i0, i1, i2, i7, n7, i8, i9, i10, i11, _⟩
    dsimp only at hr
    obtain rfl := Option.some.inj hr
    exact w7 _ _ ⟨⟨hg, hs, hd⟩, i0, i1, i2, i7, n7, i8, i9, i10, i11, trivial⟩
   clear hs2
   rintro a k ⟨⟨hg, hs, hd⟩, i0, i1, i2, i7, n7, i8, i9, i10, i11, _⟩
   obtain ⟨x24, hx24, hr⟩ := bind_some hr
   refine cut (fun a' k' => Bs noF k0 100 a' k' ∧ (IsV a_) (a'.get 0) k' ∧ (IsV b_) (a'.get 1) k' ∧ (IsV op_) (a'.get 2) k' ∧ IsOwn 0 35 s2.1 (a'.get 7) k' ∧ Lo k0 (obF (a'.get 7)) ∧ (IsV x1) (a'.get 8) k' ∧ (IsV s2.2.1) (a'.get 9) k' ∧ (IsV s2.2.2) (a'.get 10) k' ∧ (IsV x24) (a'.get 11) k' ∧ True) ?_ hQ ?_
   ·intro Q23 W23 w20
    refine gS 3 (_ :: _ :: _ :: []) hs (by kernel_rfl) ⟨mu rfl i11, o1 [(23, some 0)] rfl fun _ _ h n => ok_add rfl n.1 (cI rfl) hx24, cp 1 rfl rfl, trivial⟩ W23 fun b q p => ?_
    exact tail_done (k := q) (w20 _ _ ⟨Bs.post ⟨hg, hs, hd⟩ p, p.ke 0 rfl i0, p.ke 1 rfl i1, p.ke 2 rfl i2, p.ke 7 rfl i7, (by rw [p.old 7 rfl]; exact n7), p.ke 8 rfl i8, p.ke 9 rfl i9, p.ke 10 rfl i10, p.ou 2 11 rfl, trivial⟩)
   rintro a k ⟨⟨hg, hs, hd⟩, i0, i1, i2, i7, n7, i8, i9, i10, i11, _⟩
   exact hgo447 _ _ _ (Option.some.inj hr).symm ⟨⟨hg, hs, hd⟩, i0, i1, i2, i7, n7, i8, i9, i10, i11, trivial⟩
  rw [if_neg (by rw [hc513]; decide)] at hr
  refine wp_exit ?_
  obtain ⟨kk, sh512, ii7⟩ := i7.give
  replace i7 := ii7
  replace hg := hg.hand sh512 n7.wr
  rw [← sh512.w]
  clear sh512
  obtain ⟨k, hkk⟩ : ∃ k, k = kk := ⟨kk, rfl⟩
  subst hkk
  exact hex448 _ _ _ _ (Option.some.inj hr).symm ⟨rfl, ⟨hg, hs, hd⟩, i7, trivial⟩
 ·rintro r3 a k rfl hR
  dsimp only at hr
  obtain rfl := Option.some.inj hr
  exact hR
 ·rintro _ _ _ rfl _
  simp at hr
 clear hf1
 rintro _ s7 a k rfl ⟨rfl, ⟨hg, hs, hd⟩, i7, _⟩
 dsimp only at hr
 refine stepL 2 (_ :: _ :: []) rfl ⟨hg, hs, hd⟩ (by kernel_rfl) ⟨mu rfl i7, cp 0 rfl rfl, trivial⟩ [⟨_, _⟩] (fun b q p => ⟨p.ou 1 6 rfl, trivial⟩) ?_
 rintro a k ⟨⟨hg, hs, hd⟩, i6, _⟩
 refine wp_ret ?_
 obtain rfl := Option.some.inj hr
 exact retC1 rfl hd hg i6
def ref06_Same_L0 (a_ : (List Rect)) (b_ : (List Rect)) (s1 : Int) : Option (Flow (Int) (Bool)) :=
 if (decide (s1 < (a_.length : Int))) then
  (getI a_ s1).bind fun x1 =>
  (getI b_ s1).bind fun x2 =>
  if (!decide (x1 = x2)) then
   some (.ret false)
  else
   (addI s1 1).bind fun x3 =>
   some (.go x3)
 else
  some (.ex 0 s1)
def ref06_Same (a_ : (List Rect)) (b_ : (List Rect)) : Option (Bool) :=
 if ((a_.length : Int) != (b_.length : Int)) then
  some false
 else
  (iterL (ref06_Same_L0 a_ b_) (a_.length + b_.length + 1) 0).bind fun f1 => match f1 with
   | .go _ => none
   | .ex _ _ =>
    some true
   | .ret r1 => some r1
theorem ref06_Same_ok {k0 : K} {v0 v1 : Value} {a_ : (List Rect)} {b_ : (List Rect)} {r : Bool} (i0 : (IsV a_) v0 k0) (i1 : (IsV b_) v1 k0) (hr : ref06_Same a_ b_ = some r) :
  Calls Try.prog 31 #[v0, v1] k0.w (Ret k0 (IsV r)) := by
 unfold ref06_Same at hr
 refine Ret.ofC ?_
 refine enterK Try.func31 rfl Try.ntmps31 (show 2 ≤ 26 by decide) fun a k hk0 hs hd ha => ?_
 obtain ⟨e0, e1, _⟩ := ha
 replace i0 : (IsV a_) (a.get 0) k := by rw [e0, hk0]; exact i0
 replace i1 : (IsV b_) (a.get 1) k := by rw [e1, hk0]; exact i1
 have hQ : Gb.LetsOut (bodyPost Try.prog Try.f31 (RetC noF k0 (IsV r))) := letsOutC
 have hg : Chg noF k0 k := by rw [hk0]; exact Chg.refl _ k0
 refine stepL 1 (⟨some (IsV false), []⟩ :: []) rfl ⟨hg, hs, hd⟩ (by kernel_rfl) ⟨ob1 rfl fun _ _ h n => ok_assign rfl (isV_bool.2 rfl), trivial⟩ [⟨_, _⟩, ⟨_, _⟩] (fun b q p => ⟨p.ke 0 rfl i0, p.ke 1 rfl i1, trivial⟩) ?_
 rintro a k ⟨⟨hg, hs, hd⟩, i0, i1, _⟩
 refine wp_seq ?_
 refine stepL 5 (_ :: _ :: _ :: _ :: ⟨some (IsV ((a_.length : Int) != (b_.length : Int))), [(7, some 1), (9, some 3)]⟩ :: []) rfl ⟨hg, hs, hd⟩ (by kernel_rfl) ⟨mu rfl i0, o1 [(6, some 0)] rfl fun _ _ h n => ok_len rfl rfl Try.underlying49 (IsV.rd n.1), mu rfl i1, o1 [(8, some 2)] rfl fun _ _ h n => ok_len rfl rfl Try.underlying49 (IsV.rd n.1), ob1 rfl fun _ _ h n => ok_neI rfl n.1 n.2.1, trivial⟩ [⟨_, _⟩, ⟨_, _⟩, ⟨_, _⟩] (fun b q p => ⟨p.ke 0 rfl i0, p.ke 1 rfl i1, p.ou 4 10 rfl, trivial⟩) ?_
 rintro a k ⟨⟨hg, hs, hd⟩, i0, i1, i10, _⟩
 refine wp_cond_split (isBool i10) (fun hc568 => ?_) (fun hc568 => ?_)
 ·rw [if_pos hc568] at hr
  refine stepL 1 (⟨some (IsV false), []⟩ :: []) rfl ⟨hg, hs, hd⟩ (by kernel_rfl) ⟨ob1 rfl fun _ _ h n => ok_assign rfl (isV_bool.2 rfl), trivial⟩ [⟨_, _⟩] (fun b q p => ⟨p.ou 0 4 rfl, trivial⟩) ?_
  rintro a k ⟨⟨hg, hs, hd⟩, i4, _⟩
  refine wp_ret ?_
  obtain rfl := Option.some.inj hr
  exact retC1 rfl hd hg i4
 rw [if_neg (by rw [hc568]; decide)] at hr
 refine wp_skip ?_
 refine wp_seq ?_
 refine stepL 1 (⟨some (IsI 0), []⟩ :: []) rfl ⟨hg, hs, hd⟩ (by kernel_rfl) ⟨aI rfl rfl, trivial⟩ [⟨_, _⟩, ⟨_, _⟩, ⟨_, _⟩] (fun b q p => ⟨p.ke 0 rfl i0, p.ke 1 rfl i1, p.ou 0 5 rfl, trivial⟩) ?_
 rintro a k ⟨⟨hg, hs, hd⟩, i0, i1, i5, _⟩
 refine wp_block ?_
 obtain ⟨f1, hf1, hr⟩ := bind_some hr
 refine cutFe f1 (fun s' c l => Bs noF k0 26 c l ∧ IsV a_ (c.get 0) l ∧ IsV b_ (c.get 1) l ∧ IsV s' (c.get 5) l ∧ True) (fun i' s' c l => (i' = 0 ∧ Bs noF k0 26 c l ∧ True)) (fun r' c l => bodyPost Try.prog Try.f31 (RetC noF k0 (IsV r')) .ret c l.w) ?_ hQ ?_ ?_ ?_
 ·intro Q1 W1 hgo hex hret
  refine sim_loop ?_ _ _ _ _ _ hf1 ⟨⟨hg, hs, hd⟩, i0, i1, i5, trivial⟩ Q1 W1 hgo hex hret
  clear hr hf1 hgo hex hret W1 hQ hg hs hd i0 i1 i5
  intro s1 fl_ a k hr hS Q hQ hgo542 hex543 hret544
  obtain ⟨⟨hg, hs, hd⟩, i0, i1, i5, _⟩ := hS
  unfold ref06_Same_L0 at hr
  refine wp_seq ?_
  refine stepL 4 (_ :: _ :: _ :: _ :: []) rfl ⟨hg, hs, hd⟩ (by kernel_rfl) ⟨mu rfl i5, mu rfl i0, o1 [(12, some 1)] rfl fun _ _ h n => ok_len rfl rfl Try.underlying49 (IsV.rd n.1), o1 [(11, some 0), (13, some 2)] rfl fun _ _ h n => ok_lss rfl n.1 n.2.1, trivial⟩ [⟨_, _⟩, ⟨_, _⟩, ⟨_, _⟩, ⟨_, _⟩] (fun b q p => ⟨p.ke 0 rfl i0, p.ke 1 rfl i1, p.ke 5 rfl i5, p.ou 3 14 rfl, trivial⟩) ?_
  rintro a k ⟨⟨hg, hs, hd⟩, i0, i1, i5, i14, _⟩
  refine wp_cond_split (isBool i14) (fun hc556 => ?_) (fun hc556 => ?_)
  ·rw [if_pos hc556] at hr
   refine wp_skip ?_
   refine wp_seq ?_
   refine wp_block ?_
   refine wp_seq ?_
   obtain ⟨x1, hx1, hr⟩ := bind_some hr
   obtain ⟨x2, hx2, hr⟩ := bind_some hr
   refine cut (fun a' k' => Bs noF k0 26 a' k' ∧ (IsV a_) (a'.get 0) k' ∧ (IsV b_) (a'.get 1) k' ∧ (IsV s1) (a'.get 5) k' ∧ (IsV (!decide (x1 = x2))) (a'.get 25) k' ∧ True) ?_ hQ ?_
   ·intro Q2 W2 w1
    refine region (m := 9) (_ :: _ :: _ :: _ :: _ :: _ :: _ :: _ :: ⟨some (IsV (!decide (x1 = x2))), [(20, some 3), (24, some 7)]⟩ :: []) hmix hs (by kernel_rfl) ⟨mu rfl i0, mu rfl i5, o1 [(17, some 0), (18, some 1)] rfl fun _ _ h n => ok_indexAddr rfl Try.underlying49 ty35 (IsV.rd n.1) n.2.1 hx1, o1 [(19, some 2)] rfl fun _ _ h n => ok_load rfl ty35 n.1, mu rfl i1, mu rfl i5, o1 [(21, some 4), (22, some 5)] rfl fun _ _ h n => ok_indexAddr rfl Try.underlying49 ty35 (IsV.rd n.1) n.2.1 hx2, o1 [(23, some 6)] rfl fun _ _ h n => ok_load rfl ty35 n.1, ob1 rfl fun _ _ h n => ok_neA rfl eq35 n.1 n.2.1, trivial⟩ W2 fun b q p => ?_
    exact tail_done (k := q) (w1 _ _ ⟨Bs.post ⟨hg, hs, hd⟩ p, p.ke 0 rfl i0, p.ke 1 rfl i1, p.ke 5 rfl i5, p.ou 8 25 rfl, trivial⟩)
   rintro a k ⟨⟨hg, hs, hd⟩, i0, i1, i5, i25, _⟩
   refine wp_cond_split (isBool i25) (fun hc553 => ?_) (fun hc553 => ?_)
   ·rw [if_pos hc553] at hr
    refine stepL 1 (⟨some (IsV false), []⟩ :: []) rfl ⟨hg, hs, hd⟩ (by kernel_rfl) ⟨ob1 rfl fun _ _ h n => ok_assign rfl (isV_bool.2 rfl), trivial⟩ [⟨_, _⟩] (fun b q p => ⟨p.ou 0 4 rfl, trivial⟩) ?_
    rintro a k ⟨⟨hg, hs, hd⟩, i4, _⟩
    refine wp_ret ?_
    exact hret544 _ _ _ (Option.some.inj hr).symm (retC1 rfl hd hg i4)
   rw [if_neg (by rw [hc553]; decide)] at hr
   refine wp_skip ?_
   obtain ⟨x3, hx3, hr⟩ := bind_some hr
   refine cut (fun a' k' => Bs noF k0 26 a' k' ∧ (IsV a_) (a'.get 0) k' ∧ (IsV b_) (a'.get 1) k' ∧ (IsV x3) (a'.get 5) k' ∧ True) ?_ hQ ?_
   ·intro Q3 W3 w2
    refine gS 3 (_ :: _ :: _ :: []) hs (by kernel_rfl) ⟨mu rfl i5, o1 [(15, some 0)] rfl fun _ _ h n => ok_add rfl n.1 (cI rfl) hx3, cp 1 rfl rfl, trivial⟩ W3 fun b q p => ?_
    exact tail_done (k := q) (w2 _ _ ⟨Bs.post ⟨hg, hs, hd⟩ p, p.ke 0 rfl i0, p.ke 1 rfl i1, p.ou 2 5 rfl, trivial⟩)
   rintro a k ⟨⟨hg, hs, hd⟩, i0, i1, i5, _⟩
   exact hgo542 _ _ _ (Option.some.inj hr).symm ⟨⟨hg, hs, hd⟩, i0, i1, i5, trivial⟩
  rw [if_neg (by rw [hc556]; decide)] at hr
  refine wp_exit ?_
  exact hex543 _ _ _ _ (Option.some.inj hr).symm ⟨rfl, ⟨hg, hs, hd⟩, trivial⟩
 ·rintro r1 a k rfl hR
  dsimp only at hr
  obtain rfl := Option.some.inj hr
  exact hR
 ·rintro _ _ _ rfl _
  simp at hr
 clear hf1
 rintro _ s2 a k rfl ⟨rfl, ⟨hg, hs, hd⟩, _⟩
 dsimp only at hr
 refine stepL 1 (⟨some (IsV true), []⟩ :: []) rfl ⟨hg, hs, hd⟩ (by kernel_rfl) ⟨ob1 rfl fun _ _ h n => ok_assign rfl (isV_bool.2 rfl), trivial⟩ [⟨_, _⟩] (fun b q p => ⟨p.ou 0 4 rfl, trivial⟩) ?_
 rintro a k ⟨⟨hg, hs, hd⟩, i4, _⟩
 refine wp_ret ?_
 obtain rfl := Option.some.inj hr
 exact retC1 rfl hd hg i4
def ref09_add (out_ : (List Slab)) (from_ : Int) (to_ : Int) (area_ : (List Rect)) : Option ((List Slab)) :=
 if ((area_.length : Int) == 0) then
  some out_
 else
  (if (decide (0 < (out_.length : Int))) then
   (subI (out_.length : Int) 1).bind fun x1 =>
   (getI out_ x1).bind fun x2 =>
   some (x2.Z1 == from_)
  else
   some false).bind fun x3 =>
  (if x3 then
   (subI (out_.length : Int) 1).bind fun x4 =>
   (getI out_ x4).bind fun x5 =>
   (ref06_Same x5.Area area_).bind fun x6 =>
   some x6
  else
   some false).bind fun x7 =>
  if x7 then
   (subI (out_.length : Int) 1).bind fun x8 =>
   (getI out_ x8).bind fun x9 =>
   (some (out_.set (x8).toNat ({ x9 with Z1 := to_ }))).bind fun x10 =>
   some x10
  else
   (appI out_ ([(⟨from_, to_, area_⟩ : Slab)])).bind fun x11 =>
   some x11
theorem ref09_add_ok {k0 : K} {v0 v1 v2 v3 : Value} {out_ : (List Slab)} {from_ : Int} {to_ : Int} {area_ : (List Rect)} {r : (List Slab)} (i0 : (IsOwn 0 51 out_) v0 k0) (i1 : (IsV from_) v1 k0) (i2 : (IsV to_) v2 k0) (i3 : (IsV area_) v3 k0) (hr : ref09_add out_ from_ to_ area_ = some r) :
  Calls Try.prog 43 #[v0, v1, v2, v3] k0.w (RetC (obF v0) k0 (IsOwnW v0 k0 51 r)) := by
 unfold ref09_add at hr
 refine enterK Try.func43 rfl Try.ntmps43 (show 4 ≤ 52 by decide) fun a k hk0 hs hd ha => ?_
 obtain ⟨e0, e1, e2, e3, _⟩ := ha
 replace i0 : (IsOwn 0 51 out_) (a.get 0) k := by rw [e0, hk0]; exact i0
 replace i1 : (IsV from_) (a.get 1) k := by rw [e1, hk0]; exact i1
 replace i2 : (IsV to_) (a.get 2) k := by rw [e2, hk0]; exact i2
 replace i3 : (IsV area_) (a.get 3) k := by rw [e3, hk0]; exact i3
 have n0 : Wr (obF v0) k0 (obF (a.get 0)) := fun b h => .inl (by rwa [e0] at h)
 have hQ : Gb.LetsOut (bodyPost Try.prog Try.f43 (RetC (obF v0) k0 (IsOwnW v0 k0 51 r))) := letsOutC
 have hg : Chg (obF v0) k0 k := by rw [hk0]; exact Chg.refl _ k0
 refine cutS (fun c l => Bs (obF v0) k0 52 c l ∧ IsOwn 0 51 out_ (c.get 0) l ∧ Wr (obF v0) k0 (obF (c.get 0)) ∧ IsV from_ (c.get 1) l ∧ IsV to_ (c.get 2) l ∧ IsV area_ (c.get 3) l ∧ True) ?_ ?_
 ·intro Q1 W1 w1
  refine gS 1 (⟨some IsE0, []⟩ :: []) hs (by kernel_rfl) ⟨ob1 rfl fun b q h n => ok_assign rfl isE0_nil, trivial⟩ W1 fun b q p => ?_
  exact tail_done (k := q) (w1 _ _ ⟨Bs.post ⟨hg, hs, hd⟩ p, p.ke 0 rfl i0, (by rw [p.old 0 rfl]; exact n0), p.ke 1 rfl i1, p.ke 2 rfl i2, p.ke 3 rfl i3, trivial⟩)
 rintro a k ⟨⟨hg, hs, hd⟩, i0, n0, i1, i2, i3, _⟩
 refine wp_seq ?_
 refine cutS (fun c l => Bs (obF v0) k0 52 c l ∧ IsOwn 0 51 out_ (c.get 0) l ∧ Wr (obF v0) k0 (obF (c.get 0)) ∧ IsV from_ (c.get 1) l ∧ IsV to_ (c.get 2) l ∧ IsV area_ (c.get 3) l ∧ IsV ((area_.length : Int) == 0) (c.get 12) l ∧ True) ?_ ?_
 ·intro Q2 W2 w2
  refine gS 3 (_ :: _ :: _ :: []) hs (by kernel_rfl) ⟨mu rfl i3, o1 [(10, some 0)] rfl fun _ _ h n => ok_len rfl rfl Try.underlying49 (IsV.rd n.1), o1 [(11, some 1)] rfl fun _ _ h n => ok_eqI rfl n.1 (cI rfl), trivial⟩ W2 fun b q p => ?_
  exact tail_done (k := q) (w2 _ _ ⟨Bs.post ⟨hg, hs, hd⟩ p, p.ke 0 rfl i0, (by rw [p.old 0 rfl]; exact n0), p.ke 1 rfl i1, p.ke 2 rfl i2, p.ke 3 rfl i3, p.ou 2 12 rfl, trivial⟩)
 rintro a k ⟨⟨hg, hs, hd⟩, i0, n0, i1, i2, i3, i12, _⟩
 refine wp_cond_split (isBool i12) (fun hc594 => ?_) (fun hc594 => ?_)
 ·rw [if_pos hc594] at hr
  refine cutS (fun c l => Bs (obF v0) k0 52 c l ∧ IsOwn 0 51 out_ (c.get 8) l ∧ Wr (obF v0) k0 (obF (c.get 8)) ∧ True) ?_ ?_
  ·intro Q3 W3 w3
   refine gS 2 (⟨some (OwnAt (a.get 0) 0 51 out_), [(0, none)]⟩ :: ⟨some (OwnAt (a.get 0) 0 51 out_), [(13, some 0)]⟩ :: []) hs (by kernel_rfl) ⟨ob1 rfl fun _ _ h n => ok_moveOA (.inl rfl) (ownAt n.1 (up i0 h n.1)), ob1 rfl fun _ _ h n => ok_moveOA (.inr rfl) n.1, trivial⟩ W3 fun b q p => ?_
   have hgq := hg.then p.grow
   have hsb := p.size.trans hs
   have hdb := p.defers.trans hd
   have e8 : b.get 8 = a.get 0 := (p.ou 1 8 rfl).1
   have j8 : IsOwn 0 51 out_ (b.get 8) q := (p.ou 1 8 rfl).2
   have y8 : Wr (obF v0) k0 (obF (b.get 8)) := by rw [e8]; exact n0
   exact tail_done (k := q) (w3 _ _ ⟨⟨hgq, hsb, hdb⟩, j8, y8, trivial⟩)
  rintro a k ⟨⟨hg, hs, hd⟩, i8, n8, _⟩
  refine wp_ret ?_
  obtain rfl := Option.some.inj hr
  exact retC1 rfl hd hg (show ResOk _ _ _ (.tmp 8) (IsOwnW _ _ _ _) from ⟨i8, n8⟩)
 rw [if_neg (by rw [hc594]; decide)] at hr
 refine wp_skip ?_
 refine cutS (fun c l => Bs (obF v0) k0 52 c l ∧ IsOwn 0 51 out_ (c.get 0) l ∧ Wr (obF v0) k0 (obF (c.get 0)) ∧ IsV from_ (c.get 1) l ∧ IsV to_ (c.get 2) l ∧ IsV area_ (c.get 3) l ∧ IsL out_ (c.get 9) l ∧ True) ?_ ?_
 ·intro Q4 W4 w4
  refine gS 3 (⟨some (OwnAt (a.get 0) 0 51 out_), [(0, none)]⟩ :: _ :: _ :: []) hs (by kernel_rfl) ⟨ob1 rfl fun _ _ h n => ok_moveOA (.inl rfl) (ownAt n.1 (up i0 h n.1)), o1 [(14, some 0)] rfl fun _ _ h n => ok_len rfl rfl Try.underlying22 (IsOwn.rd (n.1).2), cp 1 rfl rfl, trivial⟩ W4 fun b q p => ?_
  exact tail_done (k := q) (w4 _ _ ⟨Bs.post ⟨hg, hs, hd⟩ p, p.ke 0 rfl i0, (by rw [p.old 0 rfl]; exact n0), p.ke 1 rfl i1, p.ke 2 rfl i2, p.ke 3 rfl i3, p.ou 2 9 rfl, trivial⟩)
 rintro a k ⟨⟨hg, hs, hd⟩, i0, n0, i1, i2, i3, i9, _⟩
 refine wp_seq ?_
 refine wp_seq ?_
 obtain ⟨x1, hx1, hr⟩ := bind_some hr
 obtain ⟨x2, hx2, hx1⟩ := ite_bind hx1
 obtain ⟨x3, hx3, hx1⟩ := ite_bind hx1
 obtain ⟨x4, hx4, hr⟩ := bind_some hr
 obtain ⟨x5, hx5, hx4⟩ := ite_bind hx4
 obtain ⟨x6, hx6, hx4⟩ := ite_bind hx4
 obtain ⟨x7, hx7, hx4⟩ := ite_bind hx4
 refine cut (fun a' k' => Bs (obF v0) k0 52 a' k' ∧ IsOwn 0 51 out_ (a'.get 0) k' ∧ Wr (obF v0) k0 (obF (a'.get 0)) ∧ (IsV from_) (a'.get 1) k' ∧ (IsV to_) (a'.get 2) k' ∧ (IsV area_) (a'.get 3) k' ∧ (IsL out_) (a'.get 9) k' ∧ (IsV x4) (a'.get 37) k' ∧ True) ?_ hQ ?_
 ·intro Q5 W5 w5
  refine gS 22 (_ :: _ :: _ :: ⟨some (Gd ((decide (0 < (out_.length : Int))) = true) (OwnAt (a.get 0) 0 51 out_)), [(0, none)]⟩ :: _ :: _ :: _ :: _ :: _ :: _ :: _ :: _ :: _ :: ⟨some (Gd (x1 = true) (OwnAt (a.get 0) 0 51 out_)), [(0, none)]⟩ :: _ :: _ :: _ :: _ :: _ :: _ :: _ :: _ :: []) hs (by kernel_rfl) ⟨mu rfl i9, o1 [(16, some 0)] rfl fun _ _ h n => ok_gtr rfl n.1 (cI rfl), cm 1 rfl rfl, gdT rfl rfl fun hp _ _ h n => ok_moveOA (.inl rfl) (ownAt n.1 (up i0 h n.1)), mT rfl rfl i9, gT [(20, some 4)] rfl rfl fun hp _ _ h n => ok_sub rfl (Gd.get n.1 hp) (cI rfl) (hx2 hp), gT [(19, some 3), (21, some 5)] rfl rfl fun hp _ _ h n => ok_indexAddr rfl Try.underlying22 ty51 (IsOwn.rd ((Gd.get n.1 hp)).2) (Gd.get n.2.1 hp) (hx3 hp), gT [(22, some 6)] rfl rfl fun hp _ _ h n => ok_fieldAddr rfl fo51_1 (at_Slab_1 _) (Gd.get n.1 hp), gT [(23, some 7)] rfl rfl fun hp _ _ h n => ok_load rfl ty3 (Gd.get n.1 hp), mT rfl rfl i1, gT [(24, some 8), (25, some 9)] rfl rfl fun hp _ _ h n => ok_eqI rfl (Gd.get n.1 hp) (Gd.get n.2.1 hp), o1 [(18, some 2), (26, some 10)] rfl fun _ _ h n => ok_pickM rfl n.1 hx1 (Gd.get n.2.1) (cB rfl), cm 11 rfl rfl, gdT rfl rfl fun hp _ _ h n => ok_moveOA (.inl rfl) (ownAt n.1 (up i0 h n.1)), mT rfl rfl i9, gT [(30, some 14)] rfl rfl fun hp _ _ h n => ok_sub rfl (Gd.get n.1 hp) (cI rfl) (hx5 hp), gT [(29, some 13), (31, some 15)] rfl rfl fun hp _ _ h n => ok_indexAddr rfl Try.underlying22 ty51 (IsOwn.rd ((Gd.get n.1 hp)).2) (Gd.get n.2.1 hp) (hx6 hp), gT [(32, some 16)] rfl rfl fun hp _ _ h n => ok_fieldAddr rfl fo51_2 (at_Slab_2 _) (Gd.get n.1 hp), gT [(33, some 17)] rfl rfl fun hp _ _ h n => ok_load rfl ty49 (Gd.get n.1 hp), mT rfl rfl i3, gT [(34, some 18), (35, some 19)] rfl rfl fun hp _ _ h n => ok_call rfl Try.call31 (ref06_Same_ok (Gd.get n.1 hp) (Gd.get n.2.1 hp) (hx7 hp)), o1 [(28, some 12), (36, some 20)] rfl fun _ _ h n => ok_pickM rfl n.1 hx4 (Gd.get n.2.1) (cB rfl), trivial⟩ W5 fun b q p => ?_
  exact tail_done (k := q) (w5 _ _ ⟨Bs.post ⟨hg, hs, hd⟩ p, p.ke 0 rfl i0, (by rw [p.old 0 rfl]; exact n0), p.ke 1 rfl i1, p.ke 2 rfl i2, p.ke 3 rfl i3, p.ke 9 rfl i9, p.ou 21 37 rfl, trivial⟩)
 rintro a k ⟨⟨hg, hs, hd⟩, i0, n0, i1, i2, i3, i9, i37, _⟩
 refine wp_cond_split (isBool i37) (fun hc589 => ?_) (fun hc589 => ?_)
 ·rw [if_pos hc589] at hr
  refine wp_seq ?_
  obtain ⟨x8, hx8, hr⟩ := bind_some hr
  obtain ⟨x9, hx9, hr⟩ := bind_some hr
  obtain ⟨x10, hx10, hr⟩ := bind_some hr
  refine cut (fun a' k' => Bs (obF v0) k0 52 a' k' ∧ IsOwn 0 51 x10 (a'.get 0) k' ∧ Wr (obF v0) k0 (obF (a'.get 0)) ∧ True) ?_ hQ ?_
  ·intro Q6 W6 w6
   refine gS 6 (⟨some (OwnAt (a.get 0) 0 51 out_), [(0, none)]⟩ :: _ :: _ :: _ :: ⟨some (IsAdrO (a.get 0) ((x8).toNat * Enc.sz Slab)), [(38, some 0), (40, some 2)]⟩ :: _ :: []) hs (by kernel_rfl) ⟨ob1 rfl fun _ _ h n => ok_moveOA (.inl rfl) (ownAt n.1 (up i0 h n.1)), mu rfl i9, o1 [(39, some 1)] rfl fun _ _ h n => ok_sub rfl n.1 (cI rfl) hx8, mu rfl i2, ob1 rfl fun _ _ h n => ok_indexO rfl Try.underlying22 ty51 n.1 n.2.1 hx9, o1 [(42, some 4)] rfl fun _ _ h n => ok_fieldAdrO rfl fo51_1 n.1, trivial⟩ W6 fun b q p => ?_
   have hgq := hg.then p.grow
   have hsb := p.size.trans hs
   have hdb := p.defers.trans hd
   have j0 := p.ke 0 rfl i0
   have y0 : Wr (obF v0) k0 (obF (b.get 0)) := by rw [p.old 0 rfl]; exact n0
   have j41 : (IsV to_) (b.get 41) q := p.ou 3 41 rfl
   have j43 : IsAdrO (a.get 0) ((x8).toNat * Enc.sz Slab + 1) (b.get 43) q := p.ou 5 43 rfl
   have eo : b.get 0 = a.get 0 := p.old 0 rfl
   have hns := j0.nshF
   refine tail_storeS (i := 6) (u := b.get 0) (m := (x8).toNat) (off := 0 + 1) rfl rfl rfl rfl szf3 upd_F51_1 (by rw [eo]; exact j43) j0 (getI_spec hx9).2.1 j41 fun q2 hch hz => ?_
   replace hgq := hgq.step hch y0
   have hle := hch.le hns
   replace j41 := Pers.pers hle j41
   replace j43 := Pers.pers hle j43
   replace j0 := hz
   rw [Option.some.inj hx10] at j0
   clear hns hle hch eo hz
   obtain ⟨q, hqq⟩ : ∃ q, q = q2 := ⟨q2, rfl⟩
   subst hqq
   exact tail_done (k := q) (w6 _ _ ⟨⟨hgq, hsb, hdb⟩, j0, y0, trivial⟩)
  rintro a k ⟨⟨hg, hs, hd⟩, i0, n0, _⟩
  refine cutS (fun c l => Bs (obF v0) k0 52 c l ∧ IsOwn 0 51 x10 (c.get 8) l ∧ Wr (obF v0) k0 (obF (c.get 8)) ∧ True) ?_ ?_
  ·intro Q7 W7 w7
   refine gS 2 (⟨some (OwnAt (a.get 0) 0 51 x10), [(0, none)]⟩ :: ⟨some (OwnAt (a.get 0) 0 51 x10), [(44, some 0)]⟩ :: []) hs (by kernel_rfl) ⟨ob1 rfl fun _ _ h n => ok_moveOA (.inl rfl) (ownAt n.1 (up i0 h n.1)), ob1 rfl fun _ _ h n => ok_moveOA (.inr rfl) n.1, trivial⟩ W7 fun b q p => ?_
   have hgq := hg.then p.grow
   have hsb := p.size.trans hs
   have hdb := p.defers.trans hd
   have e8 : b.get 8 = a.get 0 := (p.ou 1 8 rfl).1
   have j8 : IsOwn 0 51 x10 (b.get 8) q := (p.ou 1 8 rfl).2
   have y8 : Wr (obF v0) k0 (obF (b.get 8)) := by rw [e8]; exact n0
   exact tail_done (k := q) (w7 _ _ ⟨⟨hgq, hsb, hdb⟩, j8, y8, trivial⟩)
  rintro a k ⟨⟨hg, hs, hd⟩, i8, n8, _⟩
  refine wp_ret ?_
  obtain rfl := Option.some.inj hr
  exact retC1 rfl hd hg (show ResOk _ _ _ (.tmp 8) (IsOwnW _ _ _ _) from ⟨i8, n8⟩)
 rw [if_neg (by rw [hc589]; decide)] at hr
 refine wp_skip ?_
 refine wp_seq ?_
 obtain ⟨x11, hx11, hr⟩ := bind_some hr
 refine cut (fun a' k' => Bs (obF v0) k0 52 a' k' ∧ IsOwn 0 51 x11 (a'.get 8) k' ∧ Wr (obF v0) k0 (obF (a'.get 8)) ∧ True) ?_ hQ ?_
 ·intro Q8 W8 w8
  refine gS 6 (⟨some (OwnAt (a.get 0) 0 51 out_), [(0, none)]⟩ :: _ :: _ :: _ :: ⟨some (IsV (⟨from_, to_, area_⟩ : Slab)), [(46, some 1), (47, some 2), (48, some 3)]⟩ :: ⟨some (IsV (α := (List Slab)) ([(⟨from_, to_, area_⟩ : Slab)])), [(49, some 4)]⟩ :: []) hs (by kernel_rfl) ⟨ob1 rfl fun _ _ h n => ok_moveOA (.inl rfl) (ownAt n.1 (up i0 h n.1)), mu rfl i1, mu rfl i2, mu rfl i3, ob1 rfl fun _ _ h n => ok_build rfl (bld51_0_1_2 n.1 n.2.1 n.2.2.1), ob1 rfl fun _ _ h n => ok_buildSlice rfl Try.underlying22 eo51 rfl (by decide) (by decide) ⟨rfl, n.1, trivial⟩, trivial⟩ W8 fun b q p => ?_
  have hgq := hg.then p.grow
  have hsb := p.size.trans hs
  have hdb := p.defers.trans hd
  have e45 : b.get 45 = a.get 0 := (p.ou 0 45 rfl).1
  have j45 : IsOwn 0 51 out_ (b.get 45) q := (p.ou 0 45 rfl).2
  have y45 : Wr (obF v0) k0 (obF (b.get 45)) := by rw [e45]; exact n0
  have j50 : (IsV (α := (List Slab)) ([(⟨from_, to_, area_⟩ : Slab)])) (b.get 50) q := p.ou 5 50 rfl
  have hns := j45.nshF
  refine tail_appendS (i := 6) (d := 51) rfl rfl rfl rfl (by rw [hsb]; decide) (e := 51) Try.underlying22 eo51 j45 (IsV.rd j50) hx11 fun b2 q2 hsz hdf hoth hch hown hob => ?_
  have hle := hch.le hns
  have yn : Wr (obF v0) k0 (obF (b2.get 51)) := y45.app hgq hob
  replace j50 := Pers.pers hle j50
  replace hgq := hgq.step hch y45
  rw [← hoth 50 (by decide)] at j50
  have j51 := hown
  have y51 := yn
  replace hsb := hsz.trans hsb
  replace hdb := hdf.trans hdb
  clear hle hch hown hob hns yn hsz hdf hoth
  obtain ⟨b, hbb⟩ : ∃ b, b = b2 := ⟨b2, rfl⟩
  subst hbb
  obtain ⟨q, hqq⟩ : ∃ q, q = q2 := ⟨q2, rfl⟩
  subst hqq
  refine tail_assign (i := 7) (d := 8) rfl rfl (.inl rfl) rfl (by rw [hsb]; decide) fun b2 hsz hdf hnew hoth => ?_
  have jn : (IsOwn 0 51 x11) (b2.get 8) q := by rw [hnew]; exact j51
  have yn : Wr (obF v0) k0 (obF (b2.get 8)) := by rw [hnew]; exact y51
  rw [← hoth 50 (by decide)] at j50
  have j8 := jn
  have y8 := yn
  replace hsb := hsz.trans hsb
  replace hdb := hdf.trans hdb
  clear hsz hdf hoth
  obtain ⟨b, hbb⟩ : ∃ b, b = b2 := ⟨b2, rfl⟩
  subst hbb
  exact tail_done (k := q) (w8 _ _ ⟨⟨hgq, hsb, hdb⟩, j8, y8, trivial⟩)
 rintro a k ⟨⟨hg, hs, hd⟩, i8, n8, _⟩
 refine wp_ret ?_
 obtain rfl := Option.some.inj hr
 exact retC1 rfl hd hg (show ResOk _ _ _ (.tmp 8) (IsOwnW _ _ _ _) from ⟨i8, n8⟩)
def ref09_end_L0 (out_ : (List Slab)) (s1 : Int) : Option (Flow (Int) ((List Slab) × Int)) :=
 if (decide (s1 < (out_.length : Int))) then
  (getI out_ s1).bind fun x1 =>
  if (decide (200 < (x1.Area.length : Int))) then
   some (.ret (([] : List Slab), 6))
  else
   (addI s1 1).bind fun x2 =>
   some (.go x2)
 else
  some (.ex 0 s1)
def ref09_end (out_ : (List Slab)) : Option ((List Slab) × Int) :=
 (iterL (ref09_end_L0 out_) (out_.length + 1) 0).bind fun f1 => match f1 with
  | .go _ => none
  | .ex _ _ =>
   if (decide (80 < (out_.length : Int))) then
    some (([] : List Slab), 6)
   else
    some (out_, 0)
  | .ret r1 => some r1
theorem ref09_end_ok {k0 : K} {v0 : Value} {out_ : (List Slab)} {r : (List Slab) × Int} (i0 : (IsV out_) v0 k0) (hr : ref09_end out_ = some r) :
  Calls Try.prog 45 #[v0] k0.w (Ret k0 (IsTup2 (IsV r.1) (IsV r.2))) := by
 unfold ref09_end at hr
 refine Ret.ofC ?_
 refine enterK Try.func45 rfl Try.ntmps45 (show 1 ≤ 22 by decide) fun a k hk0 hs hd ha => ?_
 obtain ⟨e0, _⟩ := ha
 replace i0 : (IsV out_) (a.get 0) k := by rw [e0, hk0]; exact i0
 have hQ : Gb.LetsOut (bodyPost Try.prog Try.f45 (RetC noF k0 (IsTup2 (IsV r.1) (IsV r.2)))) := letsOutC
 have hg : Chg noF k0 k := by rw [hk0]; exact Chg.refl _ k0
 refine stepL 2 (⟨some IsE0, []⟩ :: ⟨some (IsI 0), []⟩ :: []) rfl ⟨hg, hs, hd⟩ (by kernel_rfl) ⟨ob1 rfl fun b q h n => ok_assign rfl isE0_nil, aI rfl rfl, trivial⟩ [⟨_, _⟩] (fun b q p => ⟨p.ke 0 rfl i0, trivial⟩) ?_
 rintro a k ⟨⟨hg, hs, hd⟩, i0, _⟩
 refine wp_seq ?_
 refine stepL 1 (⟨some (IsI 0), []⟩ :: []) rfl ⟨hg, hs, hd⟩ (by kernel_rfl) ⟨aI rfl rfl, trivial⟩ [⟨_, _⟩, ⟨_, _⟩] (fun b q p => ⟨p.ke 0 rfl i0, p.ou 0 4 rfl, trivial⟩) ?_
 rintro a k ⟨⟨hg, hs, hd⟩, i0, i4, _⟩
 refine wp_block ?_
 obtain ⟨f1, hf1, hr⟩ := bind_some hr
 refine cutFe f1 (fun s' c l => Bs noF k0 22 c l ∧ IsV out_ (c.get 0) l ∧ IsV s' (c.get 4) l ∧ True) (fun i' s' c l => (i' = 0 ∧ Bs noF k0 22 c l ∧ IsV out_ (c.get 0) l ∧ True)) (fun r' c l => bodyPost Try.prog Try.f45 (RetC noF k0 (IsTup2 (IsV r'.1) (IsV r'.2))) .ret c l.w) ?_ hQ ?_ ?_ ?_
 ·intro Q1 W1 hgo hex hret
  refine sim_loop ?_ _ _ _ _ _ hf1 ⟨⟨hg, hs, hd⟩, i0, i4, trivial⟩ Q1 W1 hgo hex hret
  clear hr hf1 hgo hex hret W1 hQ hg hs hd i0 i4
  intro s1 fl_ a k hr hS Q hQ hgo602 hex603 hret604
  obtain ⟨⟨hg, hs, hd⟩, i0, i4, _⟩ := hS
  unfold ref09_end_L0 at hr
  refine wp_seq ?_
  refine stepL 4 (_ :: _ :: _ :: _ :: []) rfl ⟨hg, hs, hd⟩ (by kernel_rfl) ⟨mu rfl i4, mu rfl i0, o1 [(6, some 1)] rfl fun _ _ h n => ok_len rfl rfl Try.underlying22 (IsV.rd n.1), o1 [(5, some 0), (7, some 2)] rfl fun _ _ h n => ok_lss rfl n.1 n.2.1, trivial⟩ [⟨_, _⟩, ⟨_, _⟩, ⟨_, _⟩] (fun b q p => ⟨p.ke 0 rfl i0, p.ke 4 rfl i4, p.ou 3 8 rfl, trivial⟩) ?_
  rintro a k ⟨⟨hg, hs, hd⟩, i0, i4, i8, _⟩
  refine wp_cond_split (isBool i8) (fun hc616 => ?_) (fun hc616 => ?_)
  ·rw [if_pos hc616] at hr
   refine wp_skip ?_
   refine wp_seq ?_
   refine wp_block ?_
   refine wp_seq ?_
   obtain ⟨x1, hx1, hr⟩ := bind_some hr
   refine cut (fun a' k' => Bs noF k0 22 a' k' ∧ (IsV out_) (a'.get 0) k' ∧ (IsV s1) (a'.get 4) k' ∧ (IsV (decide (200 < (x1.Area.length : Int)))) (a'.get 17) k' ∧ True) ?_ hQ ?_
   ·intro Q2 W2 w1
    refine gS 7 (_ :: _ :: _ :: _ :: _ :: _ :: _ :: []) hs (by kernel_rfl) ⟨mu rfl i0, mu rfl i4, o1 [(11, some 0), (12, some 1)] rfl fun _ _ h n => ok_indexAddr rfl Try.underlying22 ty51 (IsV.rd n.1) n.2.1 hx1, o1 [(13, some 2)] rfl fun _ _ h n => ok_fieldAddr rfl fo51_2 (at_Slab_2 _) n.1, o1 [(14, some 3)] rfl fun _ _ h n => ok_load rfl ty49 n.1, o1 [(15, some 4)] rfl fun _ _ h n => ok_len rfl rfl Try.underlying49 (IsV.rd n.1), o1 [(16, some 5)] rfl fun _ _ h n => ok_gtr rfl n.1 (cI rfl), trivial⟩ W2 fun b q p => ?_
    exact tail_done (k := q) (w1 _ _ ⟨Bs.post ⟨hg, hs, hd⟩ p, p.ke 0 rfl i0, p.ke 4 rfl i4, p.ou 6 17 rfl, trivial⟩)
   rintro a k ⟨⟨hg, hs, hd⟩, i0, i4, i17, _⟩
   refine wp_cond_split (isBool i17) (fun hc613 => ?_) (fun hc613 => ?_)
   ·rw [if_pos hc613] at hr
    refine cutL noF k0 22 [⟨2, IsV ([] : List Slab)⟩, ⟨3, IsI 6⟩] ?_ ?_
    ·intro Q3 W3 w2
     refine gS 2 (⟨some IsE0, []⟩ :: ⟨some (IsI 6), []⟩ :: []) hs (by kernel_rfl) ⟨ob1 rfl fun b q h n => ok_assign rfl isE0_nil, aI rfl rfl, trivial⟩ W3 fun b q p => ?_
     have hgq := hg.then p.grow
     have hsb := p.size.trans hs
     have hdb := p.defers.trans hd
     have j2 : IsE0 (b.get 2) q := p.ou 0 2 rfl
     have j3 : (IsI 6) (b.get 3) q := p.ou 1 3 rfl
     replace j2 : IsV ([] : List Slab) (b.get 2) q := j2.isV
     exact tail_done (k := q) (w2 _ _ ⟨⟨hgq, hsb, hdb⟩, j2, j3, trivial⟩)
    rintro a k ⟨⟨hg, hs, hd⟩, i2, i3, _⟩
    refine wp_ret ?_
    exact hret604 _ _ _ (Option.some.inj hr).symm (retC2 rfl hd hg i2 i3)
   rw [if_neg (by rw [hc613]; decide)] at hr
   refine wp_skip ?_
   obtain ⟨x2, hx2, hr⟩ := bind_some hr
   refine cut (fun a' k' => Bs noF k0 22 a' k' ∧ (IsV out_) (a'.get 0) k' ∧ (IsV x2) (a'.get 4) k' ∧ True) ?_ hQ ?_
   ·intro Q4 W4 w3
    refine gS 3 (_ :: _ :: _ :: []) hs (by kernel_rfl) ⟨mu rfl i4, o1 [(9, some 0)] rfl fun _ _ h n => ok_add rfl n.1 (cI rfl) hx2, cp 1 rfl rfl, trivial⟩ W4 fun b q p => ?_
    exact tail_done (k := q) (w3 _ _ ⟨Bs.post ⟨hg, hs, hd⟩ p, p.ke 0 rfl i0, p.ou 2 4 rfl, trivial⟩)
   rintro a k ⟨⟨hg, hs, hd⟩, i0, i4, _⟩
   exact hgo602 _ _ _ (Option.some.inj hr).symm ⟨⟨hg, hs, hd⟩, i0, i4, trivial⟩
  rw [if_neg (by rw [hc616]; decide)] at hr
  refine wp_exit ?_
  exact hex603 _ _ _ _ (Option.some.inj hr).symm ⟨rfl, ⟨hg, hs, hd⟩, i0, trivial⟩
 ·rintro r1 a k rfl hR
  dsimp only at hr
  obtain rfl := Option.some.inj hr
  exact hR
 ·rintro _ _ _ rfl _
  simp at hr
 clear hf1
 rintro _ s2 a k rfl ⟨rfl, ⟨hg, hs, hd⟩, i0, _⟩
 dsimp only at hr
 refine wp_seq ?_
 refine stepL 3 (_ :: _ :: _ :: []) rfl ⟨hg, hs, hd⟩ (by kernel_rfl) ⟨mu rfl i0, o1 [(18, some 0)] rfl fun _ _ h n => ok_len rfl rfl Try.underlying22 (IsV.rd n.1), o1 [(19, some 1)] rfl fun _ _ h n => ok_gtr rfl n.1 (cI rfl), trivial⟩ [⟨_, _⟩, ⟨_, _⟩] (fun b q p => ⟨p.ke 0 rfl i0, p.ou 2 20 rfl, trivial⟩) ?_
 rintro a k ⟨⟨hg, hs, hd⟩, i0, i20, _⟩
 refine wp_cond_split (isBool i20) (fun hc628 => ?_) (fun hc628 => ?_)
 ·rw [if_pos hc628] at hr
  refine cutL noF k0 22 [⟨2, IsV ([] : List Slab)⟩, ⟨3, IsI 6⟩] ?_ ?_
  ·intro Q5 W5 w4
   refine gS 2 (⟨some IsE0, []⟩ :: ⟨some (IsI 6), []⟩ :: []) hs (by kernel_rfl) ⟨ob1 rfl fun b q h n => ok_assign rfl isE0_nil, aI rfl rfl, trivial⟩ W5 fun b q p => ?_
   have hgq := hg.then p.grow
   have hsb := p.size.trans hs
   have hdb := p.defers.trans hd
   have j2 : IsE0 (b.get 2) q := p.ou 0 2 rfl
   have j3 : (IsI 6) (b.get 3) q := p.ou 1 3 rfl
   replace j2 : IsV ([] : List Slab) (b.get 2) q := j2.isV
   exact tail_done (k := q) (w4 _ _ ⟨⟨hgq, hsb, hdb⟩, j2, j3, trivial⟩)
  rintro a k ⟨⟨hg, hs, hd⟩, i2, i3, _⟩
  refine wp_ret ?_
  obtain rfl := Option.some.inj hr
  exact retC2 rfl hd hg i2 i3
 rw [if_neg (by rw [hc628]; decide)] at hr
 refine wp_skip ?_
 refine stepL 3 (_ :: _ :: ⟨some (IsI 0), []⟩ :: []) rfl ⟨hg, hs, hd⟩ (by kernel_rfl) ⟨mu rfl i0, cp 0 rfl rfl, aI rfl rfl, trivial⟩ [⟨_, _⟩, ⟨_, _⟩] (fun b q p => ⟨p.ou 1 2 rfl, p.ou 2 3 rfl, trivial⟩) ?_
 rintro a k ⟨⟨hg, hs, hd⟩, i2, i3, _⟩
 refine wp_ret ?_
 obtain rfl := Option.some.inj hr
 exact retC2 rfl hd hg i2 i3
def ref09_Of_L0 (l_ : (List Box)) (s1 : Int) : Option (Flow (Int) ((List Slab) × Int)) :=
 if (decide (s1 < (l_.length : Int))) then
  (getI l_ s1).bind fun x1 =>
  (ref09_RightBox x1).bind fun x2 =>
  if (!x2) then
   some (.ret (([] : List Slab), 1))
  else
   (addI s1 1).bind fun x3 =>
   some (.go x3)
 else
  some (.ex 0 s1)
def ref09_Of_L1 (l_ : (List Box)) (s1 : (List Int) × Int) : Option (Flow ((List Int) × Int) ((List Slab) × Int)) :=
 if (decide (s1.2 < (l_.length : Int))) then
  (getI l_ s1.2).bind fun x1 =>
  (ref09_insert s1.1 x1.Z0).bind fun x2 =>
  (getI l_ s1.2).bind fun x3 =>
  (ref09_insert x2 x3.Z1).bind fun x4 =>
  (addI s1.2 1).bind fun x5 =>
  some (.go (x4, x5))
 else
  some (.ex 2 (s1.1, s1.2))
def ref09_Of_L3 (l_ : (List Box)) (s1 : (List Int) × Int) (s2 : (List Slab) × Int) (s3 : (List Rect) × Int) : Option (Flow ((List Rect) × Int) ((List Slab) × Int)) :=
 if (decide (s3.2 < (l_.length : Int))) then
  (getI l_ s3.2).bind fun x1 =>
  (getI s1.1 s2.2).bind fun x2 =>
  (if (decide (x1.Z0 ≤ x2)) then
   (getI s1.1 s2.2).bind fun x3 =>
   (getI l_ s3.2).bind fun x4 =>
   some (decide (x3 < x4.Z1))
  else
   some false).bind fun x5 =>
  (if x5 then
   (getI l_ s3.2).bind fun x6 =>
   (appI s3.1 ([x6.Base])).bind fun x7 =>
   some x7
  else
   some s3.1).bind fun s4 =>
  (addI s3.2 1).bind fun x8 =>
  some (.go (s4, x8))
 else
  some (.ex 6 (s3.1, s3.2))
def ref09_Of_L2 (l_ : (List Box)) (s1 : (List Int) × Int) (s2 : (List Slab) × Int) : Option (Flow ((List Slab) × Int) ((List Slab) × Int)) :=
 (addI s2.2 1).bind fun x1 =>
 if (decide (x1 < (s1.1.length : Int))) then
  (iterL (ref09_Of_L3 l_ s1 s2) (l_.length + s1.1.length + s2.1.length + ([] : List Rect).length + 1) (([] : List Rect), 0)).bind fun f1 => match f1 with
   | .go _ => none
   | .ex _ s3 =>
    (getI s1.1 s2.2).bind fun x2 =>
    (addI s2.2 1).bind fun x3 =>
    (getI s1.1 x3).bind fun x4 =>
    (ref06_Form s3.1 ([] : List Rect) 0).bind fun x5 =>
    (ref09_add s2.1 x2 x4 x5).bind fun x6 =>
    (addI s2.2 1).bind fun x7 =>
    some (.go (x6, x7))
   | .ret r1 => some (.ret r1)
 else
  some (.ex 4 (s2.1, s2.2))
def ref09_Of (l_ : (List Box)) : Option ((List Slab) × Int) :=
 (iterL (ref09_Of_L0 l_) (l_.length + 1) 0).bind fun f1 => match f1 with
  | .go _ => none
  | .ex _ _ =>
   if (decide (200 < (l_.length : Int))) then
    some (([] : List Slab), 6)
   else
    (iterL (ref09_Of_L1 l_) (l_.length + ([] : List Int).length + 1) (([] : List Int), 0)).bind fun f2 => match f2 with
     | .go _ => none
     | .ex _ s1 =>
      (iterL (ref09_Of_L2 l_ s1) (l_.length + s1.1.length + ([] : List Slab).length + 1) (([] : List Slab), 0)).bind fun f3 => match f3 with
       | .go _ => none
       | .ex _ s2 =>
        (ref09_end s2.1).bind fun x1 =>
        some (x1.1, x1.2)
       | .ret r1 => some r1
     | .ret r2 => some r2
  | .ret r3 => some r3
theorem ref09_Of_ok {k0 : K} {v0 : Value} {l_ : (List Box)} {r : (List Slab) × Int} (i0 : (IsV l_) v0 k0) (hr : ref09_Of l_ = some r) :
  Calls Try.prog 25 #[v0] k0.w (Ret k0 (IsTup2 (IsV r.1) (IsV r.2))) := by
 unfold ref09_Of at hr
 refine Ret.ofC ?_
 refine enterK Try.func25 rfl Try.ntmps25 (show 1 ≤ 110 by decide) fun a k hk0 hs hd ha => ?_
 obtain ⟨e0, _⟩ := ha
 replace i0 : (IsV l_) (a.get 0) k := by rw [e0, hk0]; exact i0
 have hQ : Gb.LetsOut (bodyPost Try.prog Try.f25 (RetC noF k0 (IsTup2 (IsV r.1) (IsV r.2)))) := letsOutC
 have hg : Chg noF k0 k := by rw [hk0]; exact Chg.refl _ k0
 refine stepL 2 (⟨some IsE0, []⟩ :: ⟨some (IsI 0), []⟩ :: []) rfl ⟨hg, hs, hd⟩ (by kernel_rfl) ⟨ob1 rfl fun b q h n => ok_assign rfl isE0_nil, aI rfl rfl, trivial⟩ [⟨_, _⟩] (fun b q p => ⟨p.ke 0 rfl i0, trivial⟩) ?_
 rintro a k ⟨⟨hg, hs, hd⟩, i0, _⟩
 refine wp_seq ?_
 refine stepL 1 (⟨some (IsI 0), []⟩ :: []) rfl ⟨hg, hs, hd⟩ (by kernel_rfl) ⟨aI rfl rfl, trivial⟩ [⟨_, _⟩, ⟨_, _⟩] (fun b q p => ⟨p.ke 0 rfl i0, p.ou 0 4 rfl, trivial⟩) ?_
 rintro a k ⟨⟨hg, hs, hd⟩, i0, i4, _⟩
 refine wp_block ?_
 obtain ⟨f1, hf1, hr⟩ := bind_some hr
 refine cutFe f1 (fun s' c l => Bs noF k0 110 c l ∧ IsV l_ (c.get 0) l ∧ IsV s' (c.get 4) l ∧ True) (fun i' s' c l => (i' = 0 ∧ Bs noF k0 110 c l ∧ IsV l_ (c.get 0) l ∧ True)) (fun r' c l => bodyPost Try.prog Try.f25 (RetC noF k0 (IsTup2 (IsV r'.1) (IsV r'.2))) .ret c l.w) ?_ hQ ?_ ?_ ?_
 ·intro Q1 W1 hgo hex hret
  refine sim_loop ?_ _ _ _ _ _ hf1 ⟨⟨hg, hs, hd⟩, i0, i4, trivial⟩ Q1 W1 hgo hex hret
  clear hr hf1 hgo hex hret W1 hQ hg hs hd i0 i4
  intro s1 fl_ a k hr hS Q hQ hgo640 hex641 hret642
  obtain ⟨⟨hg, hs, hd⟩, i0, i4, _⟩ := hS
  unfold ref09_Of_L0 at hr
  refine wp_seq ?_
  refine stepL 4 (_ :: _ :: _ :: _ :: []) rfl ⟨hg, hs, hd⟩ (by kernel_rfl) ⟨mu rfl i4, mu rfl i0, o1 [(14, some 1)] rfl fun _ _ h n => ok_len rfl rfl Try.underlying31 (IsV.rd n.1), o1 [(13, some 0), (15, some 2)] rfl fun _ _ h n => ok_lss rfl n.1 n.2.1, trivial⟩ [⟨_, _⟩, ⟨_, _⟩, ⟨_, _⟩] (fun b q p => ⟨p.ke 0 rfl i0, p.ke 4 rfl i4, p.ou 3 16 rfl, trivial⟩) ?_
  rintro a k ⟨⟨hg, hs, hd⟩, i0, i4, i16, _⟩
  refine wp_cond_split (isBool i16) (fun hc654 => ?_) (fun hc654 => ?_)
  ·rw [if_pos hc654] at hr
   refine wp_skip ?_
   refine wp_seq ?_
   refine wp_block ?_
   refine wp_seq ?_
   obtain ⟨x1, hx1, hr⟩ := bind_some hr
   obtain ⟨x2, hx2, hr⟩ := bind_some hr
   refine cut (fun a' k' => Bs noF k0 110 a' k' ∧ (IsV l_) (a'.get 0) k' ∧ (IsV s1) (a'.get 4) k' ∧ (IsV (!x2)) (a'.get 24) k' ∧ True) ?_ hQ ?_
   ·intro Q2 W2 w1
    refine gS 6 (_ :: _ :: _ :: _ :: _ :: _ :: []) hs (by kernel_rfl) ⟨mu rfl i0, mu rfl i4, o1 [(19, some 0), (20, some 1)] rfl fun _ _ h n => ok_indexAddr rfl Try.underlying31 ty37 (IsV.rd n.1) n.2.1 hx1, o1 [(21, some 2)] rfl fun _ _ h n => ok_load rfl ty37 n.1, o1 [(22, some 3)] rfl fun _ _ h n => ok_call rfl Try.call22 (ref09_RightBox_ok n.1 hx2), o1 [(23, some 4)] rfl fun _ _ h n => ok_not rfl n.1, trivial⟩ W2 fun b q p => ?_
    exact tail_done (k := q) (w1 _ _ ⟨Bs.post ⟨hg, hs, hd⟩ p, p.ke 0 rfl i0, p.ke 4 rfl i4, p.ou 5 24 rfl, trivial⟩)
   rintro a k ⟨⟨hg, hs, hd⟩, i0, i4, i24, _⟩
   refine wp_cond_split (isBool i24) (fun hc651 => ?_) (fun hc651 => ?_)
   ·rw [if_pos hc651] at hr
    refine cutL noF k0 110 [⟨2, IsV ([] : List Slab)⟩, ⟨3, IsI 1⟩] ?_ ?_
    ·intro Q3 W3 w2
     refine gS 2 (⟨some IsE0, []⟩ :: ⟨some (IsI 1), []⟩ :: []) hs (by kernel_rfl) ⟨ob1 rfl fun b q h n => ok_assign rfl isE0_nil, aI rfl rfl, trivial⟩ W3 fun b q p => ?_
     have hgq := hg.then p.grow
     have hsb := p.size.trans hs
     have hdb := p.defers.trans hd
     have j2 : IsE0 (b.get 2) q := p.ou 0 2 rfl
     have j3 : (IsI 1) (b.get 3) q := p.ou 1 3 rfl
     replace j2 : IsV ([] : List Slab) (b.get 2) q := j2.isV
     exact tail_done (k := q) (w2 _ _ ⟨⟨hgq, hsb, hdb⟩, j2, j3, trivial⟩)
    rintro a k ⟨⟨hg, hs, hd⟩, i2, i3, _⟩
    refine wp_ret ?_
    exact hret642 _ _ _ (Option.some.inj hr).symm (retC2 rfl hd hg i2 i3)
   rw [if_neg (by rw [hc651]; decide)] at hr
   refine wp_skip ?_
   obtain ⟨x3, hx3, hr⟩ := bind_some hr
   refine cut (fun a' k' => Bs noF k0 110 a' k' ∧ (IsV l_) (a'.get 0) k' ∧ (IsV x3) (a'.get 4) k' ∧ True) ?_ hQ ?_
   ·intro Q4 W4 w3
    refine gS 3 (_ :: _ :: _ :: []) hs (by kernel_rfl) ⟨mu rfl i4, o1 [(17, some 0)] rfl fun _ _ h n => ok_add rfl n.1 (cI rfl) hx3, cp 1 rfl rfl, trivial⟩ W4 fun b q p => ?_
    exact tail_done (k := q) (w3 _ _ ⟨Bs.post ⟨hg, hs, hd⟩ p, p.ke 0 rfl i0, p.ou 2 4 rfl, trivial⟩)
   rintro a k ⟨⟨hg, hs, hd⟩, i0, i4, _⟩
   exact hgo640 _ _ _ (Option.some.inj hr).symm ⟨⟨hg, hs, hd⟩, i0, i4, trivial⟩
  rw [if_neg (by rw [hc654]; decide)] at hr
  refine wp_exit ?_
  exact hex641 _ _ _ _ (Option.some.inj hr).symm ⟨rfl, ⟨hg, hs, hd⟩, i0, trivial⟩
 ·rintro r1 a k rfl hR
  dsimp only at hr
  obtain rfl := Option.some.inj hr
  exact hR
 ·rintro _ _ _ rfl _
  simp at hr
 clear hf1
 rintro _ s2 a k rfl ⟨rfl, ⟨hg, hs, hd⟩, i0, _⟩
 dsimp only at hr
 refine wp_seq ?_
 refine stepL 3 (_ :: _ :: _ :: []) rfl ⟨hg, hs, hd⟩ (by kernel_rfl) ⟨mu rfl i0, o1 [(25, some 0)] rfl fun _ _ h n => ok_len rfl rfl Try.underlying31 (IsV.rd n.1), o1 [(26, some 1)] rfl fun _ _ h n => ok_gtr rfl n.1 (cI rfl), trivial⟩ [⟨_, _⟩, ⟨_, _⟩] (fun b q p => ⟨p.ke 0 rfl i0, p.ou 2 27 rfl, trivial⟩) ?_
 rintro a k ⟨⟨hg, hs, hd⟩, i0, i27, _⟩
 refine wp_cond_split (isBool i27) (fun hc750 => ?_) (fun hc750 => ?_)
 ·rw [if_pos hc750] at hr
  refine cutL noF k0 110 [⟨2, IsV ([] : List Slab)⟩, ⟨3, IsI 6⟩] ?_ ?_
  ·intro Q5 W5 w4
   refine gS 2 (⟨some IsE0, []⟩ :: ⟨some (IsI 6), []⟩ :: []) hs (by kernel_rfl) ⟨ob1 rfl fun b q h n => ok_assign rfl isE0_nil, aI rfl rfl, trivial⟩ W5 fun b q p => ?_
   have hgq := hg.then p.grow
   have hsb := p.size.trans hs
   have hdb := p.defers.trans hd
   have j2 : IsE0 (b.get 2) q := p.ou 0 2 rfl
   have j3 : (IsI 6) (b.get 3) q := p.ou 1 3 rfl
   replace j2 : IsV ([] : List Slab) (b.get 2) q := j2.isV
   exact tail_done (k := q) (w4 _ _ ⟨⟨hgq, hsb, hdb⟩, j2, j3, trivial⟩)
  rintro a k ⟨⟨hg, hs, hd⟩, i2, i3, _⟩
  refine wp_ret ?_
  obtain rfl := Option.some.inj hr
  exact retC2 rfl hd hg i2 i3
 rw [if_neg (by rw [hc750]; decide)] at hr
 refine wp_skip ?_
 refine cutL noF k0 110 [⟨0, IsV l_⟩, ⟨5, IsV ([] : List Int)⟩] ?_ ?_
 ·intro Q6 W6 w5
  refine gS 1 (⟨some IsE0, []⟩ :: []) hs (by kernel_rfl) ⟨ob1 rfl fun b q h n => ok_assign rfl isE0_nil, trivial⟩ W6 fun b q p => ?_
  have hgq := hg.then p.grow
  have hsb := p.size.trans hs
  have hdb := p.defers.trans hd
  have j0 := p.ke 0 rfl i0
  have j5 : IsE0 (b.get 5) q := p.ou 0 5 rfl
  replace j5 : IsV ([] : List Int) (b.get 5) q := j5.isV
  exact tail_done (k := q) (w5 _ _ ⟨⟨hgq, hsb, hdb⟩, j0, j5, trivial⟩)
 rintro a k ⟨⟨hg, hs, hd⟩, i0, i5, _⟩
 refine wp_seq ?_
 refine stepL 1 (⟨some (IsI 0), []⟩ :: []) rfl ⟨hg, hs, hd⟩ (by kernel_rfl) ⟨aI rfl rfl, trivial⟩ [⟨_, _⟩, ⟨_, _⟩, ⟨_, _⟩] (fun b q p => ⟨p.ke 0 rfl i0, p.ke 5 rfl i5, p.ou 0 6 rfl, trivial⟩) ?_
 rintro a k ⟨⟨hg, hs, hd⟩, i0, i5, i6, _⟩
 refine wp_block ?_
 obtain ⟨f2, hf2, hr⟩ := bind_some hr
 refine cutFe f2 (fun s' c l => Bs noF k0 110 c l ∧ IsV l_ (c.get 0) l ∧ IsV s'.1 (c.get 5) l ∧ IsV s'.2 (c.get 6) l ∧ True) (fun i' s' c l => (i' = 2 ∧ Bs noF k0 110 c l ∧ IsV l_ (c.get 0) l ∧ IsV s'.1 (c.get 5) l ∧ True)) (fun r' c l => bodyPost Try.prog Try.f25 (RetC noF k0 (IsTup2 (IsV r'.1) (IsV r'.2))) .ret c l.w) ?_ hQ ?_ ?_ ?_
 ·intro Q7 W7 hgo hex hret
  refine sim_loop ?_ _ _ _ _ _ hf2 ⟨⟨hg, hs, hd⟩, i0, i5, i6, trivial⟩ Q7 W7 hgo hex hret
  clear hr hf2 hgo hex hret W7 hQ hg hs hd i0 i5 i6
  intro s3 fl_ a k hr hS Q hQ hgo666 hex667 hret668
  obtain ⟨⟨hg, hs, hd⟩, i0, i5, i6, _⟩ := hS
  unfold ref09_Of_L1 at hr
  refine wp_seq ?_
  refine stepL 4 (_ :: _ :: _ :: _ :: []) rfl ⟨hg, hs, hd⟩ (by kernel_rfl) ⟨mu rfl i6, mu rfl i0, o1 [(29, some 1)] rfl fun _ _ h n => ok_len rfl rfl Try.underlying31 (IsV.rd n.1), o1 [(28, some 0), (30, some 2)] rfl fun _ _ h n => ok_lss rfl n.1 n.2.1, trivial⟩ [⟨_, _⟩, ⟨_, _⟩, ⟨_, _⟩, ⟨_, _⟩] (fun b q p => ⟨p.ke 0 rfl i0, p.ke 5 rfl i5, p.ke 6 rfl i6, p.ou 3 31 rfl, trivial⟩) ?_
  rintro a k ⟨⟨hg, hs, hd⟩, i0, i5, i6, i31, _⟩
  refine wp_cond_split (isBool i31) (fun hc676 => ?_) (fun hc676 => ?_)
  ·rw [if_pos hc676] at hr
   refine wp_skip ?_
   refine wp_seq ?_
   refine wp_block ?_
   obtain ⟨x4, hx4, hr⟩ := bind_some hr
   obtain ⟨x5, hx5, hr⟩ := bind_some hr
   obtain ⟨x6, hx6, hr⟩ := bind_some hr
   obtain ⟨x7, hx7, hr⟩ := bind_some hr
   refine cut (fun a' k' => Bs noF k0 110 a' k' ∧ (IsV l_) (a'.get 0) k' ∧ (IsV x7) (a'.get 5) k' ∧ (IsV s3.2) (a'.get 6) k' ∧ True) ?_ hQ ?_
   ·intro Q8 W8 w6
    refine region (m := 14) (_ :: _ :: _ :: _ :: _ :: _ :: _ :: _ :: _ :: _ :: _ :: _ :: _ :: _ :: []) hmix hs (by kernel_rfl) ⟨mu rfl i5, mu rfl i0, mu rfl i6, o1 [(35, some 1), (36, some 2)] rfl fun _ _ h n => ok_indexAddr rfl Try.underlying31 ty37 (IsV.rd n.1) n.2.1 hx4, o1 [(37, some 3)] rfl fun _ _ h n => ok_fieldAddr rfl fo37_1 (at_Box_1 _) n.1, o1 [(38, some 4)] rfl fun _ _ h n => ok_load rfl ty3 n.1, o1 [(34, some 0), (39, some 5)] rfl fun _ _ h n => ok_call rfl Try.call42 (ref09_insert_ok n.1 n.2.1 hx5), mu rfl i0, mu rfl i6, o1 [(41, some 7), (42, some 8)] rfl fun _ _ h n => ok_indexAddr rfl Try.underlying31 ty37 (IsV.rd n.1) n.2.1 hx6, o1 [(43, some 9)] rfl fun _ _ h n => ok_fieldAddr rfl fo37_2 (at_Box_2 _) n.1, o1 [(44, some 10)] rfl fun _ _ h n => ok_load rfl ty3 n.1, o1 [(40, some 6), (45, some 11)] rfl fun _ _ h n => ok_call rfl Try.call42 (ref09_insert_ok n.1 n.2.1 hx7), cp 12 rfl rfl, trivial⟩ W8 fun b q p => ?_
    exact tail_done (k := q) (w6 _ _ ⟨Bs.post ⟨hg, hs, hd⟩ p, p.ke 0 rfl i0, p.ou 13 5 rfl, p.ke 6 rfl i6, trivial⟩)
   rintro a k ⟨⟨hg, hs, hd⟩, i0, i5, i6, _⟩
   obtain ⟨x8, hx8, hr⟩ := bind_some hr
   refine cut (fun a' k' => Bs noF k0 110 a' k' ∧ (IsV l_) (a'.get 0) k' ∧ (IsV x7) (a'.get 5) k' ∧ (IsV x8) (a'.get 6) k' ∧ True) ?_ hQ ?_
   ·intro Q9 W9 w7
    refine gS 3 (_ :: _ :: _ :: []) hs (by kernel_rfl) ⟨mu rfl i6, o1 [(32, some 0)] rfl fun _ _ h n => ok_add rfl n.1 (cI rfl) hx8, cp 1 rfl rfl, trivial⟩ W9 fun b q p => ?_
    exact tail_done (k := q) (w7 _ _ ⟨Bs.post ⟨hg, hs, hd⟩ p, p.ke 0 rfl i0, p.ke 5 rfl i5, p.ou 2 6 rfl, trivial⟩)
   rintro a k ⟨⟨hg, hs, hd⟩, i0, i5, i6, _⟩
   exact hgo666 _ _ _ (Option.some.inj hr).symm ⟨⟨hg, hs, hd⟩, i0, i5, i6, trivial⟩
  rw [if_neg (by rw [hc676]; decide)] at hr
  refine wp_exit ?_
  exact hex667 _ _ _ _ (Option.some.inj hr).symm ⟨rfl, ⟨hg, hs, hd⟩, i0, i5, trivial⟩
 ·rintro r2 a k rfl hR
  dsimp only at hr
  obtain rfl := Option.some.inj hr
  exact hR
 ·rintro _ _ _ rfl _
  simp at hr
 clear hf2
 rintro _ s4 a k rfl ⟨rfl, ⟨hg, hs, hd⟩, i0, i5, _⟩
 dsimp only at hr
 refine cutS (fun c l => Bs noF k0 110 c l ∧ IsV l_ (c.get 0) l ∧ IsV s4.1 (c.get 5) l ∧ IsOwn 0 51 ([] : List Slab) (c.get 7) l ∧ Lo k0 (obF (c.get 7)) ∧ True) ?_ ?_
 ·intro Q10 W10 w8
  refine gS 1 (⟨some IsE0, []⟩ :: []) hs (by kernel_rfl) ⟨ob1 rfl fun b q h n => ok_assign rfl isE0_nil, trivial⟩ W10 fun b q p => ?_
  have hgq := hg.then p.grow
  have hsb := p.size.trans hs
  have hdb := p.defers.trans hd
  have j0 := p.ke 0 rfl i0
  have j5 := p.ke 5 rfl i5
  have j7 : IsE0 (b.get 7) q := p.ou 0 7 rfl
  have y7 : Lo k0 (obF (b.get 7)) := j7.lo
  replace j7 : IsOwn 0 51 ([] : List Slab) (b.get 7) q := j7.own0
  exact tail_done (k := q) (w8 _ _ ⟨⟨hgq, hsb, hdb⟩, j0, j5, j7, y7, trivial⟩)
 rintro a k ⟨⟨hg, hs, hd⟩, i0, i5, i7, n7, _⟩
 refine wp_seq ?_
 refine cutS (fun c l => Bs noF k0 110 c l ∧ IsV l_ (c.get 0) l ∧ IsV s4.1 (c.get 5) l ∧ IsOwn 0 51 ([] : List Slab) (c.get 7) l ∧ Lo k0 (obF (c.get 7)) ∧ IsI 0 (c.get 8) l ∧ True) ?_ ?_
 ·intro Q11 W11 w9
  refine gS 1 (⟨some (IsI 0), []⟩ :: []) hs (by kernel_rfl) ⟨aI rfl rfl, trivial⟩ W11 fun b q p => ?_
  exact tail_done (k := q) (w9 _ _ ⟨Bs.post ⟨hg, hs, hd⟩ p, p.ke 0 rfl i0, p.ke 5 rfl i5, p.ke 7 rfl i7, (by rw [p.old 7 rfl]; exact n7), p.ou 0 8 rfl, trivial⟩)
 rintro a k ⟨⟨hg, hs, hd⟩, i0, i5, i7, n7, i8, _⟩
 refine wp_block ?_
 obtain ⟨f3, hf3, hr⟩ := bind_some hr
 refine cutFe f3 (fun s' c l => Bs noF k0 110 c l ∧ IsV l_ (c.get 0) l ∧ IsV s4.1 (c.get 5) l ∧ IsOwn 0 51 s'.1 (c.get 7) l ∧ Lo k0 (obF (c.get 7)) ∧ IsV s'.2 (c.get 8) l ∧ True) (fun i' s' c l => (i' = 4 ∧ Bs noF k0 110 c l ∧ IsV s'.1 (c.get 7) l ∧ True)) (fun r' c l => bodyPost Try.prog Try.f25 (RetC noF k0 (IsTup2 (IsV r'.1) (IsV r'.2))) .ret c l.w) ?_ hQ ?_ ?_ ?_
 ·intro Q12 W12 hgo hex hret
  refine sim_loop ?_ _ _ _ _ _ hf3 ⟨⟨hg, hs, hd⟩, i0, i5, i7, n7, i8, trivial⟩ Q12 W12 hgo hex hret
  clear hr hf3 hgo hex hret W12 hQ hg hs hd i0 i5 i7 i8 n7
  intro s5 fl_ a k hr hS Q hQ hgo684 hex685 hret686
  obtain ⟨⟨hg, hs, hd⟩, i0, i5, i7, n7, i8, _⟩ := hS
  unfold ref09_Of_L2 at hr
  refine wp_seq ?_
  refine wp_seq ?_
  obtain ⟨x9, hx9, hr⟩ := bind_some hr
  refine cut (fun a' k' => Bs noF k0 110 a' k' ∧ (IsV l_) (a'.get 0) k' ∧ (IsV s4.1) (a'.get 5) k' ∧ IsOwn 0 51 s5.1 (a'.get 7) k' ∧ Lo k0 (obF (a'.get 7)) ∧ (IsV s5.2) (a'.get 8) k' ∧ (IsV (decide (x9 < (s4.1.length : Int)))) (a'.get 51) k' ∧ True) ?_ hQ ?_
  ·intro Q13 W13 w10
   refine gS 5 (_ :: _ :: _ :: _ :: _ :: []) hs (by kernel_rfl) ⟨mu rfl i8, o1 [(47, some 0)] rfl fun _ _ h n => ok_add rfl n.1 (cI rfl) hx9, mu rfl i5, o1 [(49, some 2)] rfl fun _ _ h n => ok_len rfl rfl Try.underlying63 (IsV.rd n.1), o1 [(48, some 1), (50, some 3)] rfl fun _ _ h n => ok_lss rfl n.1 n.2.1, trivial⟩ W13 fun b q p => ?_
   exact tail_done (k := q) (w10 _ _ ⟨Bs.post ⟨hg, hs, hd⟩ p, p.ke 0 rfl i0, p.ke 5 rfl i5, p.ke 7 rfl i7, (by rw [p.old 7 rfl]; exact n7), p.ke 8 rfl i8, p.ou 4 51 rfl, trivial⟩)
  rintro a k ⟨⟨hg, hs, hd⟩, i0, i5, i7, n7, i8, i51, _⟩
  refine wp_cond_split (isBool i51) (fun hc727 => ?_) (fun hc727 => ?_)
  ·rw [if_pos hc727] at hr
   refine wp_skip ?_
   refine wp_seq ?_
   refine wp_block ?_
   refine cutS (fun c l => Bs noF k0 110 c l ∧ IsV l_ (c.get 0) l ∧ IsV s4.1 (c.get 5) l ∧ IsOwn 0 51 s5.1 (c.get 7) l ∧ Lo k0 (obF (c.get 7)) ∧ IsV s5.2 (c.get 8) l ∧ IsOwn 0 35 ([] : List Rect) (c.get 9) l ∧ Lo k0 (obF (c.get 9)) ∧ Apart (obF (c.get 7)) (obF (c.get 9)) ∧ True) ?_ ?_
   ·intro Q14 W14 w11
    refine gS 1 (⟨some IsE0, []⟩ :: []) hs (by kernel_rfl) ⟨ob1 rfl fun b q h n => ok_assign rfl isE0_nil, trivial⟩ W14 fun b q p => ?_
    have hgq := hg.then p.grow
    have hsb := p.size.trans hs
    have hdb := p.defers.trans hd
    have j0 := p.ke 0 rfl i0
    have j5 := p.ke 5 rfl i5
    have j7 := p.ke 7 rfl i7
    have y7 : Lo k0 (obF (b.get 7)) := by rw [p.old 7 rfl]; exact n7
    have j8 := p.ke 8 rfl i8
    have j9 : IsE0 (b.get 9) q := p.ou 0 9 rfl
    have y9 : Lo k0 (obF (b.get 9)) := j9.lo
    have w7_9 : Apart (obF (b.get 7)) (obF (b.get 9)) := j9.apart.symm
    replace j9 : IsOwn 0 35 ([] : List Rect) (b.get 9) q := j9.own0
    exact tail_done (k := q) (w11 _ _ ⟨⟨hgq, hsb, hdb⟩, j0, j5, j7, y7, j8, j9, y9, w7_9, trivial⟩)
   rintro a k ⟨⟨hg, hs, hd⟩, i0, i5, i7, n7, i8, i9, n9, d7_9, _⟩
   refine wp_seq ?_
   refine cutS (fun c l => Bs noF k0 110 c l ∧ IsV l_ (c.get 0) l ∧ IsV s4.1 (c.get 5) l ∧ IsOwn 0 51 s5.1 (c.get 7) l ∧ Lo k0 (obF (c.get 7)) ∧ IsV s5.2 (c.get 8) l ∧ IsOwn 0 35 ([] : List Rect) (c.get 9) l ∧ Lo k0 (obF (c.get 9)) ∧ IsI 0 (c.get 10) l ∧ Apart (obF (c.get 7)) (obF (c.get 9)) ∧ True) ?_ ?_
   ·intro Q15 W15 w12
    refine gS 1 (⟨some (IsI 0), []⟩ :: []) hs (by kernel_rfl) ⟨aI rfl rfl, trivial⟩ W15 fun b q p => ?_
    exact tail_done (k := q) (w12 _ _ ⟨Bs.post ⟨hg, hs, hd⟩ p, p.ke 0 rfl i0, p.ke 5 rfl i5, p.ke 7 rfl i7, (by rw [p.old 7 rfl]; exact n7), p.ke 8 rfl i8, p.ke 9 rfl i9, (by rw [p.old 9 rfl]; exact n9), p.ou 0 10 rfl, (by rw [p.old 7 rfl, p.old 9 rfl]; exact d7_9), trivial⟩)
   rintro a k ⟨⟨hg, hs, hd⟩, i0, i5, i7, n7, i8, i9, n9, i10, d7_9, _⟩
   refine wp_block ?_
   obtain ⟨f4, hf4, hr⟩ := bind_some hr
   refine cutFe f4 (fun s' c l => Bs noF k0 110 c l ∧ IsV l_ (c.get 0) l ∧ IsV s4.1 (c.get 5) l ∧ IsOwn 0 51 s5.1 (c.get 7) l ∧ Lo k0 (obF (c.get 7)) ∧ IsV s5.2 (c.get 8) l ∧ IsOwn 0 35 s'.1 (c.get 9) l ∧ Lo k0 (obF (c.get 9)) ∧ IsV s'.2 (c.get 10) l ∧ Apart (obF (c.get 7)) (obF (c.get 9)) ∧ True) (fun i' s' c l => (i' = 6 ∧ Bs noF k0 110 c l ∧ IsV l_ (c.get 0) l ∧ IsV s4.1 (c.get 5) l ∧ IsOwn 0 51 s5.1 (c.get 7) l ∧ Lo k0 (obF (c.get 7)) ∧ IsV s5.2 (c.get 8) l ∧ IsV s'.1 (c.get 9) l ∧ True)) (fun r' c l => bodyPost Try.prog Try.f25 (RetC noF k0 (IsTup2 (IsV r'.1) (IsV r'.2))) .ret c l.w) ?_ hQ ?_ ?_ ?_
   ·intro Q16 W16 hgo hex hret
    refine sim_loop ?_ _ _ _ _ _ hf4 ⟨⟨hg, hs, hd⟩, i0, i5, i7, n7, i8, i9, n9, i10, d7_9, trivial⟩ Q16 W16 hgo hex hret
    clear hr hf4 hgo hex hret W16 hQ hg hs hd d7_9 i0 i10 i5 i7 i8 i9 n7 n9
    intro s6 fl_ a k hr hS Q hQ hgo691 hex692 hret693
    obtain ⟨⟨hg, hs, hd⟩, i0, i5, i7, n7, i8, i9, n9, i10, d7_9, _⟩ := hS
    unfold ref09_Of_L3 at hr
    refine wp_seq ?_
    refine cutS (fun c l => Bs noF k0 110 c l ∧ IsV l_ (c.get 0) l ∧ IsV s4.1 (c.get 5) l ∧ IsOwn 0 51 s5.1 (c.get 7) l ∧ Lo k0 (obF (c.get 7)) ∧ IsV s5.2 (c.get 8) l ∧ IsOwn 0 35 s6.1 (c.get 9) l ∧ Lo k0 (obF (c.get 9)) ∧ IsV s6.2 (c.get 10) l ∧ (IsV (decide (s6.2 < (l_.length : Int)))) (c.get 57) l ∧ Apart (obF (c.get 7)) (obF (c.get 9)) ∧ True) ?_ ?_
    ·intro Q17 W17 w13
     refine gS 4 (_ :: _ :: _ :: _ :: []) hs (by kernel_rfl) ⟨mu rfl i10, mu rfl i0, o1 [(55, some 1)] rfl fun _ _ h n => ok_len rfl rfl Try.underlying31 (IsV.rd n.1), o1 [(54, some 0), (56, some 2)] rfl fun _ _ h n => ok_lss rfl n.1 n.2.1, trivial⟩ W17 fun b q p => ?_
     exact tail_done (k := q) (w13 _ _ ⟨Bs.post ⟨hg, hs, hd⟩ p, p.ke 0 rfl i0, p.ke 5 rfl i5, p.ke 7 rfl i7, (by rw [p.old 7 rfl]; exact n7), p.ke 8 rfl i8, p.ke 9 rfl i9, (by rw [p.old 9 rfl]; exact n9), p.ke 10 rfl i10, p.ou 3 57 rfl, (by rw [p.old 7 rfl, p.old 9 rfl]; exact d7_9), trivial⟩)
    rintro a k ⟨⟨hg, hs, hd⟩, i0, i5, i7, n7, i8, i9, n9, i10, i57, d7_9, _⟩
    refine wp_cond_split (isBool i57) (fun hc709 => ?_) (fun hc709 => ?_)
    ·rw [if_pos hc709] at hr
     refine wp_skip ?_
     refine wp_seq ?_
     refine wp_block ?_
     refine wp_seq ?_
     obtain ⟨x10, hx10, hr⟩ := bind_some hr
     obtain ⟨x11, hx11, hr⟩ := bind_some hr
     obtain ⟨x12, hx12, hr⟩ := bind_some hr
     obtain ⟨x13, hx13, hx12⟩ := ite_bind hx12
     obtain ⟨x14, hx14, hx12⟩ := ite_bind hx12
     refine cut (fun a' k' => Bs noF k0 110 a' k' ∧ (IsV l_) (a'.get 0) k' ∧ (IsV s4.1) (a'.get 5) k' ∧ IsOwn 0 51 s5.1 (a'.get 7) k' ∧ Lo k0 (obF (a'.get 7)) ∧ (IsV s5.2) (a'.get 8) k' ∧ IsOwn 0 35 s6.1 (a'.get 9) k' ∧ Lo k0 (obF (a'.get 9)) ∧ (IsV s6.2) (a'.get 10) k' ∧ (IsV x12) (a'.get 81) k' ∧ Apart (obF (a'.get 7)) (obF (a'.get 9)) ∧ True) ?_ hQ ?_
     ·intro Q18 W18 w14
      refine region (m := 22) (_ :: _ :: _ :: _ :: _ :: _ :: _ :: _ :: _ :: _ :: _ :: _ :: _ :: _ :: _ :: _ :: _ :: _ :: _ :: _ :: _ :: _ :: []) hmix hs (by kernel_rfl) ⟨mu rfl i0, mu rfl i10, o1 [(60, some 0), (61, some 1)] rfl fun _ _ h n => ok_indexAddr rfl Try.underlying31 ty37 (IsV.rd n.1) n.2.1 hx10, o1 [(62, some 2)] rfl fun _ _ h n => ok_fieldAddr rfl fo37_1 (at_Box_1 _) n.1, o1 [(63, some 3)] rfl fun _ _ h n => ok_load rfl ty3 n.1, mu rfl i5, mu rfl i8, o1 [(65, some 5), (66, some 6)] rfl fun _ _ h n => ok_indexAddr rfl Try.underlying63 ty3 (IsV.rd n.1) n.2.1 hx11, o1 [(67, some 7)] rfl fun _ _ h n => ok_load rfl ty3 n.1, o1 [(64, some 4), (68, some 8)] rfl fun _ _ h n => ok_leq rfl n.1 n.2.1, cm 9 rfl rfl, mT rfl rfl i5, mT rfl rfl i8, gT [(71, some 11), (72, some 12)] rfl rfl fun hp _ _ h n => ok_indexAddr rfl Try.underlying63 ty3 (IsV.rd (Gd.get n.1 hp)) (Gd.get n.2.1 hp) (hx13 hp), gT [(73, some 13)] rfl rfl fun hp _ _ h n => ok_load rfl ty3 (Gd.get n.1 hp), mT rfl rfl i0, mT rfl rfl i10, gT [(75, some 15), (76, some 16)] rfl rfl fun hp _ _ h n => ok_indexAddr rfl Try.underlying31 ty37 (IsV.rd (Gd.get n.1 hp)) (Gd.get n.2.1 hp) (hx14 hp), gT [(77, some 17)] rfl rfl fun hp _ _ h n => ok_fieldAddr rfl fo37_2 (at_Box_2 _) (Gd.get n.1 hp), gT [(78, some 18)] rfl rfl fun hp _ _ h n => ok_load rfl ty3 (Gd.get n.1 hp), gT [(74, some 14), (79, some 19)] rfl rfl fun hp _ _ h n => ok_lss rfl (Gd.get n.1 hp) (Gd.get n.2.1 hp), o1 [(70, some 10), (80, some 20)] rfl fun _ _ h n => ok_pickM rfl n.1 hx12 (Gd.get n.2.1) (cB rfl), trivial⟩ W18 fun b q p => ?_
      exact tail_done (k := q) (w14 _ _ ⟨Bs.post ⟨hg, hs, hd⟩ p, p.ke 0 rfl i0, p.ke 5 rfl i5, p.ke 7 rfl i7, (by rw [p.old 7 rfl]; exact n7), p.ke 8 rfl i8, p.ke 9 rfl i9, (by rw [p.old 9 rfl]; exact n9), p.ke 10 rfl i10, p.ou 21 81 rfl, (by rw [p.old 7 rfl, p.old 9 rfl]; exact d7_9), trivial⟩)
     rintro a k ⟨⟨hg, hs, hd⟩, i0, i5, i7, n7, i8, i9, n9, i10, i81, d7_9, _⟩
     obtain ⟨s7, hs7, hr⟩ := bind_some hr
     refine cut (fun a' k' => Bs noF k0 110 a' k' ∧ (IsV l_) (a'.get 0) k' ∧ (IsV s4.1) (a'.get 5) k' ∧ IsOwn 0 51 s5.1 (a'.get 7) k' ∧ Lo k0 (obF (a'.get 7)) ∧ (IsV s5.2) (a'.get 8) k' ∧ IsOwn 0 35 s7 (a'.get 9) k' ∧ Lo k0 (obF (a'.get 9)) ∧ (IsV s6.2) (a'.get 10) k' ∧ Apart (obF (a'.get 7)) (obF (a'.get 9)) ∧ True) ?_ hQ ?_
     ·intro Q19 W19 w15
      replace hr := hs7
      clear hQ
      have hQ := W19
      refine wp_cond_split (isBool i81) (fun hc701 => ?_) (fun hc701 => ?_)
      ·rw [if_pos hc701] at hr
       obtain ⟨x15, hx15, hr⟩ := bind_some hr
       obtain ⟨x16, hx16, hr⟩ := bind_some hr
       refine cut (fun a' k' => Bs noF k0 110 a' k' ∧ (IsV l_) (a'.get 0) k' ∧ (IsV s4.1) (a'.get 5) k' ∧ IsOwn 0 51 s5.1 (a'.get 7) k' ∧ Lo k0 (obF (a'.get 7)) ∧ (IsV s5.2) (a'.get 8) k' ∧ IsOwn 0 35 x16 (a'.get 9) k' ∧ Lo k0 (obF (a'.get 9)) ∧ (IsV s6.2) (a'.get 10) k' ∧ Apart (obF (a'.get 7)) (obF (a'.get 9)) ∧ True) ?_ hQ ?_
       ·intro Q20 W20 w16
        refine gS 7 (⟨some (OwnAt (a.get 9) 0 35 s6.1), [(9, none)]⟩ :: _ :: _ :: _ :: _ :: _ :: ⟨some (IsV (α := (List Rect)) ([x15.Base])), [(87, some 5)]⟩ :: []) hs (by kernel_rfl) ⟨ob1 rfl fun _ _ h n => ok_moveOA (.inl rfl) (ownAt n.1 (up i9 h n.1)), mu rfl i0, mu rfl i10, o1 [(83, some 1), (84, some 2)] rfl fun _ _ h n => ok_indexAddr rfl Try.underlying31 ty37 (IsV.rd n.1) n.2.1 hx15, o1 [(85, some 3)] rfl fun _ _ h n => ok_fieldAddr rfl fo37_0 (at_Box_0 _) n.1, o1 [(86, some 4)] rfl fun _ _ h n => ok_load rfl ty35 n.1, ob1 rfl fun _ _ h n => ok_buildSlice rfl Try.underlying49 eo35 rfl (by decide) (by decide) ⟨rfl, n.1, trivial⟩, trivial⟩ W20 fun b q p => ?_
        have hgq := hg.then p.grow
        have hsb := p.size.trans hs
        have hdb := p.defers.trans hd
        have j0 := p.ke 0 rfl i0
        have j5 := p.ke 5 rfl i5
        have j7 := p.ke 7 rfl i7
        have y7 : Lo k0 (obF (b.get 7)) := by rw [p.old 7 rfl]; exact n7
        have j8 := p.ke 8 rfl i8
        have j10 := p.ke 10 rfl i10
        have e82 : b.get 82 = a.get 9 := (p.ou 0 82 rfl).1
        have j82 : IsOwn 0 35 s6.1 (b.get 82) q := (p.ou 0 82 rfl).2
        have y82 : Lo k0 (obF (b.get 82)) := by rw [e82]; exact n9
        have j88 : (IsV (α := (List Rect)) ([x15.Base])) (b.get 88) q := p.ou 6 88 rfl
        have w7_82 : Apart (obF (b.get 7)) (obF (b.get 82)) := by rw [p.old 7 rfl, e82]; exact d7_9
        have hns := j82.nshF
        refine tail_appendS (i := 7) (d := 89) rfl rfl rfl rfl (by rw [hsb]; decide) (e := 35) Try.underlying49 eo35 j82 (IsV.rd j88) hx16 fun b2 q2 hsz hdf hoth hch hown hob => ?_
        have hle := hch.le hns
        have yn : Lo k0 (obF (b2.get 89)) := y82.app hgq hob
        have v7 : Apart (obF (b.get 7)) (obF (b2.get 89)) := Apart.app w7_82 j7.ltF hob
        replace j0 := Pers.pers hle j0
        replace j5 := Pers.pers hle j5
        replace j7 := j7.keep hch w7_82 hns
        replace j8 := Pers.pers hle j8
        replace j10 := Pers.pers hle j10
        replace j88 := Pers.pers hle j88
        replace hgq := hgq.step hch y82.wr
        rw [← hoth 0 (by decide)] at j0
        rw [← hoth 5 (by decide)] at j5
        rw [← hoth 7 (by decide)] at j7
        rw [← hoth 7 (by decide)] at y7
        rw [← hoth 8 (by decide)] at j8
        rw [← hoth 10 (by decide)] at j10
        rw [← hoth 88 (by decide)] at j88
        rw [← hoth 7 (by decide)] at v7
        have w7_89 := v7
        have j89 := hown
        have y89 := yn
        replace hsb := hsz.trans hsb
        replace hdb := hdf.trans hdb
        clear hle hch hown hob hns yn hsz hdf hoth
        obtain ⟨b, hbb⟩ : ∃ b, b = b2 := ⟨b2, rfl⟩
        subst hbb
        obtain ⟨q, hqq⟩ : ∃ q, q = q2 := ⟨q2, rfl⟩
        subst hqq
        refine tail_assign (i := 8) (d := 9) rfl rfl (.inl rfl) rfl (by rw [hsb]; decide) fun b2 hsz hdf hnew hoth => ?_
        have jn : (IsOwn 0 35 x16) (b2.get 9) q := by rw [hnew]; exact j89
        have yn : Lo k0 (obF (b2.get 9)) := by rw [hnew]; exact y89
        have v7 : Apart (obF (b.get 7)) (obF (b2.get 9)) := by rw [hnew]; exact w7_89
        rw [← hoth 0 (by decide)] at j0
        rw [← hoth 5 (by decide)] at j5
        rw [← hoth 7 (by decide)] at j7
        rw [← hoth 7 (by decide)] at y7
        rw [← hoth 8 (by decide)] at j8
        rw [← hoth 10 (by decide)] at j10
        rw [← hoth 88 (by decide)] at j88
        rw [← hoth 7 (by decide)] at v7
        have w7_9 := v7
        have j9 := jn
        have y9 := yn
        replace hsb := hsz.trans hsb
        replace hdb := hdf.trans hdb
        clear hsz hdf hoth
        obtain ⟨b, hbb⟩ : ∃ b, b = b2 := ⟨b2, rfl⟩
        subst hbb
        exact tail_done (k := q) (w16 _ _ ⟨⟨hgq, hsb, hdb⟩, j0, j5, j7, y7, j8, j9, y9, j10, w7_9, trivial⟩)
       rintro a k ⟨⟨hg, hs, hd⟩, i0, i5, i7, n7, i8, i9, n9, i10, d7_9, _⟩
       obtain rfl := Option.some.inj hr
       exact w15 _ _ ⟨⟨hg, hs, hd⟩, i0, i5, i7, n7, i8, i9, n9, i10, d7_9, trivial⟩
      rw [if_neg (by rw [hc701]; decide)] at hr
      refine wp_skip ?_
      obtain rfl := Option.some.inj hr
      exact w15 _ _ ⟨⟨hg, hs, hd⟩, i0, i5, i7, n7, i8, i9, n9, i10, d7_9, trivial⟩
     clear hs7
     rintro a k ⟨⟨hg, hs, hd⟩, i0, i5, i7, n7, i8, i9, n9, i10, d7_9, _⟩
     obtain ⟨x17, hx17, hr⟩ := bind_some hr
     refine cut (fun a' k' => Bs noF k0 110 a' k' ∧ (IsV l_) (a'.get 0) k' ∧ (IsV s4.1) (a'.get 5) k' ∧ IsOwn 0 51 s5.1 (a'.get 7) k' ∧ Lo k0 (obF (a'.get 7)) ∧ (IsV s5.2) (a'.get 8) k' ∧ IsOwn 0 35 s7 (a'.get 9) k' ∧ Lo k0 (obF (a'.get 9)) ∧ (IsV x17) (a'.get 10) k' ∧ Apart (obF (a'.get 7)) (obF (a'.get 9)) ∧ True) ?_ hQ ?_
     ·intro Q21 W21 w17
      refine gS 3 (_ :: _ :: _ :: []) hs (by kernel_rfl) ⟨mu rfl i10, o1 [(58, some 0)] rfl fun _ _ h n => ok_add rfl n.1 (cI rfl) hx17, cp 1 rfl rfl, trivial⟩ W21 fun b q p => ?_
      exact tail_done (k := q) (w17 _ _ ⟨Bs.post ⟨hg, hs, hd⟩ p, p.ke 0 rfl i0, p.ke 5 rfl i5, p.ke 7 rfl i7, (by rw [p.old 7 rfl]; exact n7), p.ke 8 rfl i8, p.ke 9 rfl i9, (by rw [p.old 9 rfl]; exact n9), p.ou 2 10 rfl, (by rw [p.old 7 rfl, p.old 9 rfl]; exact d7_9), trivial⟩)
     rintro a k ⟨⟨hg, hs, hd⟩, i0, i5, i7, n7, i8, i9, n9, i10, d7_9, _⟩
     exact hgo691 _ _ _ (Option.some.inj hr).symm ⟨⟨hg, hs, hd⟩, i0, i5, i7, n7, i8, i9, n9, i10, d7_9, trivial⟩
    rw [if_neg (by rw [hc709]; decide)] at hr
    refine wp_exit ?_
    obtain ⟨kk, sh708, ii9⟩ := i9.give
    replace i0 := Pers.pers sh708.le i0
    replace i5 := Pers.pers sh708.le i5
    replace i7 := i7.handed sh708 d7_9
    replace i8 := Pers.pers sh708.le i8
    replace i9 := ii9
    replace hg := hg.hand sh708 n9.wr
    rw [← sh708.w]
    clear sh708
    obtain ⟨k, hkk⟩ : ∃ k, k = kk := ⟨kk, rfl⟩
    subst hkk
    exact hex692 _ _ _ _ (Option.some.inj hr).symm ⟨rfl, ⟨hg, hs, hd⟩, i0, i5, i7, n7, i8, i9, trivial⟩
   ·rintro r3 a k rfl hR
    dsimp only at hr
    exact hret686 _ _ _ (Option.some.inj hr).symm hR
   ·rintro _ _ _ rfl _
    simp at hr
   clear hf4
   rintro _ s8 a k rfl ⟨rfl, ⟨hg, hs, hd⟩, i0, i5, i7, n7, i8, i9, _⟩
   dsimp only at hr
   obtain ⟨x18, hx18, hr⟩ := bind_some hr
   obtain ⟨x19, hx19, hr⟩ := bind_some hr
   obtain ⟨x20, hx20, hr⟩ := bind_some hr
   obtain ⟨x21, hx21, hr⟩ := bind_some hr
   obtain ⟨x22, hx22, hr⟩ := bind_some hr
   refine cut (fun a' k' => Bs noF k0 110 a' k' ∧ (IsV l_) (a'.get 0) k' ∧ (IsV s4.1) (a'.get 5) k' ∧ IsOwn 0 51 x22 (a'.get 7) k' ∧ Lo k0 (obF (a'.get 7)) ∧ (IsV s5.2) (a'.get 8) k' ∧ True) ?_ hQ ?_
   ·intro Q22 W22 w18
    refine region (m := 12) (⟨some (OwnAt (a.get 7) 0 51 s5.1), [(7, none)]⟩ :: _ :: _ :: _ :: _ :: _ :: _ :: _ :: _ :: _ :: _ :: _ :: []) hmix hs (by kernel_rfl) ⟨ob1 rfl fun _ _ h n => ok_moveOA (.inl rfl) (ownAt n.1 (up i7 h n.1)), mu rfl i5, mu rfl i8, o1 [(91, some 1), (92, some 2)] rfl fun _ _ h n => ok_indexAddr rfl Try.underlying63 ty3 (IsV.rd n.1) n.2.1 hx18, o1 [(93, some 3)] rfl fun _ _ h n => ok_load rfl ty3 n.1, mu rfl i5, mu rfl i8, o1 [(96, some 6)] rfl fun _ _ h n => ok_add rfl n.1 (cI rfl) hx19, o1 [(95, some 5), (97, some 7)] rfl fun _ _ h n => ok_indexAddr rfl Try.underlying63 ty3 (IsV.rd n.1) n.2.1 hx20, o1 [(98, some 8)] rfl fun _ _ h n => ok_load rfl ty3 n.1, mu rfl i9, o1 [(100, some 10)] rfl fun _ _ h n => ok_call rfl Try.call44 (ref06_Form_ok n.1 (isV_list.2 (.inl ⟨rfl, rfl⟩)) (cI rfl) hx21), trivial⟩ W22 fun b q p => ?_
    have hgq := hg.then p.grow
    have hsb := p.size.trans hs
    have hdb := p.defers.trans hd
    have j0 := p.ke 0 rfl i0
    have j5 := p.ke 5 rfl i5
    have j8 := p.ke 8 rfl i8
    have e90 : b.get 90 = a.get 7 := (p.ou 0 90 rfl).1
    have j90 : IsOwn 0 51 s5.1 (b.get 90) q := (p.ou 0 90 rfl).2
    have y90 : Lo k0 (obF (b.get 90)) := by rw [e90]; exact n7
    have j94 : (IsV x18) (b.get 94) q := p.ou 4 94 rfl
    have j99 : (IsV x20) (b.get 99) q := p.ou 9 99 rfl
    have j101 : (IsV x21) (b.get 101) q := p.ou 11 101 rfl
    have hns := j90.nshF
    refine tail_call (F := obF (b.get 90)) (i := 12) (d := 102) rfl rfl rfl rfl (by rw [hsb]; decide) Try.call43 W22 (ref09_add_ok j90 j94 j99 j101 hx22) fun b2 q2 hsz hdf hoth hch hres => ?_
    have hle := hch.le hns
    obtain ⟨hown, hob⟩ := hres
    have yn : Lo k0 (obF (b2.get 102)) := y90.app hgq hob
    replace j0 := Pers.pers hle j0
    replace j5 := Pers.pers hle j5
    replace j8 := Pers.pers hle j8
    replace j94 := Pers.pers hle j94
    replace j99 := Pers.pers hle j99
    replace j101 := Pers.pers hle j101
    replace hgq := hgq.step hch y90.wr
    rw [← hoth 0 (by decide)] at j0
    rw [← hoth 5 (by decide)] at j5
    rw [← hoth 8 (by decide)] at j8
    rw [← hoth 94 (by decide)] at j94
    rw [← hoth 99 (by decide)] at j99
    rw [← hoth 101 (by decide)] at j101
    have j102 := hown
    have y102 := yn
    have hres := True.intro
    clear hown hob yn
    replace hsb := hsz.trans hsb
    replace hdb := hdf.trans hdb
    clear hle hch hres hns hsz hdf hoth
    obtain ⟨b, hbb⟩ : ∃ b, b = b2 := ⟨b2, rfl⟩
    subst hbb
    obtain ⟨q, hqq⟩ : ∃ q, q = q2 := ⟨q2, rfl⟩
    subst hqq
    refine tail_assign (i := 13) (d := 7) rfl rfl (.inl rfl) rfl (by rw [hsb]; decide) fun b2 hsz hdf hnew hoth => ?_
    have jn : (IsOwn 0 51 x22) (b2.get 7) q := by rw [hnew]; exact j102
    have yn : Lo k0 (obF (b2.get 7)) := by rw [hnew]; exact y102
    rw [← hoth 0 (by decide)] at j0
    rw [← hoth 5 (by decide)] at j5
    rw [← hoth 8 (by decide)] at j8
    rw [← hoth 94 (by decide)] at j94
    rw [← hoth 99 (by decide)] at j99
    rw [← hoth 101 (by decide)] at j101
    have j7 := jn
    have y7 := yn
    replace hsb := hsz.trans hsb
    replace hdb := hdf.trans hdb
    clear hsz hdf hoth
    obtain ⟨b, hbb⟩ : ∃ b, b = b2 := ⟨b2, rfl⟩
    subst hbb
    exact tail_done (k := q) (w18 _ _ ⟨⟨hgq, hsb, hdb⟩, j0, j5, j7, y7, j8, trivial⟩)
   rintro a k ⟨⟨hg, hs, hd⟩, i0, i5, i7, n7, i8, _⟩
   obtain ⟨x23, hx23, hr⟩ := bind_some hr
   refine cut (fun a' k' => Bs noF k0 110 a' k' ∧ (IsV l_) (a'.get 0) k' ∧ (IsV s4.1) (a'.get 5) k' ∧ IsOwn 0 51 x22 (a'.get 7) k' ∧ Lo k0 (obF (a'.get 7)) ∧ (IsV x23) (a'.get 8) k' ∧ True) ?_ hQ ?_
   ·intro Q23 W23 w19
    refine gS 3 (_ :: _ :: _ :: []) hs (by kernel_rfl) ⟨mu rfl i8, o1 [(52, some 0)] rfl fun _ _ h n => ok_add rfl n.1 (cI rfl) hx23, cp 1 rfl rfl, trivial⟩ W23 fun b q p => ?_
    exact tail_done (k := q) (w19 _ _ ⟨Bs.post ⟨hg, hs, hd⟩ p, p.ke 0 rfl i0, p.ke 5 rfl i5, p.ke 7 rfl i7, (by rw [p.old 7 rfl]; exact n7), p.ou 2 8 rfl, trivial⟩)
   rintro a k ⟨⟨hg, hs, hd⟩, i0, i5, i7, n7, i8, _⟩
   exact hgo684 _ _ _ (Option.some.inj hr).symm ⟨⟨hg, hs, hd⟩, i0, i5, i7, n7, i8, trivial⟩
  rw [if_neg (by rw [hc727]; decide)] at hr
  refine wp_exit ?_
  obtain ⟨kk, sh726, ii7⟩ := i7.give
  replace i7 := ii7
  replace hg := hg.hand sh726 n7.wr
  rw [← sh726.w]
  clear sh726
  obtain ⟨k, hkk⟩ : ∃ k, k = kk := ⟨kk, rfl⟩
  subst hkk
  exact hex685 _ _ _ _ (Option.some.inj hr).symm ⟨rfl, ⟨hg, hs, hd⟩, i7, trivial⟩
 ·rintro r4 a k rfl hR
  dsimp only at hr
  obtain rfl := Option.some.inj hr
  exact hR
 ·rintro _ _ _ rfl _
  simp at hr
 clear hf3
 rintro _ s9 a k rfl ⟨rfl, ⟨hg, hs, hd⟩, i7, _⟩
 dsimp only at hr
 refine wp_seq ?_
 obtain ⟨x24, hx24, hr⟩ := bind_some hr
 refine cut (fun a' k' => Bs noF k0 110 a' k' ∧ (IsV x24.1) (a'.get 11) k' ∧ (IsV x24.2) (a'.get 12) k' ∧ True) ?_ hQ ?_
 ·intro Q24 W24 w20
  refine gS 7 (_ :: _ :: _ :: _ :: _ :: _ :: _ :: []) hs (by kernel_rfl) ⟨mu rfl i7, o1 [(104, some 0)] rfl fun _ _ h n => ok_call rfl Try.call45 (ref09_end_ok n.1 hx24), cm 1 rfl rfl, o1 [(103, some 2)] rfl fun _ _ h n => ok_ext2_0 rfl n.1, o1 [(103, some 2)] rfl fun _ _ h n => ok_ext2_1 rfl n.1, cp 3 rfl rfl, cp 4 rfl rfl, trivial⟩ W24 fun b q p => ?_
  exact tail_done (k := q) (w20 _ _ ⟨Bs.post ⟨hg, hs, hd⟩ p, p.ou 5 11 rfl, p.ou 6 12 rfl, trivial⟩)
 rintro a k ⟨⟨hg, hs, hd⟩, i11, i12, _⟩
 refine stepL 4 (_ :: _ :: _ :: _ :: []) rfl ⟨hg, hs, hd⟩ (by kernel_rfl) ⟨mu rfl i11, mu rfl i12, cp 0 rfl rfl, cp 1 rfl rfl, trivial⟩ [⟨_, _⟩, ⟨_, _⟩] (fun b q p => ⟨p.ou 2 2 rfl, p.ou 3 3 rfl, trivial⟩) ?_
 rintro a k ⟨⟨hg, hs, hd⟩, i2, i3, _⟩
 refine wp_ret ?_
 obtain rfl := Option.some.inj hr
 exact retC2 rfl hd hg i2 i3
def law11_at (x_ : Int) (y_ : Int) (z_ : Int) : Option (Point3) :=
 some (⟨x_, y_, z_⟩ : Point3)
theorem law11_at_ok {k0 : K} {v0 v1 v2 : Value} {x_ : Int} {y_ : Int} {z_ : Int} {r : Point3} (i0 : (IsV x_) v0 k0) (i1 : (IsV y_) v1 k0) (i2 : (IsV z_) v2 k0) (hr : law11_at x_ y_ z_ = some r) :
  Calls Try.prog 16 #[v0, v1, v2] k0.w (Ret k0 (IsV r)) := by
 unfold law11_at at hr
 refine Ret.ofC ?_
 refine enterK Try.func16 rfl Try.ntmps16 (show 3 ≤ 11 by decide) fun a k hk0 hs hd ha => ?_
 obtain ⟨e0, e1, e2, _⟩ := ha
 replace i0 : (IsV x_) (a.get 0) k := by rw [e0, hk0]; exact i0
 replace i1 : (IsV y_) (a.get 1) k := by rw [e1, hk0]; exact i1
 replace i2 : (IsV z_) (a.get 2) k := by rw [e2, hk0]; exact i2
 have hQ : Gb.LetsOut (bodyPost Try.prog Try.f16 (RetC noF k0 (IsV r))) := letsOutC
 have hg : Chg noF k0 k := by rw [hk0]; exact Chg.refl _ k0
 refine cutS (fun c l => Bs noF k0 11 c l ∧ IsV x_ (c.get 0) l ∧ IsV y_ (c.get 1) l ∧ IsV z_ (c.get 2) l ∧ (∃ b6, c.get 6 = .pointer (some ⟨b6, 0, none⟩) ∧ Lo k0 (Eq b6) ∧ Gb.Box b6 (⟨0, 0, 0⟩ : Point3) l ∧ True)) ?_ ?_
 ·intro Q1 W1 w1
  refine gS 1 (⟨some (IsBox k.w.heap.size (⟨0, 0, 0⟩ : Point3)), []⟩ :: []) hs (by kernel_rfl) ⟨ob1 rfl fun _ _ h n => ok_alloc _ h.size rfl z24, trivial⟩ W1 fun b q p => ?_
  have hgq := hg.then p.grow
  have hsb := p.size.trans hs
  have hdb := p.defers.trans hd
  have j0 := p.ke 0 rfl i0
  have j1 := p.ke 1 rfl i1
  have j2 := p.ke 2 rfl i2
  obtain ⟨b6, j6, x6, z6⟩ : (IsBox k.w.heap.size (⟨0, 0, 0⟩ : Point3)) (b.get 6) q := p.ou 0 6 rfl
  replace x6 : Lo k (Eq b6) := Lo.eq x6
  have y6 : Lo k0 (Eq b6) := x6.chg hg
  exact tail_done (k := q) (w1 _ _ ⟨⟨hgq, hsb, hdb⟩, j0, j1, j2, b6, j6, y6, z6, trivial⟩)
 rintro a k ⟨⟨hg, hs, hd⟩, i0, i1, i2, b6, i6, n6, c6, _⟩
 refine cutS (fun c l => Bs noF k0 11 c l ∧ c.get 6 = .pointer (some ⟨b6, 0, none⟩) ∧ Lo k0 (Eq b6) ∧ Gb.Box b6 (⟨x_, y_, z_⟩ : Point3) l ∧ True) ?_ ?_
 ·intro Q2 W2 w2
  refine gS 4 (_ :: _ :: _ :: ⟨some (IsV (⟨x_, y_, z_⟩ : Point3)), [(7, some 0), (8, some 1), (9, some 2)]⟩ :: []) hs (by kernel_rfl) ⟨mu rfl i0, mu rfl i1, mu rfl i2, ob1 rfl fun _ _ h n => ok_build rfl (bld24_0_1_2 n.1 n.2.1 n.2.2.1), trivial⟩ W2 fun b q p => ?_
  have hgq := hg.then p.grow
  have hsb := p.size.trans hs
  have hdb := p.defers.trans hd
  have j6 := upE i6 (p.old 6 rfl)
  have z6 := Gb.Box.grow c6 p.grow
  have y6 := n6
  have j10 : (IsV (⟨x_, y_, z_⟩ : Point3)) (b.get 10) q := p.ou 3 10 rfl
  have hns := z6.nshF
  refine tail_storeB (i := 4) rfl rfl rfl rfl szf24 (Upd.self (α := Point3)) j6 z6 j10 fun q2 hch hz => ?_
  replace hgq := hgq.step hch y6.wr
  have hle := hch.le hns
  replace j10 := Pers.pers hle j10
  replace z6 := hz
  clear hns hle hch
  obtain ⟨q, hqq⟩ : ∃ q, q = q2 := ⟨q2, rfl⟩
  subst hqq
  exact tail_done (k := q) (w2 _ _ ⟨⟨hgq, hsb, hdb⟩, j6, y6, z6, trivial⟩)
 rintro a k ⟨⟨hg, hs, hd⟩, i6, n6, c6, _⟩
 refine wp_ret ?_
 obtain rfl := Option.some.inj hr
 exact retC1 rfl hd hg (resCell ty24 i6 c6)
def sight_on (p_ : Point3) : Option (Bool) :=
 some (((decide (0 ≤ (min (min p_.X p_.Y) p_.Z))) && (decide ((max p_.X p_.Y) ≤ 1048576))) && (decide (p_.Z ≤ 4096)))
theorem sight_on_ok {k0 : K} {v0 : Value} {p_ : Point3} {r : Bool} (i0 : (IsV p_) v0 k0) (hr : sight_on p_ = some r) :
  Calls Try.prog 26 #[v0] k0.w (Ret k0 (IsV r)) := by
 unfold sight_on at hr
 refine Ret.ofC ?_
 refine enterK Try.func26 rfl Try.ntmps26 (show 1 ≤ 24 by decide) fun a k hk0 hs hd ha => ?_
 obtain ⟨e0, _⟩ := ha
 replace i0 : (IsV p_) (a.get 0) k := by rw [e0, hk0]; exact i0
 have hQ : Gb.LetsOut (bodyPost Try.prog Try.f26 (RetC noF k0 (IsV r))) := letsOutC
 have hg : Chg noF k0 k := by rw [hk0]; exact Chg.refl _ k0
 refine stepL 2 (⟨some (IsRef p_), [(0, none)]⟩ :: ⟨some (IsV false), []⟩ :: []) rfl ⟨hg, hs, hd⟩ (by kernel_rfl) ⟨ob1 rfl fun _ _ h n => ok_boxR rfl (up i0 h n.1), ob1 rfl fun _ _ h n => ok_assign rfl (isV_bool.2 rfl), trivial⟩ [⟨_, _⟩] (fun b q p => ⟨p.ou 0 1 rfl, trivial⟩) ?_
 rintro a k ⟨⟨hg, hs, hd⟩, i1, _⟩
 refine stepL 22 (_ :: _ :: _ :: _ :: _ :: _ :: _ :: _ :: _ :: _ :: _ :: _ :: _ :: _ :: _ :: _ :: _ :: _ :: _ :: _ :: _ :: _ :: []) rfl ⟨hg, hs, hd⟩ (by kernel_rfl) ⟨o1 [(1, none)] rfl fun _ _ h n => ok_fieldAddr rfl fo24_0 (at_Point3_0 _) ((up i1 h n.1)).ptr, o1 [(3, some 0)] rfl fun _ _ h n => ok_load rfl ty3 n.1, o1 [(1, none)] rfl fun _ _ h n => ok_fieldAddr rfl fo24_1 (at_Point3_1 _) ((up i1 h n.1)).ptr, o1 [(5, some 2)] rfl fun _ _ h n => ok_load rfl ty3 n.1, o1 [(1, none)] rfl fun _ _ h n => ok_fieldAddr rfl fo24_2 (at_Point3_2 _) ((up i1 h n.1)).ptr, o1 [(7, some 4)] rfl fun _ _ h n => ok_load rfl ty3 n.1, o1 [(4, some 1), (6, some 3), (8, some 5)] rfl fun _ _ h n => ok_min3 rfl n.1 n.2.1 n.2.2.1, o1 [(9, some 6)] rfl fun _ _ h n => ok_geq rfl n.1 (cI rfl), cm 7 rfl rfl, gT [(1, none)] rfl rfl fun hp _ _ h n => ok_fieldAddr rfl fo24_0 (at_Point3_0 _) ((up i1 h n.1)).ptr, gT [(12, some 9)] rfl rfl fun hp _ _ h n => ok_load rfl ty3 (Gd.get n.1 hp), gT [(1, none)] rfl rfl fun hp _ _ h n => ok_fieldAddr rfl fo24_1 (at_Point3_1 _) ((up i1 h n.1)).ptr, gT [(14, some 11)] rfl rfl fun hp _ _ h n => ok_load rfl ty3 (Gd.get n.1 hp), gT [(13, some 10), (15, some 12)] rfl rfl fun hp _ _ h n => ok_max2 rfl (Gd.get n.1 hp) (Gd.get n.2.1 hp), gT [(16, some 13)] rfl rfl fun hp _ _ h n => ok_leq rfl (Gd.get n.1 hp) (cI rfl), o1 [(11, some 8), (17, some 14)] rfl fun _ _ h n => ok_pickAnd rfl n.1 (Gd.get n.2.1) (cB rfl), cm 15 rfl rfl, gT [(1, none)] rfl rfl fun hp _ _ h n => ok_fieldAddr rfl fo24_2 (at_Point3_2 _) ((up i1 h n.1)).ptr, gT [(20, some 17)] rfl rfl fun hp _ _ h n => ok_load rfl ty3 (Gd.get n.1 hp), gT [(21, some 18)] rfl rfl fun hp _ _ h n => ok_leq rfl (Gd.get n.1 hp) (cI rfl), o1 [(19, some 16), (22, some 19)] rfl fun _ _ h n => ok_pickAnd rfl n.1 (Gd.get n.2.1) (cB rfl), cp 20 rfl rfl, trivial⟩ [⟨_, _⟩] (fun b q p => ⟨p.ou 21 2 rfl, trivial⟩) ?_
 rintro a k ⟨⟨hg, hs, hd⟩, i2, _⟩
 refine wp_ret ?_
 obtain rfl := Option.some.inj hr
 exact retC1 rfl hd hg i2
def rect_Right (r_ : Rect) : Option (Bool) :=
 some ((((((decide (0 ≤ r_.X0)) && (decide (r_.X0 < r_.X1))) && (decide (r_.X1 ≤ 1048576))) && (decide (0 ≤ r_.Y0))) && (decide (r_.Y0 < r_.Y1))) && (decide (r_.Y1 ≤ 1048576)))
theorem rect_Right_ok {k0 : K} {v0 : Value} {r_ : Rect} {r : Bool} (i0 : (IsV r_) v0 k0) (hr : rect_Right r_ = some r) :
  Calls Try.prog 35 #[v0] k0.w (Ret k0 (IsV r)) := by
 unfold rect_Right at hr
 refine Ret.ofC ?_
 refine enterK Try.func35 rfl Try.ntmps35 (show 1 ≤ 35 by decide) fun a k hk0 hs hd ha => ?_
 obtain ⟨e0, _⟩ := ha
 replace i0 : (IsV r_) (a.get 0) k := by rw [e0, hk0]; exact i0
 have hQ : Gb.LetsOut (bodyPost Try.prog Try.f35 (RetC noF k0 (IsV r))) := letsOutC
 have hg : Chg noF k0 k := by rw [hk0]; exact Chg.refl _ k0
 refine stepL 2 (⟨some (IsRef r_), [(0, none)]⟩ :: ⟨some (IsV false), []⟩ :: []) rfl ⟨hg, hs, hd⟩ (by kernel_rfl) ⟨ob1 rfl fun _ _ h n => ok_boxR rfl (up i0 h n.1), ob1 rfl fun _ _ h n => ok_assign rfl (isV_bool.2 rfl), trivial⟩ [⟨_, _⟩] (fun b q p => ⟨p.ou 0 1 rfl, trivial⟩) ?_
 rintro a k ⟨⟨hg, hs, hd⟩, i1, _⟩
 refine stepL 33 (_ :: _ :: _ :: _ :: _ :: _ :: _ :: _ :: _ :: _ :: _ :: _ :: _ :: _ :: _ :: _ :: _ :: _ :: _ :: _ :: _ :: _ :: _ :: _ :: _ :: _ :: _ :: _ :: _ :: _ :: _ :: _ :: _ :: []) rfl ⟨hg, hs, hd⟩ (by kernel_rfl) ⟨o1 [(1, none)] rfl fun _ _ h n => ok_fieldAddr rfl fo35_0 (at_Rect_0 _) ((up i1 h n.1)).ptr, o1 [(3, some 0)] rfl fun _ _ h n => ok_load rfl ty3 n.1, o1 [(4, some 1)] rfl fun _ _ h n => ok_leq rfl (cI rfl) n.1, cm 2 rfl rfl, gT [(1, none)] rfl rfl fun hp _ _ h n => ok_fieldAddr rfl fo35_0 (at_Rect_0 _) ((up i1 h n.1)).ptr, gT [(7, some 4)] rfl rfl fun hp _ _ h n => ok_load rfl ty3 (Gd.get n.1 hp), gT [(1, none)] rfl rfl fun hp _ _ h n => ok_fieldAddr rfl fo35_2 (at_Rect_2 _) ((up i1 h n.1)).ptr, gT [(9, some 6)] rfl rfl fun hp _ _ h n => ok_load rfl ty3 (Gd.get n.1 hp), gT [(8, some 5), (10, some 7)] rfl rfl fun hp _ _ h n => ok_lss rfl (Gd.get n.1 hp) (Gd.get n.2.1 hp), o1 [(6, some 3), (11, some 8)] rfl fun _ _ h n => ok_pickAnd rfl n.1 (Gd.get n.2.1) (cB rfl), cm 9 rfl rfl, gT [(1, none)] rfl rfl fun hp _ _ h n => ok_fieldAddr rfl fo35_2 (at_Rect_2 _) ((up i1 h n.1)).ptr, gT [(14, some 11)] rfl rfl fun hp _ _ h n => ok_load rfl ty3 (Gd.get n.1 hp), gT [(15, some 12)] rfl rfl fun hp _ _ h n => ok_leq rfl (Gd.get n.1 hp) (cI rfl), o1 [(13, some 10), (16, some 13)] rfl fun _ _ h n => ok_pickAnd rfl n.1 (Gd.get n.2.1) (cB rfl), cm 14 rfl rfl, gT [(1, none)] rfl rfl fun hp _ _ h n => ok_fieldAddr rfl fo35_1 (at_Rect_1 _) ((up i1 h n.1)).ptr, gT [(19, some 16)] rfl rfl fun hp _ _ h n => ok_load rfl ty3 (Gd.get n.1 hp), gT [(20, some 17)] rfl rfl fun hp _ _ h n => ok_leq rfl (cI rfl) (Gd.get n.1 hp), o1 [(18, some 15), (21, some 18)] rfl fun _ _ h n => ok_pickAnd rfl n.1 (Gd.get n.2.1) (cB rfl), cm 19 rfl rfl, gT [(1, none)] rfl rfl fun hp _ _ h n => ok_fieldAddr rfl fo35_1 (at_Rect_1 _) ((up i1 h n.1)).ptr, gT [(24, some 21)] rfl rfl fun hp _ _ h n => ok_load rfl ty3 (Gd.get n.1 hp), gT [(1, none)] rfl rfl fun hp _ _ h n => ok_fieldAddr rfl fo35_3 (at_Rect_3 _) ((up i1 h n.1)).ptr, gT [(26, some 23)] rfl rfl fun hp _ _ h n => ok_load rfl ty3 (Gd.get n.1 hp), gT [(25, some 22), (27, some 24)] rfl rfl fun hp _ _ h n => ok_lss rfl (Gd.get n.1 hp) (Gd.get n.2.1 hp), o1 [(23, some 20), (28, some 25)] rfl fun _ _ h n => ok_pickAnd rfl n.1 (Gd.get n.2.1) (cB rfl), cm 26 rfl rfl, gT [(1, none)] rfl rfl fun hp _ _ h n => ok_fieldAddr rfl fo35_3 (at_Rect_3 _) ((up i1 h n.1)).ptr, gT [(31, some 28)] rfl rfl fun hp _ _ h n => ok_load rfl ty3 (Gd.get n.1 hp), gT [(32, some 29)] rfl rfl fun hp _ _ h n => ok_leq rfl (Gd.get n.1 hp) (cI rfl), o1 [(30, some 27), (33, some 30)] rfl fun _ _ h n => ok_pickAnd rfl n.1 (Gd.get n.2.1) (cB rfl), cp 31 rfl rfl, trivial⟩ [⟨_, _⟩] (fun b q p => ⟨p.ou 32 2 rfl, trivial⟩) ?_
 rintro a k ⟨⟨hg, hs, hd⟩, i2, _⟩
 refine wp_ret ?_
 obtain rfl := Option.some.inj hr
 exact retC1 rfl hd hg i2
section
open Go.Proofs Go.RowKit Go.Lib Go.Sort Go.Shelf
def Try.growL99_ren : Go.Shelf.Ren := ⟨fun | 4 => 99 | n => n, fun | 22 => 49 | 25 => 35 | 3 => 3 | 4 => 4 | 9 => 9 | 20 => 20 | 0 => 0 | n => n, fun | n => n⟩
theorem Try.growL99 : Go.Proofs.Lays8.n4 Try.prog Try.growL99_ren := {
 mixed := by kernel_rfl,
 f4 := ⟨Try.f99.name, by decide, Try.func99.trans (congrArg some (by kernel_rfl))⟩,
 t0 := Try.underlying0,
 a0 := Try.isAgg0,
 z0 := Try.sizeOf0,
 v0 := Try.zeroValue0,
 t3 := Try.underlying3,
 a3 := Try.isAgg3,
 z3 := Try.sizeOf3,
 v3 := Try.zeroValue3,
 t4 := Try.underlying4,
 a4 := Try.isAgg4,
 z4 := Try.sizeOf4,
 v4 := Try.zeroValue4,
 t9 := Try.underlying9,
 a9 := Try.isAgg9,
 z9 := Try.sizeOf9,
 v9 := Try.zeroValue9,
 t20 := Try.underlying20,
 a20 := Try.isAgg20,
 z20 := Try.sizeOf20,
 v20 := Try.zeroValue20,
 t22 := Try.underlying49,
 a22 := Try.isAgg49,
 z22 := Try.sizeOf49,
 v22 := Try.zeroValue49 }
theorem slices_Grow_Rect_okO {k0 : K} {v0 v1 : Value} {n : Int} {r : List Rect} (i0 : v0 = .slice none 0 0) (i1 : IsV n v1 k0) (hr : growI Rect n = some r) : Calls Try.prog 99 #[v0, v1] k0.w (Ret k0 (IsOwn k0.w.heap.size 35 r)) := by
 refine grow_own eo35 i0 i1 hr ?_ fun m i z h0 hm hi hz hs hb => ?_
 ·have hcon := Any8.slices_Grow_room Try.growL99 none 0 0 0 k0.w (by omega) (by omega) (by omega) (by omega)
  change Calls Try.prog 99 _ _ _ at hcon
  exact hcon
 ·have hcon := Any8.slices_Grow_grow Try.growL99 i z hi hz hs none 0 0 m [] k0.w (by omega) (by omega) (by
   have : (0 + m) * i.bytes ≤ 1073741824 * 65536 := Nat.mul_le_mul (by omega) hb
   omega) (by omega) (by simp) (fun _ => rfl) (fun a h => by simp at h)
  change Calls Try.prog 99 _ _ _ at hcon
  exact hcon
end
def slices_Concat_Rect_L0 (slices_ : (List (List Rect))) (s1 : Int × Int) : Option (Flow (Int × Int) ((List Rect))) :=
 if (decide (s1.2 < (slices_.length : Int))) then
  (getI slices_ s1.2).bind fun x1 =>
  (addI s1.1 (x1.length : Int)).bind fun x2 =>
  if (decide (x2 < 0)) then
   none
  else
   (addI s1.2 1).bind fun x3 =>
   some (.go (x2, x3))
 else
  some (.ex 0 (s1.1, s1.2))
def slices_Concat_Rect_L1 (slices_ : (List (List Rect))) (s1 : (List Rect) × Int) : Option (Flow ((List Rect) × Int) ((List Rect))) :=
 if (decide (s1.2 < (slices_.length : Int))) then
  (getI slices_ s1.2).bind fun x1 =>
  (appI s1.1 x1).bind fun x2 =>
  (addI s1.2 1).bind fun x3 =>
  some (.go (x2, x3))
 else
  some (.ex 2 (s1.1, s1.2))
def slices_Concat_Rect (slices_ : (List (List Rect))) : Option ((List Rect)) :=
 (iterL (slices_Concat_Rect_L0 slices_) (slices_.length + 1) (0, 0)).bind fun f1 => match f1 with
  | .go _ => none
  | .ex _ s1 =>
   (growI Rect s1.1).bind fun x1 =>
   (iterL (slices_Concat_Rect_L1 slices_) (slices_.length + 1) (x1, 0)).bind fun f2 => match f2 with
    | .go _ => none
    | .ex _ s2 =>
     some s2.1
    | .ret r1 => some r1
  | .ret r2 => some r2
theorem slices_Concat_Rect_okO {k0 : K} {v0 : Value} {slices_ : (List (List Rect))} {r : (List Rect)} (i0 : (IsV slices_) v0 k0) (hr : slices_Concat_Rect slices_ = some r) :
  Calls Try.prog 82 #[v0] k0.w (Ret k0 (IsOwn k0.w.heap.size 35 r)) := by
 unfold slices_Concat_Rect at hr
 refine Ret.ofC ?_
 refine enterK Try.func82 rfl Try.ntmps82 (show 1 ≤ 36 by decide) fun a k hk0 hs hd ha => ?_
 obtain ⟨e0, _⟩ := ha
 replace i0 : (IsV slices_) (a.get 0) k := by rw [e0, hk0]; exact i0
 have hQ : Gb.LetsOut (bodyPost Try.prog Try.f82 (RetC noF k0 (IsOwn k0.w.heap.size 35 r))) := letsOutC
 have hg : Chg noF k0 k := by rw [hk0]; exact Chg.refl _ k0
 refine stepL 1 (⟨some IsE0, []⟩ :: []) rfl ⟨hg, hs, hd⟩ (by kernel_rfl) ⟨ob1 rfl fun b q h n => ok_assign rfl isE0_nil, trivial⟩ [⟨_, _⟩] (fun b q p => ⟨p.ke 0 rfl i0, trivial⟩) ?_
 rintro a k ⟨⟨hg, hs, hd⟩, i0, _⟩
 refine stepL 1 (⟨some (IsI 0), []⟩ :: []) rfl ⟨hg, hs, hd⟩ (by kernel_rfl) ⟨aI rfl rfl, trivial⟩ [⟨_, _⟩, ⟨_, _⟩] (fun b q p => ⟨p.ke 0 rfl i0, p.ou 0 3 rfl, trivial⟩) ?_
 rintro a k ⟨⟨hg, hs, hd⟩, i0, i3, _⟩
 refine wp_seq ?_
 refine stepL 3 (_ :: _ :: ⟨some (IsI 0), []⟩ :: []) rfl ⟨hg, hs, hd⟩ (by kernel_rfl) ⟨mu rfl i0, o1 [(9, some 0)] rfl fun _ _ h n => ok_len rfl rfl Try.underlying112 (IsV.rd n.1), ob1 rfl fun _ _ h n => ok_move rfl (cI rfl), trivial⟩ [⟨_, _⟩, ⟨_, _⟩, ⟨_, _⟩, ⟨_, _⟩, ⟨_, _⟩] (fun b q p => ⟨p.ke 0 rfl i0, p.ke 3 rfl i3, p.ou 0 9 rfl, p.ou 1 10 rfl, p.ou 2 11 rfl, trivial⟩) ?_
 rintro a k ⟨⟨hg, hs, hd⟩, i0, i3, i9, i10, i11, _⟩
 refine wp_block ?_
 obtain ⟨f1, hf1, hr⟩ := bind_some hr
 refine cutFe f1 (fun s' c l => Bs noF k0 36 c l ∧ IsV slices_ (c.get 0) l ∧ IsV s'.1 (c.get 3) l ∧ IsV slices_ (c.get 9) l ∧ IsL slices_ (c.get 10) l ∧ IsV s'.2 (c.get 11) l ∧ True) (fun i' s' c l => (i' = 0 ∧ Bs noF k0 36 c l ∧ IsV slices_ (c.get 0) l ∧ IsV s'.1 (c.get 3) l ∧ True)) (fun r' c l => bodyPost Try.prog Try.f82 (RetC noF k0 (IsOwn k0.w.heap.size 35 r')) .ret c l.w) ?_ hQ ?_ ?_ ?_
 ·intro Q1 W1 hgo hex hret
  refine sim_loop ?_ _ _ _ _ _ hf1 ⟨⟨hg, hs, hd⟩, i0, i3, i9, i10, i11, trivial⟩ Q1 W1 hgo hex hret
  clear hr hf1 hgo hex hret W1 hQ hg hs hd i0 i10 i11 i3 i9
  intro s1 fl_ a k hr hS Q hQ hgo781 hex782 hret783
  obtain ⟨⟨hg, hs, hd⟩, i0, i3, i9, i10, i11, _⟩ := hS
  unfold slices_Concat_Rect_L0 at hr
  refine stepL 1 (_ :: []) rfl ⟨hg, hs, hd⟩ (by kernel_rfl) ⟨o1 [(11, none), (10, none)] rfl fun _ _ h n => ok_lss rfl (up i11 h n.1) (up i10 h n.2.1), trivial⟩ [⟨_, _⟩, ⟨_, _⟩, ⟨_, _⟩, ⟨_, _⟩, ⟨_, _⟩, ⟨_, _⟩] (fun b q p => ⟨p.ke 0 rfl i0, p.ke 3 rfl i3, p.ke 9 rfl i9, p.ke 10 rfl i10, p.ke 11 rfl i11, p.ou 0 12 rfl, trivial⟩) ?_
  rintro a k ⟨⟨hg, hs, hd⟩, i0, i3, i9, i10, i11, i12, _⟩
  refine wp_seq ?_
  refine wp_cond_split (isBool i12) (fun hc798 => ?_) (fun hc798 => ?_)
  ·rw [if_pos hc798] at hr
   refine wp_skip ?_
   refine wp_seq ?_
   refine wp_block ?_
   refine wp_seq ?_
   obtain ⟨x1, hx1, hr⟩ := bind_some hr
   refine cut (fun a' k' => Bs noF k0 36 a' k' ∧ (IsV slices_) (a'.get 0) k' ∧ (IsV s1.1) (a'.get 3) k' ∧ (IsV x1) (a'.get 5) k' ∧ (IsV slices_) (a'.get 9) k' ∧ (IsL slices_) (a'.get 10) k' ∧ (IsV s1.2) (a'.get 11) k' ∧ True) ?_ hQ ?_
   ·intro Q2 W2 w1
    refine gS 3 (_ :: _ :: _ :: []) hs (by kernel_rfl) ⟨o1 [(9, none), (11, none)] rfl fun _ _ h n => ok_indexAddr rfl Try.underlying112 ty49 (IsV.rd (up i9 h n.1)) (up i11 h n.2.1) hx1, o1 [(13, some 0)] rfl fun _ _ h n => ok_load rfl ty49 n.1, cp 1 rfl rfl, trivial⟩ W2 fun b q p => ?_
    exact tail_done (k := q) (w1 _ _ ⟨Bs.post ⟨hg, hs, hd⟩ p, p.ke 0 rfl i0, p.ke 3 rfl i3, p.ou 2 5 rfl, p.ke 9 rfl i9, p.ke 10 rfl i10, p.ke 11 rfl i11, trivial⟩)
   rintro a k ⟨⟨hg, hs, hd⟩, i0, i3, i5, i9, i10, i11, _⟩
   refine wp_seq ?_
   obtain ⟨x2, hx2, hr⟩ := bind_some hr
   refine cut (fun a' k' => Bs noF k0 36 a' k' ∧ (IsV slices_) (a'.get 0) k' ∧ (IsV x2) (a'.get 3) k' ∧ (IsV slices_) (a'.get 9) k' ∧ (IsL slices_) (a'.get 10) k' ∧ (IsV s1.2) (a'.get 11) k' ∧ True) ?_ hQ ?_
   ·intro Q3 W3 w2
    refine gS 5 (_ :: _ :: _ :: _ :: _ :: []) hs (by kernel_rfl) ⟨mu rfl i3, mu rfl i5, o1 [(16, some 1)] rfl fun _ _ h n => ok_len rfl rfl Try.underlying49 (IsV.rd n.1), o1 [(15, some 0), (17, some 2)] rfl fun _ _ h n => ok_add rfl n.1 n.2.1 hx2, cp 3 rfl rfl, trivial⟩ W3 fun b q p => ?_
    exact tail_done (k := q) (w2 _ _ ⟨Bs.post ⟨hg, hs, hd⟩ p, p.ke 0 rfl i0, p.ou 4 3 rfl, p.ke 9 rfl i9, p.ke 10 rfl i10, p.ke 11 rfl i11, trivial⟩)
   rintro a k ⟨⟨hg, hs, hd⟩, i0, i3, i9, i10, i11, _⟩
   refine stepL 2 (_ :: _ :: []) rfl ⟨hg, hs, hd⟩ (by kernel_rfl) ⟨mu rfl i3, o1 [(19, some 0)] rfl fun _ _ h n => ok_lss rfl n.1 (cI rfl), trivial⟩ [⟨_, _⟩, ⟨_, _⟩, ⟨_, _⟩, ⟨_, _⟩, ⟨_, _⟩, ⟨_, _⟩] (fun b q p => ⟨p.ke 0 rfl i0, p.ke 3 rfl i3, p.ke 9 rfl i9, p.ke 10 rfl i10, p.ke 11 rfl i11, p.ou 1 20 rfl, trivial⟩) ?_
   rintro a k ⟨⟨hg, hs, hd⟩, i0, i3, i9, i10, i11, i20, _⟩
   refine wp_cond_split (isBool i20) (fun hc791 => ?_) (fun hc791 => ?_)
   ·rw [if_pos hc791] at hr
    simp at hr
   rw [if_neg (by rw [hc791]; decide)] at hr
   refine wp_skip ?_
   obtain ⟨x3, hx3, hr⟩ := bind_some hr
   refine cut (fun a' k' => Bs noF k0 36 a' k' ∧ (IsV slices_) (a'.get 0) k' ∧ (IsV x2) (a'.get 3) k' ∧ (IsV slices_) (a'.get 9) k' ∧ (IsL slices_) (a'.get 10) k' ∧ (IsV x3) (a'.get 11) k' ∧ True) ?_ hQ ?_
   ·intro Q4 W4 w3
    refine gS 2 (_ :: _ :: []) hs (by kernel_rfl) ⟨o1 [(11, none)] rfl fun _ _ h n => ok_add rfl (up i11 h n.1) (cI rfl) hx3, cm 0 rfl rfl, trivial⟩ W4 fun b q p => ?_
    exact tail_done (k := q) (w3 _ _ ⟨Bs.post ⟨hg, hs, hd⟩ p, p.ke 0 rfl i0, p.ke 3 rfl i3, p.ke 9 rfl i9, p.ke 10 rfl i10, p.ou 1 11 rfl, trivial⟩)
   rintro a k ⟨⟨hg, hs, hd⟩, i0, i3, i9, i10, i11, _⟩
   exact hgo781 _ _ _ (Option.some.inj hr).symm ⟨⟨hg, hs, hd⟩, i0, i3, i9, i10, i11, trivial⟩
  rw [if_neg (by rw [hc798]; decide)] at hr
  refine wp_exit ?_
  exact hex782 _ _ _ _ (Option.some.inj hr).symm ⟨rfl, ⟨hg, hs, hd⟩, i0, i3, trivial⟩
 ·rintro r1 a k rfl hR
  dsimp only at hr
  obtain rfl := Option.some.inj hr
  exact hR
 ·rintro _ _ _ rfl _
  simp at hr
 clear hf1
 rintro _ s2 a k rfl ⟨rfl, ⟨hg, hs, hd⟩, i0, i3, _⟩
 dsimp only at hr
 refine wp_seq ?_
 obtain ⟨x4, hx4, hr⟩ := bind_some hr
 refine cut (fun a' k' => Bs noF k0 36 a' k' ∧ (IsV slices_) (a'.get 0) k' ∧ IsOwn 0 35 x4 (a'.get 6) k' ∧ Lo k0 (obF (a'.get 6)) ∧ True) ?_ hQ ?_
 ·intro Q5 W5 w4
  refine gS 3 (_ :: _ :: _ :: []) hs (by kernel_rfl) ⟨mu rfl i3, o1 [(23, some 0)] rfl fun _ _ h n => ok_call rfl Try.call99 (ret_weaken h.size (slices_Grow_Rect_okO rfl n.1 hx4)), cp 1 rfl rfl, trivial⟩ W5 fun b q p => ?_
  have hgq := hg.then p.grow
  have hsb := p.size.trans hs
  have hdb := p.defers.trans hd
  have j0 := p.ke 0 rfl i0
  have j6 : (IsOwn k.w.heap.size 35 x4) (b.get 6) q := p.ou 2 6 rfl
  have x6 : Lo k (obF (b.get 6)) := j6.loF
  have y6 := x6.chg hg
  replace j6 := j6.weaken (Nat.zero_le _)
  exact tail_done (k := q) (w4 _ _ ⟨⟨hgq, hsb, hdb⟩, j0, j6, y6, trivial⟩)
 rintro a k ⟨⟨hg, hs, hd⟩, i0, i6, n6, _⟩
 refine wp_seq ?_
 refine cutS (fun c l => Bs noF k0 36 c l ∧ IsOwn 0 35 x4 (c.get 6) l ∧ Lo k0 (obF (c.get 6)) ∧ IsV slices_ (c.get 25) l ∧ IsL slices_ (c.get 26) l ∧ IsI 0 (c.get 27) l ∧ True) ?_ ?_
 ·intro Q6 W6 w5
  refine gS 3 (_ :: _ :: ⟨some (IsI 0), []⟩ :: []) hs (by kernel_rfl) ⟨mu rfl i0, o1 [(25, some 0)] rfl fun _ _ h n => ok_len rfl rfl Try.underlying112 (IsV.rd n.1), ob1 rfl fun _ _ h n => ok_move rfl (cI rfl), trivial⟩ W6 fun b q p => ?_
  exact tail_done (k := q) (w5 _ _ ⟨Bs.post ⟨hg, hs, hd⟩ p, p.ke 6 rfl i6, (by rw [p.old 6 rfl]; exact n6), p.ou 0 25 rfl, p.ou 1 26 rfl, p.ou 2 27 rfl, trivial⟩)
 rintro a k ⟨⟨hg, hs, hd⟩, i6, n6, i25, i26, i27, _⟩
 refine wp_block ?_
 obtain ⟨f2, hf2, hr⟩ := bind_some hr
 refine cutFe f2 (fun s' c l => Bs noF k0 36 c l ∧ IsOwn 0 35 s'.1 (c.get 6) l ∧ Lo k0 (obF (c.get 6)) ∧ IsV slices_ (c.get 25) l ∧ IsL slices_ (c.get 26) l ∧ IsV s'.2 (c.get 27) l ∧ True) (fun i' s' c l => (i' = 2 ∧ Bs noF k0 36 c l ∧ IsOwn 0 35 s'.1 (c.get 6) l ∧ Lo k0 (obF (c.get 6)) ∧ True)) (fun r' c l => bodyPost Try.prog Try.f82 (RetC noF k0 (IsOwn k0.w.heap.size 35 r')) .ret c l.w) ?_ hQ ?_ ?_ ?_
 ·intro Q7 W7 hgo hex hret
  refine sim_loop ?_ _ _ _ _ _ hf2 ⟨⟨hg, hs, hd⟩, i6, n6, i25, i26, i27, trivial⟩ Q7 W7 hgo hex hret
  clear hr hf2 hgo hex hret W7 hQ hg hs hd i25 i26 i27 i6 n6
  intro s3 fl_ a k hr hS Q hQ hgo806 hex807 hret808
  obtain ⟨⟨hg, hs, hd⟩, i6, n6, i25, i26, i27, _⟩ := hS
  unfold slices_Concat_Rect_L1 at hr
  refine cutS (fun c l => Bs noF k0 36 c l ∧ IsOwn 0 35 s3.1 (c.get 6) l ∧ Lo k0 (obF (c.get 6)) ∧ IsV slices_ (c.get 25) l ∧ IsL slices_ (c.get 26) l ∧ IsV s3.2 (c.get 27) l ∧ (IsV (decide (s3.2 < (slices_.length : Int)))) (c.get 28) l ∧ True) ?_ ?_
  ·intro Q8 W8 w6
   refine gS 1 (_ :: []) hs (by kernel_rfl) ⟨o1 [(27, none), (26, none)] rfl fun _ _ h n => ok_lss rfl (up i27 h n.1) (up i26 h n.2.1), trivial⟩ W8 fun b q p => ?_
   exact tail_done (k := q) (w6 _ _ ⟨Bs.post ⟨hg, hs, hd⟩ p, p.ke 6 rfl i6, (by rw [p.old 6 rfl]; exact n6), p.ke 25 rfl i25, p.ke 26 rfl i26, p.ke 27 rfl i27, p.ou 0 28 rfl, trivial⟩)
  rintro a k ⟨⟨hg, hs, hd⟩, i6, n6, i25, i26, i27, i28, _⟩
  refine wp_seq ?_
  refine wp_cond_split (isBool i28) (fun hc819 => ?_) (fun hc819 => ?_)
  ·rw [if_pos hc819] at hr
   refine wp_skip ?_
   refine wp_seq ?_
   refine wp_block ?_
   refine wp_seq ?_
   obtain ⟨x5, hx5, hr⟩ := bind_some hr
   refine cut (fun a' k' => Bs noF k0 36 a' k' ∧ IsOwn 0 35 s3.1 (a'.get 6) k' ∧ Lo k0 (obF (a'.get 6)) ∧ (IsV x5) (a'.get 8) k' ∧ (IsV slices_) (a'.get 25) k' ∧ (IsL slices_) (a'.get 26) k' ∧ (IsV s3.2) (a'.get 27) k' ∧ True) ?_ hQ ?_
   ·intro Q9 W9 w7
    refine gS 3 (_ :: _ :: _ :: []) hs (by kernel_rfl) ⟨o1 [(25, none), (27, none)] rfl fun _ _ h n => ok_indexAddr rfl Try.underlying112 ty49 (IsV.rd (up i25 h n.1)) (up i27 h n.2.1) hx5, o1 [(29, some 0)] rfl fun _ _ h n => ok_load rfl ty49 n.1, cp 1 rfl rfl, trivial⟩ W9 fun b q p => ?_
    exact tail_done (k := q) (w7 _ _ ⟨Bs.post ⟨hg, hs, hd⟩ p, p.ke 6 rfl i6, (by rw [p.old 6 rfl]; exact n6), p.ou 2 8 rfl, p.ke 25 rfl i25, p.ke 26 rfl i26, p.ke 27 rfl i27, trivial⟩)
   rintro a k ⟨⟨hg, hs, hd⟩, i6, n6, i8, i25, i26, i27, _⟩
   obtain ⟨x7, hx7, hr⟩ := bind_some hr
   refine cut (fun a' k' => Bs noF k0 36 a' k' ∧ IsOwn 0 35 x7 (a'.get 6) k' ∧ Lo k0 (obF (a'.get 6)) ∧ (IsV slices_) (a'.get 25) k' ∧ (IsL slices_) (a'.get 26) k' ∧ (IsV s3.2) (a'.get 27) k' ∧ True) ?_ hQ ?_
   ·intro Q10 W10 w8
    refine gS 2 (⟨some (OwnAt (a.get 6) 0 35 s3.1), [(6, none)]⟩ :: _ :: []) hs (by kernel_rfl) ⟨ob1 rfl fun _ _ h n => ok_moveOA (.inl rfl) (ownAt n.1 (up i6 h n.1)), mu rfl i8, trivial⟩ W10 fun b q p => ?_
    have hgq := hg.then p.grow
    have hsb := p.size.trans hs
    have hdb := p.defers.trans hd
    have j25 := p.ke 25 rfl i25
    have j26 := p.ke 26 rfl i26
    have j27 := p.ke 27 rfl i27
    have e31 : b.get 31 = a.get 6 := (p.ou 0 31 rfl).1
    have j31 : IsOwn 0 35 s3.1 (b.get 31) q := (p.ou 0 31 rfl).2
    have y31 : Lo k0 (obF (b.get 31)) := by rw [e31]; exact n6
    have j32 : (IsV x5) (b.get 32) q := p.ou 1 32 rfl
    have hns := j31.nshF
    refine tail_appendS (i := 2) (d := 33) rfl rfl rfl rfl (by rw [hsb]; decide) (e := 35) Try.underlying49 eo35 j31 (IsV.rd j32) hx7 fun b2 q2 hsz hdf hoth hch hown hob => ?_
    have hle := hch.le hns
    have yn : Lo k0 (obF (b2.get 33)) := y31.app hgq hob
    replace j25 := Pers.pers hle j25
    replace j26 := Pers.pers hle j26
    replace j27 := Pers.pers hle j27
    replace j32 := Pers.pers hle j32
    replace hgq := hgq.step hch y31.wr
    rw [← hoth 25 (by decide)] at j25
    rw [← hoth 26 (by decide)] at j26
    rw [← hoth 27 (by decide)] at j27
    rw [← hoth 32 (by decide)] at j32
    have j33 := hown
    have y33 := yn
    replace hsb := hsz.trans hsb
    replace hdb := hdf.trans hdb
    clear hle hch hown hob hns yn hsz hdf hoth
    obtain ⟨b, hbb⟩ : ∃ b, b = b2 := ⟨b2, rfl⟩
    subst hbb
    obtain ⟨q, hqq⟩ : ∃ q, q = q2 := ⟨q2, rfl⟩
    subst hqq
    refine tail_assign (i := 3) (d := 6) rfl rfl (.inl rfl) rfl (by rw [hsb]; decide) fun b2 hsz hdf hnew hoth => ?_
    have jn : (IsOwn 0 35 x7) (b2.get 6) q := by rw [hnew]; exact j33
    have yn : Lo k0 (obF (b2.get 6)) := by rw [hnew]; exact y33
    rw [← hoth 25 (by decide)] at j25
    rw [← hoth 26 (by decide)] at j26
    rw [← hoth 27 (by decide)] at j27
    rw [← hoth 32 (by decide)] at j32
    have j6 := jn
    have y6 := yn
    replace hsb := hsz.trans hsb
    replace hdb := hdf.trans hdb
    clear hsz hdf hoth
    obtain ⟨b, hbb⟩ : ∃ b, b = b2 := ⟨b2, rfl⟩
    subst hbb
    exact tail_done (k := q) (w8 _ _ ⟨⟨hgq, hsb, hdb⟩, j6, y6, j25, j26, j27, trivial⟩)
   rintro a k ⟨⟨hg, hs, hd⟩, i6, n6, i25, i26, i27, _⟩
   obtain ⟨x8, hx8, hr⟩ := bind_some hr
   refine cut (fun a' k' => Bs noF k0 36 a' k' ∧ IsOwn 0 35 x7 (a'.get 6) k' ∧ Lo k0 (obF (a'.get 6)) ∧ (IsV slices_) (a'.get 25) k' ∧ (IsL slices_) (a'.get 26) k' ∧ (IsV x8) (a'.get 27) k' ∧ True) ?_ hQ ?_
   ·intro Q11 W11 w9
    refine gS 2 (_ :: _ :: []) hs (by kernel_rfl) ⟨o1 [(27, none)] rfl fun _ _ h n => ok_add rfl (up i27 h n.1) (cI rfl) hx8, cm 0 rfl rfl, trivial⟩ W11 fun b q p => ?_
    exact tail_done (k := q) (w9 _ _ ⟨Bs.post ⟨hg, hs, hd⟩ p, p.ke 6 rfl i6, (by rw [p.old 6 rfl]; exact n6), p.ke 25 rfl i25, p.ke 26 rfl i26, p.ou 1 27 rfl, trivial⟩)
   rintro a k ⟨⟨hg, hs, hd⟩, i6, n6, i25, i26, i27, _⟩
   exact hgo806 _ _ _ (Option.some.inj hr).symm ⟨⟨hg, hs, hd⟩, i6, n6, i25, i26, i27, trivial⟩
  rw [if_neg (by rw [hc819]; decide)] at hr
  refine wp_exit ?_
  exact hex807 _ _ _ _ (Option.some.inj hr).symm ⟨rfl, ⟨hg, hs, hd⟩, i6, n6, trivial⟩
 ·rintro r2 a k rfl hR
  dsimp only at hr
  obtain rfl := Option.some.inj hr
  exact hR
 ·rintro _ _ _ rfl _
  simp at hr
 clear hf2
 rintro _ s4 a k rfl ⟨rfl, ⟨hg, hs, hd⟩, i6, n6, _⟩
 dsimp only at hr
 refine cutS (fun c l => Bs noF k0 36 c l ∧ IsOwn 0 35 s4.1 (c.get 2) l ∧ Lo k0 (obF (c.get 2)) ∧ True) ?_ ?_
 ·intro Q12 W12 w10
  refine gS 2 (⟨some (OwnAt (a.get 6) 0 35 s4.1), [(6, none)]⟩ :: ⟨some (OwnAt (a.get 6) 0 35 s4.1), [(35, some 0)]⟩ :: []) hs (by kernel_rfl) ⟨ob1 rfl fun _ _ h n => ok_moveOA (.inl rfl) (ownAt n.1 (up i6 h n.1)), ob1 rfl fun _ _ h n => ok_moveOA (.inr rfl) n.1, trivial⟩ W12 fun b q p => ?_
  have hgq := hg.then p.grow
  have hsb := p.size.trans hs
  have hdb := p.defers.trans hd
  have e2 : b.get 2 = a.get 6 := (p.ou 1 2 rfl).1
  have j2 : IsOwn 0 35 s4.1 (b.get 2) q := (p.ou 1 2 rfl).2
  have y2 : Lo k0 (obF (b.get 2)) := by rw [e2]; exact n6
  exact tail_done (k := q) (w10 _ _ ⟨⟨hgq, hsb, hdb⟩, j2, y2, trivial⟩)
 rintro a k ⟨⟨hg, hs, hd⟩, i2, n2, _⟩
 refine wp_ret ?_
 obtain rfl := Option.some.inj hr
 exact retC1 rfl hd hg (show ResOk _ _ _ (.tmp 2) _ from IsOwn.raise (k0 := k0) i2 n2)
theorem slices_Concat_Rect_ok {k0 : K} {v0 : Value} {slices_ : (List (List Rect))} {r : (List Rect)} (i0 : (IsV slices_) v0 k0) (hr : slices_Concat_Rect slices_ = some r) :
  Calls Try.prog 82 #[v0] k0.w (Ret k0 (IsV r)) :=
 ret_give (slices_Concat_Rect_okO i0 hr)
section
open Go.Proofs Go.RowKit Go.Lib Go.Sort Go.Shelf
def Try.sortIntsL_ren : Go.Shelf.Ren := ⟨fun | 189 => 59 | 125 => 80 | 257 => 79 | 128 => 97 | 129 => 98 | 294 => 88 | 295 => 89 | 296 => 90 | 297 => 91 | 298 => 92 | 299 => 93 | 216 => 94 | 300 => 95 | 301 => 96 | 328 => 107 | 329 => 108 | 330 => 109 | 331 => 110 | 332 => 111 | 215 => 106 | 343 => 116 | n => n, fun | 28 => 63 | 3 => 3 | 46 => 105 | 0 => 0 | 51 => 127 | 53 => 129 | 4 => 4 | 183 => 119 | 182 => 118 | 131 => 124 | 5 => 5 | 9 => 9 | 218 => 137 | 222 => 141 | 228 => 148 | 229 => 149 | n => n, fun | n => n⟩
theorem Try.sortIntsL : Go.Proofs.Lays.n189 Try.prog Try.sortIntsL_ren := {
 mixed := by kernel_rfl,
 f125 := Try.func80.trans (congrArg some (by kernel_rfl)),
 f128 := Try.func97.trans (congrArg some (by kernel_rfl)),
 f129 := Try.func98.trans (congrArg some (by kernel_rfl)),
 f189 := Try.func59.trans (congrArg some (by kernel_rfl)),
 f215 := Try.func106.trans (congrArg some (by kernel_rfl)),
 f216 := Try.func94.trans (congrArg some (by kernel_rfl)),
 f257 := Try.func79.trans (congrArg some (by kernel_rfl)),
 f294 := Try.func88.trans (congrArg some (by kernel_rfl)),
 f295 := Try.func89.trans (congrArg some (by kernel_rfl)),
 f296 := Try.func90.trans (congrArg some (by kernel_rfl)),
 f297 := Try.func91.trans (congrArg some (by kernel_rfl)),
 f298 := Try.func92.trans (congrArg some (by kernel_rfl)),
 f299 := Try.func93.trans (congrArg some (by kernel_rfl)),
 f300 := Try.func95.trans (congrArg some (by kernel_rfl)),
 f301 := Try.func96.trans (congrArg some (by kernel_rfl)),
 f328 := Try.func107.trans (congrArg some (by kernel_rfl)),
 f329 := Try.func108.trans (congrArg some (by kernel_rfl)),
 f330 := Try.func109.trans (congrArg some (by kernel_rfl)),
 f331 := Try.func110.trans (congrArg some (by kernel_rfl)),
 f332 := Try.func111.trans (congrArg some (by kernel_rfl)),
 f343 := Try.func116.trans (congrArg some (by kernel_rfl)),
 t0 := Try.underlying0,
 a0 := Try.isAgg0,
 z0 := Try.sizeOf0,
 v0 := Try.zeroValue0,
 t3 := Try.underlying3,
 a3 := Try.isAgg3,
 z3 := Try.sizeOf3,
 v3 := Try.zeroValue3,
 t4 := Try.underlying4,
 a4 := Try.isAgg4,
 z4 := Try.sizeOf4,
 v4 := Try.zeroValue4,
 t5 := Try.underlying5,
 a5 := Try.isAgg5,
 z5 := Try.sizeOf5,
 v5 := Try.zeroValue5,
 t9 := Try.underlying9,
 a9 := Try.isAgg9,
 z9 := Try.sizeOf9,
 v9 := Try.zeroValue9,
 t28 := Try.underlying63,
 a28 := Try.isAgg63,
 z28 := Try.sizeOf63,
 v28 := Try.zeroValue63,
 t46 := Try.underlying105,
 a46 := Try.isAgg105,
 z46 := Try.sizeOf105,
 v46 := Try.zeroValue105,
 t51 := Try.underlying127,
 a51 := Try.isAgg127,
 z51 := Try.sizeOf127,
 v51 := Try.zeroValue127,
 t53 := Try.underlying129,
 a53 := Try.isAgg129,
 z53 := Try.sizeOf129,
 v53 := Try.zeroValue129,
 t131 := Try.underlying124,
 a131 := Try.isAgg124,
 z131 := Try.sizeOf124,
 v131 := Try.zeroValue124,
 t182 := Try.underlying118,
 a182 := Try.isAgg118,
 z182 := Try.sizeOf118,
 v182 := Try.zeroValue118,
 t183 := Try.underlying119,
 a183 := Try.isAgg119,
 z183 := Try.sizeOf119,
 v183 := Try.zeroValue119,
 t218 := Try.underlying137,
 a218 := Try.isAgg137,
 z218 := Try.sizeOf137,
 v218 := Try.zeroValue137,
 t222 := Try.underlying141,
 a222 := Try.isAgg141,
 z222 := Try.sizeOf141,
 v222 := Try.zeroValue141,
 t228 := Try.underlying148,
 a228 := Try.isAgg148,
 z228 := Try.sizeOf148,
 v228 := Try.zeroValue148,
 t229 := Try.underlying149,
 a229 := Try.isAgg149,
 z229 := Try.sizeOf149,
 v229 := Try.zeroValue149 }
theorem sortInts_ok {k0 : K} {v0 : Value} {l r : List Int} (i0 : IsOwn 0 3 l v0 k0) (hr : sortInts l = some r) : Calls Try.prog 59 #[v0] k0.w (RetC (obF v0) k0 fun _ k' => IsOwn 0 3 r v0 k') := by
 unfold sortInts at hr
 split at hr
 ·rename_i hl
  obtain rfl := Option.some.inj hr
  refine sortI_own (S := fun l => l.mergeSort fun x y => decide (x ≤ y)) (List.length_mergeSort _) (fun p cap w => ?_) (fun blk off cap w hH hblk => ?_) i0
  ·have hcon := Any.slices_Sort_int_none Try.sortIntsL p cap w
   change Calls Try.prog 59 _ _ _ at hcon
   exact hcon
  ·have hcon := Any.slices_Sort_int Try.sortIntsL blk off cap l w hH hblk (by omega)
   change Calls Try.prog 59 _ _ _ at hcon
   exact hcon
 ·simp at hr
end
section
open Go.Proofs Go.RowKit Go.Lib Go.Sort Go.Shelf
def Try.compactL_ren : Go.Shelf.Ren := ⟨fun | 20 => 60 | n => n, fun | 22 => 63 | 3 => 3 | 4 => 4 | 0 => 0 | n => n, fun | n => n⟩
theorem Try.compactL : Go.Proofs.Lays2.n20 Try.prog Try.compactL_ren := {
 mixed := by kernel_rfl,
 f20 := Try.func60.trans (congrArg some (by kernel_rfl)),
 t0 := Try.underlying0,
 a0 := Try.isAgg0,
 z0 := Try.sizeOf0,
 v0 := Try.zeroValue0,
 t3 := Try.underlying3,
 a3 := Try.isAgg3,
 z3 := Try.sizeOf3,
 v3 := Try.zeroValue3,
 t4 := Try.underlying4,
 a4 := Try.isAgg4,
 z4 := Try.sizeOf4,
 v4 := Try.zeroValue4,
 t22 := Try.underlying63,
 a22 := Try.isAgg63,
 z22 := Try.sizeOf63,
 v22 := Try.zeroValue63,
 i3 := by kernel_rfl }
theorem compactInts_ok {k0 : K} {v0 : Value} {l r : List Int} (i0 : IsOwn 0 3 l v0 k0) (hr : compactInts l = some r) : Calls Try.prog 60 #[v0] k0.w (RetC (obF v0) k0 (IsOwnW v0 k0 3 r)) := by
 unfold compactInts at hr
 split at hr
 ·rename_i hl
  obtain rfl := Option.some.inj hr
  refine compactI_own compact_length hl (fun p cap w => ?_) (fun blk off cap w hH hc => ?_) i0
  ·have hcon := Any.slices_Compact_int_empty Try.compactL p cap w
   change Calls Try.prog 60 _ _ _ at hcon
   exact hcon
  ·have hcon := Any.slices_Compact_int Try.compactL blk off cap l w hH (by omega) hc
   change Calls Try.prog 60 _ _ _ at hcon
   exact hcon
 ·simp at hr
end
def cmp_isNaN_int (x_ : Int) : Option (Bool) :=
 some (x_ != x_)
theorem cmp_isNaN_int_ok {k0 : K} {v0 : Value} {x_ : Int} {r : Bool} (i0 : (IsV x_) v0 k0) (hr : cmp_isNaN_int x_ = some r) :
  Calls Try.prog 106 #[v0] k0.w (Ret k0 (IsV r)) := by
 unfold cmp_isNaN_int at hr
 refine Ret.ofC ?_
 refine enterK Try.func106 rfl Try.ntmps106 (show 1 ≤ 6 by decide) fun a k hk0 hs hd ha => ?_
 obtain ⟨e0, _⟩ := ha
 replace i0 : (IsV x_) (a.get 0) k := by rw [e0, hk0]; exact i0
 have hQ : Gb.LetsOut (bodyPost Try.prog Try.f106 (RetC noF k0 (IsV r))) := letsOutC
 have hg : Chg noF k0 k := by rw [hk0]; exact Chg.refl _ k0
 refine stepL 1 (⟨some (IsV false), []⟩ :: []) rfl ⟨hg, hs, hd⟩ (by kernel_rfl) ⟨ob1 rfl fun _ _ h n => ok_assign rfl (isV_bool.2 rfl), trivial⟩ [⟨_, _⟩] (fun b q p => ⟨p.ke 0 rfl i0, trivial⟩) ?_
 rintro a k ⟨⟨hg, hs, hd⟩, i0, _⟩
 refine stepL 4 (_ :: _ :: ⟨some (IsV (x_ != x_)), [(3, some 0), (4, some 1)]⟩ :: _ :: []) rfl ⟨hg, hs, hd⟩ (by kernel_rfl) ⟨mu rfl i0, mu rfl i0, ob1 rfl fun _ _ h n => ok_neI rfl n.1 n.2.1, cp 2 rfl rfl, trivial⟩ [⟨_, _⟩] (fun b q p => ⟨p.ou 3 2 rfl, trivial⟩) ?_
 rintro a k ⟨⟨hg, hs, hd⟩, i2, _⟩
 refine wp_ret ?_
 obtain rfl := Option.some.inj hr
 exact retC1 rfl hd hg i2
def cmp_Compare_int (x_ : Int) (y_ : Int) : Option (Int) :=
 (cmp_isNaN_int x_).bind fun x1 =>
 (cmp_isNaN_int y_).bind fun x2 =>
 if x1 then
  if x2 then
   some 0
  else
   some (-1)
 else
  if x2 then
   some 1
  else
   if (decide (x_ < y_)) then
    some (-1)
   else
    if (decide (y_ < x_)) then
     some 1
    else
     some 0
theorem cmp_Compare_int_ok {k0 : K} {v0 v1 : Value} {x_ : Int} {y_ : Int} {r : Int} (i0 : (IsV x_) v0 k0) (i1 : (IsV y_) v1 k0) (hr : cmp_Compare_int x_ y_ = some r) :
  Calls Try.prog 87 #[v0, v1] k0.w (Ret k0 (IsV r)) := by
 unfold cmp_Compare_int at hr
 refine Ret.ofC ?_
 refine enterK Try.func87 rfl Try.ntmps87 (show 2 ≤ 20 by decide) fun a k hk0 hs hd ha => ?_
 obtain ⟨e0, e1, _⟩ := ha
 replace i0 : (IsV x_) (a.get 0) k := by rw [e0, hk0]; exact i0
 replace i1 : (IsV y_) (a.get 1) k := by rw [e1, hk0]; exact i1
 have hQ : Gb.LetsOut (bodyPost Try.prog Try.f87 (RetC noF k0 (IsV r))) := letsOutC
 have hg : Chg noF k0 k := by rw [hk0]; exact Chg.refl _ k0
 refine stepL 1 (⟨some (IsI 0), []⟩ :: []) rfl ⟨hg, hs, hd⟩ (by kernel_rfl) ⟨aI rfl rfl, trivial⟩ [⟨_, _⟩, ⟨_, _⟩] (fun b q p => ⟨p.ke 0 rfl i0, p.ke 1 rfl i1, trivial⟩) ?_
 rintro a k ⟨⟨hg, hs, hd⟩, i0, i1, _⟩
 refine wp_seq ?_
 obtain ⟨x1, hx1, hr⟩ := bind_some hr
 refine cut (fun a' k' => Bs noF k0 20 a' k' ∧ (IsV x_) (a'.get 0) k' ∧ (IsV y_) (a'.get 1) k' ∧ (IsV x1) (a'.get 5) k' ∧ True) ?_ hQ ?_
 ·intro Q1 W1 w1
  refine gS 3 (_ :: _ :: _ :: []) hs (by kernel_rfl) ⟨mu rfl i0, o1 [(7, some 0)] rfl fun _ _ h n => ok_call rfl Try.call106 (cmp_isNaN_int_ok n.1 hx1), cp 1 rfl rfl, trivial⟩ W1 fun b q p => ?_
  exact tail_done (k := q) (w1 _ _ ⟨Bs.post ⟨hg, hs, hd⟩ p, p.ke 0 rfl i0, p.ke 1 rfl i1, p.ou 2 5 rfl, trivial⟩)
 rintro a k ⟨⟨hg, hs, hd⟩, i0, i1, i5, _⟩
 refine wp_seq ?_
 obtain ⟨x2, hx2, hr⟩ := bind_some hr
 refine cut (fun a' k' => Bs noF k0 20 a' k' ∧ (IsV x_) (a'.get 0) k' ∧ (IsV y_) (a'.get 1) k' ∧ (IsV x1) (a'.get 5) k' ∧ (IsV x2) (a'.get 6) k' ∧ True) ?_ hQ ?_
 ·intro Q2 W2 w2
  refine gS 3 (_ :: _ :: _ :: []) hs (by kernel_rfl) ⟨mu rfl i1, o1 [(9, some 0)] rfl fun _ _ h n => ok_call rfl Try.call106 (cmp_isNaN_int_ok n.1 hx2), cp 1 rfl rfl, trivial⟩ W2 fun b q p => ?_
  exact tail_done (k := q) (w2 _ _ ⟨Bs.post ⟨hg, hs, hd⟩ p, p.ke 0 rfl i0, p.ke 1 rfl i1, p.ke 5 rfl i5, p.ou 2 6 rfl, trivial⟩)
 rintro a k ⟨⟨hg, hs, hd⟩, i0, i1, i5, i6, _⟩
 refine wp_seq ?_
 refine stepL 1 (_ :: []) rfl ⟨hg, hs, hd⟩ (by kernel_rfl) ⟨mu rfl i5, trivial⟩ [⟨_, _⟩, ⟨_, _⟩, ⟨_, _⟩, ⟨_, _⟩] (fun b q p => ⟨p.ke 0 rfl i0, p.ke 1 rfl i1, p.ke 6 rfl i6, p.ou 0 11 rfl, trivial⟩) ?_
 rintro a k ⟨⟨hg, hs, hd⟩, i0, i1, i6, i11, _⟩
 refine wp_cond_split (isBool i11) (fun hc885 => ?_) (fun hc885 => ?_)
 ·rw [if_pos hc885] at hr
  refine wp_seq ?_
  refine stepL 1 (_ :: []) rfl ⟨hg, hs, hd⟩ (by kernel_rfl) ⟨mu rfl i6, trivial⟩ [⟨_, _⟩] (fun b q p => ⟨p.ou 0 12 rfl, trivial⟩) ?_
  rintro a k ⟨⟨hg, hs, hd⟩, i12, _⟩
  refine wp_cond_split (isBool i12) (fun hc858 => ?_) (fun hc858 => ?_)
  ·rw [if_pos hc858] at hr
   refine stepL 1 (⟨some (IsI 0), []⟩ :: []) rfl ⟨hg, hs, hd⟩ (by kernel_rfl) ⟨aI rfl rfl, trivial⟩ [⟨_, _⟩] (fun b q p => ⟨p.ou 0 4 rfl, trivial⟩) ?_
   rintro a k ⟨⟨hg, hs, hd⟩, i4, _⟩
   refine wp_ret ?_
   obtain rfl := Option.some.inj hr
   exact retC1 rfl hd hg i4
  rw [if_neg (by rw [hc858]; decide)] at hr
  refine wp_skip ?_
  refine stepL 1 (⟨some (IsI (-1)), []⟩ :: []) rfl ⟨hg, hs, hd⟩ (by kernel_rfl) ⟨aI rfl rfl, trivial⟩ [⟨_, _⟩] (fun b q p => ⟨p.ou 0 4 rfl, trivial⟩) ?_
  rintro a k ⟨⟨hg, hs, hd⟩, i4, _⟩
  refine wp_ret ?_
  obtain rfl := Option.some.inj hr
  exact retC1 rfl hd hg i4
 rw [if_neg (by rw [hc885]; decide)] at hr
 refine wp_skip ?_
 refine wp_seq ?_
 refine stepL 1 (_ :: []) rfl ⟨hg, hs, hd⟩ (by kernel_rfl) ⟨mu rfl i6, trivial⟩ [⟨_, _⟩, ⟨_, _⟩, ⟨_, _⟩] (fun b q p => ⟨p.ke 0 rfl i0, p.ke 1 rfl i1, p.ou 0 13 rfl, trivial⟩) ?_
 rintro a k ⟨⟨hg, hs, hd⟩, i0, i1, i13, _⟩
 refine wp_cond_split (isBool i13) (fun hc882 => ?_) (fun hc882 => ?_)
 ·rw [if_pos hc882] at hr
  refine stepL 1 (⟨some (IsI 1), []⟩ :: []) rfl ⟨hg, hs, hd⟩ (by kernel_rfl) ⟨aI rfl rfl, trivial⟩ [⟨_, _⟩] (fun b q p => ⟨p.ou 0 4 rfl, trivial⟩) ?_
  rintro a k ⟨⟨hg, hs, hd⟩, i4, _⟩
  refine wp_ret ?_
  obtain rfl := Option.some.inj hr
  exact retC1 rfl hd hg i4
 rw [if_neg (by rw [hc882]; decide)] at hr
 refine wp_skip ?_
 refine wp_seq ?_
 refine stepL 3 (_ :: _ :: _ :: []) rfl ⟨hg, hs, hd⟩ (by kernel_rfl) ⟨mu rfl i0, mu rfl i1, o1 [(14, some 0), (15, some 1)] rfl fun _ _ h n => ok_lss rfl n.1 n.2.1, trivial⟩ [⟨_, _⟩, ⟨_, _⟩, ⟨_, _⟩] (fun b q p => ⟨p.ke 0 rfl i0, p.ke 1 rfl i1, p.ou 2 16 rfl, trivial⟩) ?_
 rintro a k ⟨⟨hg, hs, hd⟩, i0, i1, i16, _⟩
 refine wp_cond_split (isBool i16) (fun hc879 => ?_) (fun hc879 => ?_)
 ·rw [if_pos hc879] at hr
  refine stepL 1 (⟨some (IsI (-1)), []⟩ :: []) rfl ⟨hg, hs, hd⟩ (by kernel_rfl) ⟨aI rfl rfl, trivial⟩ [⟨_, _⟩] (fun b q p => ⟨p.ou 0 4 rfl, trivial⟩) ?_
  rintro a k ⟨⟨hg, hs, hd⟩, i4, _⟩
  refine wp_ret ?_
  obtain rfl := Option.some.inj hr
  exact retC1 rfl hd hg i4
 rw [if_neg (by rw [hc879]; decide)] at hr
 refine wp_skip ?_
 refine wp_seq ?_
 refine stepL 3 (_ :: _ :: _ :: []) rfl ⟨hg, hs, hd⟩ (by kernel_rfl) ⟨mu rfl i0, mu rfl i1, o1 [(17, some 0), (18, some 1)] rfl fun _ _ h n => ok_gtr rfl n.1 n.2.1, trivial⟩ [⟨_, _⟩] (fun b q p => ⟨p.ou 2 19 rfl, trivial⟩) ?_
 rintro a k ⟨⟨hg, hs, hd⟩, i19, _⟩
 refine wp_cond_split (isBool i19) (fun hc876 => ?_) (fun hc876 => ?_)
 ·rw [if_pos hc876] at hr
  refine stepL 1 (⟨some (IsI 1), []⟩ :: []) rfl ⟨hg, hs, hd⟩ (by kernel_rfl) ⟨aI rfl rfl, trivial⟩ [⟨_, _⟩] (fun b q p => ⟨p.ou 0 4 rfl, trivial⟩) ?_
  rintro a k ⟨⟨hg, hs, hd⟩, i4, _⟩
  refine wp_ret ?_
  obtain rfl := Option.some.inj hr
  exact retC1 rfl hd hg i4
 rw [if_neg (by rw [hc876]; decide)] at hr
 refine wp_skip ?_
 refine stepL 1 (⟨some (IsI 0), []⟩ :: []) rfl ⟨hg, hs, hd⟩ (by kernel_rfl) ⟨aI rfl rfl, trivial⟩ [⟨_, _⟩] (fun b q p => ⟨p.ou 0 4 rfl, trivial⟩) ?_
 rintro a k ⟨⟨hg, hs, hd⟩, i4, _⟩
 refine wp_ret ?_
 obtain rfl := Option.some.inj hr
 exact retC1 rfl hd hg i4
def region_column_1 (a_ : RegionSpan) (b_ : RegionSpan) : Option (Int) :=
 (cmp_Compare_int a_.from_ b_.from_).bind fun x1 =>
 some x1
theorem region_column_1_ok {k0 : K} {v0 v1 : Value} {a_ : RegionSpan} {b_ : RegionSpan} {r : Int} (i0 : (IsV a_) v0 k0) (i1 : (IsV b_) v1 k0) (hr : region_column_1 a_ b_ = some r) :
  Calls Try.prog 101 #[v0, v1] k0.w (Ret k0 (IsV r)) := by
 unfold region_column_1 at hr
 refine Ret.ofC ?_
 refine enterK Try.func101 rfl Try.ntmps101 (show 2 ≤ 10 by decide) fun a k hk0 hs hd ha => ?_
 obtain ⟨e0, e1, _⟩ := ha
 replace i0 : (IsV a_) (a.get 0) k := by rw [e0, hk0]; exact i0
 replace i1 : (IsV b_) (a.get 1) k := by rw [e1, hk0]; exact i1
 have hQ : Gb.LetsOut (bodyPost Try.prog Try.f101 (RetC noF k0 (IsV r))) := letsOutC
 have hg : Chg noF k0 k := by rw [hk0]; exact Chg.refl _ k0
 refine stepL 3 (⟨some (IsRef a_), [(0, none)]⟩ :: ⟨some (IsRef b_), [(1, none)]⟩ :: ⟨some (IsI 0), []⟩ :: []) rfl ⟨hg, hs, hd⟩ (by kernel_rfl) ⟨ob1 rfl fun _ _ h n => ok_boxR rfl (up i0 h n.1), ob1 rfl fun _ _ h n => ok_boxR rfl (up i1 h n.1), aI rfl rfl, trivial⟩ [⟨_, _⟩, ⟨_, _⟩] (fun b q p => ⟨p.ou 0 2 rfl, p.ou 1 3 rfl, trivial⟩) ?_
 rintro a k ⟨⟨hg, hs, hd⟩, i2, i3, _⟩
 refine wp_seq ?_
 obtain ⟨x1, hx1, hr⟩ := bind_some hr
 refine cut (fun a' k' => Bs noF k0 10 a' k' ∧ (IsV x1) (a'.get 4) k' ∧ True) ?_ hQ ?_
 ·intro Q1 W1 w1
  refine gS 6 (_ :: _ :: _ :: _ :: _ :: _ :: []) hs (by kernel_rfl) ⟨o1 [(2, none)] rfl fun _ _ h n => ok_fieldAddr rfl fo109_0 (at_RegionSpan_0 _) ((up i2 h n.1)).ptr, o1 [(5, some 0)] rfl fun _ _ h n => ok_load rfl ty3 n.1, o1 [(3, none)] rfl fun _ _ h n => ok_fieldAddr rfl fo109_0 (at_RegionSpan_0 _) ((up i3 h n.1)).ptr, o1 [(7, some 2)] rfl fun _ _ h n => ok_load rfl ty3 n.1, o1 [(6, some 1), (8, some 3)] rfl fun _ _ h n => ok_call rfl Try.call87 (cmp_Compare_int_ok n.1 n.2.1 hx1), cp 4 rfl rfl, trivial⟩ W1 fun b q p => ?_
  exact tail_done (k := q) (w1 _ _ ⟨Bs.post ⟨hg, hs, hd⟩ p, p.ou 5 4 rfl, trivial⟩)
 rintro a k ⟨⟨hg, hs, hd⟩, i4, _⟩
 refine wp_ret ?_
 obtain rfl := Option.some.inj hr
 exact retC1 rfl hd hg i4
section
open Go.Proofs Go.RowKit Go.Lib Go.Sort Go.Shelf
def Try.sortSpansL_ren : Go.Shelf.Ren := ⟨fun | 6 => 100 | 15 => 80 | 14 => 112 | 28 => 97 | 29 => 98 | 20 => 117 | 21 => 118 | 22 => 119 | 23 => 120 | 24 => 121 | 25 => 122 | 26 => 123 | 27 => 124 | 46 => 125 | 47 => 108 | 48 => 109 | 49 => 126 | 50 => 127 | 57 => 128 | n => n, fun | 22 => 107 | 24 => 109 | 25 => 132 | 3 => 3 | 39 => 105 | 0 => 0 | 53 => 127 | 55 => 129 | 4 => 4 | 46 => 119 | 45 => 118 | 50 => 124 | 5 => 5 | 9 => 9 | 66 => 137 | 70 => 141 | 76 => 148 | 77 => 149 | n => n, fun | n => n⟩
theorem Try.sortSpansL : Go.Proofs.SlLaysF0.n6 Try.prog Try.sortSpansL_ren := {
 mixed := by kernel_rfl,
 f6 := ⟨Try.f100.name, by decide, Try.func100.trans (congrArg some (by kernel_rfl))⟩,
 f14 := ⟨Try.f112.name, by decide, Try.func112.trans (congrArg some (by kernel_rfl))⟩,
 f15 := Try.func80.trans (congrArg some (by kernel_rfl)),
 f20 := ⟨Try.f117.name, by decide, Try.func117.trans (congrArg some (by kernel_rfl))⟩,
 f21 := ⟨Try.f118.name, by decide, Try.func118.trans (congrArg some (by kernel_rfl))⟩,
 f22 := ⟨Try.f119.name, by decide, Try.func119.trans (congrArg some (by kernel_rfl))⟩,
 f23 := ⟨Try.f120.name, by decide, Try.func120.trans (congrArg some (by kernel_rfl))⟩,
 f24 := ⟨Try.f121.name, by decide, Try.func121.trans (congrArg some (by kernel_rfl))⟩,
 f25 := ⟨Try.f122.name, by decide, Try.func122.trans (congrArg some (by kernel_rfl))⟩,
 f26 := ⟨Try.f123.name, by decide, Try.func123.trans (congrArg some (by kernel_rfl))⟩,
 f27 := ⟨Try.f124.name, by decide, Try.func124.trans (congrArg some (by kernel_rfl))⟩,
 f28 := Try.func97.trans (congrArg some (by kernel_rfl)),
 f29 := Try.func98.trans (congrArg some (by kernel_rfl)),
 f46 := ⟨Try.f125.name, by decide, Try.func125.trans (congrArg some (by kernel_rfl))⟩,
 f47 := Try.func108.trans (congrArg some (by kernel_rfl)),
 f48 := Try.func109.trans (congrArg some (by kernel_rfl)),
 f49 := ⟨Try.f126.name, by decide, Try.func126.trans (congrArg some (by kernel_rfl))⟩,
 f50 := ⟨Try.f127.name, by decide, Try.func127.trans (congrArg some (by kernel_rfl))⟩,
 f57 := ⟨Try.f128.name, by decide, Try.func128.trans (congrArg some (by kernel_rfl))⟩,
 t0 := Try.underlying0,
 a0 := Try.isAgg0,
 z0 := Try.sizeOf0,
 v0 := Try.zeroValue0,
 t3 := Try.underlying3,
 a3 := Try.isAgg3,
 z3 := Try.sizeOf3,
 v3 := Try.zeroValue3,
 t4 := Try.underlying4,
 a4 := Try.isAgg4,
 z4 := Try.sizeOf4,
 v4 := Try.zeroValue4,
 t5 := Try.underlying5,
 a5 := Try.isAgg5,
 z5 := Try.sizeOf5,
 v5 := Try.zeroValue5,
 t9 := Try.underlying9,
 a9 := Try.isAgg9,
 z9 := Try.sizeOf9,
 v9 := Try.zeroValue9,
 t22 := Try.underlying107,
 a22 := Try.isAgg107,
 z22 := Try.sizeOf107,
 v22 := Try.zeroValue107,
 t25 := Try.underlying132,
 a25 := Try.isAgg132,
 z25 := Try.sizeOf132,
 v25 := Try.zeroValue132,
 t39 := Try.underlying105,
 a39 := Try.isAgg105,
 z39 := Try.sizeOf105,
 v39 := Try.zeroValue105,
 t45 := Try.underlying118,
 a45 := Try.isAgg118,
 z45 := Try.sizeOf118,
 v45 := Try.zeroValue118,
 t46 := Try.underlying119,
 a46 := Try.isAgg119,
 z46 := Try.sizeOf119,
 v46 := Try.zeroValue119,
 t50 := Try.underlying124,
 a50 := Try.isAgg124,
 z50 := Try.sizeOf124,
 v50 := Try.zeroValue124,
 t53 := Try.underlying127,
 a53 := Try.isAgg127,
 z53 := Try.sizeOf127,
 v53 := Try.zeroValue127,
 t55 := Try.underlying129,
 a55 := Try.isAgg129,
 z55 := Try.sizeOf129,
 v55 := Try.zeroValue129,
 t66 := Try.underlying137,
 a66 := Try.isAgg137,
 z66 := Try.sizeOf137,
 v66 := Try.zeroValue137,
 t70 := Try.underlying141,
 a70 := Try.isAgg141,
 z70 := Try.sizeOf141,
 v70 := Try.zeroValue141,
 t76 := Try.underlying148,
 a76 := Try.isAgg148,
 z76 := Try.sizeOf148,
 v76 := Try.zeroValue148,
 t77 := Try.underlying149,
 a77 := Try.isAgg149,
 z77 := Try.sizeOf149,
 v77 := Try.zeroValue149 }
instance : FlatE RegionSpan := FlatE.ofMap fun x : RegionSpan => (x.from_, x.to_)
/-- What the comparison of two spans hands back. -/
def spanCmp (x y : RegionSpan) : Int := if x.from_ < y.from_ then -1 else if y.from_ < x.from_ then 1 else 0
theorem column_1_val (x y : RegionSpan) : region_column_1 x y = some (spanCmp x y) := by
 unfold region_column_1 cmp_Compare_int cmp_isNaN_int spanCmp
 by_cases h : x.from_ < y.from_
 ·simp [h]
 ·by_cases h2 : y.from_ < x.from_ <;> simp [h, h2]
theorem ltOf_span (x y : RegionSpan) : ltOf spanCmp x y = decide (x.from_ < y.from_) := by
 unfold ltOf spanCmp
 congr 1
 rw [eq_iff_iff]
 split
 ·simp [*]
 ·split <;> simp [*]
theorem spanCmp_swo : SWO (ltOf spanCmp) := by
 constructor <;> simp only [ltOf_span, decide_eq_true_eq, decide_eq_false_iff_not] <;> intros <;> omega
def sortSpans (l : List RegionSpan) : Option (List RegionSpan) := if l.length ≤ 1073741824 then some (pdq (ltOf spanCmp) l.toArray 0 l.toArray.size (Lib.bitLen l.toArray.size) true true).toList else none
theorem sortSpans_spec {l : List RegionSpan} (h : l.length ≤ 1000000) : ∃ r, sortSpans l = some r ∧ r.Perm l ∧ r.Pairwise fun a b => a.from_ ≤ b.from_ := by
 obtain ⟨⟨h1, _, h2⟩, h3⟩ := pdq_sorts (ltOf spanCmp) spanCmp_swo l.toArray 0 l.toArray.size (Lib.bitLen l.toArray.size) true true (Nat.zero_le _) (Nat.le_refl _) (Or.inl rfl)
 refine ⟨_, if_pos (by omega), ?_, ?_⟩
 ·generalize pdq (ltOf spanCmp) l.toArray 0 l.toArray.size (Lib.bitLen l.toArray.size) true true = r at h1 h2
  have e : r.extract 0 l.toArray.size = r := by rw [← h1]; simp
  rw [e] at h2
  simpa using h2
 ·rw [List.pairwise_iff_getElem]
  intro i j hi hj hij
  have := h3 i j (Nat.zero_le _) hij (by rw [← h1]; simpa using hj)
  rw [getElem!_pos _ j (by simpa using hj), getElem!_pos _ i (by simpa using hi)] at this
  rw [ltOf_span, decide_eq_false_iff_not] at this
  simp only [Array.getElem_toList]
  omega
theorem pdq_size (d : Array RegionSpan) : (pdq (ltOf spanCmp) d 0 d.size (Lib.bitLen d.size) true true).size = d.size :=
 (pdq_sorts (ltOf spanCmp) spanCmp_swo d 0 d.size (Lib.bitLen d.size) true true (Nat.zero_le _) (Nat.le_refl _) (Or.inl rfl)).1.1
set_option maxHeartbeats 2000000 in
theorem sortSpans_ok {k0 : K} {v0 : Value} {l r : List RegionSpan} (i0 : IsOwn 0 109 l v0 k0) (hr : sortSpans l = some r) :
  Calls Try.prog 100 #[v0, .func (.func 101) #[] #[]] k0.w (RetC (obF v0) k0 fun _ k' => IsOwn 0 109 r v0 k') := by
 unfold sortSpans at hr
 split at hr
 ·rename_i h12
  obtain rfl := Option.some.inj hr
  refine sort_own (S := fun d => pdq (ltOf spanCmp) d 0 d.size (Lib.bitLen d.size) true true) pdq_size (fun p cap w => ?_) (fun blk off cap w hH hblk => ?_) i0
  ·have hcon := AnyF.slices_SortFunc_none { Try.sortSpansL with } p cap (.func (.func 101) #[] #[]) w
   change Calls Try.prog 100 _ _ _ at hcon
   exact hcon
  ·have hcon := AnyQ.slices_SortFunc_eq Try.sortSpansL 2 Try.isAgg109 Try.sizeOf109 (FlatE.enc (α := RegionSpan)) (fun _ => rfl) (fun x v hv => flat_one k0 x v hv) spanCmp spanCmp_swo 101 #[] blk off cap l.toArray w (enters_of Try.func101 (by kernel_rfl) rfl)
    (fun _ _ _ _ x y => ret_cmp (k := kFree _) (region_column_1_ok (isV_flat rfl x _) (isV_flat rfl y _) (column_1_val x y))) hH hblk (by simp; omega)
   change Calls Try.prog 100 _ _ _ at hcon
   exact hcon
 ·simp at hr
end
def region_column_L0 (l_ : (List Rect)) (x_ : Int) (s1 : (List RegionSpan) × Int) : Option (Flow ((List RegionSpan) × Int) ((List RegionSpan))) :=
 if (decide (s1.2 < (l_.length : Int))) then
  (getI l_ s1.2).bind fun x1 =>
  (if ((decide (x1.X0 ≤ x_)) && (decide (x_ < x1.X1))) then
   (appI s1.1 ([(⟨x1.Y0, x1.Y1⟩ : RegionSpan)])).bind fun x2 =>
   some x2
  else
   some s1.1).bind fun s2 =>
  (addI s1.2 1).bind fun x3 =>
  some (.go (s2, x3))
 else
  some (.ex 0 (s1.1, s1.2))
def region_column_L1 (x1 : (List RegionSpan)) (s1 : (List RegionSpan) × Int) : Option (Flow ((List RegionSpan) × Int) ((List RegionSpan))) :=
 if (decide (s1.2 < (x1.length : Int))) then
  (getI x1 s1.2).bind fun x2 =>
  (if (decide (0 < (s1.1.length : Int))) then
   (subI (s1.1.length : Int) 1).bind fun x3 =>
   (getI s1.1 x3).bind fun x4 =>
   some (decide (x2.from_ ≤ x4.to_))
  else
   some false).bind fun x5 =>
  (if x5 then
   (subI (s1.1.length : Int) 1).bind fun x6 =>
   (subI (s1.1.length : Int) 1).bind fun x7 =>
   (getI s1.1 x7).bind fun x8 =>
   (getI s1.1 x6).bind fun x9 =>
   (some (s1.1.set (x6).toNat ({ x9 with to_ := (max x8.to_ x2.to_) }))).bind fun x10 =>
   some x10
  else
   (appI s1.1 ([x2])).bind fun x11 =>
   some x11).bind fun s2 =>
  (addI s1.2 1).bind fun x12 =>
  some (.go (s2, x12))
 else
  some (.ex 2 (s1.1, s1.2))
def region_column (l_ : (List Rect)) (x_ : Int) : Option ((List RegionSpan)) :=
 (iterL (region_column_L0 l_ x_) (l_.length + 1) (([] : List RegionSpan), 0)).bind fun f1 => match f1 with
  | .go _ => none
  | .ex _ s1 =>
   (sortSpans s1.1).bind fun x1 =>
   (iterL (region_column_L1 x1) (x1.length + 1) (([] : List RegionSpan), 0)).bind fun f2 => match f2 with
    | .go _ => none
    | .ex _ s2 =>
     some s2.1
    | .ret r1 => some r1
  | .ret r2 => some r2
theorem region_column_ok {k0 : K} {v0 v1 : Value} {l_ : (List Rect)} {x_ : Int} {r : (List RegionSpan)} (i0 : (IsV l_) v0 k0) (i1 : (IsV x_) v1 k0) (hr : region_column l_ x_ = some r) :
  Calls Try.prog 83 #[v0, v1] k0.w (Ret k0 (IsV r)) := by
 unfold region_column at hr
 refine Ret.ofC ?_
 refine enterK Try.func83 rfl Try.ntmps83 (show 2 ≤ 80 by decide) fun a k hk0 hs hd ha => ?_
 obtain ⟨e0, e1, _⟩ := ha
 replace i0 : (IsV l_) (a.get 0) k := by rw [e0, hk0]; exact i0
 replace i1 : (IsV x_) (a.get 1) k := by rw [e1, hk0]; exact i1
 have hQ : Gb.LetsOut (bodyPost Try.prog Try.f83 (RetC noF k0 (IsV r))) := letsOutC
 have hg : Chg noF k0 k := by rw [hk0]; exact Chg.refl _ k0
 refine stepL 1 (⟨some IsE0, []⟩ :: []) rfl ⟨hg, hs, hd⟩ (by kernel_rfl) ⟨ob1 rfl fun b q h n => ok_assign rfl isE0_nil, trivial⟩ [⟨_, _⟩, ⟨_, _⟩] (fun b q p => ⟨p.ke 0 rfl i0, p.ke 1 rfl i1, trivial⟩) ?_
 rintro a k ⟨⟨hg, hs, hd⟩, i0, i1, _⟩
 refine cutS (fun c l => Bs noF k0 80 c l ∧ IsV l_ (c.get 0) l ∧ IsV x_ (c.get 1) l ∧ IsOwn 0 109 ([] : List RegionSpan) (c.get 5) l ∧ Lo k0 (obF (c.get 5)) ∧ True) ?_ ?_
 ·intro Q1 W1 w1
  refine gS 1 (⟨some IsE0, []⟩ :: []) hs (by kernel_rfl) ⟨ob1 rfl fun b q h n => ok_assign rfl isE0_nil, trivial⟩ W1 fun b q p => ?_
  have hgq := hg.then p.grow
  have hsb := p.size.trans hs
  have hdb := p.defers.trans hd
  have j0 := p.ke 0 rfl i0
  have j1 := p.ke 1 rfl i1
  have j5 : IsE0 (b.get 5) q := p.ou 0 5 rfl
  have y5 : Lo k0 (obF (b.get 5)) := j5.lo
  replace j5 : IsOwn 0 109 ([] : List RegionSpan) (b.get 5) q := j5.own0
  exact tail_done (k := q) (w1 _ _ ⟨⟨hgq, hsb, hdb⟩, j0, j1, j5, y5, trivial⟩)
 rintro a k ⟨⟨hg, hs, hd⟩, i0, i1, i5, n5, _⟩
 refine wp_seq ?_
 refine cutS (fun c l => Bs noF k0 80 c l ∧ IsV x_ (c.get 1) l ∧ IsOwn 0 109 ([] : List RegionSpan) (c.get 5) l ∧ Lo k0 (obF (c.get 5)) ∧ IsV l_ (c.get 12) l ∧ IsL l_ (c.get 13) l ∧ IsI 0 (c.get 14) l ∧ True) ?_ ?_
 ·intro Q2 W2 w2
  refine gS 3 (_ :: _ :: ⟨some (IsI 0), []⟩ :: []) hs (by kernel_rfl) ⟨mu rfl i0, o1 [(12, some 0)] rfl fun _ _ h n => ok_len rfl rfl Try.underlying49 (IsV.rd n.1), ob1 rfl fun _ _ h n => ok_move rfl (cI rfl), trivial⟩ W2 fun b q p => ?_
  exact tail_done (k := q) (w2 _ _ ⟨Bs.post ⟨hg, hs, hd⟩ p, p.ke 1 rfl i1, p.ke 5 rfl i5, (by rw [p.old 5 rfl]; exact n5), p.ou 0 12 rfl, p.ou 1 13 rfl, p.ou 2 14 rfl, trivial⟩)
 rintro a k ⟨⟨hg, hs, hd⟩, i1, i5, n5, i12, i13, i14, _⟩
 refine wp_block ?_
 obtain ⟨f1, hf1, hr⟩ := bind_some hr
 refine cutFe f1 (fun s' c l => Bs noF k0 80 c l ∧ IsV x_ (c.get 1) l ∧ IsOwn 0 109 s'.1 (c.get 5) l ∧ Lo k0 (obF (c.get 5)) ∧ IsV l_ (c.get 12) l ∧ IsL l_ (c.get 13) l ∧ IsV s'.2 (c.get 14) l ∧ True) (fun i' s' c l => (i' = 0 ∧ Bs noF k0 80 c l ∧ IsOwn 0 109 s'.1 (c.get 5) l ∧ Lo k0 (obF (c.get 5)) ∧ True)) (fun r' c l => bodyPost Try.prog Try.f83 (RetC noF k0 (IsV r')) .ret c l.w) ?_ hQ ?_ ?_ ?_
 ·intro Q3 W3 hgo hex hret
  refine sim_loop ?_ _ _ _ _ _ hf1 ⟨⟨hg, hs, hd⟩, i1, i5, n5, i12, i13, i14, trivial⟩ Q3 W3 hgo hex hret
  clear hr hf1 hgo hex hret W3 hQ hg hs hd i1 i12 i13 i14 i5 n5
  intro s1 fl_ a k hr hS Q hQ hgo904 hex905 hret906
  obtain ⟨⟨hg, hs, hd⟩, i1, i5, n5, i12, i13, i14, _⟩ := hS
  unfold region_column_L0 at hr
  refine cutS (fun c l => Bs noF k0 80 c l ∧ IsV x_ (c.get 1) l ∧ IsOwn 0 109 s1.1 (c.get 5) l ∧ Lo k0 (obF (c.get 5)) ∧ IsV l_ (c.get 12) l ∧ IsL l_ (c.get 13) l ∧ IsV s1.2 (c.get 14) l ∧ (IsV (decide (s1.2 < (l_.length : Int)))) (c.get 15) l ∧ True) ?_ ?_
  ·intro Q4 W4 w3
   refine gS 1 (_ :: []) hs (by kernel_rfl) ⟨o1 [(14, none), (13, none)] rfl fun _ _ h n => ok_lss rfl (up i14 h n.1) (up i13 h n.2.1), trivial⟩ W4 fun b q p => ?_
   exact tail_done (k := q) (w3 _ _ ⟨Bs.post ⟨hg, hs, hd⟩ p, p.ke 1 rfl i1, p.ke 5 rfl i5, (by rw [p.old 5 rfl]; exact n5), p.ke 12 rfl i12, p.ke 13 rfl i13, p.ke 14 rfl i14, p.ou 0 15 rfl, trivial⟩)
  rintro a k ⟨⟨hg, hs, hd⟩, i1, i5, n5, i12, i13, i14, i15, _⟩
  refine wp_seq ?_
  refine wp_cond_split (isBool i15) (fun hc924 => ?_) (fun hc924 => ?_)
  ·rw [if_pos hc924] at hr
   refine wp_skip ?_
   refine wp_seq ?_
   refine wp_block ?_
   refine wp_seq ?_
   obtain ⟨x1, hx1, hr⟩ := bind_some hr
   refine cut (fun a' k' => Bs noF k0 80 a' k' ∧ (IsV x_) (a'.get 1) k' ∧ IsOwn 0 109 s1.1 (a'.get 5) k' ∧ Lo k0 (obF (a'.get 5)) ∧ (IsRef x1) (a'.get 7) k' ∧ (IsV l_) (a'.get 12) k' ∧ (IsL l_) (a'.get 13) k' ∧ (IsV s1.2) (a'.get 14) k' ∧ True) ?_ hQ ?_
   ·intro Q5 W5 w4
    refine gS 3 (_ :: _ :: ⟨some (IsBox k.w.heap.size (⟨0, 0, 0, 0⟩ : Rect)), []⟩ :: []) hs (by kernel_rfl) ⟨o1 [(12, none), (14, none)] rfl fun _ _ h n => ok_indexAddr rfl Try.underlying49 ty35 (IsV.rd (up i12 h n.1)) (up i14 h n.2.1) hx1, o1 [(16, some 0)] rfl fun _ _ h n => ok_load rfl ty35 n.1, ob1 rfl fun _ _ h n => ok_alloc _ h.size rfl z35, trivial⟩ W5 fun b q p => ?_
    have hgq := hg.then p.grow
    have hsb := p.size.trans hs
    have hdb := p.defers.trans hd
    have j1 := p.ke 1 rfl i1
    have j5 := p.ke 5 rfl i5
    have y5 : Lo k0 (obF (b.get 5)) := by rw [p.old 5 rfl]; exact n5
    obtain ⟨b7, j7, x7, z7⟩ : (IsBox k.w.heap.size (⟨0, 0, 0, 0⟩ : Rect)) (b.get 7) q := p.ou 2 7 rfl
    replace x7 : Lo k (Eq b7) := Lo.eq x7
    have y7 : Lo k0 (Eq b7) := x7.chg hg
    have j12 := p.ke 12 rfl i12
    have j13 := p.ke 13 rfl i13
    have j14 := p.ke 14 rfl i14
    have j17 : (IsV x1) (b.get 17) q := p.ou 1 17 rfl
    have w5_7 : Apart (obF (b.get 5)) (Eq b7) := Apart.new (by rw [p.old 5 rfl]; exact i5.ltF) x7
    have hns := z7.nshF
    refine tail_storeB (i := 3) rfl rfl rfl rfl szf35 (Upd.self (α := Rect)) j7 z7 j17 fun q2 hch hz => ?_
    replace hgq := hgq.step hch y7.wr
    have hle := hch.le hns
    replace j1 := Pers.pers hle j1
    replace j5 := j5.keep hch w5_7 hns
    replace j12 := Pers.pers hle j12
    replace j13 := Pers.pers hle j13
    replace j14 := Pers.pers hle j14
    replace j17 := Pers.pers hle j17
    replace z7 := hz
    clear hns hle hch
    obtain ⟨q, hqq⟩ : ∃ q, q = q2 := ⟨q2, rfl⟩
    subst hqq
    obtain ⟨q2, hsh, jn⟩ := z7.give
    replace j1 := Pers.pers hsh.le j1
    replace j5 := j5.handed hsh w5_7
    replace j12 := Pers.pers hsh.le j12
    replace j13 := Pers.pers hsh.le j13
    replace j14 := Pers.pers hsh.le j14
    rw [← j7] at jn
    replace j7 := jn
    replace hgq := hgq.hand hsh y7.wr
    rw [← hsh.w]
    clear hsh
    obtain ⟨q, hqq⟩ : ∃ q, q = q2 := ⟨q2, rfl⟩
    subst hqq
    exact tail_done (k := q) (w4 _ _ ⟨⟨hgq, hsb, hdb⟩, j1, j5, y5, j7, j12, j13, j14, trivial⟩)
   rintro a k ⟨⟨hg, hs, hd⟩, i1, i5, n5, i7, i12, i13, i14, _⟩
   refine cutS (fun c l => Bs noF k0 80 c l ∧ IsV x_ (c.get 1) l ∧ IsOwn 0 109 s1.1 (c.get 5) l ∧ Lo k0 (obF (c.get 5)) ∧ IsRef x1 (c.get 7) l ∧ IsV l_ (c.get 12) l ∧ IsL l_ (c.get 13) l ∧ IsV s1.2 (c.get 14) l ∧ (IsV ((decide (x1.X0 ≤ x_)) && (decide (x_ < x1.X1)))) (c.get 27) l ∧ True) ?_ ?_
   ·intro Q6 W6 w5
    refine gS 10 (_ :: _ :: _ :: _ :: _ :: _ :: _ :: _ :: _ :: _ :: []) hs (by kernel_rfl) ⟨o1 [(7, none)] rfl fun _ _ h n => ok_fieldAddr rfl fo35_0 (at_Rect_0 _) ((up i7 h n.1)).ptr, o1 [(18, some 0)] rfl fun _ _ h n => ok_load rfl ty3 n.1, mu rfl i1, o1 [(19, some 1), (20, some 2)] rfl fun _ _ h n => ok_leq rfl n.1 n.2.1, cm 3 rfl rfl, mT rfl rfl i1, gT [(7, none)] rfl rfl fun hp _ _ h n => ok_fieldAddr rfl fo35_2 (at_Rect_2 _) ((up i7 h n.1)).ptr, gT [(24, some 6)] rfl rfl fun hp _ _ h n => ok_load rfl ty3 (Gd.get n.1 hp), gT [(23, some 5), (25, some 7)] rfl rfl fun hp _ _ h n => ok_lss rfl (Gd.get n.1 hp) (Gd.get n.2.1 hp), o1 [(22, some 4), (26, some 8)] rfl fun _ _ h n => ok_pickAnd rfl n.1 (Gd.get n.2.1) (cB rfl), trivial⟩ W6 fun b q p => ?_
    exact tail_done (k := q) (w5 _ _ ⟨Bs.post ⟨hg, hs, hd⟩ p, p.ke 1 rfl i1, p.ke 5 rfl i5, (by rw [p.old 5 rfl]; exact n5), p.ke 7 rfl i7, p.ke 12 rfl i12, p.ke 13 rfl i13, p.ke 14 rfl i14, p.ou 9 27 rfl, trivial⟩)
   rintro a k ⟨⟨hg, hs, hd⟩, i1, i5, n5, i7, i12, i13, i14, i27, _⟩
   obtain ⟨s2, hs2, hr⟩ := bind_some hr
   refine cut (fun a' k' => Bs noF k0 80 a' k' ∧ (IsV x_) (a'.get 1) k' ∧ IsOwn 0 109 s2 (a'.get 5) k' ∧ Lo k0 (obF (a'.get 5)) ∧ (IsV l_) (a'.get 12) k' ∧ (IsL l_) (a'.get 13) k' ∧ (IsV s1.2) (a'.get 14) k' ∧ True) ?_ hQ ?_
   ·intro Q7 W7 w6
    replace hr := hs2
    clear hQ
    have hQ := W7
    refine wp_cond_split (isBool i27) (fun hc915 => ?_) (fun hc915 => ?_)
    ·rw [if_pos hc915] at hr
     obtain ⟨x2, hx2, hr⟩ := bind_some hr
     refine cut (fun a' k' => Bs noF k0 80 a' k' ∧ (IsV x_) (a'.get 1) k' ∧ IsOwn 0 109 x2 (a'.get 5) k' ∧ Lo k0 (obF (a'.get 5)) ∧ (IsV l_) (a'.get 12) k' ∧ (IsL l_) (a'.get 13) k' ∧ (IsV s1.2) (a'.get 14) k' ∧ True) ?_ hQ ?_
     ·intro Q8 W8 w7
      refine gS 7 (⟨some (OwnAt (a.get 5) 0 109 s1.1), [(5, none)]⟩ :: _ :: _ :: _ :: _ :: ⟨some (IsV (⟨x1.Y0, x1.Y1⟩ : RegionSpan)), [(30, some 2), (32, some 4)]⟩ :: ⟨some (IsV (α := (List RegionSpan)) ([(⟨x1.Y0, x1.Y1⟩ : RegionSpan)])), [(33, some 5)]⟩ :: []) hs (by kernel_rfl) ⟨ob1 rfl fun _ _ h n => ok_moveOA (.inl rfl) (ownAt n.1 (up i5 h n.1)), o1 [(7, none)] rfl fun _ _ h n => ok_fieldAddr rfl fo35_1 (at_Rect_1 _) ((up i7 h n.1)).ptr, o1 [(29, some 1)] rfl fun _ _ h n => ok_load rfl ty3 n.1, o1 [(7, none)] rfl fun _ _ h n => ok_fieldAddr rfl fo35_3 (at_Rect_3 _) ((up i7 h n.1)).ptr, o1 [(31, some 3)] rfl fun _ _ h n => ok_load rfl ty3 n.1, ob1 rfl fun _ _ h n => ok_build rfl (bld109_0_1 n.1 n.2.1), ob1 rfl fun _ _ h n => ok_buildSlice rfl Try.underlying107 eo109 rfl (by decide) (by decide) ⟨rfl, n.1, trivial⟩, trivial⟩ W8 fun b q p => ?_
      have hgq := hg.then p.grow
      have hsb := p.size.trans hs
      have hdb := p.defers.trans hd
      have j1 := p.ke 1 rfl i1
      have j12 := p.ke 12 rfl i12
      have j13 := p.ke 13 rfl i13
      have j14 := p.ke 14 rfl i14
      have e28 : b.get 28 = a.get 5 := (p.ou 0 28 rfl).1
      have j28 : IsOwn 0 109 s1.1 (b.get 28) q := (p.ou 0 28 rfl).2
      have y28 : Lo k0 (obF (b.get 28)) := by rw [e28]; exact n5
      have j34 : (IsV (α := (List RegionSpan)) ([(⟨x1.Y0, x1.Y1⟩ : RegionSpan)])) (b.get 34) q := p.ou 6 34 rfl
      have hns := j28.nshF
      refine tail_appendS (i := 7) (d := 35) rfl rfl rfl rfl (by rw [hsb]; decide) (e := 109) Try.underlying107 eo109 j28 (IsV.rd j34) hx2 fun b2 q2 hsz hdf hoth hch hown hob => ?_
      have hle := hch.le hns
      have yn : Lo k0 (obF (b2.get 35)) := y28.app hgq hob
      replace j1 := Pers.pers hle j1
      replace j12 := Pers.pers hle j12
      replace j13 := Pers.pers hle j13
      replace j14 := Pers.pers hle j14
      replace j34 := Pers.pers hle j34
      replace hgq := hgq.step hch y28.wr
      rw [← hoth 1 (by decide)] at j1
      rw [← hoth 12 (by decide)] at j12
      rw [← hoth 13 (by decide)] at j13
      rw [← hoth 14 (by decide)] at j14
      rw [← hoth 34 (by decide)] at j34
      have j35 := hown
      have y35 := yn
      replace hsb := hsz.trans hsb
      replace hdb := hdf.trans hdb
      clear hle hch hown hob hns yn hsz hdf hoth
      obtain ⟨b, hbb⟩ : ∃ b, b = b2 := ⟨b2, rfl⟩
      subst hbb
      obtain ⟨q, hqq⟩ : ∃ q, q = q2 := ⟨q2, rfl⟩
      subst hqq
      refine tail_assign (i := 8) (d := 5) rfl rfl (.inl rfl) rfl (by rw [hsb]; decide) fun b2 hsz hdf hnew hoth => ?_
      have jn : (IsOwn 0 109 x2) (b2.get 5) q := by rw [hnew]; exact j35
      have yn : Lo k0 (obF (b2.get 5)) := by rw [hnew]; exact y35
      rw [← hoth 1 (by decide)] at j1
      rw [← hoth 12 (by decide)] at j12
      rw [← hoth 13 (by decide)] at j13
      rw [← hoth 14 (by decide)] at j14
      rw [← hoth 34 (by decide)] at j34
      have j5 := jn
      have y5 := yn
      replace hsb := hsz.trans hsb
      replace hdb := hdf.trans hdb
      clear hsz hdf hoth
      obtain ⟨b, hbb⟩ : ∃ b, b = b2 := ⟨b2, rfl⟩
      subst hbb
      exact tail_done (k := q) (w7 _ _ ⟨⟨hgq, hsb, hdb⟩, j1, j5, y5, j12, j13, j14, trivial⟩)
     rintro a k ⟨⟨hg, hs, hd⟩, i1, i5, n5, i12, i13, i14, _⟩
     obtain rfl := Option.some.inj hr
     exact w6 _ _ ⟨⟨hg, hs, hd⟩, i1, i5, n5, i12, i13, i14, trivial⟩
    rw [if_neg (by rw [hc915]; decide)] at hr
    refine wp_skip ?_
    obtain rfl := Option.some.inj hr
    exact w6 _ _ ⟨⟨hg, hs, hd⟩, i1, i5, n5, i12, i13, i14, trivial⟩
   clear hs2
   rintro a k ⟨⟨hg, hs, hd⟩, i1, i5, n5, i12, i13, i14, _⟩
   obtain ⟨x3, hx3, hr⟩ := bind_some hr
   refine cut (fun a' k' => Bs noF k0 80 a' k' ∧ (IsV x_) (a'.get 1) k' ∧ IsOwn 0 109 s2 (a'.get 5) k' ∧ Lo k0 (obF (a'.get 5)) ∧ (IsV l_) (a'.get 12) k' ∧ (IsL l_) (a'.get 13) k' ∧ (IsV x3) (a'.get 14) k' ∧ True) ?_ hQ ?_
   ·intro Q9 W9 w8
    refine gS 2 (_ :: _ :: []) hs (by kernel_rfl) ⟨o1 [(14, none)] rfl fun _ _ h n => ok_add rfl (up i14 h n.1) (cI rfl) hx3, cm 0 rfl rfl, trivial⟩ W9 fun b q p => ?_
    exact tail_done (k := q) (w8 _ _ ⟨Bs.post ⟨hg, hs, hd⟩ p, p.ke 1 rfl i1, p.ke 5 rfl i5, (by rw [p.old 5 rfl]; exact n5), p.ke 12 rfl i12, p.ke 13 rfl i13, p.ou 1 14 rfl, trivial⟩)
   rintro a k ⟨⟨hg, hs, hd⟩, i1, i5, n5, i12, i13, i14, _⟩
   exact hgo904 _ _ _ (Option.some.inj hr).symm ⟨⟨hg, hs, hd⟩, i1, i5, n5, i12, i13, i14, trivial⟩
  rw [if_neg (by rw [hc924]; decide)] at hr
  refine wp_exit ?_
  exact hex905 _ _ _ _ (Option.some.inj hr).symm ⟨rfl, ⟨hg, hs, hd⟩, i5, n5, trivial⟩
 ·rintro r1 a k rfl hR
  dsimp only at hr
  obtain rfl := Option.some.inj hr
  exact hR
 ·rintro _ _ _ rfl _
  simp at hr
 clear hf1
 rintro _ s3 a k rfl ⟨rfl, ⟨hg, hs, hd⟩, i5, n5, _⟩
 dsimp only at hr
 refine wp_seq ?_
 obtain ⟨x4, hx4, hr⟩ := bind_some hr
 refine cut (fun a' k' => Bs noF k0 80 a' k' ∧ IsOwn 0 109 x4 (a'.get 5) k' ∧ Lo k0 (obF (a'.get 5)) ∧ True) ?_ hQ ?_
 ·intro Q10 W10 w9
  refine gS 1 (⟨some (OwnAt (a.get 5) 0 109 s3.1), [(5, none)]⟩ :: []) hs (by kernel_rfl) ⟨ob1 rfl fun _ _ h n => ok_moveOA (.inl rfl) (ownAt n.1 (up i5 h n.1)), trivial⟩ W10 fun b q p => ?_
  have hgq := hg.then p.grow
  have hsb := p.size.trans hs
  have hdb := p.defers.trans hd
  have j5 := p.ke 5 rfl i5
  have y5 : Lo k0 (obF (b.get 5)) := by rw [p.old 5 rfl]; exact n5
  have e37 : b.get 37 = a.get 5 := (p.ou 0 37 rfl).1
  have j37 : IsOwn 0 109 s3.1 (b.get 37) q := (p.ou 0 37 rfl).2
  have y37 : Lo k0 (obF (b.get 37)) := by rw [e37]; exact n5
  have hns := j37.nshF
  have eS : b.get 5 = b.get 37 := (p.old 5 rfl).trans e37.symm
  refine tail_call (F := obF (b.get 37)) (i := 1) (d := 38) rfl rfl rfl rfl (by rw [hsb]; decide) Try.call100 W10 (sortSpans_ok j37 hx4) fun b2 q2 hsz hdf hoth hch hres => ?_
  have hle := hch.le hns
  replace hgq := hgq.step hch y37.wr
  replace j5 : IsOwn 0 109 x4 (b.get 5) q2 := by rw [eS]; exact hres
  clear hres eS
  rw [← hoth 5 (by decide)] at j5
  rw [← hoth 5 (by decide)] at y5
  replace hsb := hsz.trans hsb
  replace hdb := hdf.trans hdb
  clear hle hch hns hsz hdf hoth
  obtain ⟨b, hbb⟩ : ∃ b, b = b2 := ⟨b2, rfl⟩
  subst hbb
  obtain ⟨q, hqq⟩ : ∃ q, q = q2 := ⟨q2, rfl⟩
  subst hqq
  exact tail_done (k := q) (w9 _ _ ⟨⟨hgq, hsb, hdb⟩, j5, y5, trivial⟩)
 rintro a k ⟨⟨hg, hs, hd⟩, i5, n5, _⟩
 refine wp_seq ?_
 obtain ⟨kk, sh930, ii5⟩ := i5.give
 replace i5 := ii5
 replace hg := hg.hand sh930 n5.wr
 rw [← sh930.w]
 clear sh930
 obtain ⟨k, hkk⟩ : ∃ k, k = kk := ⟨kk, rfl⟩
 subst hkk
 refine cut (fun a' k' => Bs noF k0 80 a' k' ∧ (IsV x4) (a'.get 5) k' ∧ IsOwn 0 109 ([] : List RegionSpan) (a'.get 8) k' ∧ Lo k0 (obF (a'.get 8)) ∧ True) ?_ hQ ?_
 ·intro Q11 W11 w10
  refine gS 1 (⟨some IsE0, []⟩ :: []) hs (by kernel_rfl) ⟨ob1 rfl fun b q h n => ok_assign rfl isE0_nil, trivial⟩ W11 fun b q p => ?_
  have hgq := hg.then p.grow
  have hsb := p.size.trans hs
  have hdb := p.defers.trans hd
  have j5 := p.ke 5 rfl i5
  have j8 : IsE0 (b.get 8) q := p.ou 0 8 rfl
  have y8 : Lo k0 (obF (b.get 8)) := j8.lo
  replace j8 : IsOwn 0 109 ([] : List RegionSpan) (b.get 8) q := j8.own0
  exact tail_done (k := q) (w10 _ _ ⟨⟨hgq, hsb, hdb⟩, j5, j8, y8, trivial⟩)
 rintro a k ⟨⟨hg, hs, hd⟩, i5, i8, n8, _⟩
 refine wp_seq ?_
 refine cutS (fun c l => Bs noF k0 80 c l ∧ IsOwn 0 109 ([] : List RegionSpan) (c.get 8) l ∧ Lo k0 (obF (c.get 8)) ∧ IsV x4 (c.get 39) l ∧ IsL x4 (c.get 40) l ∧ IsI 0 (c.get 41) l ∧ True) ?_ ?_
 ·intro Q12 W12 w11
  refine gS 3 (_ :: _ :: ⟨some (IsI 0), []⟩ :: []) hs (by kernel_rfl) ⟨mu rfl i5, o1 [(39, some 0)] rfl fun _ _ h n => ok_len rfl rfl Try.underlying107 (IsV.rd n.1), ob1 rfl fun _ _ h n => ok_move rfl (cI rfl), trivial⟩ W12 fun b q p => ?_
  exact tail_done (k := q) (w11 _ _ ⟨Bs.post ⟨hg, hs, hd⟩ p, p.ke 8 rfl i8, (by rw [p.old 8 rfl]; exact n8), p.ou 0 39 rfl, p.ou 1 40 rfl, p.ou 2 41 rfl, trivial⟩)
 rintro a k ⟨⟨hg, hs, hd⟩, i8, n8, i39, i40, i41, _⟩
 refine wp_block ?_
 obtain ⟨f2, hf2, hr⟩ := bind_some hr
 refine cutFe f2 (fun s' c l => Bs noF k0 80 c l ∧ IsOwn 0 109 s'.1 (c.get 8) l ∧ Lo k0 (obF (c.get 8)) ∧ IsV x4 (c.get 39) l ∧ IsL x4 (c.get 40) l ∧ IsV s'.2 (c.get 41) l ∧ True) (fun i' s' c l => (i' = 2 ∧ Bs noF k0 80 c l ∧ IsV s'.1 (c.get 8) l ∧ True)) (fun r' c l => bodyPost Try.prog Try.f83 (RetC noF k0 (IsV r')) .ret c l.w) ?_ hQ ?_ ?_ ?_
 ·intro Q13 W13 hgo hex hret
  refine sim_loop ?_ _ _ _ _ _ hf2 ⟨⟨hg, hs, hd⟩, i8, n8, i39, i40, i41, trivial⟩ Q13 W13 hgo hex hret
  clear hr hf2 hgo hex hret W13 hQ hg hs hd i39 i40 i41 i8 n8
  intro s4 fl_ a k hr hS Q hQ hgo934 hex935 hret936
  obtain ⟨⟨hg, hs, hd⟩, i8, n8, i39, i40, i41, _⟩ := hS
  unfold region_column_L1 at hr
  refine cutS (fun c l => Bs noF k0 80 c l ∧ IsOwn 0 109 s4.1 (c.get 8) l ∧ Lo k0 (obF (c.get 8)) ∧ IsV x4 (c.get 39) l ∧ IsL x4 (c.get 40) l ∧ IsV s4.2 (c.get 41) l ∧ (IsV (decide (s4.2 < (x4.length : Int)))) (c.get 42) l ∧ True) ?_ ?_
  ·intro Q14 W14 w12
   refine gS 1 (_ :: []) hs (by kernel_rfl) ⟨o1 [(41, none), (40, none)] rfl fun _ _ h n => ok_lss rfl (up i41 h n.1) (up i40 h n.2.1), trivial⟩ W14 fun b q p => ?_
   exact tail_done (k := q) (w12 _ _ ⟨Bs.post ⟨hg, hs, hd⟩ p, p.ke 8 rfl i8, (by rw [p.old 8 rfl]; exact n8), p.ke 39 rfl i39, p.ke 40 rfl i40, p.ke 41 rfl i41, p.ou 0 42 rfl, trivial⟩)
  rintro a k ⟨⟨hg, hs, hd⟩, i8, n8, i39, i40, i41, i42, _⟩
  refine wp_seq ?_
  refine wp_cond_split (isBool i42) (fun hc961 => ?_) (fun hc961 => ?_)
  ·rw [if_pos hc961] at hr
   refine wp_skip ?_
   refine wp_seq ?_
   refine wp_block ?_
   refine wp_seq ?_
   obtain ⟨x5, hx5, hr⟩ := bind_some hr
   refine cut (fun a' k' => Bs noF k0 80 a' k' ∧ IsOwn 0 109 s4.1 (a'.get 8) k' ∧ Lo k0 (obF (a'.get 8)) ∧ (IsRef x5) (a'.get 10) k' ∧ (IsV x4) (a'.get 39) k' ∧ (IsL x4) (a'.get 40) k' ∧ (IsV s4.2) (a'.get 41) k' ∧ True) ?_ hQ ?_
   ·intro Q15 W15 w13
    refine gS 3 (_ :: _ :: ⟨some (IsBox k.w.heap.size (⟨0, 0⟩ : RegionSpan)), []⟩ :: []) hs (by kernel_rfl) ⟨o1 [(39, none), (41, none)] rfl fun _ _ h n => ok_indexAddr rfl Try.underlying107 ty109 (IsV.rd (up i39 h n.1)) (up i41 h n.2.1) hx5, o1 [(43, some 0)] rfl fun _ _ h n => ok_load rfl ty109 n.1, ob1 rfl fun _ _ h n => ok_alloc _ h.size rfl z109, trivial⟩ W15 fun b q p => ?_
    have hgq := hg.then p.grow
    have hsb := p.size.trans hs
    have hdb := p.defers.trans hd
    have j8 := p.ke 8 rfl i8
    have y8 : Lo k0 (obF (b.get 8)) := by rw [p.old 8 rfl]; exact n8
    obtain ⟨b10, j10, x10, z10⟩ : (IsBox k.w.heap.size (⟨0, 0⟩ : RegionSpan)) (b.get 10) q := p.ou 2 10 rfl
    replace x10 : Lo k (Eq b10) := Lo.eq x10
    have y10 : Lo k0 (Eq b10) := x10.chg hg
    have j39 := p.ke 39 rfl i39
    have j40 := p.ke 40 rfl i40
    have j41 := p.ke 41 rfl i41
    have j44 : (IsV x5) (b.get 44) q := p.ou 1 44 rfl
    have w8_10 : Apart (obF (b.get 8)) (Eq b10) := Apart.new (by rw [p.old 8 rfl]; exact i8.ltF) x10
    have hns := z10.nshF
    refine tail_storeB (i := 3) rfl rfl rfl rfl szf109 (Upd.self (α := RegionSpan)) j10 z10 j44 fun q2 hch hz => ?_
    replace hgq := hgq.step hch y10.wr
    have hle := hch.le hns
    replace j8 := j8.keep hch w8_10 hns
    replace j39 := Pers.pers hle j39
    replace j40 := Pers.pers hle j40
    replace j41 := Pers.pers hle j41
    replace j44 := Pers.pers hle j44
    replace z10 := hz
    clear hns hle hch
    obtain ⟨q, hqq⟩ : ∃ q, q = q2 := ⟨q2, rfl⟩
    subst hqq
    obtain ⟨q2, hsh, jn⟩ := z10.give
    replace j8 := j8.handed hsh w8_10
    replace j39 := Pers.pers hsh.le j39
    replace j40 := Pers.pers hsh.le j40
    replace j41 := Pers.pers hsh.le j41
    rw [← j10] at jn
    replace j10 := jn
    replace hgq := hgq.hand hsh y10.wr
    rw [← hsh.w]
    clear hsh
    obtain ⟨q, hqq⟩ : ∃ q, q = q2 := ⟨q2, rfl⟩
    subst hqq
    exact tail_done (k := q) (w13 _ _ ⟨⟨hgq, hsb, hdb⟩, j8, y8, j10, j39, j40, j41, trivial⟩)
   rintro a k ⟨⟨hg, hs, hd⟩, i8, n8, i10, i39, i40, i41, _⟩
   refine cutS (fun c l => Bs noF k0 80 c l ∧ IsOwn 0 109 s4.1 (c.get 8) l ∧ Lo k0 (obF (c.get 8)) ∧ IsRef x5 (c.get 10) l ∧ IsI (s4.1.length : Int) (c.get 11) l ∧ IsV x4 (c.get 39) l ∧ IsL x4 (c.get 40) l ∧ IsV s4.2 (c.get 41) l ∧ True) ?_ ?_
   ·intro Q16 W16 w14
    refine gS 3 (⟨some (OwnAt (a.get 8) 0 109 s4.1), [(8, none)]⟩ :: _ :: _ :: []) hs (by kernel_rfl) ⟨ob1 rfl fun _ _ h n => ok_moveOA (.inl rfl) (ownAt n.1 (up i8 h n.1)), o1 [(45, some 0)] rfl fun _ _ h n => ok_len rfl rfl Try.underlying107 (IsOwn.rd (n.1).2), cp 1 rfl rfl, trivial⟩ W16 fun b q p => ?_
    exact tail_done (k := q) (w14 _ _ ⟨Bs.post ⟨hg, hs, hd⟩ p, p.ke 8 rfl i8, (by rw [p.old 8 rfl]; exact n8), p.ke 10 rfl i10, p.ou 2 11 rfl, p.ke 39 rfl i39, p.ke 40 rfl i40, p.ke 41 rfl i41, trivial⟩)
   rintro a k ⟨⟨hg, hs, hd⟩, i8, n8, i10, i11, i39, i40, i41, _⟩
   refine wp_seq ?_
   obtain ⟨x6, hx6, hr⟩ := bind_some hr
   obtain ⟨x8, hx8, hx6⟩ := ite_bind hx6
   obtain ⟨x9, hx9, hx6⟩ := ite_bind hx6
   refine cut (fun a' k' => Bs noF k0 80 a' k' ∧ IsOwn 0 109 s4.1 (a'.get 8) k' ∧ Lo k0 (obF (a'.get 8)) ∧ (IsRef x5) (a'.get 10) k' ∧ (IsI (s4.1.length : Int)) (a'.get 11) k' ∧ (IsV x4) (a'.get 39) k' ∧ (IsL x4) (a'.get 40) k' ∧ (IsV s4.2) (a'.get 41) k' ∧ (IsV x6) (a'.get 59) k' ∧ True) ?_ hQ ?_
   ·intro Q17 W17 w15
    refine region (m := 13) (_ :: _ :: _ :: _ :: _ :: ⟨some (Gd ((decide (0 < (s4.1.length : Int))) = true) (OwnAt (a.get 8) 0 109 s4.1)), [(8, none)]⟩ :: _ :: _ :: _ :: _ :: _ :: _ :: _ :: []) hmix hs (by kernel_rfl) ⟨mu rfl i11, o1 [(47, some 0)] rfl fun _ _ h n => ok_gtr rfl n.1 (cI rfl), cm 1 rfl rfl, gT [(10, none)] rfl rfl fun hp _ _ h n => ok_fieldAddr rfl fo109_0 (at_RegionSpan_0 _) ((up i10 h n.1)).ptr, gT [(50, some 3)] rfl rfl fun hp _ _ h n => ok_load rfl ty3 (Gd.get n.1 hp), gdT rfl rfl fun hp _ _ h n => ok_moveOA (.inl rfl) (ownAt n.1 (up i8 h n.1)), mT rfl rfl i11, gT [(53, some 6)] rfl rfl fun hp _ _ h n => ok_sub rfl (Gd.get n.1 hp) (cI rfl) (hx8 hp), gT [(52, some 5), (54, some 7)] rfl rfl fun hp _ _ h n => ok_indexAddr rfl Try.underlying107 ty109 (IsOwn.rd ((Gd.get n.1 hp)).2) (Gd.get n.2.1 hp) (hx9 hp), gT [(55, some 8)] rfl rfl fun hp _ _ h n => ok_fieldAddr rfl fo109_1 (at_RegionSpan_1 _) (Gd.get n.1 hp), gT [(56, some 9)] rfl rfl fun hp _ _ h n => ok_load rfl ty3 (Gd.get n.1 hp), gT [(51, some 4), (57, some 10)] rfl rfl fun hp _ _ h n => ok_leq rfl (Gd.get n.1 hp) (Gd.get n.2.1 hp), o1 [(49, some 2), (58, some 11)] rfl fun _ _ h n => ok_pickM rfl n.1 hx6 (Gd.get n.2.1) (cB rfl), trivial⟩ W17 fun b q p => ?_
    exact tail_done (k := q) (w15 _ _ ⟨Bs.post ⟨hg, hs, hd⟩ p, p.ke 8 rfl i8, (by rw [p.old 8 rfl]; exact n8), p.ke 10 rfl i10, p.ke 11 rfl i11, p.ke 39 rfl i39, p.ke 40 rfl i40, p.ke 41 rfl i41, p.ou 12 59 rfl, trivial⟩)
   rintro a k ⟨⟨hg, hs, hd⟩, i8, n8, i10, i11, i39, i40, i41, i59, _⟩
   obtain ⟨s5, hs5, hr⟩ := bind_some hr
   refine cut (fun a' k' => Bs noF k0 80 a' k' ∧ IsOwn 0 109 s5 (a'.get 8) k' ∧ Lo k0 (obF (a'.get 8)) ∧ (IsV x4) (a'.get 39) k' ∧ (IsL x4) (a'.get 40) k' ∧ (IsV s4.2) (a'.get 41) k' ∧ True) ?_ hQ ?_
   ·intro Q18 W18 w16
    replace hr := hs5
    clear hQ
    have hQ := W18
    refine wp_cond_split (isBool i59) (fun hc949 => ?_) (fun hc949 => ?_)
    ·rw [if_pos hc949] at hr
     obtain ⟨x11, hx11, hr⟩ := bind_some hr
     obtain ⟨x12, hx12, hr⟩ := bind_some hr
     obtain ⟨x13, hx13, hr⟩ := bind_some hr
     obtain ⟨x14, hx14, hr⟩ := bind_some hr
     obtain ⟨x15, hx15, hr⟩ := bind_some hr
     refine cut (fun a' k' => Bs noF k0 80 a' k' ∧ IsOwn 0 109 x15 (a'.get 8) k' ∧ Lo k0 (obF (a'.get 8)) ∧ (IsV x4) (a'.get 39) k' ∧ (IsL x4) (a'.get 40) k' ∧ (IsV s4.2) (a'.get 41) k' ∧ True) ?_ hQ ?_
     ·intro Q19 W19 w17
      refine region (m := 14) (⟨some (OwnAt (a.get 8) 0 109 s4.1), [(8, none)]⟩ :: _ :: _ :: ⟨some (OwnAt (a.get 8) 0 109 s4.1), [(8, none)]⟩ :: _ :: _ :: _ :: _ :: _ :: _ :: _ :: _ :: ⟨some (IsAdrO (a.get 8) ((x11).toNat * Enc.sz RegionSpan)), [(60, some 0), (62, some 2)]⟩ :: _ :: []) hmix hs (by kernel_rfl) ⟨ob1 rfl fun _ _ h n => ok_moveOA (.inl rfl) (ownAt n.1 (up i8 h n.1)), mu rfl i11, o1 [(61, some 1)] rfl fun _ _ h n => ok_sub rfl n.1 (cI rfl) hx11, ob1 rfl fun _ _ h n => ok_moveOA (.inl rfl) (ownAt n.1 (up i8 h n.1)), mu rfl i11, o1 [(64, some 4)] rfl fun _ _ h n => ok_sub rfl n.1 (cI rfl) hx12, o1 [(63, some 3), (65, some 5)] rfl fun _ _ h n => ok_indexAddr rfl Try.underlying107 ty109 (IsOwn.rd (n.1).2) n.2.1 hx13, o1 [(66, some 6)] rfl fun _ _ h n => ok_fieldAddr rfl fo109_1 (at_RegionSpan_1 _) n.1, o1 [(67, some 7)] rfl fun _ _ h n => ok_load rfl ty3 n.1, o1 [(10, none)] rfl fun _ _ h n => ok_fieldAddr rfl fo109_1 (at_RegionSpan_1 _) ((up i10 h n.1)).ptr, o1 [(69, some 9)] rfl fun _ _ h n => ok_load rfl ty3 n.1, o1 [(68, some 8), (70, some 10)] rfl fun _ _ h n => ok_max2 rfl n.1 n.2.1, ob1 rfl fun _ _ h n => ok_indexO rfl Try.underlying107 ty109 n.1 n.2.1 hx14, o1 [(72, some 12)] rfl fun _ _ h n => ok_fieldAdrO rfl fo109_1 n.1, trivial⟩ W19 fun b q p => ?_
      have hgq := hg.then p.grow
      have hsb := p.size.trans hs
      have hdb := p.defers.trans hd
      have j8 := p.ke 8 rfl i8
      have y8 : Lo k0 (obF (b.get 8)) := by rw [p.old 8 rfl]; exact n8
      have j39 := p.ke 39 rfl i39
      have j40 := p.ke 40 rfl i40
      have j41 := p.ke 41 rfl i41
      have j71 : (IsI (max x13.to_ x5.to_)) (b.get 71) q := p.ou 11 71 rfl
      have j73 : IsAdrO (a.get 8) ((x11).toNat * Enc.sz RegionSpan + 1) (b.get 73) q := p.ou 13 73 rfl
      have eo : b.get 8 = a.get 8 := p.old 8 rfl
      have hns := j8.nshF
      refine tail_storeS (i := 14) (u := b.get 8) (m := (x11).toNat) (off := 0 + 1) rfl rfl rfl rfl szf3 upd_F109_1 (by rw [eo]; exact j73) j8 (getI_spec hx14).2.1 j71 fun q2 hch hz => ?_
      replace hgq := hgq.step hch y8.wr
      have hle := hch.le hns
      replace j39 := Pers.pers hle j39
      replace j40 := Pers.pers hle j40
      replace j41 := Pers.pers hle j41
      replace j71 := Pers.pers hle j71
      replace j73 := Pers.pers hle j73
      replace j8 := hz
      rw [Option.some.inj hx15] at j8
      clear hns hle hch eo hz
      obtain ⟨q, hqq⟩ : ∃ q, q = q2 := ⟨q2, rfl⟩
      subst hqq
      exact tail_done (k := q) (w17 _ _ ⟨⟨hgq, hsb, hdb⟩, j8, y8, j39, j40, j41, trivial⟩)
     rintro a k ⟨⟨hg, hs, hd⟩, i8, n8, i39, i40, i41, _⟩
     obtain rfl := Option.some.inj hr
     exact w16 _ _ ⟨⟨hg, hs, hd⟩, i8, n8, i39, i40, i41, trivial⟩
    rw [if_neg (by rw [hc949]; decide)] at hr
    obtain ⟨x16, hx16, hr⟩ := bind_some hr
    refine cut (fun a' k' => Bs noF k0 80 a' k' ∧ IsOwn 0 109 x16 (a'.get 8) k' ∧ Lo k0 (obF (a'.get 8)) ∧ (IsV x4) (a'.get 39) k' ∧ (IsL x4) (a'.get 40) k' ∧ (IsV s4.2) (a'.get 41) k' ∧ True) ?_ hQ ?_
    ·intro Q20 W20 w18
     refine gS 3 (⟨some (OwnAt (a.get 8) 0 109 s4.1), [(8, none)]⟩ :: _ :: ⟨some (IsV (α := (List RegionSpan)) ([x5])), [(75, some 1)]⟩ :: []) hs (by kernel_rfl) ⟨ob1 rfl fun _ _ h n => ok_moveOA (.inl rfl) (ownAt n.1 (up i8 h n.1)), o1 [(10, none)] rfl fun _ _ h n => ok_load rfl ty109 ((up i10 h n.1)).ptr, ob1 rfl fun _ _ h n => ok_buildSlice rfl Try.underlying107 eo109 rfl (by decide) (by decide) ⟨rfl, n.1, trivial⟩, trivial⟩ W20 fun b q p => ?_
     have hgq := hg.then p.grow
     have hsb := p.size.trans hs
     have hdb := p.defers.trans hd
     have j39 := p.ke 39 rfl i39
     have j40 := p.ke 40 rfl i40
     have j41 := p.ke 41 rfl i41
     have e74 : b.get 74 = a.get 8 := (p.ou 0 74 rfl).1
     have j74 : IsOwn 0 109 s4.1 (b.get 74) q := (p.ou 0 74 rfl).2
     have y74 : Lo k0 (obF (b.get 74)) := by rw [e74]; exact n8
     have j76 : (IsV (α := (List RegionSpan)) ([x5])) (b.get 76) q := p.ou 2 76 rfl
     have hns := j74.nshF
     refine tail_appendS (i := 3) (d := 77) rfl rfl rfl rfl (by rw [hsb]; decide) (e := 109) Try.underlying107 eo109 j74 (IsV.rd j76) hx16 fun b2 q2 hsz hdf hoth hch hown hob => ?_
     have hle := hch.le hns
     have yn : Lo k0 (obF (b2.get 77)) := y74.app hgq hob
     replace j39 := Pers.pers hle j39
     replace j40 := Pers.pers hle j40
     replace j41 := Pers.pers hle j41
     replace j76 := Pers.pers hle j76
     replace hgq := hgq.step hch y74.wr
     rw [← hoth 39 (by decide)] at j39
     rw [← hoth 40 (by decide)] at j40
     rw [← hoth 41 (by decide)] at j41
     rw [← hoth 76 (by decide)] at j76
     have j77 := hown
     have y77 := yn
     replace hsb := hsz.trans hsb
     replace hdb := hdf.trans hdb
     clear hle hch hown hob hns yn hsz hdf hoth
     obtain ⟨b, hbb⟩ : ∃ b, b = b2 := ⟨b2, rfl⟩
     subst hbb
     obtain ⟨q, hqq⟩ : ∃ q, q = q2 := ⟨q2, rfl⟩
     subst hqq
     refine tail_assign (i := 4) (d := 8) rfl rfl (.inl rfl) rfl (by rw [hsb]; decide) fun b2 hsz hdf hnew hoth => ?_
     have jn : (IsOwn 0 109 x16) (b2.get 8) q := by rw [hnew]; exact j77
     have yn : Lo k0 (obF (b2.get 8)) := by rw [hnew]; exact y77
     rw [← hoth 39 (by decide)] at j39
     rw [← hoth 40 (by decide)] at j40
     rw [← hoth 41 (by decide)] at j41
     rw [← hoth 76 (by decide)] at j76
     have j8 := jn
     have y8 := yn
     replace hsb := hsz.trans hsb
     replace hdb := hdf.trans hdb
     clear hsz hdf hoth
     obtain ⟨b, hbb⟩ : ∃ b, b = b2 := ⟨b2, rfl⟩
     subst hbb
     exact tail_done (k := q) (w18 _ _ ⟨⟨hgq, hsb, hdb⟩, j8, y8, j39, j40, j41, trivial⟩)
    rintro a k ⟨⟨hg, hs, hd⟩, i8, n8, i39, i40, i41, _⟩
    obtain rfl := Option.some.inj hr
    exact w16 _ _ ⟨⟨hg, hs, hd⟩, i8, n8, i39, i40, i41, trivial⟩
   clear hs5
   rintro a k ⟨⟨hg, hs, hd⟩, i8, n8, i39, i40, i41, _⟩
   obtain ⟨x17, hx17, hr⟩ := bind_some hr
   refine cut (fun a' k' => Bs noF k0 80 a' k' ∧ IsOwn 0 109 s5 (a'.get 8) k' ∧ Lo k0 (obF (a'.get 8)) ∧ (IsV x4) (a'.get 39) k' ∧ (IsL x4) (a'.get 40) k' ∧ (IsV x17) (a'.get 41) k' ∧ True) ?_ hQ ?_
   ·intro Q21 W21 w19
    refine gS 2 (_ :: _ :: []) hs (by kernel_rfl) ⟨o1 [(41, none)] rfl fun _ _ h n => ok_add rfl (up i41 h n.1) (cI rfl) hx17, cm 0 rfl rfl, trivial⟩ W21 fun b q p => ?_
    exact tail_done (k := q) (w19 _ _ ⟨Bs.post ⟨hg, hs, hd⟩ p, p.ke 8 rfl i8, (by rw [p.old 8 rfl]; exact n8), p.ke 39 rfl i39, p.ke 40 rfl i40, p.ou 1 41 rfl, trivial⟩)
   rintro a k ⟨⟨hg, hs, hd⟩, i8, n8, i39, i40, i41, _⟩
   exact hgo934 _ _ _ (Option.some.inj hr).symm ⟨⟨hg, hs, hd⟩, i8, n8, i39, i40, i41, trivial⟩
  rw [if_neg (by rw [hc961]; decide)] at hr
  refine wp_exit ?_
  obtain ⟨kk, sh960, ii8⟩ := i8.give
  replace i8 := ii8
  replace hg := hg.hand sh960 n8.wr
  rw [← sh960.w]
  clear sh960
  obtain ⟨k, hkk⟩ : ∃ k, k = kk := ⟨kk, rfl⟩
  subst hkk
  exact hex935 _ _ _ _ (Option.some.inj hr).symm ⟨rfl, ⟨hg, hs, hd⟩, i8, trivial⟩
 ·rintro r2 a k rfl hR
  dsimp only at hr
  obtain rfl := Option.some.inj hr
  exact hR
 ·rintro _ _ _ rfl _
  simp at hr
 clear hf2
 rintro _ s6 a k rfl ⟨rfl, ⟨hg, hs, hd⟩, i8, _⟩
 dsimp only at hr
 refine stepL 2 (_ :: _ :: []) rfl ⟨hg, hs, hd⟩ (by kernel_rfl) ⟨mu rfl i8, cp 0 rfl rfl, trivial⟩ [⟨_, _⟩] (fun b q p => ⟨p.ou 1 4 rfl, trivial⟩) ?_
 rintro a k ⟨⟨hg, hs, hd⟩, i4, _⟩
 refine wp_ret ?_
 obtain rfl := Option.some.inj hr
 exact retC1 rfl hd hg i4
end Go.Proofs.Ytbpecfmimgjakaa
