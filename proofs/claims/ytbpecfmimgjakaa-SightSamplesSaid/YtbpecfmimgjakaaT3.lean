/- What the functions compute that the law reaches, part 3 -/
import Derived.Test.YtbpecfmimgjakaaT2
namespace Go.Proofs.Ytbpecfmimgjakaa
open Go.Gb
set_option linter.unusedVariables false
set_option linter.unusedSimpArgs false
set_option maxRecDepth 100000
def ref06_Form_L1 (x442_2 : (List Int)) (s446 : (List Rect) × (List Int) × Int × Int) (s456 : (List Rect) × Int) : Option (Flow ((List Rect) × Int) ((List Rect))) :=
 if (decide (s456.2 < (s456.1.length : Int))) then
  (addI s446.2.2.2 1).bind fun x461_4 =>
  (getI x442_2 x461_4).bind fun x461_5 =>
  (getI s456.1 s456.2).bind fun x461_7 =>
  (some (s456.1.set (s456.2).toNat ({ x461_7 with X1 := x461_5 }))).bind fun x461_9 =>
  (addI s456.2 1).bind fun x462_1 =>
  some (.go (x461_9, x462_1))
 else
  some (.ex 2 (s456.1, s456.2))
def ref06_Form_L2 (x442_2 : (List Int)) (s446 : (List Rect) × (List Int) × Int × Int) (x453_13 : (List Int)) (s479 : (List Rect) × Int) : Option (Flow ((List Rect) × Int) ((List Rect))) :=
 (addI s479.2 1).bind fun x483_1 =>
 if (decide (x483_1 < (x453_13.length : Int))) then
  (getI x442_2 s446.2.2.2).bind fun x484_3 =>
  (getI x453_13 s479.2).bind fun x484_7 =>
  (addI s446.2.2.2 1).bind fun x484_11 =>
  (getI x442_2 x484_11).bind fun x484_12 =>
  (addI s479.2 1).bind fun x484_16 =>
  (getI x453_13 x484_16).bind fun x484_17 =>
  (appI s479.1 ([(⟨x484_3, x484_7, x484_12, x484_17⟩ : Rect)])).bind fun x484_21 =>
  (addI s479.2 2).bind fun x485_1 =>
  some (.go (x484_21, x485_1))
 else
  some (.ex 4 (s479.1, s479.2))
def ref06_Form_L0 (a_ : (List Rect)) (b_ : (List Rect)) (op_ : Int) (x442_2 : (List Int)) (s446 : (List Rect) × (List Int) × Int × Int) : Option (Flow ((List Rect) × (List Int) × Int × Int) ((List Rect))) :=
 (addI s446.2.2.2 1).bind fun x450_1 =>
 if (decide (x450_1 < (x442_2.length : Int))) then
  ((getI x442_2 s446.2.2.2).bind fun x453_3 =>
  (ref06_column a_ x453_3).bind fun x453_5 =>
  (getI x442_2 s446.2.2.2).bind fun x453_9 =>
  (ref06_column b_ x453_9).bind fun x453_11 =>
  (ref06_combine x453_5 x453_11 op_).bind fun x453_13 =>
  (if ((decide (0 < s446.2.2.2)) && (decide (0 < (x453_13.length : Int)))) then
   (ref06_ints x453_13 s446.2.1).bind fun x454_10 =>
   some x454_10
  else
   some false).bind fun x454_11 =>
  if x454_11 then
   (iterL (ref06_Form_L1 x442_2 s446) (a_.length + b_.length + s446.1.length + x442_2.length + s446.2.1.length + 1) (s446.1, s446.2.2.1)).bind fun f470 => match f470 with
    | .go _ => none
    | .ex _ s471 =>
     some (s471.1, s446.2.1, s446.2.2.1)
    | .ret r472 => none
  else
   (iterL (ref06_Form_L2 x442_2 s446 x453_13) (a_.length + b_.length + s446.1.length + x442_2.length + x453_13.length + x453_13.length + 1) (s446.1, 0)).bind fun f493 => match f493 with
    | .go _ => none
    | .ex _ s494 =>
     some (s494.1, x453_13, (s446.1.length : Int))
    | .ret r495 => none).bind fun s451 =>
  (addI s446.2.2.2 1).bind fun x508_1 =>
  some (.go (s451.1, s451.2.1, s451.2.2, x508_1))
 else
  some (.ex 0 (s446.1, s446.2.1, s446.2.2.1, s446.2.2.2))
def ref06_Form (a_ : (List Rect)) (b_ : (List Rect)) (op_ : Int) : Option ((List Rect)) :=
 (ref06_edges a_ b_).bind fun x442_2 =>
 (iterL (ref06_Form_L0 a_ b_ op_ x442_2) (a_.length + b_.length + ([] : List Rect).length + x442_2.length + ([] : List Int).length + 1) (([] : List Rect), ([] : List Int), 0, 0)).bind fun f516 => match f516 with
  | .go _ => none
  | .ex _ s517 =>
   some s517.1
  | .ret r521 => some r521
theorem ref06_Form_ok {k0 : K} {v0 v1 v2 : Value} {a_ : (List Rect)} {b_ : (List Rect)} {op_ : Int} {r : (List Rect)} (i0 : (IsV a_) v0 k0) (i1 : (IsV b_) v1 k0) (i2 : (IsV op_) v2 k0) (hr : ref06_Form a_ b_ op_ = some r) :
  Calls Try.prog 44 #[v0, v1, v2] k0.w (Ret k0 (IsV r)) := by
 unfold ref06_Form at hr
 refine Ret.ofC ?_
 refine enterK Try.func44 rfl Try.ntmps44 (show 3 ≤ 100 by decide) fun a k hk0 hs hd ha => ?_
 obtain ⟨e0, e1, e2, _⟩ := ha
 replace i0 : (IsV a_) (a.get 0) k := by rw [e0, hk0]; exact i0
 replace i1 : (IsV b_) (a.get 1) k := by rw [e1, hk0]; exact i1
 replace i2 : (IsV op_) (a.get 2) k := by rw [e2, hk0]; exact i2
 have hQ : Gb.LetsOut (bodyPost Try.prog Try.f44 (RetC noF k0 (IsV r))) := letsOutC
 have hg : Chg noF k0 k := by rw [hk0]; exact Chg.refl _ k0
 refine stepL 1 (⟨some IsE0, []⟩ :: []) rfl ⟨hg, hs, hd⟩ (by kernel_rfl) ⟨ob1 rfl fun b q h n => ok_assign rfl isE0_nil, trivial⟩ [⟨_, _⟩, ⟨_, _⟩, ⟨_, _⟩] (fun b q p => ⟨p.ke 0 rfl i0, p.ke 1 rfl i1, p.ke 2 rfl i2, trivial⟩) ?_
 rintro a k ⟨⟨hg, hs, hd⟩, i0, i1, i2, _⟩
 refine cutS (fun a' k' => Bs noF k0 100 a' k' ∧ (IsV a_) (a'.get 0) k' ∧ (IsV b_) (a'.get 1) k' ∧ (IsV op_) (a'.get 2) k' ∧ IsOwn 0 35 ([] : List Rect) (a'.get 7) k' ∧ Lo k0 (obF (a'.get 7)) ∧ True) ?_ ?_
 ·intro Q531 hQQ531 hp532
  refine gS 1 (⟨some IsE0, []⟩ :: []) hs (by kernel_rfl) ⟨ob1 rfl fun b q h n => ok_assign rfl isE0_nil, trivial⟩ hQQ531 fun b q p => ?_
  have hgq := hg.then p.grow
  have hsb := p.size.trans hs
  have hdb := p.defers.trans hd
  have j0 := p.ke 0 rfl i0
  have j1 := p.ke 1 rfl i1
  have j2 := p.ke 2 rfl i2
  have j7 : IsE0 (b.get 7) q := p.ou 0 7 rfl
  have y7 : Lo k0 (obF (b.get 7)) := j7.lo
  replace j7 : IsOwn 0 35 ([] : List Rect) (b.get 7) q := j7.own0
  exact tail_done (k := q) (hp532 _ _ ⟨⟨hgq, hsb, hdb⟩, j0, j1, j2, j7, y7, trivial⟩)
 rintro a k ⟨⟨hg, hs, hd⟩, i0, i1, i2, i7, n7, _⟩
 refine wp_seq ?_
 obtain ⟨x442_2, hx442_2, hr⟩ := bind_some hr
 refine cut (fun a' k' => Bs noF k0 100 a' k' ∧ (IsV a_) (a'.get 0) k' ∧ (IsV b_) (a'.get 1) k' ∧ (IsV op_) (a'.get 2) k' ∧ IsOwn 0 35 ([] : List Rect) (a'.get 7) k' ∧ Lo k0 (obF (a'.get 7)) ∧ (IsV x442_2) (a'.get 8) k' ∧ True) ?_ hQ ?_
 ·intro Q529 hQQ529 hp530
  refine gS 4 (_ :: _ :: _ :: _ :: []) hs (by kernel_rfl) ⟨mu rfl i0, mu rfl i1, o1 [(15, some 0), (16, some 1)] rfl fun _ _ h n => ok_call rfl Try.call67 (ref06_edges_ok n.1 n.2.1 hx442_2), cp 2 rfl rfl, trivial⟩ hQQ529 fun b q p => ?_
  exact tail_done (k := q) (hp530 _ _ ⟨Bs.post ⟨hg, hs, hd⟩ p, p.ke 0 rfl i0, p.ke 1 rfl i1, p.ke 2 rfl i2, p.ke 7 rfl i7, (by rw [p.old 7 rfl]; exact n7), p.ou 3 8 rfl, trivial⟩)
 rintro a k ⟨⟨hg, hs, hd⟩, i0, i1, i2, i7, n7, i8, _⟩
 refine cutS (fun a' k' => Bs noF k0 100 a' k' ∧ (IsV a_) (a'.get 0) k' ∧ (IsV b_) (a'.get 1) k' ∧ (IsV op_) (a'.get 2) k' ∧ IsOwn 0 35 ([] : List Rect) (a'.get 7) k' ∧ Lo k0 (obF (a'.get 7)) ∧ (IsV x442_2) (a'.get 8) k' ∧ (IsV ([] : List Int)) (a'.get 9) k' ∧ True) ?_ ?_
 ·intro Q527 hQQ527 hp528
  refine gS 1 (⟨some IsE0, []⟩ :: []) hs (by kernel_rfl) ⟨ob1 rfl fun b q h n => ok_assign rfl isE0_nil, trivial⟩ hQQ527 fun b q p => ?_
  have hgq := hg.then p.grow
  have hsb := p.size.trans hs
  have hdb := p.defers.trans hd
  have j0 := p.ke 0 rfl i0
  have j1 := p.ke 1 rfl i1
  have j2 := p.ke 2 rfl i2
  have j7 := p.ke 7 rfl i7
  have y7 : Lo k0 (obF (b.get 7)) := by rw [p.old 7 rfl]; exact n7
  have j8 := p.ke 8 rfl i8
  have j9 : IsE0 (b.get 9) q := p.ou 0 9 rfl
  replace j9 : IsV ([] : List Int) (b.get 9) q := j9.isV
  exact tail_done (k := q) (hp528 _ _ ⟨⟨hgq, hsb, hdb⟩, j0, j1, j2, j7, y7, j8, j9, trivial⟩)
 rintro a k ⟨⟨hg, hs, hd⟩, i0, i1, i2, i7, n7, i8, i9, _⟩
 refine cutS (fun a' k' => Bs noF k0 100 a' k' ∧ (IsV a_) (a'.get 0) k' ∧ (IsV b_) (a'.get 1) k' ∧ (IsV op_) (a'.get 2) k' ∧ IsOwn 0 35 ([] : List Rect) (a'.get 7) k' ∧ Lo k0 (obF (a'.get 7)) ∧ (IsV x442_2) (a'.get 8) k' ∧ (IsV ([] : List Int)) (a'.get 9) k' ∧ (IsI 0) (a'.get 10) k' ∧ True) ?_ ?_
 ·intro Q525 hQQ525 hp526
  refine gS 1 (⟨some (IsI 0), []⟩ :: []) hs (by kernel_rfl) ⟨aI rfl rfl, trivial⟩ hQQ525 fun b q p => ?_
  exact tail_done (k := q) (hp526 _ _ ⟨Bs.post ⟨hg, hs, hd⟩ p, p.ke 0 rfl i0, p.ke 1 rfl i1, p.ke 2 rfl i2, p.ke 7 rfl i7, (by rw [p.old 7 rfl]; exact n7), p.ke 8 rfl i8, p.ke 9 rfl i9, p.ou 0 10 rfl, trivial⟩)
 rintro a k ⟨⟨hg, hs, hd⟩, i0, i1, i2, i7, n7, i8, i9, i10, _⟩
 refine wp_seq ?_
 refine cutS (fun a' k' => Bs noF k0 100 a' k' ∧ (IsV a_) (a'.get 0) k' ∧ (IsV b_) (a'.get 1) k' ∧ (IsV op_) (a'.get 2) k' ∧ IsOwn 0 35 ([] : List Rect) (a'.get 7) k' ∧ Lo k0 (obF (a'.get 7)) ∧ (IsV x442_2) (a'.get 8) k' ∧ (IsV ([] : List Int)) (a'.get 9) k' ∧ (IsI 0) (a'.get 10) k' ∧ (IsI 0) (a'.get 11) k' ∧ True) ?_ ?_
 ·intro Q523 hQQ523 hp524
  refine gS 1 (⟨some (IsI 0), []⟩ :: []) hs (by kernel_rfl) ⟨aI rfl rfl, trivial⟩ hQQ523 fun b q p => ?_
  exact tail_done (k := q) (hp524 _ _ ⟨Bs.post ⟨hg, hs, hd⟩ p, p.ke 0 rfl i0, p.ke 1 rfl i1, p.ke 2 rfl i2, p.ke 7 rfl i7, (by rw [p.old 7 rfl]; exact n7), p.ke 8 rfl i8, p.ke 9 rfl i9, p.ke 10 rfl i10, p.ou 0 11 rfl, trivial⟩)
 rintro a k ⟨⟨hg, hs, hd⟩, i0, i1, i2, i7, n7, i8, i9, i10, i11, _⟩
 refine wp_block ?_
 obtain ⟨f516, hf516, hr⟩ := bind_some hr
 refine cutFe f516 (fun s' a' k' => Bs noF k0 100 a' k' ∧ (IsV a_) (a'.get 0) k' ∧ (IsV b_) (a'.get 1) k' ∧ (IsV op_) (a'.get 2) k' ∧ IsOwn 0 35 s'.1 (a'.get 7) k' ∧ Lo k0 (obF (a'.get 7)) ∧ (IsV x442_2) (a'.get 8) k' ∧ (IsV s'.2.1) (a'.get 9) k' ∧ (IsV s'.2.2.1) (a'.get 10) k' ∧ (IsV s'.2.2.2) (a'.get 11) k' ∧ True) (fun i' s' a' k' => (i' = 0 ∧ Bs noF k0 100 a' k' ∧ (IsV s'.1) (a'.get 7) k' ∧ True)) (fun r' a' k' => bodyPost Try.prog Try.f44 (RetC noF k0 (IsV r')) .ret a' k'.w) ?_ hQ ?_ ?_ ?_
 ·intro Q522 hQQ522 hgo hex hret
  refine sim_loop ?_ _ _ _ _ _ hf516 ⟨⟨hg, hs, hd⟩, i0, i1, i2, i7, n7, i8, i9, i10, i11, trivial⟩ Q522 hQQ522 hgo hex hret
  clear hr hf516 hgo hex hret hQQ522 hQ hg hs hd i0 i1 i10 i11 i2 i7 i8 i9 n7
  intro s446 fl_ a k hr hS Q hQ hgo447 hex448 hret449
  obtain ⟨⟨hg, hs, hd⟩, i0, i1, i2, i7, n7, i8, i9, i10, i11, _⟩ := hS
  unfold ref06_Form_L0 at hr
  refine wp_seq ?_
  refine wp_seq ?_
  obtain ⟨x450_1, hx450_1, hr⟩ := bind_some hr
  refine cut (fun a' k' => Bs noF k0 100 a' k' ∧ (IsV a_) (a'.get 0) k' ∧ (IsV b_) (a'.get 1) k' ∧ (IsV op_) (a'.get 2) k' ∧ IsOwn 0 35 s446.1 (a'.get 7) k' ∧ Lo k0 (obF (a'.get 7)) ∧ (IsV x442_2) (a'.get 8) k' ∧ (IsV s446.2.1) (a'.get 9) k' ∧ (IsV s446.2.2.1) (a'.get 10) k' ∧ (IsV s446.2.2.2) (a'.get 11) k' ∧ (IsV (decide (x450_1 < (x442_2.length : Int)))) (a'.get 22) k' ∧ True) ?_ hQ ?_
  ·intro Q514 hQQ514 hp515
   refine gS 5 (_ :: _ :: _ :: _ :: _ :: []) hs (by kernel_rfl) ⟨mu rfl i11, o1 [(18, some 0)] rfl fun _ _ h n => ok_add rfl n.1 (cI rfl) hx450_1, mu rfl i8, o1 [(20, some 2)] rfl fun _ _ h n => ok_len rfl rfl Try.underlying63 (IsV.rd n.1), o1 [(19, some 1), (21, some 3)] rfl fun _ _ h n => ok_lss rfl n.1 n.2.1, trivial⟩ hQQ514 fun b q p => ?_
   exact tail_done (k := q) (hp515 _ _ ⟨Bs.post ⟨hg, hs, hd⟩ p, p.ke 0 rfl i0, p.ke 1 rfl i1, p.ke 2 rfl i2, p.ke 7 rfl i7, (by rw [p.old 7 rfl]; exact n7), p.ke 8 rfl i8, p.ke 9 rfl i9, p.ke 10 rfl i10, p.ke 11 rfl i11, p.ou 4 22 rfl, trivial⟩)
  rintro a k ⟨⟨hg, hs, hd⟩, i0, i1, i2, i7, n7, i8, i9, i10, i11, i22, _⟩
  refine wp_cond_split (isBool i22) (fun hc513 => ?_) (fun hc513 => ?_)
  ·rw [if_pos hc513] at hr
   refine wp_skip ?_
   refine wp_seq ?_
   obtain ⟨s451, hs451, hr⟩ := bind_some hr
   refine cut (fun a' k' => Bs noF k0 100 a' k' ∧ (IsV a_) (a'.get 0) k' ∧ (IsV b_) (a'.get 1) k' ∧ (IsV op_) (a'.get 2) k' ∧ IsOwn 0 35 s451.1 (a'.get 7) k' ∧ Lo k0 (obF (a'.get 7)) ∧ (IsV x442_2) (a'.get 8) k' ∧ (IsV s451.2.1) (a'.get 9) k' ∧ (IsV s451.2.2) (a'.get 10) k' ∧ (IsV s446.2.2.2) (a'.get 11) k' ∧ True) ?_ hQ ?_
   ·intro Q511 hQQ511 hp452
    replace hr := hs451
    clear hQ
    have hQ := hQQ511
    refine wp_block ?_
    refine wp_seq ?_
    obtain ⟨x453_3, hx453_3, hr⟩ := bind_some hr
    obtain ⟨x453_5, hx453_5, hr⟩ := bind_some hr
    obtain ⟨x453_9, hx453_9, hr⟩ := bind_some hr
    obtain ⟨x453_11, hx453_11, hr⟩ := bind_some hr
    obtain ⟨x453_13, hx453_13, hr⟩ := bind_some hr
    refine cut (fun a' k' => Bs noF k0 100 a' k' ∧ (IsV a_) (a'.get 0) k' ∧ (IsV b_) (a'.get 1) k' ∧ (IsV op_) (a'.get 2) k' ∧ IsOwn 0 35 s446.1 (a'.get 7) k' ∧ Lo k0 (obF (a'.get 7)) ∧ (IsV x442_2) (a'.get 8) k' ∧ (IsV s446.2.1) (a'.get 9) k' ∧ (IsV s446.2.2.1) (a'.get 10) k' ∧ (IsV s446.2.2.2) (a'.get 11) k' ∧ (IsV x453_13) (a'.get 12) k' ∧ True) ?_ hQ ?_
    ·intro Q506 hQQ506 hp507
     refine region (a0 := a) (k0 := k) (n := 100) (m := 15) (⟨some (IsV a_), [(0, none)]⟩ :: ⟨some (IsV x442_2), [(8, none)]⟩ :: ⟨some (IsV s446.2.2.2), [(11, none)]⟩ :: ⟨some (IsPtr x453_3), [(26, some 1), (27, some 2)]⟩ :: ⟨some (IsV x453_3), [(28, some 3)]⟩ :: ⟨some (IsV x453_5), [(25, some 0), (29, some 4)]⟩ :: ⟨some (IsV b_), [(1, none)]⟩ :: ⟨some (IsV x442_2), [(8, none)]⟩ :: ⟨some (IsV s446.2.2.2), [(11, none)]⟩ :: ⟨some (IsPtr x453_9), [(32, some 7), (33, some 8)]⟩ :: ⟨some (IsV x453_9), [(34, some 9)]⟩ :: ⟨some (IsV x453_11), [(31, some 6), (35, some 10)]⟩ :: ⟨some (IsV op_), [(2, none)]⟩ :: ⟨some (IsV x453_13), [(30, some 5), (36, some 11), (37, some 12)]⟩ :: ⟨some (IsV x453_13), [(38, some 13)]⟩ :: []) hmix hs (by kernel_rfl) ⟨ob1 rfl fun b q hk hn => ok_move rfl (up i0 hk hn.1), ob1 rfl fun b q hk hn => ok_move rfl (up i8 hk hn.1), ob1 rfl fun b q hk hn => ok_move rfl (up i11 hk hn.1), ob1 rfl fun b q hk hn => ok_indexAddr rfl Try.underlying63 ty3 (IsV.rd hn.1) hn.2.1 hx453_3, ob1 rfl fun b q hk hn => ok_load rfl ty3 hn.1, ob1 rfl fun b q hk hn => ok_call rfl Try.call69 (ref06_column_ok hn.1 hn.2.1 hx453_5), ob1 rfl fun b q hk hn => ok_move rfl (up i1 hk hn.1), ob1 rfl fun b q hk hn => ok_move rfl (up i8 hk hn.1), ob1 rfl fun b q hk hn => ok_move rfl (up i11 hk hn.1), ob1 rfl fun b q hk hn => ok_indexAddr rfl Try.underlying63 ty3 (IsV.rd hn.1) hn.2.1 hx453_9, ob1 rfl fun b q hk hn => ok_load rfl ty3 hn.1, ob1 rfl fun b q hk hn => ok_call rfl Try.call69 (ref06_column_ok hn.1 hn.2.1 hx453_11), ob1 rfl fun b q hk hn => ok_move rfl (up i2 hk hn.1), ob1 rfl fun b q hk hn => ok_call rfl Try.call68 (ref06_combine_ok hn.1 hn.2.1 hn.2.2.1 hx453_13), ob1 rfl fun b q hk hn => ok_assign rfl hn.1, trivial⟩ hQQ506 fun b q p => ?_
     exact tail_done (k := q) (hp507 _ _ ⟨Bs.post ⟨hg, hs, hd⟩ p, p.ke 0 rfl i0, p.ke 1 rfl i1, p.ke 2 rfl i2, p.ke 7 rfl i7, (by rw [p.old 7 rfl]; exact n7), p.ke 8 rfl i8, p.ke 9 rfl i9, p.ke 10 rfl i10, p.ke 11 rfl i11, p.ou 14 12 rfl, trivial⟩)
    rintro a k ⟨⟨hg, hs, hd⟩, i0, i1, i2, i7, n7, i8, i9, i10, i11, i12, _⟩
    refine wp_seq ?_
    refine wp_seq ?_
    obtain ⟨x454_11, hx454_11, hr⟩ := bind_some hr
    obtain ⟨x454_10, hx454_10, hx454_11⟩ := ite_bind hx454_11
    refine cut (fun a' k' => Bs noF k0 100 a' k' ∧ (IsV a_) (a'.get 0) k' ∧ (IsV b_) (a'.get 1) k' ∧ (IsV op_) (a'.get 2) k' ∧ IsOwn 0 35 s446.1 (a'.get 7) k' ∧ Lo k0 (obF (a'.get 7)) ∧ (IsV x442_2) (a'.get 8) k' ∧ (IsV s446.2.1) (a'.get 9) k' ∧ (IsV s446.2.2.1) (a'.get 10) k' ∧ (IsV s446.2.2.2) (a'.get 11) k' ∧ (IsV x453_13) (a'.get 12) k' ∧ (IsV x454_11) (a'.get 50) k' ∧ True) ?_ hQ ?_
    ·intro Q504 hQQ504 hp505
     refine gS 12 (_ :: _ :: _ :: _ :: _ :: _ :: _ :: _ :: _ :: _ :: _ :: _ :: []) hs (by kernel_rfl) ⟨mu rfl i11, o1 [(39, some 0)] rfl fun _ _ h n => ok_gtr rfl n.1 (cI rfl), cm 1 rfl rfl, mT rfl rfl i12, gT [(42, some 3)] rfl rfl fun hp _ _ h n => ok_len rfl rfl Try.underlying63 (IsV.rd (Gd.get n.1 hp)), gT [(43, some 4)] rfl rfl fun hp _ _ h n => ok_gtr rfl (Gd.get n.1 hp) (cI rfl), o1 [(41, some 2), (44, some 5)] rfl fun _ _ h n => ok_pickAnd rfl n.1 (Gd.get n.2.1) (cB rfl), cm 6 rfl rfl, mT rfl rfl i12, mT rfl rfl i9, gT [(47, some 8), (48, some 9)] rfl rfl fun hp _ _ h n => ok_call rfl Try.call70 (ref06_ints_ok (Gd.get n.1 hp) (Gd.get n.2.1 hp) (hx454_10 hp)), o1 [(46, some 7), (49, some 10)] rfl fun _ _ h n => ok_pickM rfl n.1 hx454_11 (Gd.get n.2.1) (cB rfl), trivial⟩ hQQ504 fun b q p => ?_
     exact tail_done (k := q) (hp505 _ _ ⟨Bs.post ⟨hg, hs, hd⟩ p, p.ke 0 rfl i0, p.ke 1 rfl i1, p.ke 2 rfl i2, p.ke 7 rfl i7, (by rw [p.old 7 rfl]; exact n7), p.ke 8 rfl i8, p.ke 9 rfl i9, p.ke 10 rfl i10, p.ke 11 rfl i11, p.ke 12 rfl i12, p.ou 11 50 rfl, trivial⟩)
    rintro a k ⟨⟨hg, hs, hd⟩, i0, i1, i2, i7, n7, i8, i9, i10, i11, i12, i50, _⟩
    refine wp_cond_split (isBool i50) (fun hc503 => ?_) (fun hc503 => ?_)
    ·rw [if_pos hc503] at hr
     refine wp_seq ?_
     refine cutS (fun a' k' => Bs noF k0 100 a' k' ∧ (IsV a_) (a'.get 0) k' ∧ (IsV b_) (a'.get 1) k' ∧ (IsV op_) (a'.get 2) k' ∧ IsOwn 0 35 s446.1 (a'.get 7) k' ∧ Lo k0 (obF (a'.get 7)) ∧ (IsV x442_2) (a'.get 8) k' ∧ (IsV s446.2.1) (a'.get 9) k' ∧ (IsV s446.2.2.1) (a'.get 10) k' ∧ (IsV s446.2.2.2) (a'.get 11) k' ∧ (IsV s446.2.2.1) (a'.get 13) k' ∧ True) ?_ ?_
     ·intro Q474 hQQ474 hp475
      refine gS 2 (_ :: _ :: []) hs (by kernel_rfl) ⟨mu rfl i10, cp 0 rfl rfl, trivial⟩ hQQ474 fun b q p => ?_
      exact tail_done (k := q) (hp475 _ _ ⟨Bs.post ⟨hg, hs, hd⟩ p, p.ke 0 rfl i0, p.ke 1 rfl i1, p.ke 2 rfl i2, p.ke 7 rfl i7, (by rw [p.old 7 rfl]; exact n7), p.ke 8 rfl i8, p.ke 9 rfl i9, p.ke 10 rfl i10, p.ke 11 rfl i11, p.ou 1 13 rfl, trivial⟩)
     rintro a k ⟨⟨hg, hs, hd⟩, i0, i1, i2, i7, n7, i8, i9, i10, i11, i13, _⟩
     refine wp_block ?_
     obtain ⟨f470, hf470, hr⟩ := bind_some hr
     refine cutFe f470 (fun s' a' k' => Bs noF k0 100 a' k' ∧ (IsV a_) (a'.get 0) k' ∧ (IsV b_) (a'.get 1) k' ∧ (IsV op_) (a'.get 2) k' ∧ IsOwn 0 35 s'.1 (a'.get 7) k' ∧ Lo k0 (obF (a'.get 7)) ∧ (IsV x442_2) (a'.get 8) k' ∧ (IsV s446.2.1) (a'.get 9) k' ∧ (IsV s446.2.2.1) (a'.get 10) k' ∧ (IsV s446.2.2.2) (a'.get 11) k' ∧ (IsV s'.2) (a'.get 13) k' ∧ True) (fun i' s' a' k' => (i' = 2 ∧ Bs noF k0 100 a' k' ∧ (IsV a_) (a'.get 0) k' ∧ (IsV b_) (a'.get 1) k' ∧ (IsV op_) (a'.get 2) k' ∧ IsOwn 0 35 s'.1 (a'.get 7) k' ∧ Lo k0 (obF (a'.get 7)) ∧ (IsV x442_2) (a'.get 8) k' ∧ (IsV s446.2.1) (a'.get 9) k' ∧ (IsV s446.2.2.1) (a'.get 10) k' ∧ (IsV s446.2.2.2) (a'.get 11) k' ∧ True)) (fun r' a' k' => bodyPost Try.prog Try.f44 (RetC noF k0 (IsV r')) .ret a' k'.w) ?_ hQ ?_ ?_ ?_
     ·intro Q473 hQQ473 hgo hex hret
      refine sim_loop ?_ _ _ _ _ _ hf470 ⟨⟨hg, hs, hd⟩, i0, i1, i2, i7, n7, i8, i9, i10, i11, i13, trivial⟩ Q473 hQQ473 hgo hex hret
      clear hr hf470 hgo hex hret hQQ473 hQ hg hs hd i0 i1 i10 i11 i13 i2 i7 i8 i9 n7
      intro s456 fl_ a k hr hS Q hQ hgo457 hex458 hret459
      obtain ⟨⟨hg, hs, hd⟩, i0, i1, i2, i7, n7, i8, i9, i10, i11, i13, _⟩ := hS
      unfold ref06_Form_L1 at hr
      refine wp_seq ?_
      refine cutS (fun a' k' => Bs noF k0 100 a' k' ∧ (IsV a_) (a'.get 0) k' ∧ (IsV b_) (a'.get 1) k' ∧ (IsV op_) (a'.get 2) k' ∧ IsOwn 0 35 s456.1 (a'.get 7) k' ∧ Lo k0 (obF (a'.get 7)) ∧ (IsV x442_2) (a'.get 8) k' ∧ (IsV s446.2.1) (a'.get 9) k' ∧ (IsV s446.2.2.1) (a'.get 10) k' ∧ (IsV s446.2.2.2) (a'.get 11) k' ∧ (IsV s456.2) (a'.get 13) k' ∧ (IsV (decide (s456.2 < (s456.1.length : Int)))) (a'.get 55) k' ∧ True) ?_ ?_
      ·intro Q468 hQQ468 hp469
       refine gS 4 (_ :: ⟨some (OwnAt (a.get 7) 0 35 s456.1), [(7, none)]⟩ :: _ :: _ :: []) hs (by kernel_rfl) ⟨mu rfl i13, ob1 rfl fun _ _ h n => ok_moveOA (.inl rfl) (ownAt n.1 (up i7 h n.1)), o1 [(53, some 1)] rfl fun _ _ h n => ok_len rfl rfl Try.underlying49 (IsOwn.rd (n.1).2), o1 [(52, some 0), (54, some 2)] rfl fun _ _ h n => ok_lss rfl n.1 n.2.1, trivial⟩ hQQ468 fun b q p => ?_
       exact tail_done (k := q) (hp469 _ _ ⟨Bs.post ⟨hg, hs, hd⟩ p, p.ke 0 rfl i0, p.ke 1 rfl i1, p.ke 2 rfl i2, p.ke 7 rfl i7, (by rw [p.old 7 rfl]; exact n7), p.ke 8 rfl i8, p.ke 9 rfl i9, p.ke 10 rfl i10, p.ke 11 rfl i11, p.ke 13 rfl i13, p.ou 3 55 rfl, trivial⟩)
      rintro a k ⟨⟨hg, hs, hd⟩, i0, i1, i2, i7, n7, i8, i9, i10, i11, i13, i55, _⟩
      refine wp_cond_split (isBool i55) (fun hc467 => ?_) (fun hc467 => ?_)
      ·rw [if_pos hc467] at hr
       refine wp_skip ?_
       refine wp_seq ?_
       refine wp_block ?_
       obtain ⟨x461_4, hx461_4, hr⟩ := bind_some hr
       obtain ⟨x461_5, hx461_5, hr⟩ := bind_some hr
       obtain ⟨x461_7, hx461_7, hr⟩ := bind_some hr
       obtain ⟨x461_9, hx461_9, hr⟩ := bind_some hr
       refine cut (fun a' k' => Bs noF k0 100 a' k' ∧ (IsV a_) (a'.get 0) k' ∧ (IsV b_) (a'.get 1) k' ∧ (IsV op_) (a'.get 2) k' ∧ IsOwn 0 35 x461_9 (a'.get 7) k' ∧ Lo k0 (obF (a'.get 7)) ∧ (IsV x442_2) (a'.get 8) k' ∧ (IsV s446.2.1) (a'.get 9) k' ∧ (IsV s446.2.2.1) (a'.get 10) k' ∧ (IsV s446.2.2.2) (a'.get 11) k' ∧ (IsV s456.2) (a'.get 13) k' ∧ True) ?_ hQ ?_
       ·intro Q465 hQQ465 hp466
        refine gS 9 (⟨some (OwnAt (a.get 7) 0 35 s456.1), [(7, none)]⟩ :: _ :: _ :: _ :: _ :: _ :: _ :: ⟨some (IsAdrO (a.get 7) ((s456.2).toNat * Enc.sz Rect)), [(58, some 0), (59, some 1)]⟩ :: _ :: []) hs (by kernel_rfl) ⟨ob1 rfl fun _ _ h n => ok_moveOA (.inl rfl) (ownAt n.1 (up i7 h n.1)), mu rfl i13, mu rfl i8, mu rfl i11, o1 [(61, some 3)] rfl fun _ _ h n => ok_add rfl n.1 (cI rfl) hx461_4, o1 [(60, some 2), (62, some 4)] rfl fun _ _ h n => ok_indexAddr rfl Try.underlying63 ty3 (IsV.rd n.1) n.2.1 hx461_5, o1 [(63, some 5)] rfl fun _ _ h n => ok_load rfl ty3 n.1, ob1 rfl fun _ _ h n => ok_indexO rfl Try.underlying49 ty35 n.1 n.2.1 hx461_7, o1 [(65, some 7)] rfl fun _ _ h n => ok_fieldAdrO rfl fo35_2 n.1, trivial⟩ hQQ465 fun b q p => ?_
        have hgq := hg.then p.grow
        have hsb := p.size.trans hs
        have hdb := p.defers.trans hd
        have j0 := p.ke 0 rfl i0
        have j1 := p.ke 1 rfl i1
        have j2 := p.ke 2 rfl i2
        have j7 := p.ke 7 rfl i7
        have y7 : Lo k0 (obF (b.get 7)) := by rw [p.old 7 rfl]; exact n7
        have j8 := p.ke 8 rfl i8
        have j9 := p.ke 9 rfl i9
        have j10 := p.ke 10 rfl i10
        have j11 := p.ke 11 rfl i11
        have j13 := p.ke 13 rfl i13
        have j64 : (IsV x461_5) (b.get 64) q := p.ou 6 64 rfl
        have j66 : IsAdrO (a.get 7) ((s456.2).toNat * Enc.sz Rect + 2) (b.get 66) q := p.ou 8 66 rfl
        have eo : b.get 7 = a.get 7 := p.old 7 rfl
        have hns := j7.nshF
        refine tail_storeS (i := 9) (u := b.get 7) (m := (s456.2).toNat) (off := 0 + 2) rfl rfl rfl rfl szf3 upd_F35_2 (by rw [eo]; exact j66) j7 (getI_spec hx461_7).2.1 j64 fun q2 hch hz => ?_
        replace hgq := hgq.step hch y7.wr
        have hle := hch.le hns
        replace j0 := Pers.pers hle j0
        replace j1 := Pers.pers hle j1
        replace j2 := Pers.pers hle j2
        replace j8 := Pers.pers hle j8
        replace j9 := Pers.pers hle j9
        replace j10 := Pers.pers hle j10
        replace j11 := Pers.pers hle j11
        replace j13 := Pers.pers hle j13
        replace j64 := Pers.pers hle j64
        replace j66 := Pers.pers hle j66
        replace j7 := hz
        rw [Option.some.inj hx461_9] at j7
        clear hns hle hch eo hz
        obtain ⟨q, hqq⟩ : ∃ q, q = q2 := ⟨q2, rfl⟩
        subst hqq
        exact tail_done (k := q) (hp466 _ _ ⟨⟨hgq, hsb, hdb⟩, j0, j1, j2, j7, y7, j8, j9, j10, j11, j13, trivial⟩)
       rintro a k ⟨⟨hg, hs, hd⟩, i0, i1, i2, i7, n7, i8, i9, i10, i11, i13, _⟩
       obtain ⟨x462_1, hx462_1, hr⟩ := bind_some hr
       refine cut (fun a' k' => Bs noF k0 100 a' k' ∧ (IsV a_) (a'.get 0) k' ∧ (IsV b_) (a'.get 1) k' ∧ (IsV op_) (a'.get 2) k' ∧ IsOwn 0 35 x461_9 (a'.get 7) k' ∧ Lo k0 (obF (a'.get 7)) ∧ (IsV x442_2) (a'.get 8) k' ∧ (IsV s446.2.1) (a'.get 9) k' ∧ (IsV s446.2.2.1) (a'.get 10) k' ∧ (IsV s446.2.2.2) (a'.get 11) k' ∧ (IsV x462_1) (a'.get 13) k' ∧ True) ?_ hQ ?_
       ·intro Q463 hQQ463 hp464
        refine gS 3 (_ :: _ :: _ :: []) hs (by kernel_rfl) ⟨mu rfl i13, o1 [(56, some 0)] rfl fun _ _ h n => ok_add rfl n.1 (cI rfl) hx462_1, cp 1 rfl rfl, trivial⟩ hQQ463 fun b q p => ?_
        exact tail_done (k := q) (hp464 _ _ ⟨Bs.post ⟨hg, hs, hd⟩ p, p.ke 0 rfl i0, p.ke 1 rfl i1, p.ke 2 rfl i2, p.ke 7 rfl i7, (by rw [p.old 7 rfl]; exact n7), p.ke 8 rfl i8, p.ke 9 rfl i9, p.ke 10 rfl i10, p.ke 11 rfl i11, p.ou 2 13 rfl, trivial⟩)
       rintro a k ⟨⟨hg, hs, hd⟩, i0, i1, i2, i7, n7, i8, i9, i10, i11, i13, _⟩
       exact hgo457 _ _ _ (Option.some.inj hr).symm ⟨⟨hg, hs, hd⟩, i0, i1, i2, i7, n7, i8, i9, i10, i11, i13, trivial⟩
      rw [if_neg (by rw [hc467]; decide)] at hr
      refine wp_exit ?_
      exact hex458 _ _ _ _ (Option.some.inj hr).symm ⟨rfl, ⟨hg, hs, hd⟩, i0, i1, i2, i7, n7, i8, i9, i10, i11, trivial⟩
     ·rintro r472 a k rfl hR
      dsimp only at hr
      simp at hr
     ·rintro _ _ _ rfl _
      simp at hr
     clear hf470
     rintro _ s471 a k rfl ⟨rfl, ⟨hg, hs, hd⟩, i0, i1, i2, i7, n7, i8, i9, i10, i11, _⟩
     dsimp only at hr
     refine wp_exit ?_
     obtain rfl := Option.some.inj hr
     exact hp452 _ _ ⟨⟨hg, hs, hd⟩, i0, i1, i2, i7, n7, i8, i9, i10, i11, trivial⟩
    rw [if_neg (by rw [hc503]; decide)] at hr
    refine wp_skip ?_
    refine cutS (fun a' k' => Bs noF k0 100 a' k' ∧ (IsV a_) (a'.get 0) k' ∧ (IsV b_) (a'.get 1) k' ∧ (IsV op_) (a'.get 2) k' ∧ IsOwn 0 35 s446.1 (a'.get 7) k' ∧ Lo k0 (obF (a'.get 7)) ∧ (IsV x442_2) (a'.get 8) k' ∧ (IsI (s446.1.length : Int)) (a'.get 10) k' ∧ (IsV s446.2.2.2) (a'.get 11) k' ∧ (IsV x453_13) (a'.get 12) k' ∧ True) ?_ ?_
    ·intro Q501 hQQ501 hp502
     refine gS 3 (⟨some (OwnAt (a.get 7) 0 35 s446.1), [(7, none)]⟩ :: _ :: _ :: []) hs (by kernel_rfl) ⟨ob1 rfl fun _ _ h n => ok_moveOA (.inl rfl) (ownAt n.1 (up i7 h n.1)), o1 [(67, some 0)] rfl fun _ _ h n => ok_len rfl rfl Try.underlying49 (IsOwn.rd (n.1).2), cp 1 rfl rfl, trivial⟩ hQQ501 fun b q p => ?_
     exact tail_done (k := q) (hp502 _ _ ⟨Bs.post ⟨hg, hs, hd⟩ p, p.ke 0 rfl i0, p.ke 1 rfl i1, p.ke 2 rfl i2, p.ke 7 rfl i7, (by rw [p.old 7 rfl]; exact n7), p.ke 8 rfl i8, p.ou 2 10 rfl, p.ke 11 rfl i11, p.ke 12 rfl i12, trivial⟩)
    rintro a k ⟨⟨hg, hs, hd⟩, i0, i1, i2, i7, n7, i8, i10, i11, i12, _⟩
    refine cutS (fun a' k' => Bs noF k0 100 a' k' ∧ (IsV a_) (a'.get 0) k' ∧ (IsV b_) (a'.get 1) k' ∧ (IsV op_) (a'.get 2) k' ∧ IsOwn 0 35 s446.1 (a'.get 7) k' ∧ Lo k0 (obF (a'.get 7)) ∧ (IsV x442_2) (a'.get 8) k' ∧ (IsV x453_13) (a'.get 9) k' ∧ (IsI (s446.1.length : Int)) (a'.get 10) k' ∧ (IsV s446.2.2.2) (a'.get 11) k' ∧ (IsV x453_13) (a'.get 12) k' ∧ True) ?_ ?_
    ·intro Q499 hQQ499 hp500
     refine gS 2 (_ :: _ :: []) hs (by kernel_rfl) ⟨mu rfl i12, cp 0 rfl rfl, trivial⟩ hQQ499 fun b q p => ?_
     exact tail_done (k := q) (hp500 _ _ ⟨Bs.post ⟨hg, hs, hd⟩ p, p.ke 0 rfl i0, p.ke 1 rfl i1, p.ke 2 rfl i2, p.ke 7 rfl i7, (by rw [p.old 7 rfl]; exact n7), p.ke 8 rfl i8, p.ou 1 9 rfl, p.ke 10 rfl i10, p.ke 11 rfl i11, p.ke 12 rfl i12, trivial⟩)
    rintro a k ⟨⟨hg, hs, hd⟩, i0, i1, i2, i7, n7, i8, i9, i10, i11, i12, _⟩
    refine cutS (fun a' k' => Bs noF k0 100 a' k' ∧ (IsV a_) (a'.get 0) k' ∧ (IsV b_) (a'.get 1) k' ∧ (IsV op_) (a'.get 2) k' ∧ IsOwn 0 35 s446.1 (a'.get 7) k' ∧ Lo k0 (obF (a'.get 7)) ∧ (IsV x442_2) (a'.get 8) k' ∧ (IsV x453_13) (a'.get 9) k' ∧ (IsI (s446.1.length : Int)) (a'.get 10) k' ∧ (IsV s446.2.2.2) (a'.get 11) k' ∧ (IsV x453_13) (a'.get 12) k' ∧ (IsI 0) (a'.get 14) k' ∧ True) ?_ ?_
    ·intro Q497 hQQ497 hp498
     refine gS 1 (⟨some (IsI 0), []⟩ :: []) hs (by kernel_rfl) ⟨aI rfl rfl, trivial⟩ hQQ497 fun b q p => ?_
     exact tail_done (k := q) (hp498 _ _ ⟨Bs.post ⟨hg, hs, hd⟩ p, p.ke 0 rfl i0, p.ke 1 rfl i1, p.ke 2 rfl i2, p.ke 7 rfl i7, (by rw [p.old 7 rfl]; exact n7), p.ke 8 rfl i8, p.ke 9 rfl i9, p.ke 10 rfl i10, p.ke 11 rfl i11, p.ke 12 rfl i12, p.ou 0 14 rfl, trivial⟩)
    rintro a k ⟨⟨hg, hs, hd⟩, i0, i1, i2, i7, n7, i8, i9, i10, i11, i12, i14, _⟩
    refine wp_block ?_
    obtain ⟨f493, hf493, hr⟩ := bind_some hr
    refine cutFe f493 (fun s' a' k' => Bs noF k0 100 a' k' ∧ (IsV a_) (a'.get 0) k' ∧ (IsV b_) (a'.get 1) k' ∧ (IsV op_) (a'.get 2) k' ∧ IsOwn 0 35 s'.1 (a'.get 7) k' ∧ Lo k0 (obF (a'.get 7)) ∧ (IsV x442_2) (a'.get 8) k' ∧ (IsV x453_13) (a'.get 9) k' ∧ (IsI (s446.1.length : Int)) (a'.get 10) k' ∧ (IsV s446.2.2.2) (a'.get 11) k' ∧ (IsV x453_13) (a'.get 12) k' ∧ (IsV s'.2) (a'.get 14) k' ∧ True) (fun i' s' a' k' => (i' = 4 ∧ Bs noF k0 100 a' k' ∧ (IsV a_) (a'.get 0) k' ∧ (IsV b_) (a'.get 1) k' ∧ (IsV op_) (a'.get 2) k' ∧ IsOwn 0 35 s'.1 (a'.get 7) k' ∧ Lo k0 (obF (a'.get 7)) ∧ (IsV x442_2) (a'.get 8) k' ∧ (IsV x453_13) (a'.get 9) k' ∧ (IsI (s446.1.length : Int)) (a'.get 10) k' ∧ (IsV s446.2.2.2) (a'.get 11) k' ∧ True)) (fun r' a' k' => bodyPost Try.prog Try.f44 (RetC noF k0 (IsV r')) .ret a' k'.w) ?_ hQ ?_ ?_ ?_
    ·intro Q496 hQQ496 hgo hex hret
     refine sim_loop ?_ _ _ _ _ _ hf493 ⟨⟨hg, hs, hd⟩, i0, i1, i2, i7, n7, i8, i9, i10, i11, i12, i14, trivial⟩ Q496 hQQ496 hgo hex hret
     clear hr hf493 hgo hex hret hQQ496 hQ hg hs hd i0 i1 i10 i11 i12 i14 i2 i7 i8 i9 n7
     intro s479 fl_ a k hr hS Q hQ hgo480 hex481 hret482
     obtain ⟨⟨hg, hs, hd⟩, i0, i1, i2, i7, n7, i8, i9, i10, i11, i12, i14, _⟩ := hS
     unfold ref06_Form_L2 at hr
     refine wp_seq ?_
     refine wp_seq ?_
     obtain ⟨x483_1, hx483_1, hr⟩ := bind_some hr
     refine cut (fun a' k' => Bs noF k0 100 a' k' ∧ (IsV a_) (a'.get 0) k' ∧ (IsV b_) (a'.get 1) k' ∧ (IsV op_) (a'.get 2) k' ∧ IsOwn 0 35 s479.1 (a'.get 7) k' ∧ Lo k0 (obF (a'.get 7)) ∧ (IsV x442_2) (a'.get 8) k' ∧ (IsV x453_13) (a'.get 9) k' ∧ (IsI (s446.1.length : Int)) (a'.get 10) k' ∧ (IsV s446.2.2.2) (a'.get 11) k' ∧ (IsV x453_13) (a'.get 12) k' ∧ (IsV s479.2) (a'.get 14) k' ∧ (IsV (decide (x483_1 < (x453_13.length : Int)))) (a'.get 74) k' ∧ True) ?_ hQ ?_
     ·intro Q491 hQQ491 hp492
      refine gS 5 (_ :: _ :: _ :: _ :: _ :: []) hs (by kernel_rfl) ⟨mu rfl i14, o1 [(70, some 0)] rfl fun _ _ h n => ok_add rfl n.1 (cI rfl) hx483_1, mu rfl i12, o1 [(72, some 2)] rfl fun _ _ h n => ok_len rfl rfl Try.underlying63 (IsV.rd n.1), o1 [(71, some 1), (73, some 3)] rfl fun _ _ h n => ok_lss rfl n.1 n.2.1, trivial⟩ hQQ491 fun b q p => ?_
      exact tail_done (k := q) (hp492 _ _ ⟨Bs.post ⟨hg, hs, hd⟩ p, p.ke 0 rfl i0, p.ke 1 rfl i1, p.ke 2 rfl i2, p.ke 7 rfl i7, (by rw [p.old 7 rfl]; exact n7), p.ke 8 rfl i8, p.ke 9 rfl i9, p.ke 10 rfl i10, p.ke 11 rfl i11, p.ke 12 rfl i12, p.ke 14 rfl i14, p.ou 4 74 rfl, trivial⟩)
     rintro a k ⟨⟨hg, hs, hd⟩, i0, i1, i2, i7, n7, i8, i9, i10, i11, i12, i14, i74, _⟩
     refine wp_cond_split (isBool i74) (fun hc490 => ?_) (fun hc490 => ?_)
     ·rw [if_pos hc490] at hr
      refine wp_skip ?_
      refine wp_seq ?_
      refine wp_block ?_
      obtain ⟨x484_3, hx484_3, hr⟩ := bind_some hr
      obtain ⟨x484_7, hx484_7, hr⟩ := bind_some hr
      obtain ⟨x484_11, hx484_11, hr⟩ := bind_some hr
      obtain ⟨x484_12, hx484_12, hr⟩ := bind_some hr
      obtain ⟨x484_16, hx484_16, hr⟩ := bind_some hr
      obtain ⟨x484_17, hx484_17, hr⟩ := bind_some hr
      obtain ⟨x484_21, hx484_21, hr⟩ := bind_some hr
      refine cut (fun a' k' => Bs noF k0 100 a' k' ∧ (IsV a_) (a'.get 0) k' ∧ (IsV b_) (a'.get 1) k' ∧ (IsV op_) (a'.get 2) k' ∧ IsOwn 0 35 x484_21 (a'.get 7) k' ∧ Lo k0 (obF (a'.get 7)) ∧ (IsV x442_2) (a'.get 8) k' ∧ (IsV x453_13) (a'.get 9) k' ∧ (IsI (s446.1.length : Int)) (a'.get 10) k' ∧ (IsV s446.2.2.2) (a'.get 11) k' ∧ (IsV x453_13) (a'.get 12) k' ∧ (IsV s479.2) (a'.get 14) k' ∧ True) ?_ hQ ?_
      ·intro Q488 hQQ488 hp489
       refine region (a0 := a) (k0 := k) (n := 100) (m := 21) (⟨some (OwnAt (a.get 7) 0 35 s479.1), [(7, none)]⟩ :: ⟨some (IsV x442_2), [(8, none)]⟩ :: ⟨some (IsV s446.2.2.2), [(11, none)]⟩ :: ⟨some (IsPtr x484_3), [(78, some 1), (79, some 2)]⟩ :: ⟨some (IsV x484_3), [(80, some 3)]⟩ :: ⟨some (IsV x453_13), [(12, none)]⟩ :: ⟨some (IsV s479.2), [(14, none)]⟩ :: ⟨some (IsPtr x484_7), [(82, some 5), (83, some 6)]⟩ :: ⟨some (IsV x484_7), [(84, some 7)]⟩ :: ⟨some (IsV x442_2), [(8, none)]⟩ :: ⟨some (IsV s446.2.2.2), [(11, none)]⟩ :: ⟨some (IsV x484_11), [(87, some 10)]⟩ :: ⟨some (IsPtr x484_12), [(86, some 9), (88, some 11)]⟩ :: ⟨some (IsV x484_12), [(89, some 12)]⟩ :: ⟨some (IsV x453_13), [(12, none)]⟩ :: ⟨some (IsV s479.2), [(14, none)]⟩ :: ⟨some (IsV x484_16), [(92, some 15)]⟩ :: ⟨some (IsPtr x484_17), [(91, some 14), (93, some 16)]⟩ :: ⟨some (IsV x484_17), [(94, some 17)]⟩ :: ⟨some (IsV (⟨x484_3, x484_7, x484_12, x484_17⟩ : Rect)), [(81, some 4), (85, some 8), (90, some 13), (95, some 18)]⟩ :: ⟨some (IsV (α := (List Rect)) ([(⟨x484_3, x484_7, x484_12, x484_17⟩ : Rect)])), [(96, some 19)]⟩ :: []) hmix hs (by kernel_rfl) ⟨ob1 rfl fun b q hk hn => ok_moveOA (.inl rfl) (ownAt hn.1 (up i7 hk hn.1)), ob1 rfl fun b q hk hn => ok_move rfl (up i8 hk hn.1), ob1 rfl fun b q hk hn => ok_move rfl (up i11 hk hn.1), ob1 rfl fun b q hk hn => ok_indexAddr rfl Try.underlying63 ty3 (IsV.rd hn.1) hn.2.1 hx484_3, ob1 rfl fun b q hk hn => ok_load rfl ty3 hn.1, ob1 rfl fun b q hk hn => ok_move rfl (up i12 hk hn.1), ob1 rfl fun b q hk hn => ok_move rfl (up i14 hk hn.1), ob1 rfl fun b q hk hn => ok_indexAddr rfl Try.underlying63 ty3 (IsV.rd hn.1) hn.2.1 hx484_7, ob1 rfl fun b q hk hn => ok_load rfl ty3 hn.1, ob1 rfl fun b q hk hn => ok_move rfl (up i8 hk hn.1), ob1 rfl fun b q hk hn => ok_move rfl (up i11 hk hn.1), ob1 rfl fun b q hk hn => ok_add rfl hn.1 (isV_int.2 rfl) hx484_11, ob1 rfl fun b q hk hn => ok_indexAddr rfl Try.underlying63 ty3 (IsV.rd hn.1) hn.2.1 hx484_12, ob1 rfl fun b q hk hn => ok_load rfl ty3 hn.1, ob1 rfl fun b q hk hn => ok_move rfl (up i12 hk hn.1), ob1 rfl fun b q hk hn => ok_move rfl (up i14 hk hn.1), ob1 rfl fun b q hk hn => ok_add rfl hn.1 (isV_int.2 rfl) hx484_16, ob1 rfl fun b q hk hn => ok_indexAddr rfl Try.underlying63 ty3 (IsV.rd hn.1) hn.2.1 hx484_17, ob1 rfl fun b q hk hn => ok_load rfl ty3 hn.1, ob1 rfl fun b q hk hn => ok_build rfl (bld35_0_1_2_3 hn.1 hn.2.1 hn.2.2.1 hn.2.2.2.1), ob1 rfl fun b q hk hn => ok_buildSlice rfl Try.underlying49 eo35 rfl (by decide) (by decide) ⟨rfl, hn.1, trivial⟩, trivial⟩ hQQ488 fun b q p => ?_
       have hgq := hg.then p.grow
       have hsb := p.size.trans hs
       have hdb := p.defers.trans hd
       have j0 := p.ke 0 rfl i0
       have j1 := p.ke 1 rfl i1
       have j2 := p.ke 2 rfl i2
       have j8 := p.ke 8 rfl i8
       have j9 := p.ke 9 rfl i9
       have j10 := p.ke 10 rfl i10
       have j11 := p.ke 11 rfl i11
       have j12 := p.ke 12 rfl i12
       have j14 := p.ke 14 rfl i14
       have e77 : b.get 77 = a.get 7 := (p.ou 0 77 rfl).1
       have j77 : IsOwn 0 35 s479.1 (b.get 77) q := (p.ou 0 77 rfl).2
       have y77 : Lo k0 (obF (b.get 77)) := by rw [e77]; exact n7
       have j97 : (IsV (α := (List Rect)) ([(⟨x484_3, x484_7, x484_12, x484_17⟩ : Rect)])) (b.get 97) q := p.ou 20 97 rfl
       have hns := j77.nshF
       refine tail_appendS (i := 21) (d := 98) rfl rfl rfl rfl (by rw [hsb]; decide) (e := 35) Try.underlying49 eo35 j77 (IsV.rd j97) hx484_21 fun b2 q2 hsz hdf hoth hch hown hob => ?_
       have hle := hch.le hns
       have yn : Lo k0 (obF (b2.get 98)) := y77.app hgq hob
       replace j0 := Pers.pers hle j0
       replace j1 := Pers.pers hle j1
       replace j2 := Pers.pers hle j2
       replace j8 := Pers.pers hle j8
       replace j9 := Pers.pers hle j9
       replace j10 := Pers.pers hle j10
       replace j11 := Pers.pers hle j11
       replace j12 := Pers.pers hle j12
       replace j14 := Pers.pers hle j14
       replace j97 := Pers.pers hle j97
       replace hgq := hgq.step hch y77.wr
       rw [← hoth 0 (by decide)] at j0
       rw [← hoth 1 (by decide)] at j1
       rw [← hoth 2 (by decide)] at j2
       rw [← hoth 8 (by decide)] at j8
       rw [← hoth 9 (by decide)] at j9
       rw [← hoth 10 (by decide)] at j10
       rw [← hoth 11 (by decide)] at j11
       rw [← hoth 12 (by decide)] at j12
       rw [← hoth 14 (by decide)] at j14
       rw [← hoth 97 (by decide)] at j97
       have j98 := hown
       have y98 := yn
       replace hsb := hsz.trans hsb
       replace hdb := hdf.trans hdb
       clear hle hch hown hob hns yn hsz hdf hoth
       obtain ⟨b, hbb⟩ : ∃ b, b = b2 := ⟨b2, rfl⟩
       subst hbb
       obtain ⟨q, hqq⟩ : ∃ q, q = q2 := ⟨q2, rfl⟩
       subst hqq
       refine tail_assign (i := 22) (d := 7) rfl rfl (.inl rfl) rfl (by rw [hsb]; decide) fun b2 hsz hdf hnew hoth => ?_
       have jn : (IsOwn 0 35 x484_21) (b2.get 7) q := by rw [hnew]; exact j98
       have yn : Lo k0 (obF (b2.get 7)) := by rw [hnew]; exact y98
       rw [← hoth 0 (by decide)] at j0
       rw [← hoth 1 (by decide)] at j1
       rw [← hoth 2 (by decide)] at j2
       rw [← hoth 8 (by decide)] at j8
       rw [← hoth 9 (by decide)] at j9
       rw [← hoth 10 (by decide)] at j10
       rw [← hoth 11 (by decide)] at j11
       rw [← hoth 12 (by decide)] at j12
       rw [← hoth 14 (by decide)] at j14
       rw [← hoth 97 (by decide)] at j97
       have j7 := jn
       have y7 := yn
       replace hsb := hsz.trans hsb
       replace hdb := hdf.trans hdb
       clear hsz hdf hoth
       obtain ⟨b, hbb⟩ : ∃ b, b = b2 := ⟨b2, rfl⟩
       subst hbb
       exact tail_done (k := q) (hp489 _ _ ⟨⟨hgq, hsb, hdb⟩, j0, j1, j2, j7, y7, j8, j9, j10, j11, j12, j14, trivial⟩)
      rintro a k ⟨⟨hg, hs, hd⟩, i0, i1, i2, i7, n7, i8, i9, i10, i11, i12, i14, _⟩
      obtain ⟨x485_1, hx485_1, hr⟩ := bind_some hr
      refine cut (fun a' k' => Bs noF k0 100 a' k' ∧ (IsV a_) (a'.get 0) k' ∧ (IsV b_) (a'.get 1) k' ∧ (IsV op_) (a'.get 2) k' ∧ IsOwn 0 35 x484_21 (a'.get 7) k' ∧ Lo k0 (obF (a'.get 7)) ∧ (IsV x442_2) (a'.get 8) k' ∧ (IsV x453_13) (a'.get 9) k' ∧ (IsI (s446.1.length : Int)) (a'.get 10) k' ∧ (IsV s446.2.2.2) (a'.get 11) k' ∧ (IsV x453_13) (a'.get 12) k' ∧ (IsV x485_1) (a'.get 14) k' ∧ True) ?_ hQ ?_
      ·intro Q486 hQQ486 hp487
       refine gS 3 (_ :: _ :: _ :: []) hs (by kernel_rfl) ⟨mu rfl i14, o1 [(75, some 0)] rfl fun _ _ h n => ok_add rfl n.1 (cI rfl) hx485_1, cp 1 rfl rfl, trivial⟩ hQQ486 fun b q p => ?_
       exact tail_done (k := q) (hp487 _ _ ⟨Bs.post ⟨hg, hs, hd⟩ p, p.ke 0 rfl i0, p.ke 1 rfl i1, p.ke 2 rfl i2, p.ke 7 rfl i7, (by rw [p.old 7 rfl]; exact n7), p.ke 8 rfl i8, p.ke 9 rfl i9, p.ke 10 rfl i10, p.ke 11 rfl i11, p.ke 12 rfl i12, p.ou 2 14 rfl, trivial⟩)
      rintro a k ⟨⟨hg, hs, hd⟩, i0, i1, i2, i7, n7, i8, i9, i10, i11, i12, i14, _⟩
      exact hgo480 _ _ _ (Option.some.inj hr).symm ⟨⟨hg, hs, hd⟩, i0, i1, i2, i7, n7, i8, i9, i10, i11, i12, i14, trivial⟩
     rw [if_neg (by rw [hc490]; decide)] at hr
     refine wp_exit ?_
     exact hex481 _ _ _ _ (Option.some.inj hr).symm ⟨rfl, ⟨hg, hs, hd⟩, i0, i1, i2, i7, n7, i8, i9, i10, i11, trivial⟩
    ·rintro r495 a k rfl hR
     dsimp only at hr
     simp at hr
    ·rintro _ _ _ rfl _
     simp at hr
    clear hf493
    rintro _ s494 a k rfl ⟨rfl, ⟨hg, hs, hd⟩, i0, i1, i2, i7, n7, i8, i9, i10, i11, _⟩
    dsimp only at hr
    obtain rfl := Option.some.inj hr
    exact hp452 _ _ ⟨⟨hg, hs, hd⟩, i0, i1, i2, i7, n7, i8, i9, i10, i11, trivial⟩
   clear hs451
   rintro a k ⟨⟨hg, hs, hd⟩, i0, i1, i2, i7, n7, i8, i9, i10, i11, _⟩
   obtain ⟨x508_1, hx508_1, hr⟩ := bind_some hr
   refine cut (fun a' k' => Bs noF k0 100 a' k' ∧ (IsV a_) (a'.get 0) k' ∧ (IsV b_) (a'.get 1) k' ∧ (IsV op_) (a'.get 2) k' ∧ IsOwn 0 35 s451.1 (a'.get 7) k' ∧ Lo k0 (obF (a'.get 7)) ∧ (IsV x442_2) (a'.get 8) k' ∧ (IsV s451.2.1) (a'.get 9) k' ∧ (IsV s451.2.2) (a'.get 10) k' ∧ (IsV x508_1) (a'.get 11) k' ∧ True) ?_ hQ ?_
   ·intro Q509 hQQ509 hp510
    refine gS 3 (_ :: _ :: _ :: []) hs (by kernel_rfl) ⟨mu rfl i11, o1 [(23, some 0)] rfl fun _ _ h n => ok_add rfl n.1 (cI rfl) hx508_1, cp 1 rfl rfl, trivial⟩ hQQ509 fun b q p => ?_
    exact tail_done (k := q) (hp510 _ _ ⟨Bs.post ⟨hg, hs, hd⟩ p, p.ke 0 rfl i0, p.ke 1 rfl i1, p.ke 2 rfl i2, p.ke 7 rfl i7, (by rw [p.old 7 rfl]; exact n7), p.ke 8 rfl i8, p.ke 9 rfl i9, p.ke 10 rfl i10, p.ou 2 11 rfl, trivial⟩)
   rintro a k ⟨⟨hg, hs, hd⟩, i0, i1, i2, i7, n7, i8, i9, i10, i11, _⟩
   exact hgo447 _ _ _ (Option.some.inj hr).symm ⟨⟨hg, hs, hd⟩, i0, i1, i2, i7, n7, i8, i9, i10, i11, trivial⟩
  rw [if_neg (by rw [hc513]; decide)] at hr
  refine wp_exit ?_
  obtain ⟨kk, sh512, ii7⟩ := i7.give
  replace i7 := ii7
  replace hg := hg.hand sh512 n7.wr
  rw [← sh512.w]
  clear sh512
  obtain ⟨k, hkk⟩ : ∃ k, k = kk := ⟨kk, rfl⟩
  subst hkk
  exact hex448 _ _ _ _ (Option.some.inj hr).symm ⟨rfl, ⟨hg, hs, hd⟩, i7, trivial⟩
 ·rintro r521 a k rfl hR
  dsimp only at hr
  obtain rfl := Option.some.inj hr
  exact hR
 ·rintro _ _ _ rfl _
  simp at hr
 clear hf516
 rintro _ s517 a k rfl ⟨rfl, ⟨hg, hs, hd⟩, i7, _⟩
 dsimp only at hr
 refine stepL 2 (_ :: _ :: []) rfl ⟨hg, hs, hd⟩ (by kernel_rfl) ⟨mu rfl i7, cp 0 rfl rfl, trivial⟩ [⟨_, _⟩] (fun b q p => ⟨p.ou 1 6 rfl, trivial⟩) ?_
 rintro a k ⟨⟨hg, hs, hd⟩, i6, _⟩
 refine wp_ret ?_
 obtain rfl := Option.some.inj hr
 exact retC1 rfl hd hg i6
def ref06_Same_L0 (a_ : (List Rect)) (b_ : (List Rect)) (s541 : Int) : Option (Flow (Int) (Bool)) :=
 if (decide (s541 < (a_.length : Int))) then
  (getI a_ s541).bind fun x546_2 =>
  (getI b_ s541).bind fun x546_6 =>
  if (!decide (x546_2 = x546_6)) then
   some (.ret false)
  else
   (addI s541 1).bind fun x550_1 =>
   some (.go x550_1)
 else
  some (.ex 0 s541)
def ref06_Same (a_ : (List Rect)) (b_ : (List Rect)) : Option (Bool) :=
 if ((a_.length : Int) != (b_.length : Int)) then
  some false
 else
  (iterL (ref06_Same_L0 a_ b_) (a_.length + b_.length + 1) 0).bind fun f559 => match f559 with
   | .go _ => none
   | .ex _ _ =>
    some true
   | .ret r564 => some r564
theorem ref06_Same_ok {k0 : K} {v0 v1 : Value} {a_ : (List Rect)} {b_ : (List Rect)} {r : Bool} (i0 : (IsV a_) v0 k0) (i1 : (IsV b_) v1 k0) (hr : ref06_Same a_ b_ = some r) :
  Calls Try.prog 31 #[v0, v1] k0.w (Ret k0 (IsV r)) := by
 unfold ref06_Same at hr
 refine Ret.ofC ?_
 refine enterK Try.func31 rfl Try.ntmps31 (show 2 ≤ 26 by decide) fun a k hk0 hs hd ha => ?_
 obtain ⟨e0, e1, _⟩ := ha
 replace i0 : (IsV a_) (a.get 0) k := by rw [e0, hk0]; exact i0
 replace i1 : (IsV b_) (a.get 1) k := by rw [e1, hk0]; exact i1
 have hQ : Gb.LetsOut (bodyPost Try.prog Try.f31 (RetC noF k0 (IsV r))) := letsOutC
 have hg : Chg noF k0 k := by rw [hk0]; exact Chg.refl _ k0
 refine stepL 1 (⟨some (IsV false), []⟩ :: []) rfl ⟨hg, hs, hd⟩ (by kernel_rfl) ⟨ob1 rfl fun _ _ h n => ok_assign rfl (isV_bool.2 rfl), trivial⟩ [⟨_, _⟩, ⟨_, _⟩] (fun b q p => ⟨p.ke 0 rfl i0, p.ke 1 rfl i1, trivial⟩) ?_
 rintro a k ⟨⟨hg, hs, hd⟩, i0, i1, _⟩
 refine wp_seq ?_
 refine stepL 5 (_ :: _ :: _ :: _ :: ⟨some (IsV ((a_.length : Int) != (b_.length : Int))), [(7, some 1), (9, some 3)]⟩ :: []) rfl ⟨hg, hs, hd⟩ (by kernel_rfl) ⟨mu rfl i0, o1 [(6, some 0)] rfl fun _ _ h n => ok_len rfl rfl Try.underlying49 (IsV.rd n.1), mu rfl i1, o1 [(8, some 2)] rfl fun _ _ h n => ok_len rfl rfl Try.underlying49 (IsV.rd n.1), ob1 rfl fun _ _ h n => ok_neI rfl n.1 n.2.1, trivial⟩ [⟨_, _⟩, ⟨_, _⟩, ⟨_, _⟩] (fun b q p => ⟨p.ke 0 rfl i0, p.ke 1 rfl i1, p.ou 4 10 rfl, trivial⟩) ?_
 rintro a k ⟨⟨hg, hs, hd⟩, i0, i1, i10, _⟩
 refine wp_cond_split (isBool i10) (fun hc568 => ?_) (fun hc568 => ?_)
 ·rw [if_pos hc568] at hr
  refine stepL 1 (⟨some (IsV false), []⟩ :: []) rfl ⟨hg, hs, hd⟩ (by kernel_rfl) ⟨ob1 rfl fun _ _ h n => ok_assign rfl (isV_bool.2 rfl), trivial⟩ [⟨_, _⟩] (fun b q p => ⟨p.ou 0 4 rfl, trivial⟩) ?_
  rintro a k ⟨⟨hg, hs, hd⟩, i4, _⟩
  refine wp_ret ?_
  obtain rfl := Option.some.inj hr
  exact retC1 rfl hd hg i4
 rw [if_neg (by rw [hc568]; decide)] at hr
 refine wp_skip ?_
 refine wp_seq ?_
 refine stepL 1 (⟨some (IsI 0), []⟩ :: []) rfl ⟨hg, hs, hd⟩ (by kernel_rfl) ⟨aI rfl rfl, trivial⟩ [⟨_, _⟩, ⟨_, _⟩, ⟨_, _⟩] (fun b q p => ⟨p.ke 0 rfl i0, p.ke 1 rfl i1, p.ou 0 5 rfl, trivial⟩) ?_
 rintro a k ⟨⟨hg, hs, hd⟩, i0, i1, i5, _⟩
 refine wp_block ?_
 obtain ⟨f559, hf559, hr⟩ := bind_some hr
 refine cutFe f559 (fun s' a' k' => Bs noF k0 26 a' k' ∧ (IsV a_) (a'.get 0) k' ∧ (IsV b_) (a'.get 1) k' ∧ (IsV s') (a'.get 5) k' ∧ True) (fun i' s' a' k' => (i' = 0 ∧ Bs noF k0 26 a' k' ∧ True)) (fun r' a' k' => bodyPost Try.prog Try.f31 (RetC noF k0 (IsV r')) .ret a' k'.w) ?_ hQ ?_ ?_ ?_
 ·intro Q565 hQQ565 hgo hex hret
  refine sim_loop ?_ _ _ _ _ _ hf559 ⟨⟨hg, hs, hd⟩, i0, i1, i5, trivial⟩ Q565 hQQ565 hgo hex hret
  clear hr hf559 hgo hex hret hQQ565 hQ hg hs hd i0 i1 i5
  intro s541 fl_ a k hr hS Q hQ hgo542 hex543 hret544
  obtain ⟨⟨hg, hs, hd⟩, i0, i1, i5, _⟩ := hS
  unfold ref06_Same_L0 at hr
  refine wp_seq ?_
  refine stepL 4 (_ :: _ :: _ :: _ :: []) rfl ⟨hg, hs, hd⟩ (by kernel_rfl) ⟨mu rfl i5, mu rfl i0, o1 [(12, some 1)] rfl fun _ _ h n => ok_len rfl rfl Try.underlying49 (IsV.rd n.1), o1 [(11, some 0), (13, some 2)] rfl fun _ _ h n => ok_lss rfl n.1 n.2.1, trivial⟩ [⟨_, _⟩, ⟨_, _⟩, ⟨_, _⟩, ⟨_, _⟩] (fun b q p => ⟨p.ke 0 rfl i0, p.ke 1 rfl i1, p.ke 5 rfl i5, p.ou 3 14 rfl, trivial⟩) ?_
  rintro a k ⟨⟨hg, hs, hd⟩, i0, i1, i5, i14, _⟩
  refine wp_cond_split (isBool i14) (fun hc556 => ?_) (fun hc556 => ?_)
  ·rw [if_pos hc556] at hr
   refine wp_skip ?_
   refine wp_seq ?_
   refine wp_block ?_
   refine wp_seq ?_
   obtain ⟨x546_2, hx546_2, hr⟩ := bind_some hr
   obtain ⟨x546_6, hx546_6, hr⟩ := bind_some hr
   refine cut (fun a' k' => Bs noF k0 26 a' k' ∧ (IsV a_) (a'.get 0) k' ∧ (IsV b_) (a'.get 1) k' ∧ (IsV s541) (a'.get 5) k' ∧ (IsV (!decide (x546_2 = x546_6))) (a'.get 25) k' ∧ True) ?_ hQ ?_
   ·intro Q554 hQQ554 hp555
    refine region (a0 := a) (k0 := k) (n := 26) (m := 9) (⟨some (IsV a_), [(0, none)]⟩ :: ⟨some (IsV s541), [(5, none)]⟩ :: ⟨some (IsPtr x546_2), [(17, some 0), (18, some 1)]⟩ :: ⟨some (IsV x546_2), [(19, some 2)]⟩ :: ⟨some (IsV b_), [(1, none)]⟩ :: ⟨some (IsV s541), [(5, none)]⟩ :: ⟨some (IsPtr x546_6), [(21, some 4), (22, some 5)]⟩ :: ⟨some (IsV x546_6), [(23, some 6)]⟩ :: ⟨some (IsV (!decide (x546_2 = x546_6))), [(20, some 3), (24, some 7)]⟩ :: []) hmix hs (by kernel_rfl) ⟨ob1 rfl fun b q hk hn => ok_move rfl (up i0 hk hn.1), ob1 rfl fun b q hk hn => ok_move rfl (up i5 hk hn.1), ob1 rfl fun b q hk hn => ok_indexAddr rfl Try.underlying49 ty35 (IsV.rd hn.1) hn.2.1 hx546_2, ob1 rfl fun b q hk hn => ok_load rfl ty35 hn.1, ob1 rfl fun b q hk hn => ok_move rfl (up i1 hk hn.1), ob1 rfl fun b q hk hn => ok_move rfl (up i5 hk hn.1), ob1 rfl fun b q hk hn => ok_indexAddr rfl Try.underlying49 ty35 (IsV.rd hn.1) hn.2.1 hx546_6, ob1 rfl fun b q hk hn => ok_load rfl ty35 hn.1, ob1 rfl fun b q hk hn => ok_neA rfl eq35 hn.1 hn.2.1, trivial⟩ hQQ554 fun b q p => ?_
    exact tail_done (k := q) (hp555 _ _ ⟨Bs.post ⟨hg, hs, hd⟩ p, p.ke 0 rfl i0, p.ke 1 rfl i1, p.ke 5 rfl i5, p.ou 8 25 rfl, trivial⟩)
   rintro a k ⟨⟨hg, hs, hd⟩, i0, i1, i5, i25, _⟩
   refine wp_cond_split (isBool i25) (fun hc553 => ?_) (fun hc553 => ?_)
   ·rw [if_pos hc553] at hr
    refine stepL 1 (⟨some (IsV false), []⟩ :: []) rfl ⟨hg, hs, hd⟩ (by kernel_rfl) ⟨ob1 rfl fun _ _ h n => ok_assign rfl (isV_bool.2 rfl), trivial⟩ [⟨_, _⟩] (fun b q p => ⟨p.ou 0 4 rfl, trivial⟩) ?_
    rintro a k ⟨⟨hg, hs, hd⟩, i4, _⟩
    refine wp_ret ?_
    exact hret544 _ _ _ (Option.some.inj hr).symm (retC1 rfl hd hg i4)
   rw [if_neg (by rw [hc553]; decide)] at hr
   refine wp_skip ?_
   obtain ⟨x550_1, hx550_1, hr⟩ := bind_some hr
   refine cut (fun a' k' => Bs noF k0 26 a' k' ∧ (IsV a_) (a'.get 0) k' ∧ (IsV b_) (a'.get 1) k' ∧ (IsV x550_1) (a'.get 5) k' ∧ True) ?_ hQ ?_
   ·intro Q551 hQQ551 hp552
    refine gS 3 (_ :: _ :: _ :: []) hs (by kernel_rfl) ⟨mu rfl i5, o1 [(15, some 0)] rfl fun _ _ h n => ok_add rfl n.1 (cI rfl) hx550_1, cp 1 rfl rfl, trivial⟩ hQQ551 fun b q p => ?_
    exact tail_done (k := q) (hp552 _ _ ⟨Bs.post ⟨hg, hs, hd⟩ p, p.ke 0 rfl i0, p.ke 1 rfl i1, p.ou 2 5 rfl, trivial⟩)
   rintro a k ⟨⟨hg, hs, hd⟩, i0, i1, i5, _⟩
   exact hgo542 _ _ _ (Option.some.inj hr).symm ⟨⟨hg, hs, hd⟩, i0, i1, i5, trivial⟩
  rw [if_neg (by rw [hc556]; decide)] at hr
  refine wp_exit ?_
  exact hex543 _ _ _ _ (Option.some.inj hr).symm ⟨rfl, ⟨hg, hs, hd⟩, trivial⟩
 ·rintro r564 a k rfl hR
  dsimp only at hr
  obtain rfl := Option.some.inj hr
  exact hR
 ·rintro _ _ _ rfl _
  simp at hr
 clear hf559
 rintro _ s560 a k rfl ⟨rfl, ⟨hg, hs, hd⟩, _⟩
 dsimp only at hr
 refine stepL 1 (⟨some (IsV true), []⟩ :: []) rfl ⟨hg, hs, hd⟩ (by kernel_rfl) ⟨ob1 rfl fun _ _ h n => ok_assign rfl (isV_bool.2 rfl), trivial⟩ [⟨_, _⟩] (fun b q p => ⟨p.ou 0 4 rfl, trivial⟩) ?_
 rintro a k ⟨⟨hg, hs, hd⟩, i4, _⟩
 refine wp_ret ?_
 obtain rfl := Option.some.inj hr
 exact retC1 rfl hd hg i4
def ref09_add (out_ : (List Slab)) (from_ : Int) (to_ : Int) (area_ : (List Rect)) : Option ((List Slab)) :=
 if ((area_.length : Int) == 0) then
  some out_
 else
  (if (decide (0 < (out_.length : Int))) then
   (subI (out_.length : Int) 1).bind fun x579_5 =>
   (getI out_ x579_5).bind fun x579_6 =>
   some (x579_6.Z1 == from_)
  else
   some false).bind fun x579_11 =>
  (if x579_11 then
   (subI (out_.length : Int) 1).bind fun x579_15 =>
   (getI out_ x579_15).bind fun x579_16 =>
   (ref06_Same x579_16.Area area_).bind fun x579_20 =>
   some x579_20
  else
   some false).bind fun x579_21 =>
  if x579_21 then
   (subI (out_.length : Int) 1).bind fun x580_2 =>
   (getI out_ x580_2).bind fun x580_4 =>
   (some (out_.set (x580_2).toNat ({ x580_4 with Z1 := to_ }))).bind fun x580_6 =>
   some x580_6
  else
   (appI out_ ([(⟨from_, to_, area_⟩ : Slab)])).bind fun x586_6 =>
   some x586_6
theorem ref09_add_ok {k0 : K} {v0 v1 v2 v3 : Value} {out_ : (List Slab)} {from_ : Int} {to_ : Int} {area_ : (List Rect)} {r : (List Slab)} (i0 : (IsOwn 0 51 out_) v0 k0) (i1 : (IsV from_) v1 k0) (i2 : (IsV to_) v2 k0) (i3 : (IsV area_) v3 k0) (hr : ref09_add out_ from_ to_ area_ = some r) :
  Calls Try.prog 43 #[v0, v1, v2, v3] k0.w (RetC (obF v0) k0 (IsOwnW v0 k0 51 r)) := by
 unfold ref09_add at hr
 refine enterK Try.func43 rfl Try.ntmps43 (show 4 ≤ 52 by decide) fun a k hk0 hs hd ha => ?_
 obtain ⟨e0, e1, e2, e3, _⟩ := ha
 replace i0 : (IsOwn 0 51 out_) (a.get 0) k := by rw [e0, hk0]; exact i0
 replace i1 : (IsV from_) (a.get 1) k := by rw [e1, hk0]; exact i1
 replace i2 : (IsV to_) (a.get 2) k := by rw [e2, hk0]; exact i2
 replace i3 : (IsV area_) (a.get 3) k := by rw [e3, hk0]; exact i3
 have n0 : Wr (obF v0) k0 (obF (a.get 0)) := fun b h => .inl (by rwa [e0] at h)
 have hQ : Gb.LetsOut (bodyPost Try.prog Try.f43 (RetC (obF v0) k0 (IsOwnW v0 k0 51 r))) := letsOutC
 have hg : Chg (obF v0) k0 k := by rw [hk0]; exact Chg.refl _ k0
 refine cutS (fun a' k' => Bs (obF v0) k0 52 a' k' ∧ IsOwn 0 51 out_ (a'.get 0) k' ∧ Wr (obF v0) k0 (obF (a'.get 0)) ∧ (IsV from_) (a'.get 1) k' ∧ (IsV to_) (a'.get 2) k' ∧ (IsV area_) (a'.get 3) k' ∧ True) ?_ ?_
 ·intro Q597 hQQ597 hp598
  refine gS 1 (⟨some IsE0, []⟩ :: []) hs (by kernel_rfl) ⟨ob1 rfl fun b q h n => ok_assign rfl isE0_nil, trivial⟩ hQQ597 fun b q p => ?_
  exact tail_done (k := q) (hp598 _ _ ⟨Bs.post ⟨hg, hs, hd⟩ p, p.ke 0 rfl i0, (by rw [p.old 0 rfl]; exact n0), p.ke 1 rfl i1, p.ke 2 rfl i2, p.ke 3 rfl i3, trivial⟩)
 rintro a k ⟨⟨hg, hs, hd⟩, i0, n0, i1, i2, i3, _⟩
 refine wp_seq ?_
 refine cutS (fun a' k' => Bs (obF v0) k0 52 a' k' ∧ IsOwn 0 51 out_ (a'.get 0) k' ∧ Wr (obF v0) k0 (obF (a'.get 0)) ∧ (IsV from_) (a'.get 1) k' ∧ (IsV to_) (a'.get 2) k' ∧ (IsV area_) (a'.get 3) k' ∧ (IsV ((area_.length : Int) == 0)) (a'.get 12) k' ∧ True) ?_ ?_
 ·intro Q595 hQQ595 hp596
  refine gS 3 (_ :: _ :: _ :: []) hs (by kernel_rfl) ⟨mu rfl i3, o1 [(10, some 0)] rfl fun _ _ h n => ok_len rfl rfl Try.underlying49 (IsV.rd n.1), o1 [(11, some 1)] rfl fun _ _ h n => ok_eqI rfl n.1 (cI rfl), trivial⟩ hQQ595 fun b q p => ?_
  exact tail_done (k := q) (hp596 _ _ ⟨Bs.post ⟨hg, hs, hd⟩ p, p.ke 0 rfl i0, (by rw [p.old 0 rfl]; exact n0), p.ke 1 rfl i1, p.ke 2 rfl i2, p.ke 3 rfl i3, p.ou 2 12 rfl, trivial⟩)
 rintro a k ⟨⟨hg, hs, hd⟩, i0, n0, i1, i2, i3, i12, _⟩
 refine wp_cond_split (isBool i12) (fun hc594 => ?_) (fun hc594 => ?_)
 ·rw [if_pos hc594] at hr
  refine cutS (fun a' k' => Bs (obF v0) k0 52 a' k' ∧ IsOwn 0 51 out_ (a'.get 8) k' ∧ Wr (obF v0) k0 (obF (a'.get 8)) ∧ True) ?_ ?_
  ·intro Q576 hQQ576 hp577
   refine gS 2 (⟨some (OwnAt (a.get 0) 0 51 out_), [(0, none)]⟩ :: ⟨some (OwnAt (a.get 0) 0 51 out_), [(13, some 0)]⟩ :: []) hs (by kernel_rfl) ⟨ob1 rfl fun _ _ h n => ok_moveOA (.inl rfl) (ownAt n.1 (up i0 h n.1)), ob1 rfl fun _ _ h n => ok_moveOA (.inr rfl) n.1, trivial⟩ hQQ576 fun b q p => ?_
   have hgq := hg.then p.grow
   have hsb := p.size.trans hs
   have hdb := p.defers.trans hd
   have e8 : b.get 8 = a.get 0 := (p.ou 1 8 rfl).1
   have j8 : IsOwn 0 51 out_ (b.get 8) q := (p.ou 1 8 rfl).2
   have y8 : Wr (obF v0) k0 (obF (b.get 8)) := by rw [e8]; exact n0
   exact tail_done (k := q) (hp577 _ _ ⟨⟨hgq, hsb, hdb⟩, j8, y8, trivial⟩)
  rintro a k ⟨⟨hg, hs, hd⟩, i8, n8, _⟩
  refine wp_ret ?_
  obtain rfl := Option.some.inj hr
  exact retC1 rfl hd hg (show ResOk _ _ _ (.tmp 8) (IsOwnW _ _ _ _) from ⟨i8, n8⟩)
 rw [if_neg (by rw [hc594]; decide)] at hr
 refine wp_skip ?_
 refine cutS (fun a' k' => Bs (obF v0) k0 52 a' k' ∧ IsOwn 0 51 out_ (a'.get 0) k' ∧ Wr (obF v0) k0 (obF (a'.get 0)) ∧ (IsV from_) (a'.get 1) k' ∧ (IsV to_) (a'.get 2) k' ∧ (IsV area_) (a'.get 3) k' ∧ (IsL out_) (a'.get 9) k' ∧ True) ?_ ?_
 ·intro Q592 hQQ592 hp593
  refine gS 3 (⟨some (OwnAt (a.get 0) 0 51 out_), [(0, none)]⟩ :: _ :: _ :: []) hs (by kernel_rfl) ⟨ob1 rfl fun _ _ h n => ok_moveOA (.inl rfl) (ownAt n.1 (up i0 h n.1)), o1 [(14, some 0)] rfl fun _ _ h n => ok_len rfl rfl Try.underlying22 (IsOwn.rd (n.1).2), cp 1 rfl rfl, trivial⟩ hQQ592 fun b q p => ?_
  exact tail_done (k := q) (hp593 _ _ ⟨Bs.post ⟨hg, hs, hd⟩ p, p.ke 0 rfl i0, (by rw [p.old 0 rfl]; exact n0), p.ke 1 rfl i1, p.ke 2 rfl i2, p.ke 3 rfl i3, p.ou 2 9 rfl, trivial⟩)
 rintro a k ⟨⟨hg, hs, hd⟩, i0, n0, i1, i2, i3, i9, _⟩
 refine wp_seq ?_
 refine wp_seq ?_
 obtain ⟨x579_11, hx579_11, hr⟩ := bind_some hr
 obtain ⟨x579_5, hx579_5, hx579_11⟩ := ite_bind hx579_11
 obtain ⟨x579_6, hx579_6, hx579_11⟩ := ite_bind hx579_11
 obtain ⟨x579_21, hx579_21, hr⟩ := bind_some hr
 obtain ⟨x579_15, hx579_15, hx579_21⟩ := ite_bind hx579_21
 obtain ⟨x579_16, hx579_16, hx579_21⟩ := ite_bind hx579_21
 obtain ⟨x579_20, hx579_20, hx579_21⟩ := ite_bind hx579_21
 refine cut (fun a' k' => Bs (obF v0) k0 52 a' k' ∧ IsOwn 0 51 out_ (a'.get 0) k' ∧ Wr (obF v0) k0 (obF (a'.get 0)) ∧ (IsV from_) (a'.get 1) k' ∧ (IsV to_) (a'.get 2) k' ∧ (IsV area_) (a'.get 3) k' ∧ (IsL out_) (a'.get 9) k' ∧ (IsV x579_21) (a'.get 37) k' ∧ True) ?_ hQ ?_
 ·intro Q590 hQQ590 hp591
  refine gS 22 (_ :: _ :: _ :: ⟨some (Gd ((decide (0 < (out_.length : Int))) = true) (OwnAt (a.get 0) 0 51 out_)), [(0, none)]⟩ :: _ :: _ :: _ :: _ :: _ :: _ :: _ :: _ :: _ :: ⟨some (Gd (x579_11 = true) (OwnAt (a.get 0) 0 51 out_)), [(0, none)]⟩ :: _ :: _ :: _ :: _ :: _ :: _ :: _ :: _ :: []) hs (by kernel_rfl) ⟨mu rfl i9, o1 [(16, some 0)] rfl fun _ _ h n => ok_gtr rfl n.1 (cI rfl), cm 1 rfl rfl, gdT rfl rfl fun hp _ _ h n => ok_moveOA (.inl rfl) (ownAt n.1 (up i0 h n.1)), mT rfl rfl i9, gT [(20, some 4)] rfl rfl fun hp _ _ h n => ok_sub rfl (Gd.get n.1 hp) (cI rfl) (hx579_5 hp), gT [(19, some 3), (21, some 5)] rfl rfl fun hp _ _ h n => ok_indexAddr rfl Try.underlying22 ty51 (IsOwn.rd ((Gd.get n.1 hp)).2) (Gd.get n.2.1 hp) (hx579_6 hp), gT [(22, some 6)] rfl rfl fun hp _ _ h n => ok_fieldAddr rfl fo51_1 (at_Slab_1 _) (Gd.get n.1 hp), gT [(23, some 7)] rfl rfl fun hp _ _ h n => ok_load rfl ty3 (Gd.get n.1 hp), mT rfl rfl i1, gT [(24, some 8), (25, some 9)] rfl rfl fun hp _ _ h n => ok_eqI rfl (Gd.get n.1 hp) (Gd.get n.2.1 hp), o1 [(18, some 2), (26, some 10)] rfl fun _ _ h n => ok_pickM rfl n.1 hx579_11 (Gd.get n.2.1) (cB rfl), cm 11 rfl rfl, gdT rfl rfl fun hp _ _ h n => ok_moveOA (.inl rfl) (ownAt n.1 (up i0 h n.1)), mT rfl rfl i9, gT [(30, some 14)] rfl rfl fun hp _ _ h n => ok_sub rfl (Gd.get n.1 hp) (cI rfl) (hx579_15 hp), gT [(29, some 13), (31, some 15)] rfl rfl fun hp _ _ h n => ok_indexAddr rfl Try.underlying22 ty51 (IsOwn.rd ((Gd.get n.1 hp)).2) (Gd.get n.2.1 hp) (hx579_16 hp), gT [(32, some 16)] rfl rfl fun hp _ _ h n => ok_fieldAddr rfl fo51_2 (at_Slab_2 _) (Gd.get n.1 hp), gT [(33, some 17)] rfl rfl fun hp _ _ h n => ok_load rfl ty49 (Gd.get n.1 hp), mT rfl rfl i3, gT [(34, some 18), (35, some 19)] rfl rfl fun hp _ _ h n => ok_call rfl Try.call31 (ref06_Same_ok (Gd.get n.1 hp) (Gd.get n.2.1 hp) (hx579_20 hp)), o1 [(28, some 12), (36, some 20)] rfl fun _ _ h n => ok_pickM rfl n.1 hx579_21 (Gd.get n.2.1) (cB rfl), trivial⟩ hQQ590 fun b q p => ?_
  exact tail_done (k := q) (hp591 _ _ ⟨Bs.post ⟨hg, hs, hd⟩ p, p.ke 0 rfl i0, (by rw [p.old 0 rfl]; exact n0), p.ke 1 rfl i1, p.ke 2 rfl i2, p.ke 3 rfl i3, p.ke 9 rfl i9, p.ou 21 37 rfl, trivial⟩)
 rintro a k ⟨⟨hg, hs, hd⟩, i0, n0, i1, i2, i3, i9, i37, _⟩
 refine wp_cond_split (isBool i37) (fun hc589 => ?_) (fun hc589 => ?_)
 ·rw [if_pos hc589] at hr
  refine wp_seq ?_
  obtain ⟨x580_2, hx580_2, hr⟩ := bind_some hr
  obtain ⟨x580_4, hx580_4, hr⟩ := bind_some hr
  obtain ⟨x580_6, hx580_6, hr⟩ := bind_some hr
  refine cut (fun a' k' => Bs (obF v0) k0 52 a' k' ∧ IsOwn 0 51 x580_6 (a'.get 0) k' ∧ Wr (obF v0) k0 (obF (a'.get 0)) ∧ True) ?_ hQ ?_
  ·intro Q584 hQQ584 hp585
   refine gS 6 (⟨some (OwnAt (a.get 0) 0 51 out_), [(0, none)]⟩ :: _ :: _ :: _ :: ⟨some (IsAdrO (a.get 0) ((x580_2).toNat * Enc.sz Slab)), [(38, some 0), (40, some 2)]⟩ :: _ :: []) hs (by kernel_rfl) ⟨ob1 rfl fun _ _ h n => ok_moveOA (.inl rfl) (ownAt n.1 (up i0 h n.1)), mu rfl i9, o1 [(39, some 1)] rfl fun _ _ h n => ok_sub rfl n.1 (cI rfl) hx580_2, mu rfl i2, ob1 rfl fun _ _ h n => ok_indexO rfl Try.underlying22 ty51 n.1 n.2.1 hx580_4, o1 [(42, some 4)] rfl fun _ _ h n => ok_fieldAdrO rfl fo51_1 n.1, trivial⟩ hQQ584 fun b q p => ?_
   have hgq := hg.then p.grow
   have hsb := p.size.trans hs
   have hdb := p.defers.trans hd
   have j0 := p.ke 0 rfl i0
   have y0 : Wr (obF v0) k0 (obF (b.get 0)) := by rw [p.old 0 rfl]; exact n0
   have j41 : (IsV to_) (b.get 41) q := p.ou 3 41 rfl
   have j43 : IsAdrO (a.get 0) ((x580_2).toNat * Enc.sz Slab + 1) (b.get 43) q := p.ou 5 43 rfl
   have eo : b.get 0 = a.get 0 := p.old 0 rfl
   have hns := j0.nshF
   refine tail_storeS (i := 6) (u := b.get 0) (m := (x580_2).toNat) (off := 0 + 1) rfl rfl rfl rfl szf3 upd_F51_1 (by rw [eo]; exact j43) j0 (getI_spec hx580_4).2.1 j41 fun q2 hch hz => ?_
   replace hgq := hgq.step hch y0
   have hle := hch.le hns
   replace j41 := Pers.pers hle j41
   replace j43 := Pers.pers hle j43
   replace j0 := hz
   rw [Option.some.inj hx580_6] at j0
   clear hns hle hch eo hz
   obtain ⟨q, hqq⟩ : ∃ q, q = q2 := ⟨q2, rfl⟩
   subst hqq
   exact tail_done (k := q) (hp585 _ _ ⟨⟨hgq, hsb, hdb⟩, j0, y0, trivial⟩)
  rintro a k ⟨⟨hg, hs, hd⟩, i0, n0, _⟩
  refine cutS (fun a' k' => Bs (obF v0) k0 52 a' k' ∧ IsOwn 0 51 x580_6 (a'.get 8) k' ∧ Wr (obF v0) k0 (obF (a'.get 8)) ∧ True) ?_ ?_
  ·intro Q582 hQQ582 hp583
   refine gS 2 (⟨some (OwnAt (a.get 0) 0 51 x580_6), [(0, none)]⟩ :: ⟨some (OwnAt (a.get 0) 0 51 x580_6), [(44, some 0)]⟩ :: []) hs (by kernel_rfl) ⟨ob1 rfl fun _ _ h n => ok_moveOA (.inl rfl) (ownAt n.1 (up i0 h n.1)), ob1 rfl fun _ _ h n => ok_moveOA (.inr rfl) n.1, trivial⟩ hQQ582 fun b q p => ?_
   have hgq := hg.then p.grow
   have hsb := p.size.trans hs
   have hdb := p.defers.trans hd
   have e8 : b.get 8 = a.get 0 := (p.ou 1 8 rfl).1
   have j8 : IsOwn 0 51 x580_6 (b.get 8) q := (p.ou 1 8 rfl).2
   have y8 : Wr (obF v0) k0 (obF (b.get 8)) := by rw [e8]; exact n0
   exact tail_done (k := q) (hp583 _ _ ⟨⟨hgq, hsb, hdb⟩, j8, y8, trivial⟩)
  rintro a k ⟨⟨hg, hs, hd⟩, i8, n8, _⟩
  refine wp_ret ?_
  obtain rfl := Option.some.inj hr
  exact retC1 rfl hd hg (show ResOk _ _ _ (.tmp 8) (IsOwnW _ _ _ _) from ⟨i8, n8⟩)
 rw [if_neg (by rw [hc589]; decide)] at hr
 refine wp_skip ?_
 refine wp_seq ?_
 obtain ⟨x586_6, hx586_6, hr⟩ := bind_some hr
 refine cut (fun a' k' => Bs (obF v0) k0 52 a' k' ∧ IsOwn 0 51 x586_6 (a'.get 8) k' ∧ Wr (obF v0) k0 (obF (a'.get 8)) ∧ True) ?_ hQ ?_
 ·intro Q587 hQQ587 hp588
  refine gS 6 (⟨some (OwnAt (a.get 0) 0 51 out_), [(0, none)]⟩ :: _ :: _ :: _ :: ⟨some (IsV (⟨from_, to_, area_⟩ : Slab)), [(46, some 1), (47, some 2), (48, some 3)]⟩ :: ⟨some (IsV (α := (List Slab)) ([(⟨from_, to_, area_⟩ : Slab)])), [(49, some 4)]⟩ :: []) hs (by kernel_rfl) ⟨ob1 rfl fun _ _ h n => ok_moveOA (.inl rfl) (ownAt n.1 (up i0 h n.1)), mu rfl i1, mu rfl i2, mu rfl i3, ob1 rfl fun _ _ h n => ok_build rfl (bld51_0_1_2 n.1 n.2.1 n.2.2.1), ob1 rfl fun _ _ h n => ok_buildSlice rfl Try.underlying22 eo51 rfl (by decide) (by decide) ⟨rfl, n.1, trivial⟩, trivial⟩ hQQ587 fun b q p => ?_
  have hgq := hg.then p.grow
  have hsb := p.size.trans hs
  have hdb := p.defers.trans hd
  have e45 : b.get 45 = a.get 0 := (p.ou 0 45 rfl).1
  have j45 : IsOwn 0 51 out_ (b.get 45) q := (p.ou 0 45 rfl).2
  have y45 : Wr (obF v0) k0 (obF (b.get 45)) := by rw [e45]; exact n0
  have j50 : (IsV (α := (List Slab)) ([(⟨from_, to_, area_⟩ : Slab)])) (b.get 50) q := p.ou 5 50 rfl
  have hns := j45.nshF
  refine tail_appendS (i := 6) (d := 51) rfl rfl rfl rfl (by rw [hsb]; decide) (e := 51) Try.underlying22 eo51 j45 (IsV.rd j50) hx586_6 fun b2 q2 hsz hdf hoth hch hown hob => ?_
  have hle := hch.le hns
  have yn : Wr (obF v0) k0 (obF (b2.get 51)) := y45.app hgq hob
  replace j50 := Pers.pers hle j50
  replace hgq := hgq.step hch y45
  rw [← hoth 50 (by decide)] at j50
  have j51 := hown
  have y51 := yn
  replace hsb := hsz.trans hsb
  replace hdb := hdf.trans hdb
  clear hle hch hown hob hns yn hsz hdf hoth
  obtain ⟨b, hbb⟩ : ∃ b, b = b2 := ⟨b2, rfl⟩
  subst hbb
  obtain ⟨q, hqq⟩ : ∃ q, q = q2 := ⟨q2, rfl⟩
  subst hqq
  refine tail_assign (i := 7) (d := 8) rfl rfl (.inl rfl) rfl (by rw [hsb]; decide) fun b2 hsz hdf hnew hoth => ?_
  have jn : (IsOwn 0 51 x586_6) (b2.get 8) q := by rw [hnew]; exact j51
  have yn : Wr (obF v0) k0 (obF (b2.get 8)) := by rw [hnew]; exact y51
  rw [← hoth 50 (by decide)] at j50
  have j8 := jn
  have y8 := yn
  replace hsb := hsz.trans hsb
  replace hdb := hdf.trans hdb
  clear hsz hdf hoth
  obtain ⟨b, hbb⟩ : ∃ b, b = b2 := ⟨b2, rfl⟩
  subst hbb
  exact tail_done (k := q) (hp588 _ _ ⟨⟨hgq, hsb, hdb⟩, j8, y8, trivial⟩)
 rintro a k ⟨⟨hg, hs, hd⟩, i8, n8, _⟩
 refine wp_ret ?_
 obtain rfl := Option.some.inj hr
 exact retC1 rfl hd hg (show ResOk _ _ _ (.tmp 8) (IsOwnW _ _ _ _) from ⟨i8, n8⟩)
def ref09_end_L0 (out_ : (List Slab)) (s601 : Int) : Option (Flow (Int) ((List Slab) × Int)) :=
 if (decide (s601 < (out_.length : Int))) then
  (getI out_ s601).bind fun x606_2 =>
  if (decide (200 < (x606_2.Area.length : Int))) then
   some (.ret (([] : List Slab), 6))
  else
   (addI s601 1).bind fun x610_1 =>
   some (.go x610_1)
 else
  some (.ex 0 s601)
def ref09_end (out_ : (List Slab)) : Option ((List Slab) × Int) :=
 (iterL (ref09_end_L0 out_) (out_.length + 1) 0).bind fun f619 => match f619 with
  | .go _ => none
  | .ex _ _ =>
   if (decide (80 < (out_.length : Int))) then
    some (([] : List Slab), 6)
   else
    some (out_, 0)
  | .ret r631 => some r631
theorem ref09_end_ok {k0 : K} {v0 : Value} {out_ : (List Slab)} {r : (List Slab) × Int} (i0 : (IsV out_) v0 k0) (hr : ref09_end out_ = some r) :
  Calls Try.prog 45 #[v0] k0.w (Ret k0 (IsTup2 (IsV r.1) (IsV r.2))) := by
 unfold ref09_end at hr
 refine Ret.ofC ?_
 refine enterK Try.func45 rfl Try.ntmps45 (show 1 ≤ 22 by decide) fun a k hk0 hs hd ha => ?_
 obtain ⟨e0, _⟩ := ha
 replace i0 : (IsV out_) (a.get 0) k := by rw [e0, hk0]; exact i0
 have hQ : Gb.LetsOut (bodyPost Try.prog Try.f45 (RetC noF k0 (IsTup2 (IsV r.1) (IsV r.2)))) := letsOutC
 have hg : Chg noF k0 k := by rw [hk0]; exact Chg.refl _ k0
 refine stepL 2 (⟨some IsE0, []⟩ :: ⟨some (IsI 0), []⟩ :: []) rfl ⟨hg, hs, hd⟩ (by kernel_rfl) ⟨ob1 rfl fun b q h n => ok_assign rfl isE0_nil, aI rfl rfl, trivial⟩ [⟨_, _⟩] (fun b q p => ⟨p.ke 0 rfl i0, trivial⟩) ?_
 rintro a k ⟨⟨hg, hs, hd⟩, i0, _⟩
 refine wp_seq ?_
 refine stepL 1 (⟨some (IsI 0), []⟩ :: []) rfl ⟨hg, hs, hd⟩ (by kernel_rfl) ⟨aI rfl rfl, trivial⟩ [⟨_, _⟩, ⟨_, _⟩] (fun b q p => ⟨p.ke 0 rfl i0, p.ou 0 4 rfl, trivial⟩) ?_
 rintro a k ⟨⟨hg, hs, hd⟩, i0, i4, _⟩
 refine wp_block ?_
 obtain ⟨f619, hf619, hr⟩ := bind_some hr
 refine cutFe f619 (fun s' a' k' => Bs noF k0 22 a' k' ∧ (IsV out_) (a'.get 0) k' ∧ (IsV s') (a'.get 4) k' ∧ True) (fun i' s' a' k' => (i' = 0 ∧ Bs noF k0 22 a' k' ∧ (IsV out_) (a'.get 0) k' ∧ True)) (fun r' a' k' => bodyPost Try.prog Try.f45 (RetC noF k0 (IsTup2 (IsV r'.1) (IsV r'.2))) .ret a' k'.w) ?_ hQ ?_ ?_ ?_
 ·intro Q632 hQQ632 hgo hex hret
  refine sim_loop ?_ _ _ _ _ _ hf619 ⟨⟨hg, hs, hd⟩, i0, i4, trivial⟩ Q632 hQQ632 hgo hex hret
  clear hr hf619 hgo hex hret hQQ632 hQ hg hs hd i0 i4
  intro s601 fl_ a k hr hS Q hQ hgo602 hex603 hret604
  obtain ⟨⟨hg, hs, hd⟩, i0, i4, _⟩ := hS
  unfold ref09_end_L0 at hr
  refine wp_seq ?_
  refine stepL 4 (_ :: _ :: _ :: _ :: []) rfl ⟨hg, hs, hd⟩ (by kernel_rfl) ⟨mu rfl i4, mu rfl i0, o1 [(6, some 1)] rfl fun _ _ h n => ok_len rfl rfl Try.underlying22 (IsV.rd n.1), o1 [(5, some 0), (7, some 2)] rfl fun _ _ h n => ok_lss rfl n.1 n.2.1, trivial⟩ [⟨_, _⟩, ⟨_, _⟩, ⟨_, _⟩] (fun b q p => ⟨p.ke 0 rfl i0, p.ke 4 rfl i4, p.ou 3 8 rfl, trivial⟩) ?_
  rintro a k ⟨⟨hg, hs, hd⟩, i0, i4, i8, _⟩
  refine wp_cond_split (isBool i8) (fun hc616 => ?_) (fun hc616 => ?_)
  ·rw [if_pos hc616] at hr
   refine wp_skip ?_
   refine wp_seq ?_
   refine wp_block ?_
   refine wp_seq ?_
   obtain ⟨x606_2, hx606_2, hr⟩ := bind_some hr
   refine cut (fun a' k' => Bs noF k0 22 a' k' ∧ (IsV out_) (a'.get 0) k' ∧ (IsV s601) (a'.get 4) k' ∧ (IsV (decide (200 < (x606_2.Area.length : Int)))) (a'.get 17) k' ∧ True) ?_ hQ ?_
   ·intro Q614 hQQ614 hp615
    refine gS 7 (_ :: _ :: _ :: _ :: _ :: _ :: _ :: []) hs (by kernel_rfl) ⟨mu rfl i0, mu rfl i4, o1 [(11, some 0), (12, some 1)] rfl fun _ _ h n => ok_indexAddr rfl Try.underlying22 ty51 (IsV.rd n.1) n.2.1 hx606_2, o1 [(13, some 2)] rfl fun _ _ h n => ok_fieldAddr rfl fo51_2 (at_Slab_2 _) n.1, o1 [(14, some 3)] rfl fun _ _ h n => ok_load rfl ty49 n.1, o1 [(15, some 4)] rfl fun _ _ h n => ok_len rfl rfl Try.underlying49 (IsV.rd n.1), o1 [(16, some 5)] rfl fun _ _ h n => ok_gtr rfl n.1 (cI rfl), trivial⟩ hQQ614 fun b q p => ?_
    exact tail_done (k := q) (hp615 _ _ ⟨Bs.post ⟨hg, hs, hd⟩ p, p.ke 0 rfl i0, p.ke 4 rfl i4, p.ou 6 17 rfl, trivial⟩)
   rintro a k ⟨⟨hg, hs, hd⟩, i0, i4, i17, _⟩
   refine wp_cond_split (isBool i17) (fun hc613 => ?_) (fun hc613 => ?_)
   ·rw [if_pos hc613] at hr
    refine cutL noF k0 22 [⟨2, IsV ([] : List Slab)⟩, ⟨3, IsI 6⟩] ?_ ?_
    ·intro Q608 hQQ608 hp609
     refine gS 2 (⟨some IsE0, []⟩ :: ⟨some (IsI 6), []⟩ :: []) hs (by kernel_rfl) ⟨ob1 rfl fun b q h n => ok_assign rfl isE0_nil, aI rfl rfl, trivial⟩ hQQ608 fun b q p => ?_
     have hgq := hg.then p.grow
     have hsb := p.size.trans hs
     have hdb := p.defers.trans hd
     have j2 : IsE0 (b.get 2) q := p.ou 0 2 rfl
     have j3 : (IsI 6) (b.get 3) q := p.ou 1 3 rfl
     replace j2 : IsV ([] : List Slab) (b.get 2) q := j2.isV
     exact tail_done (k := q) (hp609 _ _ ⟨⟨hgq, hsb, hdb⟩, j2, j3, trivial⟩)
    rintro a k ⟨⟨hg, hs, hd⟩, i2, i3, _⟩
    refine wp_ret ?_
    exact hret604 _ _ _ (Option.some.inj hr).symm (retC2 rfl hd hg i2 i3)
   rw [if_neg (by rw [hc613]; decide)] at hr
   refine wp_skip ?_
   obtain ⟨x610_1, hx610_1, hr⟩ := bind_some hr
   refine cut (fun a' k' => Bs noF k0 22 a' k' ∧ (IsV out_) (a'.get 0) k' ∧ (IsV x610_1) (a'.get 4) k' ∧ True) ?_ hQ ?_
   ·intro Q611 hQQ611 hp612
    refine gS 3 (_ :: _ :: _ :: []) hs (by kernel_rfl) ⟨mu rfl i4, o1 [(9, some 0)] rfl fun _ _ h n => ok_add rfl n.1 (cI rfl) hx610_1, cp 1 rfl rfl, trivial⟩ hQQ611 fun b q p => ?_
    exact tail_done (k := q) (hp612 _ _ ⟨Bs.post ⟨hg, hs, hd⟩ p, p.ke 0 rfl i0, p.ou 2 4 rfl, trivial⟩)
   rintro a k ⟨⟨hg, hs, hd⟩, i0, i4, _⟩
   exact hgo602 _ _ _ (Option.some.inj hr).symm ⟨⟨hg, hs, hd⟩, i0, i4, trivial⟩
  rw [if_neg (by rw [hc616]; decide)] at hr
  refine wp_exit ?_
  exact hex603 _ _ _ _ (Option.some.inj hr).symm ⟨rfl, ⟨hg, hs, hd⟩, i0, trivial⟩
 ·rintro r631 a k rfl hR
  dsimp only at hr
  obtain rfl := Option.some.inj hr
  exact hR
 ·rintro _ _ _ rfl _
  simp at hr
 clear hf619
 rintro _ s620 a k rfl ⟨rfl, ⟨hg, hs, hd⟩, i0, _⟩
 dsimp only at hr
 refine wp_seq ?_
 refine stepL 3 (_ :: _ :: _ :: []) rfl ⟨hg, hs, hd⟩ (by kernel_rfl) ⟨mu rfl i0, o1 [(18, some 0)] rfl fun _ _ h n => ok_len rfl rfl Try.underlying22 (IsV.rd n.1), o1 [(19, some 1)] rfl fun _ _ h n => ok_gtr rfl n.1 (cI rfl), trivial⟩ [⟨_, _⟩, ⟨_, _⟩] (fun b q p => ⟨p.ke 0 rfl i0, p.ou 2 20 rfl, trivial⟩) ?_
 rintro a k ⟨⟨hg, hs, hd⟩, i0, i20, _⟩
 refine wp_cond_split (isBool i20) (fun hc628 => ?_) (fun hc628 => ?_)
 ·rw [if_pos hc628] at hr
  refine cutL noF k0 22 [⟨2, IsV ([] : List Slab)⟩, ⟨3, IsI 6⟩] ?_ ?_
  ·intro Q623 hQQ623 hp624
   refine gS 2 (⟨some IsE0, []⟩ :: ⟨some (IsI 6), []⟩ :: []) hs (by kernel_rfl) ⟨ob1 rfl fun b q h n => ok_assign rfl isE0_nil, aI rfl rfl, trivial⟩ hQQ623 fun b q p => ?_
   have hgq := hg.then p.grow
   have hsb := p.size.trans hs
   have hdb := p.defers.trans hd
   have j2 : IsE0 (b.get 2) q := p.ou 0 2 rfl
   have j3 : (IsI 6) (b.get 3) q := p.ou 1 3 rfl
   replace j2 : IsV ([] : List Slab) (b.get 2) q := j2.isV
   exact tail_done (k := q) (hp624 _ _ ⟨⟨hgq, hsb, hdb⟩, j2, j3, trivial⟩)
  rintro a k ⟨⟨hg, hs, hd⟩, i2, i3, _⟩
  refine wp_ret ?_
  obtain rfl := Option.some.inj hr
  exact retC2 rfl hd hg i2 i3
 rw [if_neg (by rw [hc628]; decide)] at hr
 refine wp_skip ?_
 refine stepL 3 (_ :: _ :: ⟨some (IsI 0), []⟩ :: []) rfl ⟨hg, hs, hd⟩ (by kernel_rfl) ⟨mu rfl i0, cp 0 rfl rfl, aI rfl rfl, trivial⟩ [⟨_, _⟩, ⟨_, _⟩] (fun b q p => ⟨p.ou 1 2 rfl, p.ou 2 3 rfl, trivial⟩) ?_
 rintro a k ⟨⟨hg, hs, hd⟩, i2, i3, _⟩
 refine wp_ret ?_
 obtain rfl := Option.some.inj hr
 exact retC2 rfl hd hg i2 i3
def ref09_Of_L0 (l_ : (List Box)) (s639 : Int) : Option (Flow (Int) ((List Slab) × Int)) :=
 if (decide (s639 < (l_.length : Int))) then
  (getI l_ s639).bind fun x644_2 =>
  (ref09_RightBox x644_2).bind fun x644_4 =>
  if (!x644_4) then
   some (.ret (([] : List Slab), 1))
  else
   (addI s639 1).bind fun x648_1 =>
   some (.go x648_1)
 else
  some (.ex 0 s639)
def ref09_Of_L1 (l_ : (List Box)) (s665 : (List Int) × Int) : Option (Flow ((List Int) × Int) ((List Slab) × Int)) :=
 if (decide (s665.2 < (l_.length : Int))) then
  (getI l_ s665.2).bind fun x670_3 =>
  (ref09_insert s665.1 x670_3.Z0).bind fun x670_6 =>
  (getI l_ s665.2).bind fun x670_9 =>
  (ref09_insert x670_6 x670_9.Z1).bind fun x670_12 =>
  (addI s665.2 1).bind fun x671_1 =>
  some (.go (x670_12, x671_1))
 else
  some (.ex 2 (s665.1, s665.2))
def ref09_Of_L3 (l_ : (List Box)) (s680 : (List Int) × Int) (s683 : (List Slab) × Int) (s690 : (List Rect) × Int) : Option (Flow ((List Rect) × Int) ((List Slab) × Int)) :=
 if (decide (s690.2 < (l_.length : Int))) then
  (getI l_ s690.2).bind fun x695_2 =>
  (getI s680.1 s683.2).bind fun x695_7 =>
  (if (decide (x695_2.Z0 ≤ x695_7)) then
   (getI s680.1 s683.2).bind fun x695_13 =>
   (getI l_ s690.2).bind fun x695_17 =>
   some (decide (x695_13 < x695_17.Z1))
  else
   some false).bind fun x695_21 =>
  (if x695_21 then
   (getI l_ s690.2).bind fun x698_3 =>
   (appI s690.1 ([x698_3.Base])).bind fun x698_7 =>
   some x698_7
  else
   some s690.1).bind fun s696 =>
  (addI s690.2 1).bind fun x702_1 =>
  some (.go (s696, x702_1))
 else
  some (.ex 6 (s690.1, s690.2))
def ref09_Of_L2 (l_ : (List Box)) (s680 : (List Int) × Int) (s683 : (List Slab) × Int) : Option (Flow ((List Slab) × Int) ((List Slab) × Int)) :=
 (addI s683.2 1).bind fun x687_1 =>
 if (decide (x687_1 < (s680.1.length : Int))) then
  (iterL (ref09_Of_L3 l_ s680 s683) (l_.length + s680.1.length + s683.1.length + ([] : List Rect).length + 1) (([] : List Rect), 0)).bind fun f712 => match f712 with
   | .go _ => none
   | .ex _ s713 =>
    (getI s680.1 s683.2).bind fun x714_3 =>
    (addI s683.2 1).bind fun x714_7 =>
    (getI s680.1 x714_7).bind fun x714_8 =>
    (ref06_Form s713.1 ([] : List Rect) 0).bind fun x714_11 =>
    (ref09_add s683.1 x714_3 x714_8 x714_11).bind fun x714_12 =>
    (addI s683.2 1).bind fun x715_1 =>
    some (.go (x714_12, x715_1))
   | .ret r720 => some (.ret r720)
 else
  some (.ex 4 (s683.1, s683.2))
def ref09_Of (l_ : (List Box)) : Option ((List Slab) × Int) :=
 (iterL (ref09_Of_L0 l_) (l_.length + 1) 0).bind fun f657 => match f657 with
  | .go _ => none
  | .ex _ _ =>
   if (decide (200 < (l_.length : Int))) then
    some (([] : List Slab), 6)
   else
    (iterL (ref09_Of_L1 l_) (l_.length + ([] : List Int).length + 1) (([] : List Int), 0)).bind fun f679 => match f679 with
     | .go _ => none
     | .ex _ s680 =>
      (iterL (ref09_Of_L2 l_ s680) (l_.length + s680.1.length + ([] : List Slab).length + 1) (([] : List Slab), 0)).bind fun f730 => match f730 with
       | .go _ => none
       | .ex _ s731 =>
        (ref09_end s731.1).bind fun x732_1 =>
        some (x732_1.1, x732_1.2)
       | .ret r738 => some r738
     | .ret r744 => some r744
  | .ret r753 => some r753
theorem ref09_Of_ok {k0 : K} {v0 : Value} {l_ : (List Box)} {r : (List Slab) × Int} (i0 : (IsV l_) v0 k0) (hr : ref09_Of l_ = some r) :
  Calls Try.prog 25 #[v0] k0.w (Ret k0 (IsTup2 (IsV r.1) (IsV r.2))) := by
 unfold ref09_Of at hr
 refine Ret.ofC ?_
 refine enterK Try.func25 rfl Try.ntmps25 (show 1 ≤ 110 by decide) fun a k hk0 hs hd ha => ?_
 obtain ⟨e0, _⟩ := ha
 replace i0 : (IsV l_) (a.get 0) k := by rw [e0, hk0]; exact i0
 have hQ : Gb.LetsOut (bodyPost Try.prog Try.f25 (RetC noF k0 (IsTup2 (IsV r.1) (IsV r.2)))) := letsOutC
 have hg : Chg noF k0 k := by rw [hk0]; exact Chg.refl _ k0
 refine stepL 2 (⟨some IsE0, []⟩ :: ⟨some (IsI 0), []⟩ :: []) rfl ⟨hg, hs, hd⟩ (by kernel_rfl) ⟨ob1 rfl fun b q h n => ok_assign rfl isE0_nil, aI rfl rfl, trivial⟩ [⟨_, _⟩] (fun b q p => ⟨p.ke 0 rfl i0, trivial⟩) ?_
 rintro a k ⟨⟨hg, hs, hd⟩, i0, _⟩
 refine wp_seq ?_
 refine stepL 1 (⟨some (IsI 0), []⟩ :: []) rfl ⟨hg, hs, hd⟩ (by kernel_rfl) ⟨aI rfl rfl, trivial⟩ [⟨_, _⟩, ⟨_, _⟩] (fun b q p => ⟨p.ke 0 rfl i0, p.ou 0 4 rfl, trivial⟩) ?_
 rintro a k ⟨⟨hg, hs, hd⟩, i0, i4, _⟩
 refine wp_block ?_
 obtain ⟨f657, hf657, hr⟩ := bind_some hr
 refine cutFe f657 (fun s' a' k' => Bs noF k0 110 a' k' ∧ (IsV l_) (a'.get 0) k' ∧ (IsV s') (a'.get 4) k' ∧ True) (fun i' s' a' k' => (i' = 0 ∧ Bs noF k0 110 a' k' ∧ (IsV l_) (a'.get 0) k' ∧ True)) (fun r' a' k' => bodyPost Try.prog Try.f25 (RetC noF k0 (IsTup2 (IsV r'.1) (IsV r'.2))) .ret a' k'.w) ?_ hQ ?_ ?_ ?_
 ·intro Q754 hQQ754 hgo hex hret
  refine sim_loop ?_ _ _ _ _ _ hf657 ⟨⟨hg, hs, hd⟩, i0, i4, trivial⟩ Q754 hQQ754 hgo hex hret
  clear hr hf657 hgo hex hret hQQ754 hQ hg hs hd i0 i4
  intro s639 fl_ a k hr hS Q hQ hgo640 hex641 hret642
  obtain ⟨⟨hg, hs, hd⟩, i0, i4, _⟩ := hS
  unfold ref09_Of_L0 at hr
  refine wp_seq ?_
  refine stepL 4 (_ :: _ :: _ :: _ :: []) rfl ⟨hg, hs, hd⟩ (by kernel_rfl) ⟨mu rfl i4, mu rfl i0, o1 [(14, some 1)] rfl fun _ _ h n => ok_len rfl rfl Try.underlying31 (IsV.rd n.1), o1 [(13, some 0), (15, some 2)] rfl fun _ _ h n => ok_lss rfl n.1 n.2.1, trivial⟩ [⟨_, _⟩, ⟨_, _⟩, ⟨_, _⟩] (fun b q p => ⟨p.ke 0 rfl i0, p.ke 4 rfl i4, p.ou 3 16 rfl, trivial⟩) ?_
  rintro a k ⟨⟨hg, hs, hd⟩, i0, i4, i16, _⟩
  refine wp_cond_split (isBool i16) (fun hc654 => ?_) (fun hc654 => ?_)
  ·rw [if_pos hc654] at hr
   refine wp_skip ?_
   refine wp_seq ?_
   refine wp_block ?_
   refine wp_seq ?_
   obtain ⟨x644_2, hx644_2, hr⟩ := bind_some hr
   obtain ⟨x644_4, hx644_4, hr⟩ := bind_some hr
   refine cut (fun a' k' => Bs noF k0 110 a' k' ∧ (IsV l_) (a'.get 0) k' ∧ (IsV s639) (a'.get 4) k' ∧ (IsV (!x644_4)) (a'.get 24) k' ∧ True) ?_ hQ ?_
   ·intro Q652 hQQ652 hp653
    refine gS 6 (_ :: _ :: _ :: _ :: _ :: _ :: []) hs (by kernel_rfl) ⟨mu rfl i0, mu rfl i4, o1 [(19, some 0), (20, some 1)] rfl fun _ _ h n => ok_indexAddr rfl Try.underlying31 ty37 (IsV.rd n.1) n.2.1 hx644_2, o1 [(21, some 2)] rfl fun _ _ h n => ok_load rfl ty37 n.1, o1 [(22, some 3)] rfl fun _ _ h n => ok_call rfl Try.call22 (ref09_RightBox_ok n.1 hx644_4), o1 [(23, some 4)] rfl fun _ _ h n => ok_not rfl n.1, trivial⟩ hQQ652 fun b q p => ?_
    exact tail_done (k := q) (hp653 _ _ ⟨Bs.post ⟨hg, hs, hd⟩ p, p.ke 0 rfl i0, p.ke 4 rfl i4, p.ou 5 24 rfl, trivial⟩)
   rintro a k ⟨⟨hg, hs, hd⟩, i0, i4, i24, _⟩
   refine wp_cond_split (isBool i24) (fun hc651 => ?_) (fun hc651 => ?_)
   ·rw [if_pos hc651] at hr
    refine cutL noF k0 110 [⟨2, IsV ([] : List Slab)⟩, ⟨3, IsI 1⟩] ?_ ?_
    ·intro Q646 hQQ646 hp647
     refine gS 2 (⟨some IsE0, []⟩ :: ⟨some (IsI 1), []⟩ :: []) hs (by kernel_rfl) ⟨ob1 rfl fun b q h n => ok_assign rfl isE0_nil, aI rfl rfl, trivial⟩ hQQ646 fun b q p => ?_
     have hgq := hg.then p.grow
     have hsb := p.size.trans hs
     have hdb := p.defers.trans hd
     have j2 : IsE0 (b.get 2) q := p.ou 0 2 rfl
     have j3 : (IsI 1) (b.get 3) q := p.ou 1 3 rfl
     replace j2 : IsV ([] : List Slab) (b.get 2) q := j2.isV
     exact tail_done (k := q) (hp647 _ _ ⟨⟨hgq, hsb, hdb⟩, j2, j3, trivial⟩)
    rintro a k ⟨⟨hg, hs, hd⟩, i2, i3, _⟩
    refine wp_ret ?_
    exact hret642 _ _ _ (Option.some.inj hr).symm (retC2 rfl hd hg i2 i3)
   rw [if_neg (by rw [hc651]; decide)] at hr
   refine wp_skip ?_
   obtain ⟨x648_1, hx648_1, hr⟩ := bind_some hr
   refine cut (fun a' k' => Bs noF k0 110 a' k' ∧ (IsV l_) (a'.get 0) k' ∧ (IsV x648_1) (a'.get 4) k' ∧ True) ?_ hQ ?_
   ·intro Q649 hQQ649 hp650
    refine gS 3 (_ :: _ :: _ :: []) hs (by kernel_rfl) ⟨mu rfl i4, o1 [(17, some 0)] rfl fun _ _ h n => ok_add rfl n.1 (cI rfl) hx648_1, cp 1 rfl rfl, trivial⟩ hQQ649 fun b q p => ?_
    exact tail_done (k := q) (hp650 _ _ ⟨Bs.post ⟨hg, hs, hd⟩ p, p.ke 0 rfl i0, p.ou 2 4 rfl, trivial⟩)
   rintro a k ⟨⟨hg, hs, hd⟩, i0, i4, _⟩
   exact hgo640 _ _ _ (Option.some.inj hr).symm ⟨⟨hg, hs, hd⟩, i0, i4, trivial⟩
  rw [if_neg (by rw [hc654]; decide)] at hr
  refine wp_exit ?_
  exact hex641 _ _ _ _ (Option.some.inj hr).symm ⟨rfl, ⟨hg, hs, hd⟩, i0, trivial⟩
 ·rintro r753 a k rfl hR
  dsimp only at hr
  obtain rfl := Option.some.inj hr
  exact hR
 ·rintro _ _ _ rfl _
  simp at hr
 clear hf657
 rintro _ s658 a k rfl ⟨rfl, ⟨hg, hs, hd⟩, i0, _⟩
 dsimp only at hr
 refine wp_seq ?_
 refine stepL 3 (_ :: _ :: _ :: []) rfl ⟨hg, hs, hd⟩ (by kernel_rfl) ⟨mu rfl i0, o1 [(25, some 0)] rfl fun _ _ h n => ok_len rfl rfl Try.underlying31 (IsV.rd n.1), o1 [(26, some 1)] rfl fun _ _ h n => ok_gtr rfl n.1 (cI rfl), trivial⟩ [⟨_, _⟩, ⟨_, _⟩] (fun b q p => ⟨p.ke 0 rfl i0, p.ou 2 27 rfl, trivial⟩) ?_
 rintro a k ⟨⟨hg, hs, hd⟩, i0, i27, _⟩
 refine wp_cond_split (isBool i27) (fun hc750 => ?_) (fun hc750 => ?_)
 ·rw [if_pos hc750] at hr
  refine cutL noF k0 110 [⟨2, IsV ([] : List Slab)⟩, ⟨3, IsI 6⟩] ?_ ?_
  ·intro Q661 hQQ661 hp662
   refine gS 2 (⟨some IsE0, []⟩ :: ⟨some (IsI 6), []⟩ :: []) hs (by kernel_rfl) ⟨ob1 rfl fun b q h n => ok_assign rfl isE0_nil, aI rfl rfl, trivial⟩ hQQ661 fun b q p => ?_
   have hgq := hg.then p.grow
   have hsb := p.size.trans hs
   have hdb := p.defers.trans hd
   have j2 : IsE0 (b.get 2) q := p.ou 0 2 rfl
   have j3 : (IsI 6) (b.get 3) q := p.ou 1 3 rfl
   replace j2 : IsV ([] : List Slab) (b.get 2) q := j2.isV
   exact tail_done (k := q) (hp662 _ _ ⟨⟨hgq, hsb, hdb⟩, j2, j3, trivial⟩)
  rintro a k ⟨⟨hg, hs, hd⟩, i2, i3, _⟩
  refine wp_ret ?_
  obtain rfl := Option.some.inj hr
  exact retC2 rfl hd hg i2 i3
 rw [if_neg (by rw [hc750]; decide)] at hr
 refine wp_skip ?_
 refine cutL noF k0 110 [⟨0, IsV l_⟩, ⟨5, IsV ([] : List Int)⟩] ?_ ?_
 ·intro Q748 hQQ748 hp749
  refine gS 1 (⟨some IsE0, []⟩ :: []) hs (by kernel_rfl) ⟨ob1 rfl fun b q h n => ok_assign rfl isE0_nil, trivial⟩ hQQ748 fun b q p => ?_
  have hgq := hg.then p.grow
  have hsb := p.size.trans hs
  have hdb := p.defers.trans hd
  have j0 := p.ke 0 rfl i0
  have j5 : IsE0 (b.get 5) q := p.ou 0 5 rfl
  replace j5 : IsV ([] : List Int) (b.get 5) q := j5.isV
  exact tail_done (k := q) (hp749 _ _ ⟨⟨hgq, hsb, hdb⟩, j0, j5, trivial⟩)
 rintro a k ⟨⟨hg, hs, hd⟩, i0, i5, _⟩
 refine wp_seq ?_
 refine stepL 1 (⟨some (IsI 0), []⟩ :: []) rfl ⟨hg, hs, hd⟩ (by kernel_rfl) ⟨aI rfl rfl, trivial⟩ [⟨_, _⟩, ⟨_, _⟩, ⟨_, _⟩] (fun b q p => ⟨p.ke 0 rfl i0, p.ke 5 rfl i5, p.ou 0 6 rfl, trivial⟩) ?_
 rintro a k ⟨⟨hg, hs, hd⟩, i0, i5, i6, _⟩
 refine wp_block ?_
 obtain ⟨f679, hf679, hr⟩ := bind_some hr
 refine cutFe f679 (fun s' a' k' => Bs noF k0 110 a' k' ∧ (IsV l_) (a'.get 0) k' ∧ (IsV s'.1) (a'.get 5) k' ∧ (IsV s'.2) (a'.get 6) k' ∧ True) (fun i' s' a' k' => (i' = 2 ∧ Bs noF k0 110 a' k' ∧ (IsV l_) (a'.get 0) k' ∧ (IsV s'.1) (a'.get 5) k' ∧ True)) (fun r' a' k' => bodyPost Try.prog Try.f25 (RetC noF k0 (IsTup2 (IsV r'.1) (IsV r'.2))) .ret a' k'.w) ?_ hQ ?_ ?_ ?_
 ·intro Q745 hQQ745 hgo hex hret
  refine sim_loop ?_ _ _ _ _ _ hf679 ⟨⟨hg, hs, hd⟩, i0, i5, i6, trivial⟩ Q745 hQQ745 hgo hex hret
  clear hr hf679 hgo hex hret hQQ745 hQ hg hs hd i0 i5 i6
  intro s665 fl_ a k hr hS Q hQ hgo666 hex667 hret668
  obtain ⟨⟨hg, hs, hd⟩, i0, i5, i6, _⟩ := hS
  unfold ref09_Of_L1 at hr
  refine wp_seq ?_
  refine stepL 4 (_ :: _ :: _ :: _ :: []) rfl ⟨hg, hs, hd⟩ (by kernel_rfl) ⟨mu rfl i6, mu rfl i0, o1 [(29, some 1)] rfl fun _ _ h n => ok_len rfl rfl Try.underlying31 (IsV.rd n.1), o1 [(28, some 0), (30, some 2)] rfl fun _ _ h n => ok_lss rfl n.1 n.2.1, trivial⟩ [⟨_, _⟩, ⟨_, _⟩, ⟨_, _⟩, ⟨_, _⟩] (fun b q p => ⟨p.ke 0 rfl i0, p.ke 5 rfl i5, p.ke 6 rfl i6, p.ou 3 31 rfl, trivial⟩) ?_
  rintro a k ⟨⟨hg, hs, hd⟩, i0, i5, i6, i31, _⟩
  refine wp_cond_split (isBool i31) (fun hc676 => ?_) (fun hc676 => ?_)
  ·rw [if_pos hc676] at hr
   refine wp_skip ?_
   refine wp_seq ?_
   refine wp_block ?_
   obtain ⟨x670_3, hx670_3, hr⟩ := bind_some hr
   obtain ⟨x670_6, hx670_6, hr⟩ := bind_some hr
   obtain ⟨x670_9, hx670_9, hr⟩ := bind_some hr
   obtain ⟨x670_12, hx670_12, hr⟩ := bind_some hr
   refine cut (fun a' k' => Bs noF k0 110 a' k' ∧ (IsV l_) (a'.get 0) k' ∧ (IsV x670_12) (a'.get 5) k' ∧ (IsV s665.2) (a'.get 6) k' ∧ True) ?_ hQ ?_
   ·intro Q674 hQQ674 hp675
    refine region (a0 := a) (k0 := k) (n := 110) (m := 14) (⟨some (IsV s665.1), [(5, none)]⟩ :: ⟨some (IsV l_), [(0, none)]⟩ :: ⟨some (IsV s665.2), [(6, none)]⟩ :: ⟨some (IsPtr x670_3), [(35, some 1), (36, some 2)]⟩ :: ⟨some (IsPtr x670_3.Z0), [(37, some 3)]⟩ :: ⟨some (IsV x670_3.Z0), [(38, some 4)]⟩ :: ⟨some (IsV x670_6), [(34, some 0), (39, some 5)]⟩ :: ⟨some (IsV l_), [(0, none)]⟩ :: ⟨some (IsV s665.2), [(6, none)]⟩ :: ⟨some (IsPtr x670_9), [(41, some 7), (42, some 8)]⟩ :: ⟨some (IsPtr x670_9.Z1), [(43, some 9)]⟩ :: ⟨some (IsV x670_9.Z1), [(44, some 10)]⟩ :: ⟨some (IsV x670_12), [(40, some 6), (45, some 11)]⟩ :: ⟨some (IsV x670_12), [(46, some 12)]⟩ :: []) hmix hs (by kernel_rfl) ⟨ob1 rfl fun b q hk hn => ok_move rfl (up i5 hk hn.1), ob1 rfl fun b q hk hn => ok_move rfl (up i0 hk hn.1), ob1 rfl fun b q hk hn => ok_move rfl (up i6 hk hn.1), ob1 rfl fun b q hk hn => ok_indexAddr rfl Try.underlying31 ty37 (IsV.rd hn.1) hn.2.1 hx670_3, ob1 rfl fun b q hk hn => ok_fieldAddr rfl fo37_1 (at_Box_1 _) hn.1, ob1 rfl fun b q hk hn => ok_load rfl ty3 hn.1, ob1 rfl fun b q hk hn => ok_call rfl Try.call42 (ref09_insert_ok hn.1 hn.2.1 hx670_6), ob1 rfl fun b q hk hn => ok_move rfl (up i0 hk hn.1), ob1 rfl fun b q hk hn => ok_move rfl (up i6 hk hn.1), ob1 rfl fun b q hk hn => ok_indexAddr rfl Try.underlying31 ty37 (IsV.rd hn.1) hn.2.1 hx670_9, ob1 rfl fun b q hk hn => ok_fieldAddr rfl fo37_2 (at_Box_2 _) hn.1, ob1 rfl fun b q hk hn => ok_load rfl ty3 hn.1, ob1 rfl fun b q hk hn => ok_call rfl Try.call42 (ref09_insert_ok hn.1 hn.2.1 hx670_12), ob1 rfl fun b q hk hn => ok_assign rfl hn.1, trivial⟩ hQQ674 fun b q p => ?_
    exact tail_done (k := q) (hp675 _ _ ⟨Bs.post ⟨hg, hs, hd⟩ p, p.ke 0 rfl i0, p.ou 13 5 rfl, p.ke 6 rfl i6, trivial⟩)
   rintro a k ⟨⟨hg, hs, hd⟩, i0, i5, i6, _⟩
   obtain ⟨x671_1, hx671_1, hr⟩ := bind_some hr
   refine cut (fun a' k' => Bs noF k0 110 a' k' ∧ (IsV l_) (a'.get 0) k' ∧ (IsV x670_12) (a'.get 5) k' ∧ (IsV x671_1) (a'.get 6) k' ∧ True) ?_ hQ ?_
   ·intro Q672 hQQ672 hp673
    refine gS 3 (_ :: _ :: _ :: []) hs (by kernel_rfl) ⟨mu rfl i6, o1 [(32, some 0)] rfl fun _ _ h n => ok_add rfl n.1 (cI rfl) hx671_1, cp 1 rfl rfl, trivial⟩ hQQ672 fun b q p => ?_
    exact tail_done (k := q) (hp673 _ _ ⟨Bs.post ⟨hg, hs, hd⟩ p, p.ke 0 rfl i0, p.ke 5 rfl i5, p.ou 2 6 rfl, trivial⟩)
   rintro a k ⟨⟨hg, hs, hd⟩, i0, i5, i6, _⟩
   exact hgo666 _ _ _ (Option.some.inj hr).symm ⟨⟨hg, hs, hd⟩, i0, i5, i6, trivial⟩
  rw [if_neg (by rw [hc676]; decide)] at hr
  refine wp_exit ?_
  exact hex667 _ _ _ _ (Option.some.inj hr).symm ⟨rfl, ⟨hg, hs, hd⟩, i0, i5, trivial⟩
 ·rintro r744 a k rfl hR
  dsimp only at hr
  obtain rfl := Option.some.inj hr
  exact hR
 ·rintro _ _ _ rfl _
  simp at hr
 clear hf679
 rintro _ s680 a k rfl ⟨rfl, ⟨hg, hs, hd⟩, i0, i5, _⟩
 dsimp only at hr
 refine cutS (fun a' k' => Bs noF k0 110 a' k' ∧ (IsV l_) (a'.get 0) k' ∧ (IsV s680.1) (a'.get 5) k' ∧ IsOwn 0 51 ([] : List Slab) (a'.get 7) k' ∧ Lo k0 (obF (a'.get 7)) ∧ True) ?_ ?_
 ·intro Q742 hQQ742 hp743
  refine gS 1 (⟨some IsE0, []⟩ :: []) hs (by kernel_rfl) ⟨ob1 rfl fun b q h n => ok_assign rfl isE0_nil, trivial⟩ hQQ742 fun b q p => ?_
  have hgq := hg.then p.grow
  have hsb := p.size.trans hs
  have hdb := p.defers.trans hd
  have j0 := p.ke 0 rfl i0
  have j5 := p.ke 5 rfl i5
  have j7 : IsE0 (b.get 7) q := p.ou 0 7 rfl
  have y7 : Lo k0 (obF (b.get 7)) := j7.lo
  replace j7 : IsOwn 0 51 ([] : List Slab) (b.get 7) q := j7.own0
  exact tail_done (k := q) (hp743 _ _ ⟨⟨hgq, hsb, hdb⟩, j0, j5, j7, y7, trivial⟩)
 rintro a k ⟨⟨hg, hs, hd⟩, i0, i5, i7, n7, _⟩
 refine wp_seq ?_
 refine cutS (fun a' k' => Bs noF k0 110 a' k' ∧ (IsV l_) (a'.get 0) k' ∧ (IsV s680.1) (a'.get 5) k' ∧ IsOwn 0 51 ([] : List Slab) (a'.get 7) k' ∧ Lo k0 (obF (a'.get 7)) ∧ (IsI 0) (a'.get 8) k' ∧ True) ?_ ?_
 ·intro Q740 hQQ740 hp741
  refine gS 1 (⟨some (IsI 0), []⟩ :: []) hs (by kernel_rfl) ⟨aI rfl rfl, trivial⟩ hQQ740 fun b q p => ?_
  exact tail_done (k := q) (hp741 _ _ ⟨Bs.post ⟨hg, hs, hd⟩ p, p.ke 0 rfl i0, p.ke 5 rfl i5, p.ke 7 rfl i7, (by rw [p.old 7 rfl]; exact n7), p.ou 0 8 rfl, trivial⟩)
 rintro a k ⟨⟨hg, hs, hd⟩, i0, i5, i7, n7, i8, _⟩
 refine wp_block ?_
 obtain ⟨f730, hf730, hr⟩ := bind_some hr
 refine cutFe f730 (fun s' a' k' => Bs noF k0 110 a' k' ∧ (IsV l_) (a'.get 0) k' ∧ (IsV s680.1) (a'.get 5) k' ∧ IsOwn 0 51 s'.1 (a'.get 7) k' ∧ Lo k0 (obF (a'.get 7)) ∧ (IsV s'.2) (a'.get 8) k' ∧ True) (fun i' s' a' k' => (i' = 4 ∧ Bs noF k0 110 a' k' ∧ (IsV s'.1) (a'.get 7) k' ∧ True)) (fun r' a' k' => bodyPost Try.prog Try.f25 (RetC noF k0 (IsTup2 (IsV r'.1) (IsV r'.2))) .ret a' k'.w) ?_ hQ ?_ ?_ ?_
 ·intro Q739 hQQ739 hgo hex hret
  refine sim_loop ?_ _ _ _ _ _ hf730 ⟨⟨hg, hs, hd⟩, i0, i5, i7, n7, i8, trivial⟩ Q739 hQQ739 hgo hex hret
  clear hr hf730 hgo hex hret hQQ739 hQ hg hs hd i0 i5 i7 i8 n7
  intro s683 fl_ a k hr hS Q hQ hgo684 hex685 hret686
  obtain ⟨⟨hg, hs, hd⟩, i0, i5, i7, n7, i8, _⟩ := hS
  unfold ref09_Of_L2 at hr
  refine wp_seq ?_
  refine wp_seq ?_
  obtain ⟨x687_1, hx687_1, hr⟩ := bind_some hr
  refine cut (fun a' k' => Bs noF k0 110 a' k' ∧ (IsV l_) (a'.get 0) k' ∧ (IsV s680.1) (a'.get 5) k' ∧ IsOwn 0 51 s683.1 (a'.get 7) k' ∧ Lo k0 (obF (a'.get 7)) ∧ (IsV s683.2) (a'.get 8) k' ∧ (IsV (decide (x687_1 < (s680.1.length : Int)))) (a'.get 51) k' ∧ True) ?_ hQ ?_
  ·intro Q728 hQQ728 hp729
   refine gS 5 (_ :: _ :: _ :: _ :: _ :: []) hs (by kernel_rfl) ⟨mu rfl i8, o1 [(47, some 0)] rfl fun _ _ h n => ok_add rfl n.1 (cI rfl) hx687_1, mu rfl i5, o1 [(49, some 2)] rfl fun _ _ h n => ok_len rfl rfl Try.underlying63 (IsV.rd n.1), o1 [(48, some 1), (50, some 3)] rfl fun _ _ h n => ok_lss rfl n.1 n.2.1, trivial⟩ hQQ728 fun b q p => ?_
   exact tail_done (k := q) (hp729 _ _ ⟨Bs.post ⟨hg, hs, hd⟩ p, p.ke 0 rfl i0, p.ke 5 rfl i5, p.ke 7 rfl i7, (by rw [p.old 7 rfl]; exact n7), p.ke 8 rfl i8, p.ou 4 51 rfl, trivial⟩)
  rintro a k ⟨⟨hg, hs, hd⟩, i0, i5, i7, n7, i8, i51, _⟩
  refine wp_cond_split (isBool i51) (fun hc727 => ?_) (fun hc727 => ?_)
  ·rw [if_pos hc727] at hr
   refine wp_skip ?_
   refine wp_seq ?_
   refine wp_block ?_
   refine cutS (fun a' k' => Bs noF k0 110 a' k' ∧ (IsV l_) (a'.get 0) k' ∧ (IsV s680.1) (a'.get 5) k' ∧ IsOwn 0 51 s683.1 (a'.get 7) k' ∧ Lo k0 (obF (a'.get 7)) ∧ (IsV s683.2) (a'.get 8) k' ∧ IsOwn 0 35 ([] : List Rect) (a'.get 9) k' ∧ Lo k0 (obF (a'.get 9)) ∧ Apart (obF (a'.get 7)) (obF (a'.get 9)) ∧ True) ?_ ?_
   ·intro Q724 hQQ724 hp725
    refine gS 1 (⟨some IsE0, []⟩ :: []) hs (by kernel_rfl) ⟨ob1 rfl fun b q h n => ok_assign rfl isE0_nil, trivial⟩ hQQ724 fun b q p => ?_
    have hgq := hg.then p.grow
    have hsb := p.size.trans hs
    have hdb := p.defers.trans hd
    have j0 := p.ke 0 rfl i0
    have j5 := p.ke 5 rfl i5
    have j7 := p.ke 7 rfl i7
    have y7 : Lo k0 (obF (b.get 7)) := by rw [p.old 7 rfl]; exact n7
    have j8 := p.ke 8 rfl i8
    have j9 : IsE0 (b.get 9) q := p.ou 0 9 rfl
    have y9 : Lo k0 (obF (b.get 9)) := j9.lo
    have w7_9 : Apart (obF (b.get 7)) (obF (b.get 9)) := j9.apart.symm
    replace j9 : IsOwn 0 35 ([] : List Rect) (b.get 9) q := j9.own0
    exact tail_done (k := q) (hp725 _ _ ⟨⟨hgq, hsb, hdb⟩, j0, j5, j7, y7, j8, j9, y9, w7_9, trivial⟩)
   rintro a k ⟨⟨hg, hs, hd⟩, i0, i5, i7, n7, i8, i9, n9, d7_9, _⟩
   refine wp_seq ?_
   refine cutS (fun a' k' => Bs noF k0 110 a' k' ∧ (IsV l_) (a'.get 0) k' ∧ (IsV s680.1) (a'.get 5) k' ∧ IsOwn 0 51 s683.1 (a'.get 7) k' ∧ Lo k0 (obF (a'.get 7)) ∧ (IsV s683.2) (a'.get 8) k' ∧ IsOwn 0 35 ([] : List Rect) (a'.get 9) k' ∧ Lo k0 (obF (a'.get 9)) ∧ (IsI 0) (a'.get 10) k' ∧ Apart (obF (a'.get 7)) (obF (a'.get 9)) ∧ True) ?_ ?_
   ·intro Q722 hQQ722 hp723
    refine gS 1 (⟨some (IsI 0), []⟩ :: []) hs (by kernel_rfl) ⟨aI rfl rfl, trivial⟩ hQQ722 fun b q p => ?_
    exact tail_done (k := q) (hp723 _ _ ⟨Bs.post ⟨hg, hs, hd⟩ p, p.ke 0 rfl i0, p.ke 5 rfl i5, p.ke 7 rfl i7, (by rw [p.old 7 rfl]; exact n7), p.ke 8 rfl i8, p.ke 9 rfl i9, (by rw [p.old 9 rfl]; exact n9), p.ou 0 10 rfl, (by rw [p.old 7 rfl, p.old 9 rfl]; exact d7_9), trivial⟩)
   rintro a k ⟨⟨hg, hs, hd⟩, i0, i5, i7, n7, i8, i9, n9, i10, d7_9, _⟩
   refine wp_block ?_
   obtain ⟨f712, hf712, hr⟩ := bind_some hr
   refine cutFe f712 (fun s' a' k' => Bs noF k0 110 a' k' ∧ (IsV l_) (a'.get 0) k' ∧ (IsV s680.1) (a'.get 5) k' ∧ IsOwn 0 51 s683.1 (a'.get 7) k' ∧ Lo k0 (obF (a'.get 7)) ∧ (IsV s683.2) (a'.get 8) k' ∧ IsOwn 0 35 s'.1 (a'.get 9) k' ∧ Lo k0 (obF (a'.get 9)) ∧ (IsV s'.2) (a'.get 10) k' ∧ Apart (obF (a'.get 7)) (obF (a'.get 9)) ∧ True) (fun i' s' a' k' => (i' = 6 ∧ Bs noF k0 110 a' k' ∧ (IsV l_) (a'.get 0) k' ∧ (IsV s680.1) (a'.get 5) k' ∧ IsOwn 0 51 s683.1 (a'.get 7) k' ∧ Lo k0 (obF (a'.get 7)) ∧ (IsV s683.2) (a'.get 8) k' ∧ (IsV s'.1) (a'.get 9) k' ∧ True)) (fun r' a' k' => bodyPost Try.prog Try.f25 (RetC noF k0 (IsTup2 (IsV r'.1) (IsV r'.2))) .ret a' k'.w) ?_ hQ ?_ ?_ ?_
   ·intro Q721 hQQ721 hgo hex hret
    refine sim_loop ?_ _ _ _ _ _ hf712 ⟨⟨hg, hs, hd⟩, i0, i5, i7, n7, i8, i9, n9, i10, d7_9, trivial⟩ Q721 hQQ721 hgo hex hret
    clear hr hf712 hgo hex hret hQQ721 hQ hg hs hd d7_9 i0 i10 i5 i7 i8 i9 n7 n9
    intro s690 fl_ a k hr hS Q hQ hgo691 hex692 hret693
    obtain ⟨⟨hg, hs, hd⟩, i0, i5, i7, n7, i8, i9, n9, i10, d7_9, _⟩ := hS
    unfold ref09_Of_L3 at hr
    refine wp_seq ?_
    refine cutS (fun a' k' => Bs noF k0 110 a' k' ∧ (IsV l_) (a'.get 0) k' ∧ (IsV s680.1) (a'.get 5) k' ∧ IsOwn 0 51 s683.1 (a'.get 7) k' ∧ Lo k0 (obF (a'.get 7)) ∧ (IsV s683.2) (a'.get 8) k' ∧ IsOwn 0 35 s690.1 (a'.get 9) k' ∧ Lo k0 (obF (a'.get 9)) ∧ (IsV s690.2) (a'.get 10) k' ∧ (IsV (decide (s690.2 < (l_.length : Int)))) (a'.get 57) k' ∧ Apart (obF (a'.get 7)) (obF (a'.get 9)) ∧ True) ?_ ?_
    ·intro Q710 hQQ710 hp711
     refine gS 4 (_ :: _ :: _ :: _ :: []) hs (by kernel_rfl) ⟨mu rfl i10, mu rfl i0, o1 [(55, some 1)] rfl fun _ _ h n => ok_len rfl rfl Try.underlying31 (IsV.rd n.1), o1 [(54, some 0), (56, some 2)] rfl fun _ _ h n => ok_lss rfl n.1 n.2.1, trivial⟩ hQQ710 fun b q p => ?_
     exact tail_done (k := q) (hp711 _ _ ⟨Bs.post ⟨hg, hs, hd⟩ p, p.ke 0 rfl i0, p.ke 5 rfl i5, p.ke 7 rfl i7, (by rw [p.old 7 rfl]; exact n7), p.ke 8 rfl i8, p.ke 9 rfl i9, (by rw [p.old 9 rfl]; exact n9), p.ke 10 rfl i10, p.ou 3 57 rfl, (by rw [p.old 7 rfl, p.old 9 rfl]; exact d7_9), trivial⟩)
    rintro a k ⟨⟨hg, hs, hd⟩, i0, i5, i7, n7, i8, i9, n9, i10, i57, d7_9, _⟩
    refine wp_cond_split (isBool i57) (fun hc709 => ?_) (fun hc709 => ?_)
    ·rw [if_pos hc709] at hr
     refine wp_skip ?_
     refine wp_seq ?_
     refine wp_block ?_
     refine wp_seq ?_
     obtain ⟨x695_2, hx695_2, hr⟩ := bind_some hr
     obtain ⟨x695_7, hx695_7, hr⟩ := bind_some hr
     obtain ⟨x695_21, hx695_21, hr⟩ := bind_some hr
     obtain ⟨x695_13, hx695_13, hx695_21⟩ := ite_bind hx695_21
     obtain ⟨x695_17, hx695_17, hx695_21⟩ := ite_bind hx695_21
     refine cut (fun a' k' => Bs noF k0 110 a' k' ∧ (IsV l_) (a'.get 0) k' ∧ (IsV s680.1) (a'.get 5) k' ∧ IsOwn 0 51 s683.1 (a'.get 7) k' ∧ Lo k0 (obF (a'.get 7)) ∧ (IsV s683.2) (a'.get 8) k' ∧ IsOwn 0 35 s690.1 (a'.get 9) k' ∧ Lo k0 (obF (a'.get 9)) ∧ (IsV s690.2) (a'.get 10) k' ∧ (IsV x695_21) (a'.get 81) k' ∧ Apart (obF (a'.get 7)) (obF (a'.get 9)) ∧ True) ?_ hQ ?_
     ·intro Q706 hQQ706 hp707
      refine region (a0 := a) (k0 := k) (n := 110) (m := 22) (⟨some (IsV l_), [(0, none)]⟩ :: ⟨some (IsV s690.2), [(10, none)]⟩ :: ⟨some (IsPtr x695_2), [(60, some 0), (61, some 1)]⟩ :: ⟨some (IsPtr x695_2.Z0), [(62, some 2)]⟩ :: ⟨some (IsV x695_2.Z0), [(63, some 3)]⟩ :: ⟨some (IsV s680.1), [(5, none)]⟩ :: ⟨some (IsV s683.2), [(8, none)]⟩ :: ⟨some (IsPtr x695_7), [(65, some 5), (66, some 6)]⟩ :: ⟨some (IsV x695_7), [(67, some 7)]⟩ :: ⟨some (IsV (decide (x695_2.Z0 ≤ x695_7))), [(64, some 4), (68, some 8)]⟩ :: ⟨some (IsV (decide (x695_2.Z0 ≤ x695_7))), [(69, some 9)]⟩ :: ⟨some (Gd ((decide (x695_2.Z0 ≤ x695_7)) = true) (IsV s680.1)), [(5, none)]⟩ :: ⟨some (Gd ((decide (x695_2.Z0 ≤ x695_7)) = true) (IsV s683.2)), [(8, none)]⟩ :: ⟨some (Gd ((decide (x695_2.Z0 ≤ x695_7)) = true) (IsPtr x695_13)), [(71, some 11), (72, some 12)]⟩ :: ⟨some (Gd ((decide (x695_2.Z0 ≤ x695_7)) = true) (IsV x695_13)), [(73, some 13)]⟩ :: ⟨some (Gd ((decide (x695_2.Z0 ≤ x695_7)) = true) (IsV l_)), [(0, none)]⟩ :: ⟨some (Gd ((decide (x695_2.Z0 ≤ x695_7)) = true) (IsV s690.2)), [(10, none)]⟩ :: ⟨some (Gd ((decide (x695_2.Z0 ≤ x695_7)) = true) (IsPtr x695_17)), [(75, some 15), (76, some 16)]⟩ :: ⟨some (Gd ((decide (x695_2.Z0 ≤ x695_7)) = true) (IsPtr x695_17.Z1)), [(77, some 17)]⟩ :: ⟨some (Gd ((decide (x695_2.Z0 ≤ x695_7)) = true) (IsV x695_17.Z1)), [(78, some 18)]⟩ :: ⟨some (Gd ((decide (x695_2.Z0 ≤ x695_7)) = true) (IsV (decide (x695_13 < x695_17.Z1)))), [(74, some 14), (79, some 19)]⟩ :: ⟨some (IsV x695_21), [(70, some 10), (80, some 20)]⟩ :: []) hmix hs (by kernel_rfl) ⟨ob1 rfl fun b q hk hn => ok_move rfl (up i0 hk hn.1), ob1 rfl fun b q hk hn => ok_move rfl (up i10 hk hn.1), ob1 rfl fun b q hk hn => ok_indexAddr rfl Try.underlying31 ty37 (IsV.rd hn.1) hn.2.1 hx695_2, ob1 rfl fun b q hk hn => ok_fieldAddr rfl fo37_1 (at_Box_1 _) hn.1, ob1 rfl fun b q hk hn => ok_load rfl ty3 hn.1, ob1 rfl fun b q hk hn => ok_move rfl (up i5 hk hn.1), ob1 rfl fun b q hk hn => ok_move rfl (up i8 hk hn.1), ob1 rfl fun b q hk hn => ok_indexAddr rfl Try.underlying63 ty3 (IsV.rd hn.1) hn.2.1 hx695_7, ob1 rfl fun b q hk hn => ok_load rfl ty3 hn.1, ob1 rfl fun b q hk hn => ok_leq rfl hn.1 hn.2.1, ob1 rfl fun b q hk hn => ok_move rfl hn.1, gdT rfl rfl fun hp b q hk hn => ok_move rfl (up i5 hk hn.1), gdT rfl rfl fun hp b q hk hn => ok_move rfl (up i8 hk hn.1), gdT rfl rfl fun hp b q hk hn => ok_indexAddr rfl Try.underlying63 ty3 (IsV.rd (Gd.get hn.1 hp)) (Gd.get hn.2.1 hp) (hx695_13 hp), gdT rfl rfl fun hp b q hk hn => ok_load rfl ty3 (Gd.get hn.1 hp), gdT rfl rfl fun hp b q hk hn => ok_move rfl (up i0 hk hn.1), gdT rfl rfl fun hp b q hk hn => ok_move rfl (up i10 hk hn.1), gdT rfl rfl fun hp b q hk hn => ok_indexAddr rfl Try.underlying31 ty37 (IsV.rd (Gd.get hn.1 hp)) (Gd.get hn.2.1 hp) (hx695_17 hp), gdT rfl rfl fun hp b q hk hn => ok_fieldAddr rfl fo37_2 (at_Box_2 _) (Gd.get hn.1 hp), gdT rfl rfl fun hp b q hk hn => ok_load rfl ty3 (Gd.get hn.1 hp), gdT rfl rfl fun hp b q hk hn => ok_lss rfl (Gd.get hn.1 hp) (Gd.get hn.2.1 hp), ob1 rfl fun b q hk hn => ok_pickM rfl hn.1 hx695_21 (fun hm => (Gd.get hn.2.1 hm)) (fun _ => (isV_bool.2 rfl)), trivial⟩ hQQ706 fun b q p => ?_
      exact tail_done (k := q) (hp707 _ _ ⟨Bs.post ⟨hg, hs, hd⟩ p, p.ke 0 rfl i0, p.ke 5 rfl i5, p.ke 7 rfl i7, (by rw [p.old 7 rfl]; exact n7), p.ke 8 rfl i8, p.ke 9 rfl i9, (by rw [p.old 9 rfl]; exact n9), p.ke 10 rfl i10, p.ou 21 81 rfl, (by rw [p.old 7 rfl, p.old 9 rfl]; exact d7_9), trivial⟩)
     rintro a k ⟨⟨hg, hs, hd⟩, i0, i5, i7, n7, i8, i9, n9, i10, i81, d7_9, _⟩
     obtain ⟨s696, hs696, hr⟩ := bind_some hr
     refine cut (fun a' k' => Bs noF k0 110 a' k' ∧ (IsV l_) (a'.get 0) k' ∧ (IsV s680.1) (a'.get 5) k' ∧ IsOwn 0 51 s683.1 (a'.get 7) k' ∧ Lo k0 (obF (a'.get 7)) ∧ (IsV s683.2) (a'.get 8) k' ∧ IsOwn 0 35 s696 (a'.get 9) k' ∧ Lo k0 (obF (a'.get 9)) ∧ (IsV s690.2) (a'.get 10) k' ∧ Apart (obF (a'.get 7)) (obF (a'.get 9)) ∧ True) ?_ hQ ?_
     ·intro Q705 hQQ705 hp697
      replace hr := hs696
      clear hQ
      have hQ := hQQ705
      refine wp_cond_split (isBool i81) (fun hc701 => ?_) (fun hc701 => ?_)
      ·rw [if_pos hc701] at hr
       obtain ⟨x698_3, hx698_3, hr⟩ := bind_some hr
       obtain ⟨x698_7, hx698_7, hr⟩ := bind_some hr
       refine cut (fun a' k' => Bs noF k0 110 a' k' ∧ (IsV l_) (a'.get 0) k' ∧ (IsV s680.1) (a'.get 5) k' ∧ IsOwn 0 51 s683.1 (a'.get 7) k' ∧ Lo k0 (obF (a'.get 7)) ∧ (IsV s683.2) (a'.get 8) k' ∧ IsOwn 0 35 x698_7 (a'.get 9) k' ∧ Lo k0 (obF (a'.get 9)) ∧ (IsV s690.2) (a'.get 10) k' ∧ Apart (obF (a'.get 7)) (obF (a'.get 9)) ∧ True) ?_ hQ ?_
       ·intro Q699 hQQ699 hp700
        refine gS 7 (⟨some (OwnAt (a.get 9) 0 35 s690.1), [(9, none)]⟩ :: _ :: _ :: _ :: _ :: _ :: ⟨some (IsV (α := (List Rect)) ([x698_3.Base])), [(87, some 5)]⟩ :: []) hs (by kernel_rfl) ⟨ob1 rfl fun _ _ h n => ok_moveOA (.inl rfl) (ownAt n.1 (up i9 h n.1)), mu rfl i0, mu rfl i10, o1 [(83, some 1), (84, some 2)] rfl fun _ _ h n => ok_indexAddr rfl Try.underlying31 ty37 (IsV.rd n.1) n.2.1 hx698_3, o1 [(85, some 3)] rfl fun _ _ h n => ok_fieldAddr rfl fo37_0 (at_Box_0 _) n.1, o1 [(86, some 4)] rfl fun _ _ h n => ok_load rfl ty35 n.1, ob1 rfl fun _ _ h n => ok_buildSlice rfl Try.underlying49 eo35 rfl (by decide) (by decide) ⟨rfl, n.1, trivial⟩, trivial⟩ hQQ699 fun b q p => ?_
        have hgq := hg.then p.grow
        have hsb := p.size.trans hs
        have hdb := p.defers.trans hd
        have j0 := p.ke 0 rfl i0
        have j5 := p.ke 5 rfl i5
        have j7 := p.ke 7 rfl i7
        have y7 : Lo k0 (obF (b.get 7)) := by rw [p.old 7 rfl]; exact n7
        have j8 := p.ke 8 rfl i8
        have j10 := p.ke 10 rfl i10
        have e82 : b.get 82 = a.get 9 := (p.ou 0 82 rfl).1
        have j82 : IsOwn 0 35 s690.1 (b.get 82) q := (p.ou 0 82 rfl).2
        have y82 : Lo k0 (obF (b.get 82)) := by rw [e82]; exact n9
        have j88 : (IsV (α := (List Rect)) ([x698_3.Base])) (b.get 88) q := p.ou 6 88 rfl
        have w7_82 : Apart (obF (b.get 7)) (obF (b.get 82)) := by rw [p.old 7 rfl, e82]; exact d7_9
        have hns := j82.nshF
        refine tail_appendS (i := 7) (d := 89) rfl rfl rfl rfl (by rw [hsb]; decide) (e := 35) Try.underlying49 eo35 j82 (IsV.rd j88) hx698_7 fun b2 q2 hsz hdf hoth hch hown hob => ?_
        have hle := hch.le hns
        have yn : Lo k0 (obF (b2.get 89)) := y82.app hgq hob
        have v7 : Apart (obF (b.get 7)) (obF (b2.get 89)) := Apart.app w7_82 j7.ltF hob
        replace j0 := Pers.pers hle j0
        replace j5 := Pers.pers hle j5
        replace j7 := j7.keep hch w7_82 hns
        replace j8 := Pers.pers hle j8
        replace j10 := Pers.pers hle j10
        replace j88 := Pers.pers hle j88
        replace hgq := hgq.step hch y82.wr
        rw [← hoth 0 (by decide)] at j0
        rw [← hoth 5 (by decide)] at j5
        rw [← hoth 7 (by decide)] at j7
        rw [← hoth 7 (by decide)] at y7
        rw [← hoth 8 (by decide)] at j8
        rw [← hoth 10 (by decide)] at j10
        rw [← hoth 88 (by decide)] at j88
        rw [← hoth 7 (by decide)] at v7
        have w7_89 := v7
        have j89 := hown
        have y89 := yn
        replace hsb := hsz.trans hsb
        replace hdb := hdf.trans hdb
        clear hle hch hown hob hns yn hsz hdf hoth
        obtain ⟨b, hbb⟩ : ∃ b, b = b2 := ⟨b2, rfl⟩
        subst hbb
        obtain ⟨q, hqq⟩ : ∃ q, q = q2 := ⟨q2, rfl⟩
        subst hqq
        refine tail_assign (i := 8) (d := 9) rfl rfl (.inl rfl) rfl (by rw [hsb]; decide) fun b2 hsz hdf hnew hoth => ?_
        have jn : (IsOwn 0 35 x698_7) (b2.get 9) q := by rw [hnew]; exact j89
        have yn : Lo k0 (obF (b2.get 9)) := by rw [hnew]; exact y89
        have v7 : Apart (obF (b.get 7)) (obF (b2.get 9)) := by rw [hnew]; exact w7_89
        rw [← hoth 0 (by decide)] at j0
        rw [← hoth 5 (by decide)] at j5
        rw [← hoth 7 (by decide)] at j7
        rw [← hoth 7 (by decide)] at y7
        rw [← hoth 8 (by decide)] at j8
        rw [← hoth 10 (by decide)] at j10
        rw [← hoth 88 (by decide)] at j88
        rw [← hoth 7 (by decide)] at v7
        have w7_9 := v7
        have j9 := jn
        have y9 := yn
        replace hsb := hsz.trans hsb
        replace hdb := hdf.trans hdb
        clear hsz hdf hoth
        obtain ⟨b, hbb⟩ : ∃ b, b = b2 := ⟨b2, rfl⟩
        subst hbb
        exact tail_done (k := q) (hp700 _ _ ⟨⟨hgq, hsb, hdb⟩, j0, j5, j7, y7, j8, j9, y9, j10, w7_9, trivial⟩)
       rintro a k ⟨⟨hg, hs, hd⟩, i0, i5, i7, n7, i8, i9, n9, i10, d7_9, _⟩
       obtain rfl := Option.some.inj hr
       exact hp697 _ _ ⟨⟨hg, hs, hd⟩, i0, i5, i7, n7, i8, i9, n9, i10, d7_9, trivial⟩
      rw [if_neg (by rw [hc701]; decide)] at hr
      refine wp_skip ?_
      obtain rfl := Option.some.inj hr
      exact hp697 _ _ ⟨⟨hg, hs, hd⟩, i0, i5, i7, n7, i8, i9, n9, i10, d7_9, trivial⟩
     clear hs696
     rintro a k ⟨⟨hg, hs, hd⟩, i0, i5, i7, n7, i8, i9, n9, i10, d7_9, _⟩
     obtain ⟨x702_1, hx702_1, hr⟩ := bind_some hr
     refine cut (fun a' k' => Bs noF k0 110 a' k' ∧ (IsV l_) (a'.get 0) k' ∧ (IsV s680.1) (a'.get 5) k' ∧ IsOwn 0 51 s683.1 (a'.get 7) k' ∧ Lo k0 (obF (a'.get 7)) ∧ (IsV s683.2) (a'.get 8) k' ∧ IsOwn 0 35 s696 (a'.get 9) k' ∧ Lo k0 (obF (a'.get 9)) ∧ (IsV x702_1) (a'.get 10) k' ∧ Apart (obF (a'.get 7)) (obF (a'.get 9)) ∧ True) ?_ hQ ?_
     ·intro Q703 hQQ703 hp704
      refine gS 3 (_ :: _ :: _ :: []) hs (by kernel_rfl) ⟨mu rfl i10, o1 [(58, some 0)] rfl fun _ _ h n => ok_add rfl n.1 (cI rfl) hx702_1, cp 1 rfl rfl, trivial⟩ hQQ703 fun b q p => ?_
      exact tail_done (k := q) (hp704 _ _ ⟨Bs.post ⟨hg, hs, hd⟩ p, p.ke 0 rfl i0, p.ke 5 rfl i5, p.ke 7 rfl i7, (by rw [p.old 7 rfl]; exact n7), p.ke 8 rfl i8, p.ke 9 rfl i9, (by rw [p.old 9 rfl]; exact n9), p.ou 2 10 rfl, (by rw [p.old 7 rfl, p.old 9 rfl]; exact d7_9), trivial⟩)
     rintro a k ⟨⟨hg, hs, hd⟩, i0, i5, i7, n7, i8, i9, n9, i10, d7_9, _⟩
     exact hgo691 _ _ _ (Option.some.inj hr).symm ⟨⟨hg, hs, hd⟩, i0, i5, i7, n7, i8, i9, n9, i10, d7_9, trivial⟩
    rw [if_neg (by rw [hc709]; decide)] at hr
    refine wp_exit ?_
    obtain ⟨kk, sh708, ii9⟩ := i9.give
    replace i0 := Pers.pers sh708.le i0
    replace i5 := Pers.pers sh708.le i5
    replace i7 := i7.handed sh708 d7_9
    replace i8 := Pers.pers sh708.le i8
    replace i9 := ii9
    replace hg := hg.hand sh708 n9.wr
    rw [← sh708.w]
    clear sh708
    obtain ⟨k, hkk⟩ : ∃ k, k = kk := ⟨kk, rfl⟩
    subst hkk
    exact hex692 _ _ _ _ (Option.some.inj hr).symm ⟨rfl, ⟨hg, hs, hd⟩, i0, i5, i7, n7, i8, i9, trivial⟩
   ·rintro r720 a k rfl hR
    dsimp only at hr
    exact hret686 _ _ _ (Option.some.inj hr).symm hR
   ·rintro _ _ _ rfl _
    simp at hr
   clear hf712
   rintro _ s713 a k rfl ⟨rfl, ⟨hg, hs, hd⟩, i0, i5, i7, n7, i8, i9, _⟩
   dsimp only at hr
   obtain ⟨x714_3, hx714_3, hr⟩ := bind_some hr
   obtain ⟨x714_7, hx714_7, hr⟩ := bind_some hr
   obtain ⟨x714_8, hx714_8, hr⟩ := bind_some hr
   obtain ⟨x714_11, hx714_11, hr⟩ := bind_some hr
   obtain ⟨x714_12, hx714_12, hr⟩ := bind_some hr
   refine cut (fun a' k' => Bs noF k0 110 a' k' ∧ (IsV l_) (a'.get 0) k' ∧ (IsV s680.1) (a'.get 5) k' ∧ IsOwn 0 51 x714_12 (a'.get 7) k' ∧ Lo k0 (obF (a'.get 7)) ∧ (IsV s683.2) (a'.get 8) k' ∧ True) ?_ hQ ?_
   ·intro Q718 hQQ718 hp719
    refine region (a0 := a) (k0 := k) (n := 110) (m := 12) (⟨some (OwnAt (a.get 7) 0 51 s683.1), [(7, none)]⟩ :: ⟨some (IsV s680.1), [(5, none)]⟩ :: ⟨some (IsV s683.2), [(8, none)]⟩ :: ⟨some (IsPtr x714_3), [(91, some 1), (92, some 2)]⟩ :: ⟨some (IsV x714_3), [(93, some 3)]⟩ :: ⟨some (IsV s680.1), [(5, none)]⟩ :: ⟨some (IsV s683.2), [(8, none)]⟩ :: ⟨some (IsV x714_7), [(96, some 6)]⟩ :: ⟨some (IsPtr x714_8), [(95, some 5), (97, some 7)]⟩ :: ⟨some (IsV x714_8), [(98, some 8)]⟩ :: ⟨some (IsV s713.1), [(9, none)]⟩ :: ⟨some (IsV x714_11), [(100, some 10)]⟩ :: []) hmix hs (by kernel_rfl) ⟨ob1 rfl fun b q hk hn => ok_moveOA (.inl rfl) (ownAt hn.1 (up i7 hk hn.1)), ob1 rfl fun b q hk hn => ok_move rfl (up i5 hk hn.1), ob1 rfl fun b q hk hn => ok_move rfl (up i8 hk hn.1), ob1 rfl fun b q hk hn => ok_indexAddr rfl Try.underlying63 ty3 (IsV.rd hn.1) hn.2.1 hx714_3, ob1 rfl fun b q hk hn => ok_load rfl ty3 hn.1, ob1 rfl fun b q hk hn => ok_move rfl (up i5 hk hn.1), ob1 rfl fun b q hk hn => ok_move rfl (up i8 hk hn.1), ob1 rfl fun b q hk hn => ok_add rfl hn.1 (isV_int.2 rfl) hx714_7, ob1 rfl fun b q hk hn => ok_indexAddr rfl Try.underlying63 ty3 (IsV.rd hn.1) hn.2.1 hx714_8, ob1 rfl fun b q hk hn => ok_load rfl ty3 hn.1, ob1 rfl fun b q hk hn => ok_move rfl (up i9 hk hn.1), ob1 rfl fun b q hk hn => ok_call rfl Try.call44 (ref06_Form_ok hn.1 (isV_list.2 (.inl ⟨rfl, rfl⟩)) (isV_int.2 rfl) hx714_11), trivial⟩ hQQ718 fun b q p => ?_
    have hgq := hg.then p.grow
    have hsb := p.size.trans hs
    have hdb := p.defers.trans hd
    have j0 := p.ke 0 rfl i0
    have j5 := p.ke 5 rfl i5
    have j8 := p.ke 8 rfl i8
    have e90 : b.get 90 = a.get 7 := (p.ou 0 90 rfl).1
    have j90 : IsOwn 0 51 s683.1 (b.get 90) q := (p.ou 0 90 rfl).2
    have y90 : Lo k0 (obF (b.get 90)) := by rw [e90]; exact n7
    have j94 : (IsV x714_3) (b.get 94) q := p.ou 4 94 rfl
    have j99 : (IsV x714_8) (b.get 99) q := p.ou 9 99 rfl
    have j101 : (IsV x714_11) (b.get 101) q := p.ou 11 101 rfl
    have hns := j90.nshF
    refine tail_call (F := obF (b.get 90)) (i := 12) (d := 102) rfl rfl rfl rfl (by rw [hsb]; decide) Try.call43 hQQ718 (ref09_add_ok j90 j94 j99 j101 hx714_12) fun b2 q2 hsz hdf hoth hch hres => ?_
    have hle := hch.le hns
    obtain ⟨hown, hob⟩ := hres
    have yn : Lo k0 (obF (b2.get 102)) := y90.app hgq hob
    replace j0 := Pers.pers hle j0
    replace j5 := Pers.pers hle j5
    replace j8 := Pers.pers hle j8
    replace j94 := Pers.pers hle j94
    replace j99 := Pers.pers hle j99
    replace j101 := Pers.pers hle j101
    replace hgq := hgq.step hch y90.wr
    rw [← hoth 0 (by decide)] at j0
    rw [← hoth 5 (by decide)] at j5
    rw [← hoth 8 (by decide)] at j8
    rw [← hoth 94 (by decide)] at j94
    rw [← hoth 99 (by decide)] at j99
    rw [← hoth 101 (by decide)] at j101
    have j102 := hown
    have y102 := yn
    have hres := True.intro
    clear hown hob yn
    replace hsb := hsz.trans hsb
    replace hdb := hdf.trans hdb
    clear hle hch hres hns hsz hdf hoth
    obtain ⟨b, hbb⟩ : ∃ b, b = b2 := ⟨b2, rfl⟩
    subst hbb
    obtain ⟨q, hqq⟩ : ∃ q, q = q2 := ⟨q2, rfl⟩
    subst hqq
    refine tail_assign (i := 13) (d := 7) rfl rfl (.inl rfl) rfl (by rw [hsb]; decide) fun b2 hsz hdf hnew hoth => ?_
    have jn : (IsOwn 0 51 x714_12) (b2.get 7) q := by rw [hnew]; exact j102
    have yn : Lo k0 (obF (b2.get 7)) := by rw [hnew]; exact y102
    rw [← hoth 0 (by decide)] at j0
    rw [← hoth 5 (by decide)] at j5
    rw [← hoth 8 (by decide)] at j8
    rw [← hoth 94 (by decide)] at j94
    rw [← hoth 99 (by decide)] at j99
    rw [← hoth 101 (by decide)] at j101
    have j7 := jn
    have y7 := yn
    replace hsb := hsz.trans hsb
    replace hdb := hdf.trans hdb
    clear hsz hdf hoth
    obtain ⟨b, hbb⟩ : ∃ b, b = b2 := ⟨b2, rfl⟩
    subst hbb
    exact tail_done (k := q) (hp719 _ _ ⟨⟨hgq, hsb, hdb⟩, j0, j5, j7, y7, j8, trivial⟩)
   rintro a k ⟨⟨hg, hs, hd⟩, i0, i5, i7, n7, i8, _⟩
   obtain ⟨x715_1, hx715_1, hr⟩ := bind_some hr
   refine cut (fun a' k' => Bs noF k0 110 a' k' ∧ (IsV l_) (a'.get 0) k' ∧ (IsV s680.1) (a'.get 5) k' ∧ IsOwn 0 51 x714_12 (a'.get 7) k' ∧ Lo k0 (obF (a'.get 7)) ∧ (IsV x715_1) (a'.get 8) k' ∧ True) ?_ hQ ?_
   ·intro Q716 hQQ716 hp717
    refine gS 3 (_ :: _ :: _ :: []) hs (by kernel_rfl) ⟨mu rfl i8, o1 [(52, some 0)] rfl fun _ _ h n => ok_add rfl n.1 (cI rfl) hx715_1, cp 1 rfl rfl, trivial⟩ hQQ716 fun b q p => ?_
    exact tail_done (k := q) (hp717 _ _ ⟨Bs.post ⟨hg, hs, hd⟩ p, p.ke 0 rfl i0, p.ke 5 rfl i5, p.ke 7 rfl i7, (by rw [p.old 7 rfl]; exact n7), p.ou 2 8 rfl, trivial⟩)
   rintro a k ⟨⟨hg, hs, hd⟩, i0, i5, i7, n7, i8, _⟩
   exact hgo684 _ _ _ (Option.some.inj hr).symm ⟨⟨hg, hs, hd⟩, i0, i5, i7, n7, i8, trivial⟩
  rw [if_neg (by rw [hc727]; decide)] at hr
  refine wp_exit ?_
  obtain ⟨kk, sh726, ii7⟩ := i7.give
  replace i7 := ii7
  replace hg := hg.hand sh726 n7.wr
  rw [← sh726.w]
  clear sh726
  obtain ⟨k, hkk⟩ : ∃ k, k = kk := ⟨kk, rfl⟩
  subst hkk
  exact hex685 _ _ _ _ (Option.some.inj hr).symm ⟨rfl, ⟨hg, hs, hd⟩, i7, trivial⟩
 ·rintro r738 a k rfl hR
  dsimp only at hr
  obtain rfl := Option.some.inj hr
  exact hR
 ·rintro _ _ _ rfl _
  simp at hr
 clear hf730
 rintro _ s731 a k rfl ⟨rfl, ⟨hg, hs, hd⟩, i7, _⟩
 dsimp only at hr
 refine wp_seq ?_
 obtain ⟨x732_1, hx732_1, hr⟩ := bind_some hr
 refine cut (fun a' k' => Bs noF k0 110 a' k' ∧ (IsV x732_1.1) (a'.get 11) k' ∧ (IsV x732_1.2) (a'.get 12) k' ∧ True) ?_ hQ ?_
 ·intro Q736 hQQ736 hp737
  refine gS 7 (_ :: _ :: _ :: _ :: _ :: _ :: _ :: []) hs (by kernel_rfl) ⟨mu rfl i7, o1 [(104, some 0)] rfl fun _ _ h n => ok_call rfl Try.call45 (ref09_end_ok n.1 hx732_1), cm 1 rfl rfl, o1 [(103, some 2)] rfl fun _ _ h n => ok_ext2_0 rfl n.1, o1 [(103, some 2)] rfl fun _ _ h n => ok_ext2_1 rfl n.1, cp 3 rfl rfl, cp 4 rfl rfl, trivial⟩ hQQ736 fun b q p => ?_
  exact tail_done (k := q) (hp737 _ _ ⟨Bs.post ⟨hg, hs, hd⟩ p, p.ou 5 11 rfl, p.ou 6 12 rfl, trivial⟩)
 rintro a k ⟨⟨hg, hs, hd⟩, i11, i12, _⟩
 refine stepL 4 (_ :: _ :: _ :: _ :: []) rfl ⟨hg, hs, hd⟩ (by kernel_rfl) ⟨mu rfl i11, mu rfl i12, cp 0 rfl rfl, cp 1 rfl rfl, trivial⟩ [⟨_, _⟩, ⟨_, _⟩] (fun b q p => ⟨p.ou 2 2 rfl, p.ou 3 3 rfl, trivial⟩) ?_
 rintro a k ⟨⟨hg, hs, hd⟩, i2, i3, _⟩
 refine wp_ret ?_
 obtain rfl := Option.some.inj hr
 exact retC2 rfl hd hg i2 i3
def law11_at (x_ : Int) (y_ : Int) (z_ : Int) : Option (Point3) :=
 some (⟨x_, y_, z_⟩ : Point3)
theorem law11_at_ok {k0 : K} {v0 v1 v2 : Value} {x_ : Int} {y_ : Int} {z_ : Int} {r : Point3} (i0 : (IsV x_) v0 k0) (i1 : (IsV y_) v1 k0) (i2 : (IsV z_) v2 k0) (hr : law11_at x_ y_ z_ = some r) :
  Calls Try.prog 16 #[v0, v1, v2] k0.w (Ret k0 (IsV r)) := by
 unfold law11_at at hr
 refine Ret.ofC ?_
 refine enterK Try.func16 rfl Try.ntmps16 (show 3 ≤ 11 by decide) fun a k hk0 hs hd ha => ?_
 obtain ⟨e0, e1, e2, _⟩ := ha
 replace i0 : (IsV x_) (a.get 0) k := by rw [e0, hk0]; exact i0
 replace i1 : (IsV y_) (a.get 1) k := by rw [e1, hk0]; exact i1
 replace i2 : (IsV z_) (a.get 2) k := by rw [e2, hk0]; exact i2
 have hQ : Gb.LetsOut (bodyPost Try.prog Try.f16 (RetC noF k0 (IsV r))) := letsOutC
 have hg : Chg noF k0 k := by rw [hk0]; exact Chg.refl _ k0
 refine cutS (fun a' k' => Bs noF k0 11 a' k' ∧ (IsV x_) (a'.get 0) k' ∧ (IsV y_) (a'.get 1) k' ∧ (IsV z_) (a'.get 2) k' ∧ (∃ b6, a'.get 6 = .pointer (some ⟨b6, 0, none⟩) ∧ Lo k0 (Eq b6) ∧ Gb.Box b6 (⟨0, 0, 0⟩ : Point3) k' ∧ True)) ?_ ?_
 ·intro Q763 hQQ763 hp764
  refine gS 1 (⟨some (IsBox k.w.heap.size (⟨0, 0, 0⟩ : Point3)), []⟩ :: []) hs (by kernel_rfl) ⟨ob1 rfl fun _ _ h n => ok_alloc _ h.size rfl z24, trivial⟩ hQQ763 fun b q p => ?_
  have hgq := hg.then p.grow
  have hsb := p.size.trans hs
  have hdb := p.defers.trans hd
  have j0 := p.ke 0 rfl i0
  have j1 := p.ke 1 rfl i1
  have j2 := p.ke 2 rfl i2
  obtain ⟨b6, j6, x6, z6⟩ : (IsBox k.w.heap.size (⟨0, 0, 0⟩ : Point3)) (b.get 6) q := p.ou 0 6 rfl
  replace x6 : Lo k (Eq b6) := Lo.eq x6
  have y6 : Lo k0 (Eq b6) := x6.chg hg
  exact tail_done (k := q) (hp764 _ _ ⟨⟨hgq, hsb, hdb⟩, j0, j1, j2, b6, j6, y6, z6, trivial⟩)
 rintro a k ⟨⟨hg, hs, hd⟩, i0, i1, i2, b6, i6, n6, c6, _⟩
 refine cutS (fun a' k' => Bs noF k0 11 a' k' ∧ a'.get 6 = .pointer (some ⟨b6, 0, none⟩) ∧ Lo k0 (Eq b6) ∧ Gb.Box b6 (⟨x_, y_, z_⟩ : Point3) k' ∧ True) ?_ ?_
 ·intro Q761 hQQ761 hp762
  refine gS 4 (_ :: _ :: _ :: ⟨some (IsV (⟨x_, y_, z_⟩ : Point3)), [(7, some 0), (8, some 1), (9, some 2)]⟩ :: []) hs (by kernel_rfl) ⟨mu rfl i0, mu rfl i1, mu rfl i2, ob1 rfl fun _ _ h n => ok_build rfl (bld24_0_1_2 n.1 n.2.1 n.2.2.1), trivial⟩ hQQ761 fun b q p => ?_
  have hgq := hg.then p.grow
  have hsb := p.size.trans hs
  have hdb := p.defers.trans hd
  have j6 := upE i6 (p.old 6 rfl)
  have z6 := Gb.Box.grow c6 p.grow
  have y6 := n6
  have j10 : (IsV (⟨x_, y_, z_⟩ : Point3)) (b.get 10) q := p.ou 3 10 rfl
  have hns := z6.nshF
  refine tail_storeB (i := 4) rfl rfl rfl rfl szf24 (Upd.self (α := Point3)) j6 z6 j10 fun q2 hch hz => ?_
  replace hgq := hgq.step hch y6.wr
  have hle := hch.le hns
  replace j10 := Pers.pers hle j10
  replace z6 := hz
  clear hns hle hch
  obtain ⟨q, hqq⟩ : ∃ q, q = q2 := ⟨q2, rfl⟩
  subst hqq
  exact tail_done (k := q) (hp762 _ _ ⟨⟨hgq, hsb, hdb⟩, j6, y6, z6, trivial⟩)
 rintro a k ⟨⟨hg, hs, hd⟩, i6, n6, c6, _⟩
 refine wp_ret ?_
 obtain rfl := Option.some.inj hr
 exact retC1 rfl hd hg (resCell ty24 i6 c6)
def sight_on (p_ : Point3) : Option (Bool) :=
 some (((decide (0 ≤ (min (min p_.X p_.Y) p_.Z))) && (decide ((max p_.X p_.Y) ≤ 1048576))) && (decide (p_.Z ≤ 4096)))
theorem sight_on_ok {k0 : K} {v0 : Value} {p_ : Point3} {r : Bool} (i0 : (IsV p_) v0 k0) (hr : sight_on p_ = some r) :
  Calls Try.prog 26 #[v0] k0.w (Ret k0 (IsV r)) := by
 unfold sight_on at hr
 refine Ret.ofC ?_
 refine enterK Try.func26 rfl Try.ntmps26 (show 1 ≤ 24 by decide) fun a k hk0 hs hd ha => ?_
 obtain ⟨e0, _⟩ := ha
 replace i0 : (IsV p_) (a.get 0) k := by rw [e0, hk0]; exact i0
 have hQ : Gb.LetsOut (bodyPost Try.prog Try.f26 (RetC noF k0 (IsV r))) := letsOutC
 have hg : Chg noF k0 k := by rw [hk0]; exact Chg.refl _ k0
 refine stepL 2 (⟨some (IsRef p_), [(0, none)]⟩ :: ⟨some (IsV false), []⟩ :: []) rfl ⟨hg, hs, hd⟩ (by kernel_rfl) ⟨ob1 rfl fun _ _ h n => ok_boxR rfl (up i0 h n.1), ob1 rfl fun _ _ h n => ok_assign rfl (isV_bool.2 rfl), trivial⟩ [⟨_, _⟩] (fun b q p => ⟨p.ou 0 1 rfl, trivial⟩) ?_
 rintro a k ⟨⟨hg, hs, hd⟩, i1, _⟩
 refine stepL 22 (_ :: _ :: _ :: _ :: _ :: _ :: _ :: _ :: _ :: _ :: _ :: _ :: _ :: _ :: _ :: _ :: _ :: _ :: _ :: _ :: _ :: _ :: []) rfl ⟨hg, hs, hd⟩ (by kernel_rfl) ⟨o1 [(1, none)] rfl fun _ _ h n => ok_fieldAddr rfl fo24_0 (at_Point3_0 _) ((up i1 h n.1)).ptr, o1 [(3, some 0)] rfl fun _ _ h n => ok_load rfl ty3 n.1, o1 [(1, none)] rfl fun _ _ h n => ok_fieldAddr rfl fo24_1 (at_Point3_1 _) ((up i1 h n.1)).ptr, o1 [(5, some 2)] rfl fun _ _ h n => ok_load rfl ty3 n.1, o1 [(1, none)] rfl fun _ _ h n => ok_fieldAddr rfl fo24_2 (at_Point3_2 _) ((up i1 h n.1)).ptr, o1 [(7, some 4)] rfl fun _ _ h n => ok_load rfl ty3 n.1, o1 [(4, some 1), (6, some 3), (8, some 5)] rfl fun _ _ h n => ok_min3 rfl n.1 n.2.1 n.2.2.1, o1 [(9, some 6)] rfl fun _ _ h n => ok_geq rfl n.1 (cI rfl), cm 7 rfl rfl, gT [(1, none)] rfl rfl fun hp _ _ h n => ok_fieldAddr rfl fo24_0 (at_Point3_0 _) ((up i1 h n.1)).ptr, gT [(12, some 9)] rfl rfl fun hp _ _ h n => ok_load rfl ty3 (Gd.get n.1 hp), gT [(1, none)] rfl rfl fun hp _ _ h n => ok_fieldAddr rfl fo24_1 (at_Point3_1 _) ((up i1 h n.1)).ptr, gT [(14, some 11)] rfl rfl fun hp _ _ h n => ok_load rfl ty3 (Gd.get n.1 hp), gT [(13, some 10), (15, some 12)] rfl rfl fun hp _ _ h n => ok_max2 rfl (Gd.get n.1 hp) (Gd.get n.2.1 hp), gT [(16, some 13)] rfl rfl fun hp _ _ h n => ok_leq rfl (Gd.get n.1 hp) (cI rfl), o1 [(11, some 8), (17, some 14)] rfl fun _ _ h n => ok_pickAnd rfl n.1 (Gd.get n.2.1) (cB rfl), cm 15 rfl rfl, gT [(1, none)] rfl rfl fun hp _ _ h n => ok_fieldAddr rfl fo24_2 (at_Point3_2 _) ((up i1 h n.1)).ptr, gT [(20, some 17)] rfl rfl fun hp _ _ h n => ok_load rfl ty3 (Gd.get n.1 hp), gT [(21, some 18)] rfl rfl fun hp _ _ h n => ok_leq rfl (Gd.get n.1 hp) (cI rfl), o1 [(19, some 16), (22, some 19)] rfl fun _ _ h n => ok_pickAnd rfl n.1 (Gd.get n.2.1) (cB rfl), cp 20 rfl rfl, trivial⟩ [⟨_, _⟩] (fun b q p => ⟨p.ou 21 2 rfl, trivial⟩) ?_
 rintro a k ⟨⟨hg, hs, hd⟩, i2, _⟩
 refine wp_ret ?_
 obtain rfl := Option.some.inj hr
 exact retC1 rfl hd hg i2
def rect_Right (r_ : Rect) : Option (Bool) :=
 some ((((((decide (0 ≤ r_.X0)) && (decide (r_.X0 < r_.X1))) && (decide (r_.X1 ≤ 1048576))) && (decide (0 ≤ r_.Y0))) && (decide (r_.Y0 < r_.Y1))) && (decide (r_.Y1 ≤ 1048576)))
theorem rect_Right_ok {k0 : K} {v0 : Value} {r_ : Rect} {r : Bool} (i0 : (IsV r_) v0 k0) (hr : rect_Right r_ = some r) :
  Calls Try.prog 35 #[v0] k0.w (Ret k0 (IsV r)) := by
 unfold rect_Right at hr
 refine Ret.ofC ?_
 refine enterK Try.func35 rfl Try.ntmps35 (show 1 ≤ 35 by decide) fun a k hk0 hs hd ha => ?_
 obtain ⟨e0, _⟩ := ha
 replace i0 : (IsV r_) (a.get 0) k := by rw [e0, hk0]; exact i0
 have hQ : Gb.LetsOut (bodyPost Try.prog Try.f35 (RetC noF k0 (IsV r))) := letsOutC
 have hg : Chg noF k0 k := by rw [hk0]; exact Chg.refl _ k0
 refine stepL 2 (⟨some (IsRef r_), [(0, none)]⟩ :: ⟨some (IsV false), []⟩ :: []) rfl ⟨hg, hs, hd⟩ (by kernel_rfl) ⟨ob1 rfl fun _ _ h n => ok_boxR rfl (up i0 h n.1), ob1 rfl fun _ _ h n => ok_assign rfl (isV_bool.2 rfl), trivial⟩ [⟨_, _⟩] (fun b q p => ⟨p.ou 0 1 rfl, trivial⟩) ?_
 rintro a k ⟨⟨hg, hs, hd⟩, i1, _⟩
 refine stepL 33 (_ :: _ :: _ :: _ :: _ :: _ :: _ :: _ :: _ :: _ :: _ :: _ :: _ :: _ :: _ :: _ :: _ :: _ :: _ :: _ :: _ :: _ :: _ :: _ :: _ :: _ :: _ :: _ :: _ :: _ :: _ :: _ :: _ :: []) rfl ⟨hg, hs, hd⟩ (by kernel_rfl) ⟨o1 [(1, none)] rfl fun _ _ h n => ok_fieldAddr rfl fo35_0 (at_Rect_0 _) ((up i1 h n.1)).ptr, o1 [(3, some 0)] rfl fun _ _ h n => ok_load rfl ty3 n.1, o1 [(4, some 1)] rfl fun _ _ h n => ok_leq rfl (cI rfl) n.1, cm 2 rfl rfl, gT [(1, none)] rfl rfl fun hp _ _ h n => ok_fieldAddr rfl fo35_0 (at_Rect_0 _) ((up i1 h n.1)).ptr, gT [(7, some 4)] rfl rfl fun hp _ _ h n => ok_load rfl ty3 (Gd.get n.1 hp), gT [(1, none)] rfl rfl fun hp _ _ h n => ok_fieldAddr rfl fo35_2 (at_Rect_2 _) ((up i1 h n.1)).ptr, gT [(9, some 6)] rfl rfl fun hp _ _ h n => ok_load rfl ty3 (Gd.get n.1 hp), gT [(8, some 5), (10, some 7)] rfl rfl fun hp _ _ h n => ok_lss rfl (Gd.get n.1 hp) (Gd.get n.2.1 hp), o1 [(6, some 3), (11, some 8)] rfl fun _ _ h n => ok_pickAnd rfl n.1 (Gd.get n.2.1) (cB rfl), cm 9 rfl rfl, gT [(1, none)] rfl rfl fun hp _ _ h n => ok_fieldAddr rfl fo35_2 (at_Rect_2 _) ((up i1 h n.1)).ptr, gT [(14, some 11)] rfl rfl fun hp _ _ h n => ok_load rfl ty3 (Gd.get n.1 hp), gT [(15, some 12)] rfl rfl fun hp _ _ h n => ok_leq rfl (Gd.get n.1 hp) (cI rfl), o1 [(13, some 10), (16, some 13)] rfl fun _ _ h n => ok_pickAnd rfl n.1 (Gd.get n.2.1) (cB rfl), cm 14 rfl rfl, gT [(1, none)] rfl rfl fun hp _ _ h n => ok_fieldAddr rfl fo35_1 (at_Rect_1 _) ((up i1 h n.1)).ptr, gT [(19, some 16)] rfl rfl fun hp _ _ h n => ok_load rfl ty3 (Gd.get n.1 hp), gT [(20, some 17)] rfl rfl fun hp _ _ h n => ok_leq rfl (cI rfl) (Gd.get n.1 hp), o1 [(18, some 15), (21, some 18)] rfl fun _ _ h n => ok_pickAnd rfl n.1 (Gd.get n.2.1) (cB rfl), cm 19 rfl rfl, gT [(1, none)] rfl rfl fun hp _ _ h n => ok_fieldAddr rfl fo35_1 (at_Rect_1 _) ((up i1 h n.1)).ptr, gT [(24, some 21)] rfl rfl fun hp _ _ h n => ok_load rfl ty3 (Gd.get n.1 hp), gT [(1, none)] rfl rfl fun hp _ _ h n => ok_fieldAddr rfl fo35_3 (at_Rect_3 _) ((up i1 h n.1)).ptr, gT [(26, some 23)] rfl rfl fun hp _ _ h n => ok_load rfl ty3 (Gd.get n.1 hp), gT [(25, some 22), (27, some 24)] rfl rfl fun hp _ _ h n => ok_lss rfl (Gd.get n.1 hp) (Gd.get n.2.1 hp), o1 [(23, some 20), (28, some 25)] rfl fun _ _ h n => ok_pickAnd rfl n.1 (Gd.get n.2.1) (cB rfl), cm 26 rfl rfl, gT [(1, none)] rfl rfl fun hp _ _ h n => ok_fieldAddr rfl fo35_3 (at_Rect_3 _) ((up i1 h n.1)).ptr, gT [(31, some 28)] rfl rfl fun hp _ _ h n => ok_load rfl ty3 (Gd.get n.1 hp), gT [(32, some 29)] rfl rfl fun hp _ _ h n => ok_leq rfl (Gd.get n.1 hp) (cI rfl), o1 [(30, some 27), (33, some 30)] rfl fun _ _ h n => ok_pickAnd rfl n.1 (Gd.get n.2.1) (cB rfl), cp 31 rfl rfl, trivial⟩ [⟨_, _⟩] (fun b q p => ⟨p.ou 32 2 rfl, trivial⟩) ?_
 rintro a k ⟨⟨hg, hs, hd⟩, i2, _⟩
 refine wp_ret ?_
 obtain rfl := Option.some.inj hr
 exact retC1 rfl hd hg i2
section
open Go.Proofs Go.RowKit Go.Lib Go.Sort Go.Shelf
def Try.growL99_ren : Go.Shelf.Ren := ⟨fun | 4 => 99 | n => n, fun | 22 => 49 | 25 => 35 | 3 => 3 | 4 => 4 | 9 => 9 | 20 => 20 | 0 => 0 | n => n, fun | n => n⟩
theorem Try.growL99 : Go.Proofs.Lays8.n4 Try.prog Try.growL99_ren := {
 mixed := by kernel_rfl,
 f4 := ⟨Try.f99.name, by decide, Try.func99.trans (congrArg some (by kernel_rfl))⟩,
 t0 := Try.underlying0,
 a0 := Try.isAgg0,
 z0 := Try.sizeOf0,
 v0 := Try.zeroValue0,
 t3 := Try.underlying3,
 a3 := Try.isAgg3,
 z3 := Try.sizeOf3,
 v3 := Try.zeroValue3,
 t4 := Try.underlying4,
 a4 := Try.isAgg4,
 z4 := Try.sizeOf4,
 v4 := Try.zeroValue4,
 t9 := Try.underlying9,
 a9 := Try.isAgg9,
 z9 := Try.sizeOf9,
 v9 := Try.zeroValue9,
 t20 := Try.underlying20,
 a20 := Try.isAgg20,
 z20 := Try.sizeOf20,
 v20 := Try.zeroValue20,
 t22 := Try.underlying49,
 a22 := Try.isAgg49,
 z22 := Try.sizeOf49,
 v22 := Try.zeroValue49 }
theorem slices_Grow_Rect_okO {k0 : K} {v0 v1 : Value} {n : Int} {r : List Rect} (i0 : v0 = .slice none 0 0) (i1 : IsV n v1 k0) (hr : growI Rect n = some r) : Calls Try.prog 99 #[v0, v1] k0.w (Ret k0 (IsOwn k0.w.heap.size 35 r)) := by
 refine grow_own eo35 i0 i1 hr ?_ fun m i z h0 hm hi hz hs hb => ?_
 ·have hcon := Any8.slices_Grow_room Try.growL99 none 0 0 0 k0.w (by omega) (by omega) (by omega) (by omega)
  change Calls Try.prog 99 _ _ _ at hcon
  exact hcon
 ·have hcon := Any8.slices_Grow_grow Try.growL99 i z hi hz hs none 0 0 m [] k0.w (by omega) (by omega) (by
   have : (0 + m) * i.bytes ≤ 1073741824 * 65536 := Nat.mul_le_mul (by omega) hb
   omega) (by omega) (by simp) (fun _ => rfl) (fun a h => by simp at h)
  change Calls Try.prog 99 _ _ _ at hcon
  exact hcon
end
def slices_Concat_Rect_L0 (slices_ : (List (List Rect))) (s780 : Int × Int) : Option (Flow (Int × Int) ((List Rect))) :=
 if (decide (s780.2 < (slices_.length : Int))) then
  (getI slices_ s780.2).bind fun x785_0 =>
  (addI s780.1 (x785_0.length : Int)).bind fun x786_3 =>
  if (decide (x786_3 < 0)) then
   none
  else
   (addI s780.2 1).bind fun x788_0 =>
   some (.go (x786_3, x788_0))
 else
  some (.ex 0 (s780.1, s780.2))
def slices_Concat_Rect_L1 (slices_ : (List (List Rect))) (s805 : (List Rect) × Int) : Option (Flow ((List Rect) × Int) ((List Rect))) :=
 if (decide (s805.2 < (slices_.length : Int))) then
  (getI slices_ s805.2).bind fun x810_0 =>
  (appI s805.1 x810_0).bind fun x811_2 =>
  (addI s805.2 1).bind fun x812_0 =>
  some (.go (x811_2, x812_0))
 else
  some (.ex 2 (s805.1, s805.2))
def slices_Concat_Rect (slices_ : (List (List Rect))) : Option ((List Rect)) :=
 (iterL (slices_Concat_Rect_L0 slices_) (slices_.length + 1) (0, 0)).bind fun f801 => match f801 with
  | .go _ => none
  | .ex _ s802 =>
   (growI Rect s802.1).bind fun x803_1 =>
   (iterL (slices_Concat_Rect_L1 slices_) (slices_.length + 1) (x803_1, 0)).bind fun f822 => match f822 with
    | .go _ => none
    | .ex _ s823 =>
     some s823.1
    | .ret r827 => some r827
  | .ret r833 => some r833
theorem slices_Concat_Rect_okO {k0 : K} {v0 : Value} {slices_ : (List (List Rect))} {r : (List Rect)} (i0 : (IsV slices_) v0 k0) (hr : slices_Concat_Rect slices_ = some r) :
  Calls Try.prog 82 #[v0] k0.w (Ret k0 (IsOwn k0.w.heap.size 35 r)) := by
 unfold slices_Concat_Rect at hr
 refine Ret.ofC ?_
 refine enterK Try.func82 rfl Try.ntmps82 (show 1 ≤ 36 by decide) fun a k hk0 hs hd ha => ?_
 obtain ⟨e0, _⟩ := ha
 replace i0 : (IsV slices_) (a.get 0) k := by rw [e0, hk0]; exact i0
 have hQ : Gb.LetsOut (bodyPost Try.prog Try.f82 (RetC noF k0 (IsOwn k0.w.heap.size 35 r))) := letsOutC
 have hg : Chg noF k0 k := by rw [hk0]; exact Chg.refl _ k0
 refine stepL 1 (⟨some IsE0, []⟩ :: []) rfl ⟨hg, hs, hd⟩ (by kernel_rfl) ⟨ob1 rfl fun b q h n => ok_assign rfl isE0_nil, trivial⟩ [⟨_, _⟩] (fun b q p => ⟨p.ke 0 rfl i0, trivial⟩) ?_
 rintro a k ⟨⟨hg, hs, hd⟩, i0, _⟩
 refine stepL 1 (⟨some (IsI 0), []⟩ :: []) rfl ⟨hg, hs, hd⟩ (by kernel_rfl) ⟨aI rfl rfl, trivial⟩ [⟨_, _⟩, ⟨_, _⟩] (fun b q p => ⟨p.ke 0 rfl i0, p.ou 0 3 rfl, trivial⟩) ?_
 rintro a k ⟨⟨hg, hs, hd⟩, i0, i3, _⟩
 refine wp_seq ?_
 refine stepL 3 (_ :: _ :: ⟨some (IsI 0), []⟩ :: []) rfl ⟨hg, hs, hd⟩ (by kernel_rfl) ⟨mu rfl i0, o1 [(9, some 0)] rfl fun _ _ h n => ok_len rfl rfl Try.underlying112 (IsV.rd n.1), ob1 rfl fun _ _ h n => ok_move rfl (cI rfl), trivial⟩ [⟨_, _⟩, ⟨_, _⟩, ⟨_, _⟩, ⟨_, _⟩, ⟨_, _⟩] (fun b q p => ⟨p.ke 0 rfl i0, p.ke 3 rfl i3, p.ou 0 9 rfl, p.ou 1 10 rfl, p.ou 2 11 rfl, trivial⟩) ?_
 rintro a k ⟨⟨hg, hs, hd⟩, i0, i3, i9, i10, i11, _⟩
 refine wp_block ?_
 obtain ⟨f801, hf801, hr⟩ := bind_some hr
 refine cutFe f801 (fun s' a' k' => Bs noF k0 36 a' k' ∧ (IsV slices_) (a'.get 0) k' ∧ (IsV s'.1) (a'.get 3) k' ∧ (IsV slices_) (a'.get 9) k' ∧ (IsL slices_) (a'.get 10) k' ∧ (IsV s'.2) (a'.get 11) k' ∧ True) (fun i' s' a' k' => (i' = 0 ∧ Bs noF k0 36 a' k' ∧ (IsV slices_) (a'.get 0) k' ∧ (IsV s'.1) (a'.get 3) k' ∧ True)) (fun r' a' k' => bodyPost Try.prog Try.f82 (RetC noF k0 (IsOwn k0.w.heap.size 35 r')) .ret a' k'.w) ?_ hQ ?_ ?_ ?_
 ·intro Q834 hQQ834 hgo hex hret
  refine sim_loop ?_ _ _ _ _ _ hf801 ⟨⟨hg, hs, hd⟩, i0, i3, i9, i10, i11, trivial⟩ Q834 hQQ834 hgo hex hret
  clear hr hf801 hgo hex hret hQQ834 hQ hg hs hd i0 i10 i11 i3 i9
  intro s780 fl_ a k hr hS Q hQ hgo781 hex782 hret783
  obtain ⟨⟨hg, hs, hd⟩, i0, i3, i9, i10, i11, _⟩ := hS
  unfold slices_Concat_Rect_L0 at hr
  refine stepL 1 (_ :: []) rfl ⟨hg, hs, hd⟩ (by kernel_rfl) ⟨o1 [(11, none), (10, none)] rfl fun _ _ h n => ok_lss rfl (up i11 h n.1) (up i10 h n.2.1), trivial⟩ [⟨_, _⟩, ⟨_, _⟩, ⟨_, _⟩, ⟨_, _⟩, ⟨_, _⟩, ⟨_, _⟩] (fun b q p => ⟨p.ke 0 rfl i0, p.ke 3 rfl i3, p.ke 9 rfl i9, p.ke 10 rfl i10, p.ke 11 rfl i11, p.ou 0 12 rfl, trivial⟩) ?_
  rintro a k ⟨⟨hg, hs, hd⟩, i0, i3, i9, i10, i11, i12, _⟩
  refine wp_seq ?_
  refine wp_cond_split (isBool i12) (fun hc798 => ?_) (fun hc798 => ?_)
  ·rw [if_pos hc798] at hr
   refine wp_skip ?_
   refine wp_seq ?_
   refine wp_block ?_
   refine wp_seq ?_
   obtain ⟨x785_0, hx785_0, hr⟩ := bind_some hr
   refine cut (fun a' k' => Bs noF k0 36 a' k' ∧ (IsV slices_) (a'.get 0) k' ∧ (IsV s780.1) (a'.get 3) k' ∧ (IsV x785_0) (a'.get 5) k' ∧ (IsV slices_) (a'.get 9) k' ∧ (IsL slices_) (a'.get 10) k' ∧ (IsV s780.2) (a'.get 11) k' ∧ True) ?_ hQ ?_
   ·intro Q796 hQQ796 hp797
    refine gS 3 (_ :: _ :: _ :: []) hs (by kernel_rfl) ⟨o1 [(9, none), (11, none)] rfl fun _ _ h n => ok_indexAddr rfl Try.underlying112 ty49 (IsV.rd (up i9 h n.1)) (up i11 h n.2.1) hx785_0, o1 [(13, some 0)] rfl fun _ _ h n => ok_load rfl ty49 n.1, cp 1 rfl rfl, trivial⟩ hQQ796 fun b q p => ?_
    exact tail_done (k := q) (hp797 _ _ ⟨Bs.post ⟨hg, hs, hd⟩ p, p.ke 0 rfl i0, p.ke 3 rfl i3, p.ou 2 5 rfl, p.ke 9 rfl i9, p.ke 10 rfl i10, p.ke 11 rfl i11, trivial⟩)
   rintro a k ⟨⟨hg, hs, hd⟩, i0, i3, i5, i9, i10, i11, _⟩
   refine wp_seq ?_
   obtain ⟨x786_3, hx786_3, hr⟩ := bind_some hr
   refine cut (fun a' k' => Bs noF k0 36 a' k' ∧ (IsV slices_) (a'.get 0) k' ∧ (IsV x786_3) (a'.get 3) k' ∧ (IsV slices_) (a'.get 9) k' ∧ (IsL slices_) (a'.get 10) k' ∧ (IsV s780.2) (a'.get 11) k' ∧ True) ?_ hQ ?_
   ·intro Q794 hQQ794 hp795
    refine gS 5 (_ :: _ :: _ :: _ :: _ :: []) hs (by kernel_rfl) ⟨mu rfl i3, mu rfl i5, o1 [(16, some 1)] rfl fun _ _ h n => ok_len rfl rfl Try.underlying49 (IsV.rd n.1), o1 [(15, some 0), (17, some 2)] rfl fun _ _ h n => ok_add rfl n.1 n.2.1 hx786_3, cp 3 rfl rfl, trivial⟩ hQQ794 fun b q p => ?_
    exact tail_done (k := q) (hp795 _ _ ⟨Bs.post ⟨hg, hs, hd⟩ p, p.ke 0 rfl i0, p.ou 4 3 rfl, p.ke 9 rfl i9, p.ke 10 rfl i10, p.ke 11 rfl i11, trivial⟩)
   rintro a k ⟨⟨hg, hs, hd⟩, i0, i3, i9, i10, i11, _⟩
   refine stepL 2 (_ :: _ :: []) rfl ⟨hg, hs, hd⟩ (by kernel_rfl) ⟨mu rfl i3, o1 [(19, some 0)] rfl fun _ _ h n => ok_lss rfl n.1 (cI rfl), trivial⟩ [⟨_, _⟩, ⟨_, _⟩, ⟨_, _⟩, ⟨_, _⟩, ⟨_, _⟩, ⟨_, _⟩] (fun b q p => ⟨p.ke 0 rfl i0, p.ke 3 rfl i3, p.ke 9 rfl i9, p.ke 10 rfl i10, p.ke 11 rfl i11, p.ou 1 20 rfl, trivial⟩) ?_
   rintro a k ⟨⟨hg, hs, hd⟩, i0, i3, i9, i10, i11, i20, _⟩
   refine wp_cond_split (isBool i20) (fun hc791 => ?_) (fun hc791 => ?_)
   ·rw [if_pos hc791] at hr
    simp at hr
   rw [if_neg (by rw [hc791]; decide)] at hr
   refine wp_skip ?_
   obtain ⟨x788_0, hx788_0, hr⟩ := bind_some hr
   refine cut (fun a' k' => Bs noF k0 36 a' k' ∧ (IsV slices_) (a'.get 0) k' ∧ (IsV x786_3) (a'.get 3) k' ∧ (IsV slices_) (a'.get 9) k' ∧ (IsL slices_) (a'.get 10) k' ∧ (IsV x788_0) (a'.get 11) k' ∧ True) ?_ hQ ?_
   ·intro Q789 hQQ789 hp790
    refine gS 2 (_ :: _ :: []) hs (by kernel_rfl) ⟨o1 [(11, none)] rfl fun _ _ h n => ok_add rfl (up i11 h n.1) (cI rfl) hx788_0, cm 0 rfl rfl, trivial⟩ hQQ789 fun b q p => ?_
    exact tail_done (k := q) (hp790 _ _ ⟨Bs.post ⟨hg, hs, hd⟩ p, p.ke 0 rfl i0, p.ke 3 rfl i3, p.ke 9 rfl i9, p.ke 10 rfl i10, p.ou 1 11 rfl, trivial⟩)
   rintro a k ⟨⟨hg, hs, hd⟩, i0, i3, i9, i10, i11, _⟩
   exact hgo781 _ _ _ (Option.some.inj hr).symm ⟨⟨hg, hs, hd⟩, i0, i3, i9, i10, i11, trivial⟩
  rw [if_neg (by rw [hc798]; decide)] at hr
  refine wp_exit ?_
  exact hex782 _ _ _ _ (Option.some.inj hr).symm ⟨rfl, ⟨hg, hs, hd⟩, i0, i3, trivial⟩
 ·rintro r833 a k rfl hR
  dsimp only at hr
  obtain rfl := Option.some.inj hr
  exact hR
 ·rintro _ _ _ rfl _
  simp at hr
 clear hf801
 rintro _ s802 a k rfl ⟨rfl, ⟨hg, hs, hd⟩, i0, i3, _⟩
 dsimp only at hr
 refine wp_seq ?_
 obtain ⟨x803_1, hx803_1, hr⟩ := bind_some hr
 refine cut (fun a' k' => Bs noF k0 36 a' k' ∧ (IsV slices_) (a'.get 0) k' ∧ IsOwn 0 35 x803_1 (a'.get 6) k' ∧ Lo k0 (obF (a'.get 6)) ∧ True) ?_ hQ ?_
 ·intro Q831 hQQ831 hp832
  refine gS 3 (_ :: _ :: _ :: []) hs (by kernel_rfl) ⟨mu rfl i3, o1 [(23, some 0)] rfl fun _ _ h n => ok_call rfl Try.call99 (ret_weaken h.size (slices_Grow_Rect_okO rfl n.1 hx803_1)), cp 1 rfl rfl, trivial⟩ hQQ831 fun b q p => ?_
  have hgq := hg.then p.grow
  have hsb := p.size.trans hs
  have hdb := p.defers.trans hd
  have j0 := p.ke 0 rfl i0
  have j6 : (IsOwn k.w.heap.size 35 x803_1) (b.get 6) q := p.ou 2 6 rfl
  have x6 : Lo k (obF (b.get 6)) := j6.loF
  have y6 := x6.chg hg
  replace j6 := j6.weaken (Nat.zero_le _)
  exact tail_done (k := q) (hp832 _ _ ⟨⟨hgq, hsb, hdb⟩, j0, j6, y6, trivial⟩)
 rintro a k ⟨⟨hg, hs, hd⟩, i0, i6, n6, _⟩
 refine wp_seq ?_
 refine cutS (fun a' k' => Bs noF k0 36 a' k' ∧ IsOwn 0 35 x803_1 (a'.get 6) k' ∧ Lo k0 (obF (a'.get 6)) ∧ (IsV slices_) (a'.get 25) k' ∧ (IsL slices_) (a'.get 26) k' ∧ (IsI 0) (a'.get 27) k' ∧ True) ?_ ?_
 ·intro Q829 hQQ829 hp830
  refine gS 3 (_ :: _ :: ⟨some (IsI 0), []⟩ :: []) hs (by kernel_rfl) ⟨mu rfl i0, o1 [(25, some 0)] rfl fun _ _ h n => ok_len rfl rfl Try.underlying112 (IsV.rd n.1), ob1 rfl fun _ _ h n => ok_move rfl (cI rfl), trivial⟩ hQQ829 fun b q p => ?_
  exact tail_done (k := q) (hp830 _ _ ⟨Bs.post ⟨hg, hs, hd⟩ p, p.ke 6 rfl i6, (by rw [p.old 6 rfl]; exact n6), p.ou 0 25 rfl, p.ou 1 26 rfl, p.ou 2 27 rfl, trivial⟩)
 rintro a k ⟨⟨hg, hs, hd⟩, i6, n6, i25, i26, i27, _⟩
 refine wp_block ?_
 obtain ⟨f822, hf822, hr⟩ := bind_some hr
 refine cutFe f822 (fun s' a' k' => Bs noF k0 36 a' k' ∧ IsOwn 0 35 s'.1 (a'.get 6) k' ∧ Lo k0 (obF (a'.get 6)) ∧ (IsV slices_) (a'.get 25) k' ∧ (IsL slices_) (a'.get 26) k' ∧ (IsV s'.2) (a'.get 27) k' ∧ True) (fun i' s' a' k' => (i' = 2 ∧ Bs noF k0 36 a' k' ∧ IsOwn 0 35 s'.1 (a'.get 6) k' ∧ Lo k0 (obF (a'.get 6)) ∧ True)) (fun r' a' k' => bodyPost Try.prog Try.f82 (RetC noF k0 (IsOwn k0.w.heap.size 35 r')) .ret a' k'.w) ?_ hQ ?_ ?_ ?_
 ·intro Q828 hQQ828 hgo hex hret
  refine sim_loop ?_ _ _ _ _ _ hf822 ⟨⟨hg, hs, hd⟩, i6, n6, i25, i26, i27, trivial⟩ Q828 hQQ828 hgo hex hret
  clear hr hf822 hgo hex hret hQQ828 hQ hg hs hd i25 i26 i27 i6 n6
  intro s805 fl_ a k hr hS Q hQ hgo806 hex807 hret808
  obtain ⟨⟨hg, hs, hd⟩, i6, n6, i25, i26, i27, _⟩ := hS
  unfold slices_Concat_Rect_L1 at hr
  refine cutS (fun a' k' => Bs noF k0 36 a' k' ∧ IsOwn 0 35 s805.1 (a'.get 6) k' ∧ Lo k0 (obF (a'.get 6)) ∧ (IsV slices_) (a'.get 25) k' ∧ (IsL slices_) (a'.get 26) k' ∧ (IsV s805.2) (a'.get 27) k' ∧ (IsV (decide (s805.2 < (slices_.length : Int)))) (a'.get 28) k' ∧ True) ?_ ?_
  ·intro Q820 hQQ820 hp821
   refine gS 1 (_ :: []) hs (by kernel_rfl) ⟨o1 [(27, none), (26, none)] rfl fun _ _ h n => ok_lss rfl (up i27 h n.1) (up i26 h n.2.1), trivial⟩ hQQ820 fun b q p => ?_
   exact tail_done (k := q) (hp821 _ _ ⟨Bs.post ⟨hg, hs, hd⟩ p, p.ke 6 rfl i6, (by rw [p.old 6 rfl]; exact n6), p.ke 25 rfl i25, p.ke 26 rfl i26, p.ke 27 rfl i27, p.ou 0 28 rfl, trivial⟩)
  rintro a k ⟨⟨hg, hs, hd⟩, i6, n6, i25, i26, i27, i28, _⟩
  refine wp_seq ?_
  refine wp_cond_split (isBool i28) (fun hc819 => ?_) (fun hc819 => ?_)
  ·rw [if_pos hc819] at hr
   refine wp_skip ?_
   refine wp_seq ?_
   refine wp_block ?_
   refine wp_seq ?_
   obtain ⟨x810_0, hx810_0, hr⟩ := bind_some hr
   refine cut (fun a' k' => Bs noF k0 36 a' k' ∧ IsOwn 0 35 s805.1 (a'.get 6) k' ∧ Lo k0 (obF (a'.get 6)) ∧ (IsV x810_0) (a'.get 8) k' ∧ (IsV slices_) (a'.get 25) k' ∧ (IsL slices_) (a'.get 26) k' ∧ (IsV s805.2) (a'.get 27) k' ∧ True) ?_ hQ ?_
   ·intro Q817 hQQ817 hp818
    refine gS 3 (_ :: _ :: _ :: []) hs (by kernel_rfl) ⟨o1 [(25, none), (27, none)] rfl fun _ _ h n => ok_indexAddr rfl Try.underlying112 ty49 (IsV.rd (up i25 h n.1)) (up i27 h n.2.1) hx810_0, o1 [(29, some 0)] rfl fun _ _ h n => ok_load rfl ty49 n.1, cp 1 rfl rfl, trivial⟩ hQQ817 fun b q p => ?_
    exact tail_done (k := q) (hp818 _ _ ⟨Bs.post ⟨hg, hs, hd⟩ p, p.ke 6 rfl i6, (by rw [p.old 6 rfl]; exact n6), p.ou 2 8 rfl, p.ke 25 rfl i25, p.ke 26 rfl i26, p.ke 27 rfl i27, trivial⟩)
   rintro a k ⟨⟨hg, hs, hd⟩, i6, n6, i8, i25, i26, i27, _⟩
   obtain ⟨x811_2, hx811_2, hr⟩ := bind_some hr
   refine cut (fun a' k' => Bs noF k0 36 a' k' ∧ IsOwn 0 35 x811_2 (a'.get 6) k' ∧ Lo k0 (obF (a'.get 6)) ∧ (IsV slices_) (a'.get 25) k' ∧ (IsL slices_) (a'.get 26) k' ∧ (IsV s805.2) (a'.get 27) k' ∧ True) ?_ hQ ?_
   ·intro Q815 hQQ815 hp816
    refine gS 2 (⟨some (OwnAt (a.get 6) 0 35 s805.1), [(6, none)]⟩ :: _ :: []) hs (by kernel_rfl) ⟨ob1 rfl fun _ _ h n => ok_moveOA (.inl rfl) (ownAt n.1 (up i6 h n.1)), mu rfl i8, trivial⟩ hQQ815 fun b q p => ?_
    have hgq := hg.then p.grow
    have hsb := p.size.trans hs
    have hdb := p.defers.trans hd
    have j25 := p.ke 25 rfl i25
    have j26 := p.ke 26 rfl i26
    have j27 := p.ke 27 rfl i27
    have e31 : b.get 31 = a.get 6 := (p.ou 0 31 rfl).1
    have j31 : IsOwn 0 35 s805.1 (b.get 31) q := (p.ou 0 31 rfl).2
    have y31 : Lo k0 (obF (b.get 31)) := by rw [e31]; exact n6
    have j32 : (IsV x810_0) (b.get 32) q := p.ou 1 32 rfl
    have hns := j31.nshF
    refine tail_appendS (i := 2) (d := 33) rfl rfl rfl rfl (by rw [hsb]; decide) (e := 35) Try.underlying49 eo35 j31 (IsV.rd j32) hx811_2 fun b2 q2 hsz hdf hoth hch hown hob => ?_
    have hle := hch.le hns
    have yn : Lo k0 (obF (b2.get 33)) := y31.app hgq hob
    replace j25 := Pers.pers hle j25
    replace j26 := Pers.pers hle j26
    replace j27 := Pers.pers hle j27
    replace j32 := Pers.pers hle j32
    replace hgq := hgq.step hch y31.wr
    rw [← hoth 25 (by decide)] at j25
    rw [← hoth 26 (by decide)] at j26
    rw [← hoth 27 (by decide)] at j27
    rw [← hoth 32 (by decide)] at j32
    have j33 := hown
    have y33 := yn
    replace hsb := hsz.trans hsb
    replace hdb := hdf.trans hdb
    clear hle hch hown hob hns yn hsz hdf hoth
    obtain ⟨b, hbb⟩ : ∃ b, b = b2 := ⟨b2, rfl⟩
    subst hbb
    obtain ⟨q, hqq⟩ : ∃ q, q = q2 := ⟨q2, rfl⟩
    subst hqq
    refine tail_assign (i := 3) (d := 6) rfl rfl (.inl rfl) rfl (by rw [hsb]; decide) fun b2 hsz hdf hnew hoth => ?_
    have jn : (IsOwn 0 35 x811_2) (b2.get 6) q := by rw [hnew]; exact j33
    have yn : Lo k0 (obF (b2.get 6)) := by rw [hnew]; exact y33
    rw [← hoth 25 (by decide)] at j25
    rw [← hoth 26 (by decide)] at j26
    rw [← hoth 27 (by decide)] at j27
    rw [← hoth 32 (by decide)] at j32
    have j6 := jn
    have y6 := yn
    replace hsb := hsz.trans hsb
    replace hdb := hdf.trans hdb
    clear hsz hdf hoth
    obtain ⟨b, hbb⟩ : ∃ b, b = b2 := ⟨b2, rfl⟩
    subst hbb
    exact tail_done (k := q) (hp816 _ _ ⟨⟨hgq, hsb, hdb⟩, j6, y6, j25, j26, j27, trivial⟩)
   rintro a k ⟨⟨hg, hs, hd⟩, i6, n6, i25, i26, i27, _⟩
   obtain ⟨x812_0, hx812_0, hr⟩ := bind_some hr
   refine cut (fun a' k' => Bs noF k0 36 a' k' ∧ IsOwn 0 35 x811_2 (a'.get 6) k' ∧ Lo k0 (obF (a'.get 6)) ∧ (IsV slices_) (a'.get 25) k' ∧ (IsL slices_) (a'.get 26) k' ∧ (IsV x812_0) (a'.get 27) k' ∧ True) ?_ hQ ?_
   ·intro Q813 hQQ813 hp814
    refine gS 2 (_ :: _ :: []) hs (by kernel_rfl) ⟨o1 [(27, none)] rfl fun _ _ h n => ok_add rfl (up i27 h n.1) (cI rfl) hx812_0, cm 0 rfl rfl, trivial⟩ hQQ813 fun b q p => ?_
    exact tail_done (k := q) (hp814 _ _ ⟨Bs.post ⟨hg, hs, hd⟩ p, p.ke 6 rfl i6, (by rw [p.old 6 rfl]; exact n6), p.ke 25 rfl i25, p.ke 26 rfl i26, p.ou 1 27 rfl, trivial⟩)
   rintro a k ⟨⟨hg, hs, hd⟩, i6, n6, i25, i26, i27, _⟩
   exact hgo806 _ _ _ (Option.some.inj hr).symm ⟨⟨hg, hs, hd⟩, i6, n6, i25, i26, i27, trivial⟩
  rw [if_neg (by rw [hc819]; decide)] at hr
  refine wp_exit ?_
  exact hex807 _ _ _ _ (Option.some.inj hr).symm ⟨rfl, ⟨hg, hs, hd⟩, i6, n6, trivial⟩
 ·rintro r827 a k rfl hR
  dsimp only at hr
  obtain rfl := Option.some.inj hr
  exact hR
 ·rintro _ _ _ rfl _
  simp at hr
 clear hf822
 rintro _ s823 a k rfl ⟨rfl, ⟨hg, hs, hd⟩, i6, n6, _⟩
 dsimp only at hr
 refine cutS (fun a' k' => Bs noF k0 36 a' k' ∧ IsOwn 0 35 s823.1 (a'.get 2) k' ∧ Lo k0 (obF (a'.get 2)) ∧ True) ?_ ?_
 ·intro Q825 hQQ825 hp826
  refine gS 2 (⟨some (OwnAt (a.get 6) 0 35 s823.1), [(6, none)]⟩ :: ⟨some (OwnAt (a.get 6) 0 35 s823.1), [(35, some 0)]⟩ :: []) hs (by kernel_rfl) ⟨ob1 rfl fun _ _ h n => ok_moveOA (.inl rfl) (ownAt n.1 (up i6 h n.1)), ob1 rfl fun _ _ h n => ok_moveOA (.inr rfl) n.1, trivial⟩ hQQ825 fun b q p => ?_
  have hgq := hg.then p.grow
  have hsb := p.size.trans hs
  have hdb := p.defers.trans hd
  have e2 : b.get 2 = a.get 6 := (p.ou 1 2 rfl).1
  have j2 : IsOwn 0 35 s823.1 (b.get 2) q := (p.ou 1 2 rfl).2
  have y2 : Lo k0 (obF (b.get 2)) := by rw [e2]; exact n6
  exact tail_done (k := q) (hp826 _ _ ⟨⟨hgq, hsb, hdb⟩, j2, y2, trivial⟩)
 rintro a k ⟨⟨hg, hs, hd⟩, i2, n2, _⟩
 refine wp_ret ?_
 obtain rfl := Option.some.inj hr
 exact retC1 rfl hd hg (show ResOk _ _ _ (.tmp 2) _ from IsOwn.raise (k0 := k0) i2 n2)
theorem slices_Concat_Rect_ok {k0 : K} {v0 : Value} {slices_ : (List (List Rect))} {r : (List Rect)} (i0 : (IsV slices_) v0 k0) (hr : slices_Concat_Rect slices_ = some r) :
  Calls Try.prog 82 #[v0] k0.w (Ret k0 (IsV r)) :=
 ret_give (slices_Concat_Rect_okO i0 hr)
section
open Go.Proofs Go.RowKit Go.Lib Go.Sort Go.Shelf
def Try.sortIntsL_ren : Go.Shelf.Ren := ⟨fun | 189 => 59 | 125 => 80 | 257 => 79 | 128 => 97 | 129 => 98 | 294 => 88 | 295 => 89 | 296 => 90 | 297 => 91 | 298 => 92 | 299 => 93 | 216 => 94 | 300 => 95 | 301 => 96 | 328 => 107 | 329 => 108 | 330 => 109 | 331 => 110 | 332 => 111 | 215 => 106 | 343 => 116 | n => n, fun | 28 => 63 | 3 => 3 | 46 => 105 | 0 => 0 | 51 => 127 | 53 => 129 | 4 => 4 | 183 => 119 | 182 => 118 | 131 => 124 | 5 => 5 | 9 => 9 | 218 => 137 | 222 => 141 | 228 => 148 | 229 => 149 | n => n, fun | n => n⟩
theorem Try.sortIntsL : Go.Proofs.Lays.n189 Try.prog Try.sortIntsL_ren := {
 mixed := by kernel_rfl,
 f125 := Try.func80.trans (congrArg some (by kernel_rfl)),
 f128 := Try.func97.trans (congrArg some (by kernel_rfl)),
 f129 := Try.func98.trans (congrArg some (by kernel_rfl)),
 f189 := Try.func59.trans (congrArg some (by kernel_rfl)),
 f215 := Try.func106.trans (congrArg some (by kernel_rfl)),
 f216 := Try.func94.trans (congrArg some (by kernel_rfl)),
 f257 := Try.func79.trans (congrArg some (by kernel_rfl)),
 f294 := Try.func88.trans (congrArg some (by kernel_rfl)),
 f295 := Try.func89.trans (congrArg some (by kernel_rfl)),
 f296 := Try.func90.trans (congrArg some (by kernel_rfl)),
 f297 := Try.func91.trans (congrArg some (by kernel_rfl)),
 f298 := Try.func92.trans (congrArg some (by kernel_rfl)),
 f299 := Try.func93.trans (congrArg some (by kernel_rfl)),
 f300 := Try.func95.trans (congrArg some (by kernel_rfl)),
 f301 := Try.func96.trans (congrArg some (by kernel_rfl)),
 f328 := Try.func107.trans (congrArg some (by kernel_rfl)),
 f329 := Try.func108.trans (congrArg some (by kernel_rfl)),
 f330 := Try.func109.trans (congrArg some (by kernel_rfl)),
 f331 := Try.func110.trans (congrArg some (by kernel_rfl)),
 f332 := Try.func111.trans (congrArg some (by kernel_rfl)),
 f343 := Try.func116.trans (congrArg some (by kernel_rfl)),
 t0 := Try.underlying0,
 a0 := Try.isAgg0,
 z0 := Try.sizeOf0,
 v0 := Try.zeroValue0,
 t3 := Try.underlying3,
 a3 := Try.isAgg3,
 z3 := Try.sizeOf3,
 v3 := Try.zeroValue3,
 t4 := Try.underlying4,
 a4 := Try.isAgg4,
 z4 := Try.sizeOf4,
 v4 := Try.zeroValue4,
 t5 := Try.underlying5,
 a5 := Try.isAgg5,
 z5 := Try.sizeOf5,
 v5 := Try.zeroValue5,
 t9 := Try.underlying9,
 a9 := Try.isAgg9,
 z9 := Try.sizeOf9,
 v9 := Try.zeroValue9,
 t28 := Try.underlying63,
 a28 := Try.isAgg63,
 z28 := Try.sizeOf63,
 v28 := Try.zeroValue63,
 t46 := Try.underlying105,
 a46 := Try.isAgg105,
 z46 := Try.sizeOf105,
 v46 := Try.zeroValue105,
 t51 := Try.underlying127,
 a51 := Try.isAgg127,
 z51 := Try.sizeOf127,
 v51 := Try.zeroValue127,
 t53 := Try.underlying129,
 a53 := Try.isAgg129,
 z53 := Try.sizeOf129,
 v53 := Try.zeroValue129,
 t131 := Try.underlying124,
 a131 := Try.isAgg124,
 z131 := Try.sizeOf124,
 v131 := Try.zeroValue124,
 t182 := Try.underlying118,
 a182 := Try.isAgg118,
 z182 := Try.sizeOf118,
 v182 := Try.zeroValue118,
 t183 := Try.underlying119,
 a183 := Try.isAgg119,
 z183 := Try.sizeOf119,
 v183 := Try.zeroValue119,
 t218 := Try.underlying137,
 a218 := Try.isAgg137,
 z218 := Try.sizeOf137,
 v218 := Try.zeroValue137,
 t222 := Try.underlying141,
 a222 := Try.isAgg141,
 z222 := Try.sizeOf141,
 v222 := Try.zeroValue141,
 t228 := Try.underlying148,
 a228 := Try.isAgg148,
 z228 := Try.sizeOf148,
 v228 := Try.zeroValue148,
 t229 := Try.underlying149,
 a229 := Try.isAgg149,
 z229 := Try.sizeOf149,
 v229 := Try.zeroValue149 }
theorem sortInts_ok {k0 : K} {v0 : Value} {l r : List Int} (i0 : IsOwn 0 3 l v0 k0) (hr : sortInts l = some r) : Calls Try.prog 59 #[v0] k0.w (RetC (obF v0) k0 fun _ k' => IsOwn 0 3 r v0 k') := by
 unfold sortInts at hr
 split at hr
 ·rename_i hl
  obtain rfl := Option.some.inj hr
  refine sortI_own (S := fun l => l.mergeSort fun x y => decide (x ≤ y)) (List.length_mergeSort _) (fun p cap w => ?_) (fun blk off cap w hH hblk => ?_) i0
  ·have hcon := Any.slices_Sort_int_none Try.sortIntsL p cap w
   change Calls Try.prog 59 _ _ _ at hcon
   exact hcon
  ·have hcon := Any.slices_Sort_int Try.sortIntsL blk off cap l w hH hblk (by omega)
   change Calls Try.prog 59 _ _ _ at hcon
   exact hcon
 ·simp at hr
end
section
open Go.Proofs Go.RowKit Go.Lib Go.Sort Go.Shelf
def Try.compactL_ren : Go.Shelf.Ren := ⟨fun | 20 => 60 | n => n, fun | 22 => 63 | 3 => 3 | 4 => 4 | 0 => 0 | n => n, fun | n => n⟩
theorem Try.compactL : Go.Proofs.Lays2.n20 Try.prog Try.compactL_ren := {
 mixed := by kernel_rfl,
 f20 := Try.func60.trans (congrArg some (by kernel_rfl)),
 t0 := Try.underlying0,
 a0 := Try.isAgg0,
 z0 := Try.sizeOf0,
 v0 := Try.zeroValue0,
 t3 := Try.underlying3,
 a3 := Try.isAgg3,
 z3 := Try.sizeOf3,
 v3 := Try.zeroValue3,
 t4 := Try.underlying4,
 a4 := Try.isAgg4,
 z4 := Try.sizeOf4,
 v4 := Try.zeroValue4,
 t22 := Try.underlying63,
 a22 := Try.isAgg63,
 z22 := Try.sizeOf63,
 v22 := Try.zeroValue63,
 i3 := by kernel_rfl }
theorem compactInts_ok {k0 : K} {v0 : Value} {l r : List Int} (i0 : IsOwn 0 3 l v0 k0) (hr : compactInts l = some r) : Calls Try.prog 60 #[v0] k0.w (RetC (obF v0) k0 (IsOwnW v0 k0 3 r)) := by
 unfold compactInts at hr
 split at hr
 ·rename_i hl
  obtain rfl := Option.some.inj hr
  refine compactI_own compact_length hl (fun p cap w => ?_) (fun blk off cap w hH hc => ?_) i0
  ·have hcon := Any.slices_Compact_int_empty Try.compactL p cap w
   change Calls Try.prog 60 _ _ _ at hcon
   exact hcon
  ·have hcon := Any.slices_Compact_int Try.compactL blk off cap l w hH (by omega) hc
   change Calls Try.prog 60 _ _ _ at hcon
   exact hcon
 ·simp at hr
end
def cmp_isNaN_int (x_ : Int) : Option (Bool) :=
 some (x_ != x_)
theorem cmp_isNaN_int_ok {k0 : K} {v0 : Value} {x_ : Int} {r : Bool} (i0 : (IsV x_) v0 k0) (hr : cmp_isNaN_int x_ = some r) :
  Calls Try.prog 106 #[v0] k0.w (Ret k0 (IsV r)) := by
 unfold cmp_isNaN_int at hr
 refine Ret.ofC ?_
 refine enterK Try.func106 rfl Try.ntmps106 (show 1 ≤ 6 by decide) fun a k hk0 hs hd ha => ?_
 obtain ⟨e0, _⟩ := ha
 replace i0 : (IsV x_) (a.get 0) k := by rw [e0, hk0]; exact i0
 have hQ : Gb.LetsOut (bodyPost Try.prog Try.f106 (RetC noF k0 (IsV r))) := letsOutC
 have hg : Chg noF k0 k := by rw [hk0]; exact Chg.refl _ k0
 refine stepL 1 (⟨some (IsV false), []⟩ :: []) rfl ⟨hg, hs, hd⟩ (by kernel_rfl) ⟨ob1 rfl fun _ _ h n => ok_assign rfl (isV_bool.2 rfl), trivial⟩ [⟨_, _⟩] (fun b q p => ⟨p.ke 0 rfl i0, trivial⟩) ?_
 rintro a k ⟨⟨hg, hs, hd⟩, i0, _⟩
 refine stepL 4 (_ :: _ :: ⟨some (IsV (x_ != x_)), [(3, some 0), (4, some 1)]⟩ :: _ :: []) rfl ⟨hg, hs, hd⟩ (by kernel_rfl) ⟨mu rfl i0, mu rfl i0, ob1 rfl fun _ _ h n => ok_neI rfl n.1 n.2.1, cp 2 rfl rfl, trivial⟩ [⟨_, _⟩] (fun b q p => ⟨p.ou 3 2 rfl, trivial⟩) ?_
 rintro a k ⟨⟨hg, hs, hd⟩, i2, _⟩
 refine wp_ret ?_
 obtain rfl := Option.some.inj hr
 exact retC1 rfl hd hg i2
def cmp_Compare_int (x_ : Int) (y_ : Int) : Option (Int) :=
 (cmp_isNaN_int x_).bind fun x848_1 =>
 (cmp_isNaN_int y_).bind fun x849_1 =>
 if x848_1 then
  if x849_1 then
   some 0
  else
   some (-1)
 else
  if x849_1 then
   some 1
  else
   if (decide (x_ < y_)) then
    some (-1)
   else
    if (decide (y_ < x_)) then
     some 1
    else
     some 0
theorem cmp_Compare_int_ok {k0 : K} {v0 v1 : Value} {x_ : Int} {y_ : Int} {r : Int} (i0 : (IsV x_) v0 k0) (i1 : (IsV y_) v1 k0) (hr : cmp_Compare_int x_ y_ = some r) :
  Calls Try.prog 87 #[v0, v1] k0.w (Ret k0 (IsV r)) := by
 unfold cmp_Compare_int at hr
 refine Ret.ofC ?_
 refine enterK Try.func87 rfl Try.ntmps87 (show 2 ≤ 20 by decide) fun a k hk0 hs hd ha => ?_
 obtain ⟨e0, e1, _⟩ := ha
 replace i0 : (IsV x_) (a.get 0) k := by rw [e0, hk0]; exact i0
 replace i1 : (IsV y_) (a.get 1) k := by rw [e1, hk0]; exact i1
 have hQ : Gb.LetsOut (bodyPost Try.prog Try.f87 (RetC noF k0 (IsV r))) := letsOutC
 have hg : Chg noF k0 k := by rw [hk0]; exact Chg.refl _ k0
 refine stepL 1 (⟨some (IsI 0), []⟩ :: []) rfl ⟨hg, hs, hd⟩ (by kernel_rfl) ⟨aI rfl rfl, trivial⟩ [⟨_, _⟩, ⟨_, _⟩] (fun b q p => ⟨p.ke 0 rfl i0, p.ke 1 rfl i1, trivial⟩) ?_
 rintro a k ⟨⟨hg, hs, hd⟩, i0, i1, _⟩
 refine wp_seq ?_
 obtain ⟨x848_1, hx848_1, hr⟩ := bind_some hr
 refine cut (fun a' k' => Bs noF k0 20 a' k' ∧ (IsV x_) (a'.get 0) k' ∧ (IsV y_) (a'.get 1) k' ∧ (IsV x848_1) (a'.get 5) k' ∧ True) ?_ hQ ?_
 ·intro Q890 hQQ890 hp891
  refine gS 3 (_ :: _ :: _ :: []) hs (by kernel_rfl) ⟨mu rfl i0, o1 [(7, some 0)] rfl fun _ _ h n => ok_call rfl Try.call106 (cmp_isNaN_int_ok n.1 hx848_1), cp 1 rfl rfl, trivial⟩ hQQ890 fun b q p => ?_
  exact tail_done (k := q) (hp891 _ _ ⟨Bs.post ⟨hg, hs, hd⟩ p, p.ke 0 rfl i0, p.ke 1 rfl i1, p.ou 2 5 rfl, trivial⟩)
 rintro a k ⟨⟨hg, hs, hd⟩, i0, i1, i5, _⟩
 refine wp_seq ?_
 obtain ⟨x849_1, hx849_1, hr⟩ := bind_some hr
 refine cut (fun a' k' => Bs noF k0 20 a' k' ∧ (IsV x_) (a'.get 0) k' ∧ (IsV y_) (a'.get 1) k' ∧ (IsV x848_1) (a'.get 5) k' ∧ (IsV x849_1) (a'.get 6) k' ∧ True) ?_ hQ ?_
 ·intro Q888 hQQ888 hp889
  refine gS 3 (_ :: _ :: _ :: []) hs (by kernel_rfl) ⟨mu rfl i1, o1 [(9, some 0)] rfl fun _ _ h n => ok_call rfl Try.call106 (cmp_isNaN_int_ok n.1 hx849_1), cp 1 rfl rfl, trivial⟩ hQQ888 fun b q p => ?_
  exact tail_done (k := q) (hp889 _ _ ⟨Bs.post ⟨hg, hs, hd⟩ p, p.ke 0 rfl i0, p.ke 1 rfl i1, p.ke 5 rfl i5, p.ou 2 6 rfl, trivial⟩)
 rintro a k ⟨⟨hg, hs, hd⟩, i0, i1, i5, i6, _⟩
 refine wp_seq ?_
 refine stepL 1 (_ :: []) rfl ⟨hg, hs, hd⟩ (by kernel_rfl) ⟨mu rfl i5, trivial⟩ [⟨_, _⟩, ⟨_, _⟩, ⟨_, _⟩, ⟨_, _⟩] (fun b q p => ⟨p.ke 0 rfl i0, p.ke 1 rfl i1, p.ke 6 rfl i6, p.ou 0 11 rfl, trivial⟩) ?_
 rintro a k ⟨⟨hg, hs, hd⟩, i0, i1, i6, i11, _⟩
 refine wp_cond_split (isBool i11) (fun hc885 => ?_) (fun hc885 => ?_)
 ·rw [if_pos hc885] at hr
  refine wp_seq ?_
  refine stepL 1 (_ :: []) rfl ⟨hg, hs, hd⟩ (by kernel_rfl) ⟨mu rfl i6, trivial⟩ [⟨_, _⟩] (fun b q p => ⟨p.ou 0 12 rfl, trivial⟩) ?_
  rintro a k ⟨⟨hg, hs, hd⟩, i12, _⟩
  refine wp_cond_split (isBool i12) (fun hc858 => ?_) (fun hc858 => ?_)
  ·rw [if_pos hc858] at hr
   refine stepL 1 (⟨some (IsI 0), []⟩ :: []) rfl ⟨hg, hs, hd⟩ (by kernel_rfl) ⟨aI rfl rfl, trivial⟩ [⟨_, _⟩] (fun b q p => ⟨p.ou 0 4 rfl, trivial⟩) ?_
   rintro a k ⟨⟨hg, hs, hd⟩, i4, _⟩
   refine wp_ret ?_
   obtain rfl := Option.some.inj hr
   exact retC1 rfl hd hg i4
  rw [if_neg (by rw [hc858]; decide)] at hr
  refine wp_skip ?_
  refine stepL 1 (⟨some (IsI (-1)), []⟩ :: []) rfl ⟨hg, hs, hd⟩ (by kernel_rfl) ⟨aI rfl rfl, trivial⟩ [⟨_, _⟩] (fun b q p => ⟨p.ou 0 4 rfl, trivial⟩) ?_
  rintro a k ⟨⟨hg, hs, hd⟩, i4, _⟩
  refine wp_ret ?_
  obtain rfl := Option.some.inj hr
  exact retC1 rfl hd hg i4
 rw [if_neg (by rw [hc885]; decide)] at hr
 refine wp_skip ?_
 refine wp_seq ?_
 refine stepL 1 (_ :: []) rfl ⟨hg, hs, hd⟩ (by kernel_rfl) ⟨mu rfl i6, trivial⟩ [⟨_, _⟩, ⟨_, _⟩, ⟨_, _⟩] (fun b q p => ⟨p.ke 0 rfl i0, p.ke 1 rfl i1, p.ou 0 13 rfl, trivial⟩) ?_
 rintro a k ⟨⟨hg, hs, hd⟩, i0, i1, i13, _⟩
 refine wp_cond_split (isBool i13) (fun hc882 => ?_) (fun hc882 => ?_)
 ·rw [if_pos hc882] at hr
  refine stepL 1 (⟨some (IsI 1), []⟩ :: []) rfl ⟨hg, hs, hd⟩ (by kernel_rfl) ⟨aI rfl rfl, trivial⟩ [⟨_, _⟩] (fun b q p => ⟨p.ou 0 4 rfl, trivial⟩) ?_
  rintro a k ⟨⟨hg, hs, hd⟩, i4, _⟩
  refine wp_ret ?_
  obtain rfl := Option.some.inj hr
  exact retC1 rfl hd hg i4
 rw [if_neg (by rw [hc882]; decide)] at hr
 refine wp_skip ?_
 refine wp_seq ?_
 refine stepL 3 (_ :: _ :: _ :: []) rfl ⟨hg, hs, hd⟩ (by kernel_rfl) ⟨mu rfl i0, mu rfl i1, o1 [(14, some 0), (15, some 1)] rfl fun _ _ h n => ok_lss rfl n.1 n.2.1, trivial⟩ [⟨_, _⟩, ⟨_, _⟩, ⟨_, _⟩] (fun b q p => ⟨p.ke 0 rfl i0, p.ke 1 rfl i1, p.ou 2 16 rfl, trivial⟩) ?_
 rintro a k ⟨⟨hg, hs, hd⟩, i0, i1, i16, _⟩
 refine wp_cond_split (isBool i16) (fun hc879 => ?_) (fun hc879 => ?_)
 ·rw [if_pos hc879] at hr
  refine stepL 1 (⟨some (IsI (-1)), []⟩ :: []) rfl ⟨hg, hs, hd⟩ (by kernel_rfl) ⟨aI rfl rfl, trivial⟩ [⟨_, _⟩] (fun b q p => ⟨p.ou 0 4 rfl, trivial⟩) ?_
  rintro a k ⟨⟨hg, hs, hd⟩, i4, _⟩
  refine wp_ret ?_
  obtain rfl := Option.some.inj hr
  exact retC1 rfl hd hg i4
 rw [if_neg (by rw [hc879]; decide)] at hr
 refine wp_skip ?_
 refine wp_seq ?_
 refine stepL 3 (_ :: _ :: _ :: []) rfl ⟨hg, hs, hd⟩ (by kernel_rfl) ⟨mu rfl i0, mu rfl i1, o1 [(17, some 0), (18, some 1)] rfl fun _ _ h n => ok_gtr rfl n.1 n.2.1, trivial⟩ [⟨_, _⟩] (fun b q p => ⟨p.ou 2 19 rfl, trivial⟩) ?_
 rintro a k ⟨⟨hg, hs, hd⟩, i19, _⟩
 refine wp_cond_split (isBool i19) (fun hc876 => ?_) (fun hc876 => ?_)
 ·rw [if_pos hc876] at hr
  refine stepL 1 (⟨some (IsI 1), []⟩ :: []) rfl ⟨hg, hs, hd⟩ (by kernel_rfl) ⟨aI rfl rfl, trivial⟩ [⟨_, _⟩] (fun b q p => ⟨p.ou 0 4 rfl, trivial⟩) ?_
  rintro a k ⟨⟨hg, hs, hd⟩, i4, _⟩
  refine wp_ret ?_
  obtain rfl := Option.some.inj hr
  exact retC1 rfl hd hg i4
 rw [if_neg (by rw [hc876]; decide)] at hr
 refine wp_skip ?_
 refine stepL 1 (⟨some (IsI 0), []⟩ :: []) rfl ⟨hg, hs, hd⟩ (by kernel_rfl) ⟨aI rfl rfl, trivial⟩ [⟨_, _⟩] (fun b q p => ⟨p.ou 0 4 rfl, trivial⟩) ?_
 rintro a k ⟨⟨hg, hs, hd⟩, i4, _⟩
 refine wp_ret ?_
 obtain rfl := Option.some.inj hr
 exact retC1 rfl hd hg i4
def region_column_1 (a_ : RegionSpan) (b_ : RegionSpan) : Option (Int) :=
 (cmp_Compare_int a_.from_ b_.from_).bind fun x895_4 =>
 some x895_4
theorem region_column_1_ok {k0 : K} {v0 v1 : Value} {a_ : RegionSpan} {b_ : RegionSpan} {r : Int} (i0 : (IsV a_) v0 k0) (i1 : (IsV b_) v1 k0) (hr : region_column_1 a_ b_ = some r) :
  Calls Try.prog 101 #[v0, v1] k0.w (Ret k0 (IsV r)) := by
 unfold region_column_1 at hr
 refine Ret.ofC ?_
 refine enterK Try.func101 rfl Try.ntmps101 (show 2 ≤ 10 by decide) fun a k hk0 hs hd ha => ?_
 obtain ⟨e0, e1, _⟩ := ha
 replace i0 : (IsV a_) (a.get 0) k := by rw [e0, hk0]; exact i0
 replace i1 : (IsV b_) (a.get 1) k := by rw [e1, hk0]; exact i1
 have hQ : Gb.LetsOut (bodyPost Try.prog Try.f101 (RetC noF k0 (IsV r))) := letsOutC
 have hg : Chg noF k0 k := by rw [hk0]; exact Chg.refl _ k0
 refine stepL 3 (⟨some (IsRef a_), [(0, none)]⟩ :: ⟨some (IsRef b_), [(1, none)]⟩ :: ⟨some (IsI 0), []⟩ :: []) rfl ⟨hg, hs, hd⟩ (by kernel_rfl) ⟨ob1 rfl fun _ _ h n => ok_boxR rfl (up i0 h n.1), ob1 rfl fun _ _ h n => ok_boxR rfl (up i1 h n.1), aI rfl rfl, trivial⟩ [⟨_, _⟩, ⟨_, _⟩] (fun b q p => ⟨p.ou 0 2 rfl, p.ou 1 3 rfl, trivial⟩) ?_
 rintro a k ⟨⟨hg, hs, hd⟩, i2, i3, _⟩
 refine wp_seq ?_
 obtain ⟨x895_4, hx895_4, hr⟩ := bind_some hr
 refine cut (fun a' k' => Bs noF k0 10 a' k' ∧ (IsV x895_4) (a'.get 4) k' ∧ True) ?_ hQ ?_
 ·intro Q896 hQQ896 hp897
  refine gS 6 (_ :: _ :: _ :: _ :: _ :: _ :: []) hs (by kernel_rfl) ⟨o1 [(2, none)] rfl fun _ _ h n => ok_fieldAddr rfl fo109_0 (at_RegionSpan_0 _) ((up i2 h n.1)).ptr, o1 [(5, some 0)] rfl fun _ _ h n => ok_load rfl ty3 n.1, o1 [(3, none)] rfl fun _ _ h n => ok_fieldAddr rfl fo109_0 (at_RegionSpan_0 _) ((up i3 h n.1)).ptr, o1 [(7, some 2)] rfl fun _ _ h n => ok_load rfl ty3 n.1, o1 [(6, some 1), (8, some 3)] rfl fun _ _ h n => ok_call rfl Try.call87 (cmp_Compare_int_ok n.1 n.2.1 hx895_4), cp 4 rfl rfl, trivial⟩ hQQ896 fun b q p => ?_
  exact tail_done (k := q) (hp897 _ _ ⟨Bs.post ⟨hg, hs, hd⟩ p, p.ou 5 4 rfl, trivial⟩)
 rintro a k ⟨⟨hg, hs, hd⟩, i4, _⟩
 refine wp_ret ?_
 obtain rfl := Option.some.inj hr
 exact retC1 rfl hd hg i4
section
open Go.Proofs Go.RowKit Go.Lib Go.Sort Go.Shelf
def Try.sortSpansL_ren : Go.Shelf.Ren := ⟨fun | 6 => 100 | 15 => 80 | 14 => 112 | 28 => 97 | 29 => 98 | 20 => 117 | 21 => 118 | 22 => 119 | 23 => 120 | 24 => 121 | 25 => 122 | 26 => 123 | 27 => 124 | 46 => 125 | 47 => 108 | 48 => 109 | 49 => 126 | 50 => 127 | 57 => 128 | n => n, fun | 22 => 107 | 24 => 109 | 25 => 132 | 3 => 3 | 39 => 105 | 0 => 0 | 53 => 127 | 55 => 129 | 4 => 4 | 46 => 119 | 45 => 118 | 50 => 124 | 5 => 5 | 9 => 9 | 66 => 137 | 70 => 141 | 76 => 148 | 77 => 149 | n => n, fun | n => n⟩
theorem Try.sortSpansL : Go.Proofs.SlLaysF0.n6 Try.prog Try.sortSpansL_ren := {
 mixed := by kernel_rfl,
 f6 := ⟨Try.f100.name, by decide, Try.func100.trans (congrArg some (by kernel_rfl))⟩,
 f14 := ⟨Try.f112.name, by decide, Try.func112.trans (congrArg some (by kernel_rfl))⟩,
 f15 := Try.func80.trans (congrArg some (by kernel_rfl)),
 f20 := ⟨Try.f117.name, by decide, Try.func117.trans (congrArg some (by kernel_rfl))⟩,
 f21 := ⟨Try.f118.name, by decide, Try.func118.trans (congrArg some (by kernel_rfl))⟩,
 f22 := ⟨Try.f119.name, by decide, Try.func119.trans (congrArg some (by kernel_rfl))⟩,
 f23 := ⟨Try.f120.name, by decide, Try.func120.trans (congrArg some (by kernel_rfl))⟩,
 f24 := ⟨Try.f121.name, by decide, Try.func121.trans (congrArg some (by kernel_rfl))⟩,
 f25 := ⟨Try.f122.name, by decide, Try.func122.trans (congrArg some (by kernel_rfl))⟩,
 f26 := ⟨Try.f123.name, by decide, Try.func123.trans (congrArg some (by kernel_rfl))⟩,
 f27 := ⟨Try.f124.name, by decide, Try.func124.trans (congrArg some (by kernel_rfl))⟩,
 f28 := Try.func97.trans (congrArg some (by kernel_rfl)),
 f29 := Try.func98.trans (congrArg some (by kernel_rfl)),
 f46 := ⟨Try.f125.name, by decide, Try.func125.trans (congrArg some (by kernel_rfl))⟩,
 f47 := Try.func108.trans (congrArg some (by kernel_rfl)),
 f48 := Try.func109.trans (congrArg some (by kernel_rfl)),
 f49 := ⟨Try.f126.name, by decide, Try.func126.trans (congrArg some (by kernel_rfl))⟩,
 f50 := ⟨Try.f127.name, by decide, Try.func127.trans (congrArg some (by kernel_rfl))⟩,
 f57 := ⟨Try.f128.name, by decide, Try.func128.trans (congrArg some (by kernel_rfl))⟩,
 t0 := Try.underlying0,
 a0 := Try.isAgg0,
 z0 := Try.sizeOf0,
 v0 := Try.zeroValue0,
 t3 := Try.underlying3,
 a3 := Try.isAgg3,
 z3 := Try.sizeOf3,
 v3 := Try.zeroValue3,
 t4 := Try.underlying4,
 a4 := Try.isAgg4,
 z4 := Try.sizeOf4,
 v4 := Try.zeroValue4,
 t5 := Try.underlying5,
 a5 := Try.isAgg5,
 z5 := Try.sizeOf5,
 v5 := Try.zeroValue5,
 t9 := Try.underlying9,
 a9 := Try.isAgg9,
 z9 := Try.sizeOf9,
 v9 := Try.zeroValue9,
 t22 := Try.underlying107,
 a22 := Try.isAgg107,
 z22 := Try.sizeOf107,
 v22 := Try.zeroValue107,
 t25 := Try.underlying132,
 a25 := Try.isAgg132,
 z25 := Try.sizeOf132,
 v25 := Try.zeroValue132,
 t39 := Try.underlying105,
 a39 := Try.isAgg105,
 z39 := Try.sizeOf105,
 v39 := Try.zeroValue105,
 t45 := Try.underlying118,
 a45 := Try.isAgg118,
 z45 := Try.sizeOf118,
 v45 := Try.zeroValue118,
 t46 := Try.underlying119,
 a46 := Try.isAgg119,
 z46 := Try.sizeOf119,
 v46 := Try.zeroValue119,
 t50 := Try.underlying124,
 a50 := Try.isAgg124,
 z50 := Try.sizeOf124,
 v50 := Try.zeroValue124,
 t53 := Try.underlying127,
 a53 := Try.isAgg127,
 z53 := Try.sizeOf127,
 v53 := Try.zeroValue127,
 t55 := Try.underlying129,
 a55 := Try.isAgg129,
 z55 := Try.sizeOf129,
 v55 := Try.zeroValue129,
 t66 := Try.underlying137,
 a66 := Try.isAgg137,
 z66 := Try.sizeOf137,
 v66 := Try.zeroValue137,
 t70 := Try.underlying141,
 a70 := Try.isAgg141,
 z70 := Try.sizeOf141,
 v70 := Try.zeroValue141,
 t76 := Try.underlying148,
 a76 := Try.isAgg148,
 z76 := Try.sizeOf148,
 v76 := Try.zeroValue148,
 t77 := Try.underlying149,
 a77 := Try.isAgg149,
 z77 := Try.sizeOf149,
 v77 := Try.zeroValue149 }
instance : FlatE RegionSpan := FlatE.ofMap fun x : RegionSpan => (x.from_, x.to_)
/-- What the comparison of two spans hands back. -/
def spanCmp (x y : RegionSpan) : Int := if x.from_ < y.from_ then -1 else if y.from_ < x.from_ then 1 else 0
theorem column_1_val (x y : RegionSpan) : region_column_1 x y = some (spanCmp x y) := by
 unfold region_column_1 cmp_Compare_int cmp_isNaN_int spanCmp
 by_cases h : x.from_ < y.from_
 ·simp [h]
 ·by_cases h2 : y.from_ < x.from_ <;> simp [h, h2]
theorem ltOf_span (x y : RegionSpan) : ltOf spanCmp x y = decide (x.from_ < y.from_) := by
 unfold ltOf spanCmp
 congr 1
 rw [eq_iff_iff]
 split
 ·simp [*]
 ·split <;> simp [*]
theorem spanCmp_swo : SWO (ltOf spanCmp) := by
 constructor <;> simp only [ltOf_span, decide_eq_true_eq, decide_eq_false_iff_not] <;> intros <;> omega
def sortSpans (l : List RegionSpan) : Option (List RegionSpan) := if l.length ≤ 1073741824 then some (pdq (ltOf spanCmp) l.toArray 0 l.toArray.size (Lib.bitLen l.toArray.size) true true).toList else none
theorem sortSpans_spec {l : List RegionSpan} (h : l.length ≤ 1000000) : ∃ r, sortSpans l = some r ∧ r.Perm l ∧ r.Pairwise fun a b => a.from_ ≤ b.from_ := by
 obtain ⟨⟨h1, _, h2⟩, h3⟩ := pdq_sorts (ltOf spanCmp) spanCmp_swo l.toArray 0 l.toArray.size (Lib.bitLen l.toArray.size) true true (Nat.zero_le _) (Nat.le_refl _) (Or.inl rfl)
 refine ⟨_, if_pos (by omega), ?_, ?_⟩
 ·generalize pdq (ltOf spanCmp) l.toArray 0 l.toArray.size (Lib.bitLen l.toArray.size) true true = r at h1 h2
  have e : r.extract 0 l.toArray.size = r := by rw [← h1]; simp
  rw [e] at h2
  simpa using h2
 ·rw [List.pairwise_iff_getElem]
  intro i j hi hj hij
  have := h3 i j (Nat.zero_le _) hij (by rw [← h1]; simpa using hj)
  rw [getElem!_pos _ j (by simpa using hj), getElem!_pos _ i (by simpa using hi)] at this
  rw [ltOf_span, decide_eq_false_iff_not] at this
  simp only [Array.getElem_toList]
  omega
theorem pdq_size (d : Array RegionSpan) : (pdq (ltOf spanCmp) d 0 d.size (Lib.bitLen d.size) true true).size = d.size :=
 (pdq_sorts (ltOf spanCmp) spanCmp_swo d 0 d.size (Lib.bitLen d.size) true true (Nat.zero_le _) (Nat.le_refl _) (Or.inl rfl)).1.1
set_option maxHeartbeats 2000000 in
theorem sortSpans_ok {k0 : K} {v0 : Value} {l r : List RegionSpan} (i0 : IsOwn 0 109 l v0 k0) (hr : sortSpans l = some r) :
  Calls Try.prog 100 #[v0, .func (.func 101) #[] #[]] k0.w (RetC (obF v0) k0 fun _ k' => IsOwn 0 109 r v0 k') := by
 unfold sortSpans at hr
 split at hr
 ·rename_i h12
  obtain rfl := Option.some.inj hr
  refine sort_own (S := fun d => pdq (ltOf spanCmp) d 0 d.size (Lib.bitLen d.size) true true) pdq_size (fun p cap w => ?_) (fun blk off cap w hH hblk => ?_) i0
  ·have hcon := AnyF.slices_SortFunc_none { Try.sortSpansL with } p cap (.func (.func 101) #[] #[]) w
   change Calls Try.prog 100 _ _ _ at hcon
   exact hcon
  ·have hcon := AnyQ.slices_SortFunc_eq Try.sortSpansL 2 Try.isAgg109 Try.sizeOf109 (FlatE.enc (α := RegionSpan)) (fun _ => rfl) (fun x v hv => flat_one k0 x v hv) spanCmp spanCmp_swo 101 #[] blk off cap l.toArray w (enters_of Try.func101 (by kernel_rfl) rfl)
    (fun _ _ _ _ x y => ret_cmp (k := kFree _) (region_column_1_ok (isV_flat rfl x _) (isV_flat rfl y _) (column_1_val x y))) hH hblk (by simp; omega)
   change Calls Try.prog 100 _ _ _ at hcon
   exact hcon
 ·simp at hr
end
end Go.Proofs.Ytbpecfmimgjakaa
